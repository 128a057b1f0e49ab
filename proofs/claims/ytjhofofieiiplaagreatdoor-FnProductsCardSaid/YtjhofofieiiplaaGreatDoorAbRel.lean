/-
  The abstract machine's values and heaps against the model's: 'VR', 'Sim', and 'Mv' (what a step may turn).
-/
import Derived.Test.YtjhofofieiiplaaGreatDoorAbDef
namespace Go.Proofs.YtjhofofieiiplaaGreatDoor.Ab
open Go
set_option linter.unusedVariables false
set_option linter.unusedSimpArgs false

def fsame (k : FloatKind) (a b : Nat) : Prop := a = b ∨ ((k.decode a).isNaN = true ∧ (k.decode b).isNaN = true)
theorem fsame.rfl' (k : FloatKind) (a : Nat) : fsame k a a := .inl rfl

/-- Blocks that somebody further out owns. -/
class Forb where
  l : List Nat
  bun : List (Value × List Nat)
abbrev noF : Forb := ⟨[], []⟩
/-- A block that is there and is not owned, here or further out. -/
def Stb [Fb : Forb] (ρ : List Nat) (w : World) (b : Nat) : Prop := b < w.heap.size ∧ b ∉ ρ ∧ b ∉ Fb.l

/-- A slice of integers, to read. -/
def RowR [Fb : Forb] (ρ : List Nat) (w : World) (k : IntKind) (r : List Int) (a : Option Addr) : Prop :=
  (a = none → r.length = 0) ∧ ∀ q, a = some q → ∀ j n, r[j]? = some n → Stb ρ w q.block ∧ w.cell? (q.add j) = some (.int k n)

/-- Lists of integers, to read. -/
def RowsR [Fb : Forb] (ρ : List Nat) (w : World) (r : List (List Int)) (a : Option Addr) : Prop :=
  (a = none → r.length = 0) ∧ ∀ q, a = some q → ∀ j x, r[j]? = some x → Stb ρ w q.block ∧ ∃ a' cap, w.cell? (q.add j) = some (.slice a' x.length cap) ∧ x.length ≤ cap ∧ RowR ρ w .i64 x a'
/-- A field, to read. -/
def FldV [Fb : Forb] (ρ : List Nat) (w : World) (f : Fld) (v : Value) : Prop :=
  match f with
  | .num n => v = .int .i64 n
  | .list xs => ∃ a cap, v = .slice a xs.length cap ∧ xs.length ≤ cap ∧ RowR ρ w .i64 xs a
  | .rows xss => ∃ a cap, v = .slice a xss.length cap ∧ xss.length ≤ cap ∧ RowsR ρ w xss a
theorem RowR.map {F1 F2 : Forb} {ρ ρ' : List Nat} {w w' : World} (hs : ∀ b, @Stb F1 ρ w b → @Stb F2 ρ' w' b) (hc : ∀ (q : Addr) i, @Stb F1 ρ w q.block → w'.cell? (q.add i) = w.cell? (q.add i)) {k : IntKind} {r : List Int} {a : Option Addr} (h : @RowR F1 ρ w k r a) : @RowR F2 ρ' w' k r a :=
  ⟨h.1, fun q hq j n hj => let ⟨g1, g2⟩ := h.2 q hq j n hj; ⟨hs _ g1, (hc q j g1).trans g2⟩⟩
theorem FldV.map {F1 F2 : Forb} {ρ ρ' : List Nat} {w w' : World} (hs : ∀ b, @Stb F1 ρ w b → @Stb F2 ρ' w' b) (hc : ∀ (q : Addr) i, @Stb F1 ρ w q.block → w'.cell? (q.add i) = w.cell? (q.add i)) {f : Fld} {v : Value} (h : @FldV F1 ρ w f v) : @FldV F2 ρ' w' f v := by
  cases f with
  | num n => exact h
  | list xs => obtain ⟨a, cap, h1, h2, h3⟩ := h; exact ⟨a, cap, h1, h2, h3.map hs hc⟩
  | rows xss =>
    obtain ⟨a, cap, h1, h2, h3⟩ := h
    refine ⟨a, cap, h1, h2, h3.1, fun q hq j x hj => ?_⟩
    obtain ⟨g1, a', cap', g2, g3, g4⟩ := h3.2 q hq j x hj
    exact ⟨hs _ g1, a', cap', (hc q j g1).trans g2, g3, g4.map hs hc⟩

/-- From the address 'p' on, memory holds what 'c' holds from 'off' on. -/
def CR [Fb : Forb] (ρ : List Nat) (w : World) (c : Cont) (off : Nat) (p : Addr) : Prop :=
  match c with
  | .ints k xs => ∀ i n, xs[off + i]? = some n → Stb ρ w p.block ∧ w.cell? (p.add i) = some (.int k n)
  | .flts k xs => ∀ i n, xs[off + i]? = some n → Stb ρ w p.block ∧ ∃ n', w.cell? (p.add i) = some (.float k n') ∧ fsame k n n'
  | .cpxs k xs => ∀ i n, xs[off + i]? = some n → Stb ρ w p.block ∧ ∃ a b, w.cell? (p.add i) = some (.complex k a b) ∧ fsame k n.1 a ∧ fsame k n.2 b
  | .bools xs => ∀ i n, xs[off + i]? = some n → Stb ρ w p.block ∧ w.cell? (p.add i) = some (.bool n)
  | .strs xs => ∀ i n, xs[off + i]? = some n → Stb ρ w p.block ∧ w.cell? (p.add i) = some (.string n)
  | .rows k xs => ∀ i r, xs[off + i]? = some r → Stb ρ w p.block ∧ ∃ a cap, w.cell? (p.add i) = some (.slice a r.length cap) ∧ r.length ≤ cap ∧ RowR ρ w k r a
  | .recs _ fs => ∀ i f, fs[off + i]? = some f → Stb ρ w p.block ∧ ∃ v, w.cell? (p.add i) = some v ∧ FldV ρ w f v

/-- A slice that is held as a whole: its blocks are of 'B', and nobody else's. -/
def BunR (B ρ : List Nat) (w : World) (c : Cont) (cap : Nat) (a : Addr) : Prop :=
  match c with
  | .ints k r => ∃ (b : Nat) (cs : Array Value) (e : TypeId), a = ⟨b, 0, none⟩ ∧ b ∈ B ∧ b ∉ ρ ∧ w.heap[b]? = some (Obj.cells cs e (0, 0)) ∧ cap ≤ cs.size ∧ ∀ (j : Nat) (n : Int), r[j]? = some n → cs[j]? = some (Value.int k n)
  | .rows k xss => ∃ (b : Nat) (cs : Array Value) (e : TypeId) (bs : List Nat), a = ⟨b, 0, none⟩ ∧ b ∈ B ∧ b ∉ ρ ∧ w.heap[b]? = some (Obj.cells cs e (0, 0)) ∧ cap ≤ cs.size ∧ (b :: bs).Nodup ∧ bs.length = xss.length ∧
      ∀ (j : Nat) (r : List Int) (bj : Nat), xss[j]? = some r → bs[j]? = some bj → bj ∈ B ∧ bj ∉ ρ ∧ ∃ (capj : Nat) (csj : Array Value) (ej : TypeId), cs[j]? = some (Value.slice (some ⟨bj, 0, none⟩) r.length capj) ∧ r.length ≤ capj ∧
        w.heap[bj]? = some (Obj.cells csj ej (0, 0)) ∧ capj ≤ csj.size ∧ ∀ (i : Nat) (n : Int), r[i]? = some n → csj[i]? = some (Value.int k n)
  | _ => False
theorem BunR.mono {B ρ ρ' : List Nat} {w w' : World} (K : ∀ b, b ∈ B → b < w.heap.size → b ∉ ρ → b ∉ ρ' ∧ w'.heap[b]? = w.heap[b]?) {c : Cont} {cap : Nat} {a : Addr} (h : BunR B ρ w c cap a) : BunR B ρ' w' c cap a := by
  have lt : ∀ {b : Nat} {o : Obj}, w.heap[b]? = some o → b < w.heap.size := fun h => (Array.getElem?_eq_some_iff.1 h).1
  cases c with
  | ints k r =>
    obtain ⟨b, cs, e, h1, h2, h3, h4, h5⟩ := h
    obtain ⟨k1, k2⟩ := K b h2 (lt h4) h3
    exact ⟨b, cs, e, h1, h2, k1, k2.trans h4, h5⟩
  | rows k xss =>
    obtain ⟨b, cs, e, bs, h1, h2, h3, h4, h5, h6, h7, h8⟩ := h
    obtain ⟨k1, k2⟩ := K b h2 (lt h4) h3
    refine ⟨b, cs, e, bs, h1, h2, k1, k2.trans h4, h5, h6, h7, fun j r bj hj hb => ?_⟩
    obtain ⟨g1, g2, capj, csj, ej, g3, g4, g5, g6⟩ := h8 j r bj hj hb
    obtain ⟨k3, k4⟩ := K bj g1 (lt g5) g2
    exact ⟨g1, k3, capj, csj, ej, g3, g4, k4.trans g5, g6⟩
  | _ => exact h.elim
theorem BunR.thin {B ρ ρ' : List Nat} {w : World} (hs : ∀ b, b ∈ ρ' → b ∈ ρ) {c : Cont} {cap : Nat} {a : Addr} (h : BunR B ρ w c cap a) : BunR B ρ' w c cap a := h.mono fun b _ _ h2 => ⟨fun hm => h2 (hs b hm), rfl⟩

/-- Contents that stand for a map (its entries one by one: the key's two numbers, the value). -/
def Cont.isMap : Cont → Bool
  | .rows .u16 _ => true
  | _ => false
def Cont.ents : Cont → List (List Int)
  | .rows _ ts => ts
  | _ => []
def MapR (ts : List (List Int)) (arr : Array MapEntry) : Prop :=
  arr.toList.length = ts.length ∧ ts.Pairwise (fun s t => s.take 2 ≠ t.take 2) ∧ ∀ (j : Nat) (t : List Int), ts[j]? = some t → ∃ (a b v : Int) (born : Nat), t = [a, b, v] ∧ (-1000000 ≤ a ∧ a ≤ 1000000 ∧ -1000000 ≤ b ∧ b ≤ 1000000) ∧ arr.toList[j]? = some ⟨.agg #[.int .i64 a, .int .i64 b], .int .i64 v, born⟩
def Cont.isRec : Cont → Bool
  | .recs .. => true
  | _ => false
/-- A field of a record that is held. -/
def FldR (B ρ : List Nat) (w : World) (f : Fld) (v : Value) : Prop :=
  match f with
  | .num n => v = .int .i64 n
  | .list xs => ∃ (a : Addr) (cap : Nat), v = .slice (some a) xs.length cap ∧ BunR B ρ w (.ints .i64 xs) cap a ∧ xs.length ≤ cap
  | .rows xss => ∃ (a : Addr) (cap : Nat), v = .slice (some a) xss.length cap ∧ BunR B ρ w (.rows .i64 xss) cap a ∧ xss.length ≤ cap
theorem FldR.mono {B ρ ρ' : List Nat} {w w' : World} (K : ∀ b, b ∈ B → b < w.heap.size → b ∉ ρ → b ∉ ρ' ∧ w'.heap[b]? = w.heap[b]?) {f : Fld} {v : Value} (h : FldR B ρ w f v) : FldR B ρ' w' f v := by
  cases f with
  | num n => exact h
  | list xs => obtain ⟨a, cap, h1, h2, h3⟩ := h; exact ⟨a, cap, h1, h2.mono K, h3⟩
  | rows xs => obtain ⟨a, cap, h1, h2, h3⟩ := h; exact ⟨a, cap, h1, h2.mono K, h3⟩
/-- A slice of records that is held, z cells each. -/
def RecR (B ρ : List Nat) (w : World) (z : Nat) (fs : List Fld) (len : Nat) (x : Value) : Prop :=
  ∃ (b cap : Nat) (cs : Array Value) (e : TypeId) (Bs : List (List Nat)), x = .slice (some ⟨b, 0, none⟩) len cap ∧ len ≤ cap ∧ len * z ≤ fs.length ∧ b ∈ B ∧ b ∉ ρ ∧ w.heap[b]? = some (Obj.cells cs e (0, 0)) ∧ cap * z ≤ cs.size ∧ Bs.length = fs.length ∧
    (∀ (j : Nat) (f : Fld) (Bj : List Nat), fs[j]? = some f → Bs[j]? = some Bj → (∀ y ∈ Bj, y ∈ B ∧ y ≠ b) ∧ ∃ v, cs[j]? = some v ∧ FldR Bj ρ w f v) ∧
    ∀ (i j : Nat) (Bi Bj : List Nat) (y : Nat), i ≠ j → Bs[i]? = some Bi → Bs[j]? = some Bj → y ∈ Bi → y ∉ Bj
theorem RecR.mono {B ρ ρ' : List Nat} {w w' : World} (K : ∀ b, b ∈ B → b < w.heap.size → b ∉ ρ → b ∉ ρ' ∧ w'.heap[b]? = w.heap[b]?) {z : Nat} {fs : List Fld} {len : Nat} {x : Value} (h : RecR B ρ w z fs len x) : RecR B ρ' w' z fs len x := by
  obtain ⟨b, cap, cs, e, Bs, h1, h2, h3, h4, h5, h6, h7, h8, h9, h10⟩ := h
  obtain ⟨k1, k2⟩ := K b h4 (Array.getElem?_eq_some_iff.1 h6).1 h5
  refine ⟨b, cap, cs, e, Bs, h1, h2, h3, h4, k1, k2.trans h6, h7, h8, fun j f Bj hf hb => ?_, h10⟩
  obtain ⟨g1, v, g2, g3⟩ := h9 j f Bj hf hb
  exact ⟨g1, v, g2, g3.mono fun y hy => K y (g1 y hy).1⟩
/-- A slice or a map that is held. -/
def BunV (B ρ : List Nat) (w : World) (c : Cont) (len : Nat) (x : Value) : Prop :=
  (c.isMap = false ∧ ∃ (a : Addr) (cap : Nat), x = .slice (some a) len cap ∧ BunR B ρ w c cap a ∧ len ≤ cap ∧ len ≤ c.len) ∨
  (c.isMap = true ∧ len = 0 ∧ ∃ (b : Nat) (arr : Array MapEntry) (clk : Nat), x = .map (some b) ∧ b ∈ B ∧ b ∉ ρ ∧ w.heap[b]? = some (Obj.map arr clk) ∧ MapR c.ents arr) ∨
  ∃ (sh : List Nat) (fs : List Fld), c = .recs sh fs ∧ RecR B ρ w sh.length fs len x
theorem BunV.mono {B ρ ρ' : List Nat} {w w' : World} (K : ∀ b, b ∈ B → b < w.heap.size → b ∉ ρ → b ∉ ρ' ∧ w'.heap[b]? = w.heap[b]?) {c : Cont} {len : Nat} {x : Value} (h : BunV B ρ w c len x) : BunV B ρ' w' c len x := by
  rcases h with ⟨hc, a, cap, h1, h2, h3, h4⟩ | ⟨hc, h0, b, arr, clk, h1, h2, h3, h4, h5⟩ | ⟨z, fs, hc, h⟩
  · exact .inl ⟨hc, a, cap, h1, h2.mono K, h3, h4⟩
  · obtain ⟨k1, k2⟩ := K b h2 (Array.getElem?_eq_some_iff.1 h4).1 h3
    exact .inr (.inl ⟨hc, h0, b, arr, clk, h1, h2, k1, k2.trans h4, h5⟩)
  · exact .inr (.inr ⟨z, fs, hc, h.mono K⟩)
theorem BunV.thin {B ρ ρ' : List Nat} {w : World} (hs : ∀ b, b ∈ ρ' → b ∈ ρ) {c : Cont} {len : Nat} {x : Value} (h : BunV B ρ w c len x) : BunV B ρ' w c len x := h.mono fun b _ _ h2 => ⟨fun hm => h2 (hs b hm), rfl⟩
theorem BunV.slice {B ρ : List Nat} {w : World} {c : Cont} {len : Nat} {x : Value} (h : BunV B ρ w c len x) (hc : c.isMap = false) (hr : c.isRec = false) : ∃ (a : Addr) (cap : Nat), x = .slice (some a) len cap ∧ BunR B ρ w c cap a ∧ len ≤ cap ∧ len ≤ c.len := by
  rcases h with ⟨_, h⟩ | ⟨h, _⟩ | ⟨_, _, rfl, _⟩
  · exact h
  · rw [hc] at h; cases h
  · cases hr

/-- What an owned slice's value says. -/
def OwnR (ρ : List Nat) (H : Heap) (w : World) (l off len ver z : Nat) (a : Addr) (cap : Nat) : Prop :=
  ∃ blk : Blk, H[l]? = some blk ∧ ver ≤ blk.ver ∧ (ver = blk.ver → ∃ (b : Nat) (cs : Array Value) (e : TypeId), ρ[l]? = some b ∧ a = ⟨b, off, none⟩ ∧ off + len * z ≤ blk.c.len ∧
    w.heap[b]? = some (Obj.cells cs e (0, 0)) ∧ off + cap * z ≤ cs.size)
def PtrR (ρ : List Nat) (H : Heap) (l off ver : Nat) (a : Addr) : Prop :=
  ∃ blk : Blk, H[l]? = some blk ∧ ver ≤ blk.ver ∧ (ver = blk.ver → ∃ b, ρ[l]? = some b ∧ a = ⟨b, off, none⟩)

inductive VR [Fb : Forb] (ρ : List Nat) (H : Heap) (w : World) : AVal → Value → Prop where
  | top (c : Value) : VR ρ H w .top c
  | undef : VR ρ H w .undef Go.undef
  | bool (b : Bool) : VR ρ H w (.bool b) (.bool b)
  | int (k : IntKind) (n : Int) : VR ρ H w (.int k n) (.int k n)
  | flt (k : FloatKind) (a b : Nat) (h : fsame k a b) : VR ρ H w (.flt k a) (.float k b)
  | cpx (k : FloatKind) (a b c d : Nat) (h : fsame k a c) (h' : fsame k b d) : VR ρ H w (.cpx k a b) (.complex k c d)
  | str (s : ByteArray) : VR ρ H w (.str s) (.string s)
  | nils : VR ρ H w .nils (.slice none 0 0)
  | emp (a : Option Addr) : VR ρ H w .emp (.slice a 0 0)
  | ro (c : Cont) (len z : Nat) (a : Option Addr) (cap : Nat) (h0 : a = none → len = 0) (h : ∀ p, a = some p → CR ρ w c 0 p) (hm : len ≤ cap) (hl : len * z ≤ c.len) : VR ρ H w (.ro c len z) (.slice a len cap)
  | own (l off len ver z : Nat) (a : Addr) (cap : Nat) (h : OwnR ρ H w l off len ver z a cap) (hm : len ≤ cap) : VR ρ H w (.own l off len ver z) (.slice (some a) len cap)
  | rop (c : Cont) (off : Nat) (p : Addr) (h : CR ρ w c off p) : VR ρ H w (.rop c off) (.pointer (some p))
  | rom (vs : List AVal) (off : Nat) (p : Addr) (cs : Array Value) (hl : vs.length = cs.size) (hm : ∀ (i : Nat) (x : Value), cs[off + i]? = some x → Stb ρ w p.block ∧ w.cell? (p.add i) = some x)
      (h : ∀ (i : Nat) (v : AVal), vs[i]? = some v → VR ρ H w v (cs.getD i Go.undef)) : VR ρ H w (.rom vs off) (.pointer (some p))
  | ros (vs : List AVal) (len z : Nat) (a : Option Addr) (cap : Nat) (cs : Array Value) (hl : vs.length = cs.size) (h0 : a = none → len = 0) (hm : ∀ (p : Addr), a = some p → ∀ (i : Nat) (x : Value), cs[i]? = some x → Stb ρ w p.block ∧ w.cell? (p.add i) = some x)
      (hc : len ≤ cap) (hz : len * z ≤ vs.length) (h : ∀ (i : Nat) (v : AVal), vs[i]? = some v → VR ρ H w v (cs.getD i Go.undef)) : VR ρ H w (.ros vs len z) (.slice a len cap)
  | ptr (l off ver : Nat) (a : Addr) (h : PtrR ρ H l off ver a) : VR ρ H w (.ptr l off ver) (.pointer (some a))
  | agg (vs : List AVal) (cs : Array Value) (hl : vs.length = cs.size) (h : ∀ (i : Nat) (v : AVal), vs[i]? = some v → VR ρ H w v (cs.getD i Go.undef)) : VR ρ H w (.agg vs) (.agg cs)
  | tup (vs : List AVal) (cs : Array Value) (hl : vs.length = cs.size) (h : ∀ (i : Nat) (v : AVal), vs[i]? = some v → VR ρ H w v (cs.getD i Go.undef)) : VR ρ H w (.tup vs) (.tuple cs)
  | fn (f : FuncId) (vs : List AVal) (cs : Array Value) (hl : vs.length = cs.size) (h : ∀ (i : Nat) (v : AVal), vs[i]? = some v → VR ρ H w v (cs.getD i Go.undef)) : VR ρ H w (.fn f vs) (.func (.func f) #[] cs)
  | nilf : VR ρ H w .nilf .nilFunc
  | nili : VR ρ H w .nili .nilIface
  | fex (k : FloatKind) (b : Nat) : VR ρ H w (.fex k b) (.float k b)
  | bun (i : Nat) (c : Cont) (len : Nat) (x : Value) (B : List Nat) (he : Fb.bun[i]? = some (x, B)) (h : BunV B ρ w c len x) : VR ρ H w (.bun i c len) x

/-- A block's content. -/
def BR [Fb : Forb] (ρ : List Nat) (H : Heap) (w : World) (c : BC) (cs : Array Value) : Prop :=
  c.len ≤ cs.size ∧ ∀ (i : Nat) (v : AVal), c.get? i = some v → ∃ x, cs[i]? = some x ∧ VR ρ H w v x

structure Sim [Fb : Forb] (ρ : List Nat) (H : Heap) (w : World) : Prop where
  len : ρ.length = H.length
  nodup : ρ.Nodup
  forb : ∀ b, b ∈ Fb.l → b < w.heap.size ∧ b ∉ ρ
  blk : ∀ (l b : Nat) (blk : Blk), H[l]? = some blk → ρ[l]? = some b → ∃ (cs : Array Value) (e : TypeId), w.heap[b]? = some (Obj.cells cs e (0, 0)) ∧ BR ρ H w blk.c cs

/-- What a step, or a call, may turn. -/
structure Mv (ρ : List Nat) (H : Heap) (w : World) (ρ' : List Nat) (H' : Heap) (w' : World) : Prop where
  os : w'.os = w.os
  tape : w'.tape = w.tape
  output : w'.output = w.output
  size : w.heap.size ≤ w'.heap.size
  frame : ∀ b : Nat, b < w.heap.size → b ∉ ρ → w'.heap[b]? = w.heap[b]? ∧ b ∉ ρ'
  keep : ∀ (l : Nat) (blk : Blk), H[l]? = some blk → ∃ blk' : Blk, H'[l]? = some blk' ∧ blk.ver ≤ blk'.ver ∧
    (blk'.ver = blk.ver → ρ'[l]? = ρ[l]? ∧ blk'.c.len = blk.c.len ∧ ∀ (b : Nat) (cs : Array Value) (e : TypeId), ρ[l]? = some b → w.heap[b]? = some (Obj.cells cs e (0, 0)) → ∃ cs' : Array Value, w'.heap[b]? = some (Obj.cells cs' e (0, 0)) ∧ cs'.size = cs.size)

theorem Mv.refl (ρ : List Nat) (H : Heap) (w : World) : Mv ρ H w ρ H w :=
  ⟨rfl, rfl, rfl, Nat.le_refl _, fun _ _ h => ⟨rfl, h⟩, fun l blk h => ⟨blk, h, Nat.le_refl _, fun _ => ⟨rfl, rfl, fun b cs e _ h => ⟨cs, h, rfl⟩⟩⟩⟩

theorem Mv.trans {ρ ρ' ρ'' : List Nat} {H H' H'' : Heap} {w w' w'' : World} (a : Mv ρ H w ρ' H' w') (b : Mv ρ' H' w' ρ'' H'' w'') : Mv ρ H w ρ'' H'' w'' := by
  refine ⟨b.os.trans a.os, b.tape.trans a.tape, b.output.trans a.output, Nat.le_trans a.size b.size, ?_, ?_⟩
  · intro x hx hn
    obtain ⟨h1, h2⟩ := a.frame x hx hn
    obtain ⟨h3, h4⟩ := b.frame x (Nat.lt_of_lt_of_le hx a.size) h2
    exact ⟨h3.trans h1, h4⟩
  · intro l blk h
    obtain ⟨blk1, h1, hv1, hk1⟩ := a.keep l blk h
    obtain ⟨blk2, h2, hv2, hk2⟩ := b.keep l blk1 h1
    refine ⟨blk2, h2, Nat.le_trans hv1 hv2, fun he => ?_⟩
    have e1 : blk1.ver = blk.ver := by omega
    have e2 : blk2.ver = blk1.ver := by omega
    obtain ⟨p1, q1, r1⟩ := hk1 e1
    obtain ⟨p2, q2, r2⟩ := hk2 e2
    refine ⟨p2.trans p1, q2.trans q1, fun x cs e hx hh => ?_⟩
    obtain ⟨cs1, g1, z1⟩ := r1 x cs e hx hh
    obtain ⟨cs2, g2, z2⟩ := r2 x cs1 e (p1.trans hx) g1
    exact ⟨cs2, g2, z2.trans z1⟩

theorem Sim.forbMv [Fb : Forb] {ρ ρ' : List Nat} {H H' : Heap} {w w' : World} (s : Sim ρ H w) (m : Mv ρ H w ρ' H' w') : ∀ b, b ∈ Fb.l → b < w'.heap.size ∧ b ∉ ρ' :=
  fun b hb => ⟨Nat.lt_of_lt_of_le (s.forb b hb).1 m.size, (m.frame b (s.forb b hb).1 (s.forb b hb).2).2⟩
theorem cell?_of_heap {w w' : World} {a : Addr} (h : w'.heap[a.block]? = w.heap[a.block]?) : w'.cell? a = w.cell? a := by simp [World.cell?, h]
theorem add_block (a : Addr) (n : Nat) : (a.add n).block = a.block := by unfold Addr.add; split <;> rfl
theorem add_add (a : Addr) (m n : Nat) : (a.add m).add n = a.add (m + n) := by
  unfold Addr.add
  by_cases hm : m = 0
  · subst hm; simp
  · by_cases hn : n = 0
    · subst hn; simp [hm]
    · simp [hm, hn, Nat.add_assoc]
theorem add_lit (b o n : Nat) : (⟨b, o, none⟩ : Addr).add n = ⟨b, o + n, none⟩ := by
  unfold Addr.add; split <;> simp_all

/-- Blocks that are stable here are stable there and hold the same. -/
def Keeps [Fb : Forb] (ρ : List Nat) (w : World) (ρ' : List Nat) (w' : World) : Prop := ∀ b, Stb ρ w b → Stb ρ' w' b ∧ w'.heap[b]? = w.heap[b]?
theorem Mv.keeps [Fb : Forb] {ρ ρ' : List Nat} {H H' : Heap} {w w' : World} (m : Mv ρ H w ρ' H' w') : Keeps ρ w ρ' w' := fun b ⟨h1, h2, h3⟩ =>
  ⟨⟨Nat.lt_of_lt_of_le h1 m.size, (m.frame b h1 h2).2, h3⟩, (m.frame b h1 h2).1⟩

theorem Keeps.cell [Fb : Forb] {ρ ρ' : List Nat} {w w' : World} (K : Keeps ρ w ρ' w') {q : Addr} (h : Stb ρ w q.block) (j : Nat) : w'.cell? (q.add j) = w.cell? (q.add j) :=
  cell?_of_heap (by rw [add_block]; exact (K _ h).2)

theorem RowR.mono [Fb : Forb] {ρ ρ' : List Nat} {w w' : World} (K : Keeps ρ w ρ' w') {k : IntKind} {r : List Int} {a : Option Addr} (h : RowR ρ w k r a) : RowR ρ' w' k r a := by
  refine ⟨h.1, fun q hq j n hj => ?_⟩
  obtain ⟨h1, h2⟩ := h.2 q hq j n hj
  exact ⟨(K _ h1).1, (K.cell h1 j).trans h2⟩

theorem FldV.lent [Fb : Forb] {ρ : List Nat} {H : Heap} {w : World} {f : Fld} {v : Value} (h : FldV ρ w f v) : VR ρ H w f.lent v := by
  cases f with
  | num n => have h : v = .int .i64 n := h; subst h; exact .int _ _
  | list xs =>
    obtain ⟨a, cap, rfl, h1, h2⟩ := h
    exact .ro _ _ _ _ _ h2.1 (fun q hq j n hj => h2.2 q hq j n (by rwa [Nat.zero_add] at hj)) h1 (by simp [Cont.len])
  | rows xs =>
    obtain ⟨a, cap, rfl, h1, h2⟩ := h
    exact .ro _ _ _ _ _ h2.1 (fun q hq j n hj => h2.2 q hq j n (by rwa [Nat.zero_add] at hj)) h1 (by simp [Cont.len])
theorem CR.mono [Fb : Forb] {ρ ρ' : List Nat} {w w' : World} (K : Keeps ρ w ρ' w') {c : Cont} {off : Nat} {p : Addr} (h : CR ρ w c off p) : CR ρ' w' c off p := by
  have e : ∀ i, Stb ρ w p.block → w'.cell? (p.add i) = w.cell? (p.add i) := fun i hs => cell?_of_heap (by rw [add_block]; exact (K _ hs).2)
  cases c with
  | ints k xs => intro i n hi; obtain ⟨h1, h2⟩ := h i n hi; exact ⟨(K _ h1).1, by rw [e i h1]; exact h2⟩
  | flts k xs => intro i n hi; obtain ⟨h1, h2⟩ := h i n hi; exact ⟨(K _ h1).1, by rw [e i h1]; exact h2⟩
  | cpxs k xs => intro i n hi; obtain ⟨h1, h2⟩ := h i n hi; exact ⟨(K _ h1).1, by rw [e i h1]; exact h2⟩
  | bools xs => intro i n hi; obtain ⟨h1, h2⟩ := h i n hi; exact ⟨(K _ h1).1, by rw [e i h1]; exact h2⟩
  | strs xs => intro i n hi; obtain ⟨h1, h2⟩ := h i n hi; exact ⟨(K _ h1).1, by rw [e i h1]; exact h2⟩
  | rows k xs =>
    intro i n hi
    obtain ⟨h1, a, cap, h2, h4, h3⟩ := h i n hi
    exact ⟨(K _ h1).1, a, cap, by rw [e i h1]; exact h2, h4, h3.mono K⟩
  | recs sh fs =>
    intro i n hi
    obtain ⟨h1, v, h2, h3⟩ := h i n hi
    exact ⟨(K _ h1).1, v, by rw [e i h1]; exact h2, h3.map (fun b hb => (K b hb).1) fun q i hq => cell?_of_heap (by rw [add_block]; exact (K _ hq).2)⟩

theorem CR.move [Fb : Forb] {ρ : List Nat} {w : World} {c : Cont} {off : Nat} {p : Addr} (h : CR ρ w c off p) (i : Nat) : CR ρ w c (off + i) (p.add i) := by
  cases c <;> (intro j n hj; rw [Nat.add_assoc] at hj; rw [add_add, add_block]; exact h (i + j) n hj)

theorem OwnR.mv {ρ ρ' : List Nat} {H H' : Heap} {w w' : World} (m : Mv ρ H w ρ' H' w') {l off len ver z : Nat} {a : Addr} {cap : Nat} (h : OwnR ρ H w l off len ver z a cap) : OwnR ρ' H' w' l off len ver z a cap := by
  obtain ⟨blk, h1, h2, h3⟩ := h
  obtain ⟨blk', g1, gv, gk⟩ := m.keep l blk h1
  refine ⟨blk', g1, Nat.le_trans h2 gv, fun he => ?_⟩
  have e : ver = blk.ver := by omega
  obtain ⟨b, cs, t, r1, r2, r3, r4, r5⟩ := h3 e
  obtain ⟨k1, k2, k3⟩ := gk (by omega)
  obtain ⟨cs', s1, s2⟩ := k3 b cs t r1 r4
  exact ⟨b, cs', t, k1.trans r1, r2, by rw [k2]; exact r3, s1, by rw [s2]; exact r5⟩

theorem PtrR.mv {ρ ρ' : List Nat} {H H' : Heap} {w w' : World} (m : Mv ρ H w ρ' H' w') {l off ver : Nat} {a : Addr} (h : PtrR ρ H l off ver a) : PtrR ρ' H' l off ver a := by
  obtain ⟨blk, h1, h2, h3⟩ := h
  obtain ⟨blk', g1, gv, gk⟩ := m.keep l blk h1
  refine ⟨blk', g1, Nat.le_trans h2 gv, fun he => ?_⟩
  have e : ver = blk.ver := by omega
  obtain ⟨b, r1, r2⟩ := h3 e
  obtain ⟨k1, k2, k3⟩ := gk (by omega)
  exact ⟨b, k1.trans r1, r2⟩

theorem VR.mv [Fb : Forb] {ρ ρ' : List Nat} {H H' : Heap} {w w' : World} (m : Mv ρ H w ρ' H' w') {v : AVal} {c : Value} (h : VR ρ H w v c) : VR ρ' H' w' v c := by
  induction h with
  | top c => exact .top c
  | undef => exact .undef
  | bool b => exact .bool b
  | int k n => exact .int k n
  | flt k a b h => exact .flt k a b h
  | cpx k a b c d h h' => exact .cpx k a b c d h h'
  | str s => exact .str s
  | nils => exact .nils
  | emp a => exact .emp a
  | ro c len z a cap h0 h hm hl => exact .ro c len z a cap h0 (fun p hp => (h p hp).mono m.keeps) hm hl
  | own l off len ver z a cap h hm => exact .own l off len ver z a cap (h.mv m) hm
  | rop c off p h => exact .rop c off p (h.mono m.keeps)
  | rom vs off p cs hl hm _ ih => exact .rom vs off p cs hl (fun i x hx => ⟨(m.keeps _ (hm i x hx).1).1, (m.keeps.cell (hm i x hx).1 i).trans (hm i x hx).2⟩) ih
  | ros vs len z a cap cs hl h0 hm hc hz _ ih => exact .ros vs len z a cap cs hl h0 (fun p hp i x hx => ⟨(m.keeps _ (hm p hp i x hx).1).1, (m.keeps.cell (hm p hp i x hx).1 i).trans (hm p hp i x hx).2⟩) hc hz ih
  | ptr l off ver a h => exact .ptr l off ver a (h.mv m)
  | agg vs cs hl _ ih => exact .agg vs cs hl ih
  | tup vs cs hl _ ih => exact .tup vs cs hl ih
  | fn f vs cs hl _ ih => exact .fn f vs cs hl ih
  | nilf => exact .nilf
  | nili => exact .nili
  | fex k b => exact .fex k b
  | bun i c len x B he h => exact .bun i c len x B he (h.mono fun b _ h1 h2 => ⟨(m.frame b h1 h2).2, (m.frame b h1 h2).1⟩)

/-- What is related leads only to blocks that are there. -/
theorem VR.inR [Fb : Forb] {ρ : List Nat} {H : Heap} {w : World} {v : AVal} {c : Value} (h : VR ρ H w v c) : v.inR H.length = true := by
  have lt : ∀ {l : Nat} {blk : Blk}, H[l]? = some blk → l < H.length := fun h => (List.getElem?_eq_some_iff.1 h).1
  have all : ∀ vs : List AVal, (∀ (i : Nat) (v : AVal), vs[i]? = some v → v.inR H.length = true) → AVal.inR.inRs H.length vs = true := by
    intro vs
    induction vs with
    | nil => intro _; rfl
    | cons x r ih =>
      intro hh
      simp only [AVal.inR.inRs, Bool.and_eq_true]
      exact ⟨hh 0 x rfl, ih fun i v hi => hh (i + 1) v (by simpa using hi)⟩
  induction h with
  | own l off len ver z a cap h hm => obtain ⟨blk, h1, _⟩ := h; simpa [AVal.inR] using lt h1
  | ptr l off ver a h => obtain ⟨blk, h1, _⟩ := h; simpa [AVal.inR] using lt h1
  | rom vs off p cs hl hm _ ih => simp only [AVal.inR]; exact all vs ih
  | ros vs len z a cap cs hl h0 hm hc hz _ ih => simp only [AVal.inR]; exact all vs ih
  | agg vs cs hl _ ih => simp only [AVal.inR]; exact all vs ih
  | tup vs cs hl _ ih => simp only [AVal.inR]; exact all vs ih
  | fn f vs cs hl _ ih => simp only [AVal.inR]; exact all vs ih
  | _ => rfl

theorem inRs_get {n : Nat} {vs : List AVal} (h : AVal.inR.inRs n vs = true) : ∀ (i : Nat) (v : AVal), vs[i]? = some v → v.inR n = true := by
  induction vs with
  | nil => intro i v hi; simp at hi
  | cons x r ih =>
    simp only [AVal.inR.inRs, Bool.and_eq_true] at h
    intro i v hi
    cases i with
    | zero => simp at hi; subst hi; exact h.1
    | succ i => exact ih h.2 i v (by simpa using hi)

/-- Blocks at the end are forgotten. -/
theorem VR.cut [Fb : Forb] {ρ : List Nat} {H : Heap} {w : World} {v : AVal} {c : Value} (n : Nat) (h : VR ρ H w v c) (hr : v.inR n = true) : VR (ρ.take n) (H.take n) w v c := by
  have K : Keeps ρ w (ρ.take n) w := fun b ⟨h1, h2, h3⟩ => ⟨⟨h1, fun hm => h2 (List.mem_of_mem_take hm), h3⟩, rfl⟩
  have ht : ∀ {l : Nat} {b : Nat}, l < n → ρ[l]? = some b → (ρ.take n)[l]? = some b := fun hl hb => by rw [List.getElem?_take, if_pos hl]; exact hb
  induction h with
  | top c => exact .top c
  | undef => exact .undef
  | bool b => exact .bool b
  | int k n => exact .int k n
  | flt k a b h => exact .flt k a b h
  | cpx k a b c d h h' => exact .cpx k a b c d h h'
  | str s => exact .str s
  | nils => exact .nils
  | emp a => exact .emp a
  | ro c len z a cap h0 h hm hl => exact .ro c len z a cap h0 (fun p hp => (h p hp).mono K) hm hl
  | own l off len ver z a cap h hm =>
    have hl : l < n := by simpa [AVal.inR] using hr
    obtain ⟨blk, h1, h2, h3⟩ := h
    refine .own l off len ver z a cap ⟨blk, by rw [List.getElem?_take, if_pos hl]; exact h1, h2, fun e => ?_⟩ hm
    obtain ⟨b, cs, t, r1, r⟩ := h3 e
    exact ⟨b, cs, t, ht hl r1, r⟩
  | rop c off p h => exact .rop c off p (h.mono K)
  | rom vs off p cs hl hm _ ih => exact .rom vs off p cs hl (fun i x hx => ⟨(K _ (hm i x hx).1).1, (hm i x hx).2⟩) fun i v hi => ih i v hi (inRs_get (by simpa [AVal.inR] using hr) i v hi)
  | ros vs len z a cap cs hl h0 hm hc hz _ ih => exact .ros vs len z a cap cs hl h0 (fun p hp i x hx => ⟨(K _ (hm p hp i x hx).1).1, (hm p hp i x hx).2⟩) hc hz fun i v hi => ih i v hi (inRs_get (by simpa [AVal.inR] using hr) i v hi)
  | ptr l off ver a h =>
    have hl : l < n := by simpa [AVal.inR] using hr
    obtain ⟨blk, h1, h2, h3⟩ := h
    refine .ptr l off ver a ⟨blk, by rw [List.getElem?_take, if_pos hl]; exact h1, h2, fun e => ?_⟩
    obtain ⟨b, r1, r⟩ := h3 e
    exact ⟨b, ht hl r1, r⟩
  | agg vs cs hl _ ih => exact .agg vs cs hl fun i v hi => ih i v hi (inRs_get (by simpa [AVal.inR] using hr) i v hi)
  | tup vs cs hl _ ih => exact .tup vs cs hl fun i v hi => ih i v hi (inRs_get (by simpa [AVal.inR] using hr) i v hi)
  | fn f vs cs hl _ ih => exact .fn f vs cs hl fun i v hi => ih i v hi (inRs_get (by simpa [AVal.inR] using hr) i v hi)
  | nilf => exact .nilf
  | nili => exact .nili
  | fex k b => exact .fex k b
  | bun i c len x B he h => exact .bun i c len x B he (h.thin fun b hb => List.mem_of_mem_take hb)

theorem BR.mv [Fb : Forb] {ρ ρ' : List Nat} {H H' : Heap} {w w' : World} (m : Mv ρ H w ρ' H' w') {c : BC} {cs : Array Value} (h : BR ρ H w c cs) : BR ρ' H' w' c cs :=
  ⟨h.1, fun i v hi => let ⟨x, h1, h2⟩ := h.2 i v hi; ⟨x, h1, h2.mv m⟩⟩

theorem Cont.inR_get {c : Cont} {i : Nat} {v : AVal} (n : Nat) (h : c.get? i = some v) : v.inR n = true := by
  cases c <;> simp only [Cont.get?] at h <;> split at h <;> first | (simp at h; subst h; rfl) | (simp at h; subst h; rename_i f _; cases f <;> rfl) | cases h
theorem BC.inR_get {c : BC} {i : Nat} {v : AVal} {n : Nat} (hr : c.inR n = true) (h : c.get? i = some v) : v.inR n = true := by
  cases c with
  | typ c => exact Cont.inR_get n h
  | cells vs => exact inRs_get hr i v (by simpa [BC.get?, nth_eq] using h)

theorem Sim.cut [Fb : Forb] {ρ : List Nat} {H : Heap} {w : World} (n : Nat) (s : Sim ρ H w) (hr : ∀ (l : Nat) (blk : Blk), l < n → H[l]? = some blk → blk.c.inR n = true) : Sim (ρ.take n) (H.take n) w := by
  refine ⟨by simp [s.len], s.nodup.sublist (List.take_sublist _ _), fun b hb => ⟨(s.forb b hb).1, fun hm => (s.forb b hb).2 (List.mem_of_mem_take hm)⟩, fun l b blk hl hb => ?_⟩
  rw [List.getElem?_take] at hl hb
  split at hl
  · rename_i hln
    rw [if_pos hln] at hb
    obtain ⟨cs, e, h1, h2, h3⟩ := s.blk l b blk hl hb
    exact ⟨cs, e, h1, h2, fun i v hi => let ⟨x, g1, g2⟩ := h3 i v hi; ⟨x, g1, g2.cut n (BC.inR_get (hr l blk hln hl) hi)⟩⟩
  · cases hl

theorem Mv.cut {ρ ρ' : List Nat} {H H' : Heap} {w w' : World} (m : Mv ρ H w ρ' H' w') (n : Nat) (hn : H.length ≤ n) : Mv ρ H w (ρ'.take n) (H'.take n) w' := by
  refine ⟨m.os, m.tape, m.output, m.size, fun b h1 h2 => ⟨(m.frame b h1 h2).1, fun hm => (m.frame b h1 h2).2 (List.mem_of_mem_take hm)⟩, fun l blk hl => ?_⟩
  have hln : l < n := Nat.lt_of_lt_of_le (List.getElem?_eq_some_iff.1 hl).1 hn
  obtain ⟨blk', h1, h3, h4⟩ := m.keep l blk hl
  refine ⟨blk', by rw [List.getElem?_take, if_pos hln]; exact h1, h3, fun e => ?_⟩
  obtain ⟨g1, g2, g3⟩ := h4 e
  exact ⟨by rw [List.getElem?_take, if_pos hln]; exact g1, g2, g3⟩

/-- The tables of the library's are as they were laid. -/
def GL [Fb : Forb] (ρ : List Nat) (w : World) : Prop := ∀ p ∈ glTab, Stb ρ w p.1 ∧ ∀ (i : Nat) (n : Int), p.2[i]? = some n → w.cell? ⟨p.1, i, none⟩ = some (.int .u8 n)
theorem GL.of {F1 F2 : Forb} {ρ ρ' : List Nat} {w w' : World} (h : @GL F1 ρ w) (K : ∀ b, @Stb F1 ρ w b → @Stb F2 ρ' w' b ∧ w'.heap[b]? = w.heap[b]?) : @GL F2 ρ' w' := fun p hp => by
  obtain ⟨h1, h2⟩ := h p hp
  refine ⟨(K _ h1).1, fun i n hi => ?_⟩
  rw [← h2 i n hi]
  exact cell?_of_heap (K _ h1).2
theorem GL.mv [Fb : Forb] {ρ ρ' : List Nat} {H H' : Heap} {w w' : World} (m : Mv ρ H w ρ' H' w') (h : GL ρ w) : GL ρ' w' := h.of m.keeps
theorem GL.thin {F1 F2 : Forb} {ρ ρ' : List Nat} {w : World} (h : @GL F1 ρ w) (K : ∀ b, @Stb F1 ρ w b → @Stb F2 ρ' w b) : @GL F2 ρ' w := h.of fun b hb => ⟨K b hb, rfl⟩
structure TR [Fb : Forb] (ρ : List Nat) (H : Heap) (w : World) (t : List AVal) (a : Array Value) : Prop where
  len : t.length = a.size
  at_ : ∀ (i : Nat) (v : AVal), t[i]? = some v → VR ρ H w v (a.getD i Go.undef)
  gl : GL ρ w
theorem TR.mv [Fb : Forb] {ρ ρ' : List Nat} {H H' : Heap} {w w' : World} (m : Mv ρ H w ρ' H' w') {t : List AVal} {a : Array Value} (h : TR ρ H w t a) : TR ρ' H' w' t a :=
  ⟨h.1, fun i v hi => (h.2 i v hi).mv m, h.gl.mv m⟩
theorem TR.put [Fb : Forb] {ρ : List Nat} {H : Heap} {w : World} {s : State} {a : Act} (h : TR ρ H w s.t a.tmps) (d : Option Tmp) {v : AVal} {c : Value} (hv : VR ρ H w v c) : TR ρ H w (s.put d v).t (a.put d c).tmps := by
  cases d with
  | none => exact h
  | some d =>
    refine ⟨by simp [State.put, upd_eq, Act.put, h.1], fun i u hi => ?_, h.gl⟩
    simp only [State.put, upd_eq] at hi
    simp only [Act.put]
    rw [List.getElem?_set] at hi
    by_cases e : d = i
    · subst e
      rw [if_pos rfl] at hi
      split at hi
      · rename_i hlt
        simp at hi; subst hi
        have : d < a.tmps.size := by rw [← h.1]; exact hlt
        simp [this]; exact hv
      · cases hi
    · rw [if_neg e] at hi
      have := h.2 i u hi
      simp only [Array.getD_eq_getD_getElem?] at this ⊢
      rw [Array.getElem?_setIfInBounds_ne e]
      exact this

theorem ofCell_VR [Fb : Forb] (ρ : List Nat) (H : Heap) (w : World) (v : Value) : VR ρ H w (ofCell v) v := by
  unfold ofCell
  split
  · exact .bool _
  · exact .int _ _
  · exact .flt _ _ _ (.inl rfl)
  · exact .cpx _ _ _ _ _ (.inl rfl) (.inl rfl)
  · exact .str _
  · split
    · rename_i h; obtain ⟨rfl, rfl⟩ := h; exact .nils
    · exact .top _
  · exact .nilf
  · exact .nili
  · exact .top _
theorem ofConst_VR [Fb : Forb] (ρ : List Nat) (H : Heap) (w : World) (v : Value) : VR ρ H w (ofConst v) v := by
  unfold ofConst
  split
  · rename_i cs
    refine .agg _ _ (by simp [mapL_eq]) fun i v hi => ?_
    simp [mapL_eq] at hi
    obtain ⟨x, hx, rfl⟩ := hi
    simp only [Array.getD_eq_getD_getElem?, hx, Option.getD_some]
    exact ofCell_VR ρ H w x
  · exact ofCell_VR ρ H w _

theorem TR.ev [Fb : Forb] {ρ : List Nat} {H : Heap} {w : World} {s : State} {a : Act} (h : TR ρ H w s.t a.tmps) (x : Operand) : VR ρ H w (s.ev x) (a.eval x) := by
  cases x with
  | tmp t =>
    simp only [State.ev, Act.eval, nth_eq]
    cases ht : s.t[t]? with
    | some v => exact h.2 t v ht
    | none =>
      have : a.tmps.size ≤ t := by rw [← h.1]; exact List.getElem?_eq_none_iff.1 ht
      simp only [Array.getD_eq_getD_getElem?, Array.getElem?_eq_none this]
      exact .undef
  | const v => exact ofConst_VR ρ H w v
  | global g =>
    have main : ∀ l : List (Nat × List Int), (∀ p ∈ l, Stb ρ w p.1 ∧ ∀ (i : Nat) (n : Int), p.2[i]? = some n → w.cell? ⟨p.1, i, none⟩ = some (.int .u8 n)) → VR ρ H w (glFind l g) (a.eval (.global g)) := by
      intro l
      induction l with
      | nil => intro _; exact .top _
      | cons p r ih =>
        intro hl
        obtain ⟨k, xs⟩ := p
        simp only [glFind, eqN_eq]
        cases hk : k == g with
        | false => exact ih fun q hq => hl q (List.mem_cons_of_mem _ hq)
        | true =>
          rw [cond_true]
          have : k = g := by simpa using hk
          subst this
          obtain ⟨h1, h2⟩ := hl (k, xs) List.mem_cons_self
          refine .rom _ 0 ⟨k, 0, none⟩ (xs.map fun n => Value.int .u8 n).toArray (by simp [mapL_eq]) (fun i x hx => ?_) fun i v hi => ?_
          · rw [Nat.zero_add] at hx
            simp only [List.getElem?_toArray, List.getElem?_map, Option.map_eq_some_iff] at hx
            obtain ⟨n, hn, rfl⟩ := hx
            refine ⟨h1, ?_⟩
            have := h2 i n hn
            have e : (⟨k, 0, none⟩ : Addr).add i = ⟨k, i, none⟩ := by
              unfold Addr.add
              split
              · rename_i h0; subst h0; rfl
              · simp
            rw [e]
            exact this
          · simp only [mapL_eq, List.getElem?_map, Option.map_eq_some_iff] at hi
            obtain ⟨n, hn, rfl⟩ := hi
            simp only [Array.getD_eq_getD_getElem?, List.getElem?_toArray, List.getElem?_map, hn, Option.map_some, Option.getD_some]
            exact .int _ _
    exact main glTab h.gl
  | func f => exact .fn f [] #[] rfl (by simp)

end Go.Proofs.YtjhofofieiiplaaGreatDoor.Ab
