/-
  The abstract machine: values with lists in the place of memory, and a function 'run' that carries a body out on them. Nothing here names a program.
-/
import Derived.WalkKit
import Derived.WalkLawsBesides
namespace Go.Proofs.YtjhofofieiiplaaGreatDoor.Ab
open Go

/-! Lists of the machine's own (slots, blocks, operations): functions of their own, so that they can be told from the lists that a program handles. -/
def nth {α : Type} : List α → Nat → Option α
  | [], _ => none
  | a :: _, 0 => some a
  | _ :: r, n + 1 => nth r n
def upd {α : Type} : List α → Nat → α → List α
  | [], _, _ => []
  | _ :: r, 0, b => b :: r
  | a :: r, n + 1, b => a :: upd r n b
def hlen {α : Type} : List α → Nat
  | [] => 0
  | _ :: r => hlen r + 1
def snoc {α : Type} : List α → α → List α
  | [], b => [b]
  | a :: r, b => a :: snoc r b
def pad {α : Type} (z : α) : Nat → List α → List α
  | 0, l => l
  | n + 1, [] => z :: pad z n []
  | n + 1, a :: r => a :: pad z n r
def mapL {α β : Type} (f : α → β) : List α → List β
  | [] => []
  | a :: r => f a :: mapL f r
def app {α : Type} : List α → List α → List α
  | [], m => m
  | a :: r, m => a :: app r m
def eqN : Nat → Nat → Bool
  | 0, 0 => true
  | n + 1, m + 1 => eqN n m
  | _, _ => false
theorem nth_eq {α : Type} (l : List α) (i : Nat) : nth l i = l[i]? := by
  induction l generalizing i with
  | nil => rfl
  | cons a r ih => cases i with
    | zero => rfl
    | succ i => simpa [nth] using ih i
theorem upd_eq {α : Type} (l : List α) (i : Nat) (b : α) : upd l i b = l.set i b := by
  induction l generalizing i with
  | nil => rfl
  | cons a r ih => cases i with
    | zero => rfl
    | succ i => simp [upd, ih i]
theorem hlen_eq {α : Type} (l : List α) : hlen l = l.length := by
  induction l with
  | nil => rfl
  | cons a r ih => simp [hlen, ih]
theorem snoc_eq {α : Type} (l : List α) (b : α) : snoc l b = l ++ [b] := by
  induction l with
  | nil => rfl
  | cons a r ih => simp [snoc, ih]
theorem mapL_eq {α β : Type} (f : α → β) (l : List α) : mapL f l = l.map f := by
  induction l with
  | nil => rfl
  | cons a r ih => simp [mapL, ih]
theorem app_eq {α : Type} (l m : List α) : app l m = l ++ m := by
  induction l with
  | nil => rfl
  | cons a r ih => simp [app, ih]
theorem pad_eq {α : Type} (z : α) (n : Nat) (l : List α) : pad z n l = l ++ List.replicate (n - l.length) z := by
  induction n generalizing l with
  | zero => simp [pad]
  | succ n ih => cases l with
    | nil => simp [pad, ih, List.replicate_succ]
    | cons a r => simp [pad, ih]
theorem eqN_eq (a b : Nat) : eqN a b = (a == b) := by
  induction a generalizing b with
  | zero => cases b <;> rfl
  | succ a ih => cases b with
    | zero => rfl
    | succ b => simpa [eqN] using ih b

/-- A field of a record that is held: a number, a list, a list of lists. -/
inductive Fld where
  | num (n : Int)
  | list (xs : List Int)
  | rows (xss : List (List Int))
/-- What a piece of memory holds, typed. -/
inductive Cont where
  | ints (k : IntKind) (xs : List Int)
  | flts (k : FloatKind) (xs : List Nat)
  | cpxs (k : FloatKind) (xs : List (Nat × Nat))
  | bools (xs : List Bool)
  | strs (xs : List ByteArray)
  | rows (k : IntKind) (xss : List (List Int))
  | recs (sh : List Nat) (fs : List Fld)

inductive AVal where
  | top
  | undef
  | bool (b : Bool)
  | int (k : IntKind) (n : Int)
  | flt (k : FloatKind) (b : Nat)
  | cpx (k : FloatKind) (re im : Nat)
  | str (s : ByteArray)
  | nils
  | emp
  | ro (c : Cont) (len z : Nat)
  | own (l off len ver z : Nat)
  | rop (c : Cont) (off : Nat)
  | rom (vs : List AVal) (off : Nat)
  | ros (vs : List AVal) (len z : Nat)
  | ptr (l off ver : Nat)
  | agg (vs : List AVal)
  | tup (vs : List AVal)
  | fn (f : FuncId) (caps : List AVal)
  | nilf
  | nili
  | fex (k : FloatKind) (b : Nat)
  | bun (i : Nat) (c : Cont) (len : Nat)

inductive BC where
  | typ (c : Cont)
  | cells (vs : List AVal)

structure Blk where
  c : BC
  ver : Nat

abbrev Heap := List Blk

def Cont.len : Cont → Nat
  | .ints _ xs => xs.length
  | .flts _ xs => xs.length
  | .cpxs _ xs => xs.length
  | .bools xs => xs.length
  | .strs xs => xs.length
  | .rows _ xs => xs.length
  | .recs _ fs => fs.length
/-- A field, to be read. -/
def Fld.lent : Fld → AVal
  | .num n => .int .i64 n
  | .list xs => .ro (.ints .i64 xs) xs.length 1
  | .rows xss => .ro (.rows .i64 xss) xss.length 1
def Fld.kind : Fld → Nat
  | .num _ => 0
  | .list _ => 1
  | .rows _ => 2
/-- What fields hold; the cells of one record of the shape sh, from the place b on. -/
def recN.sv (fs : List Fld) (p : Nat) : Int := match fs[p]? with | some (.num n) => n | _ => 0
def recL.sv (fs : List Fld) (p : Nat) : List Int := match fs[p]? with | some (.list xs) => xs | _ => []
def recR.sv (fs : List Fld) (p : Nat) : List (List Int) := match fs[p]? with | some (.rows xs) => xs | _ => []
def recC (k : Nat) (fs : List Fld) (p : Nat) : AVal := match k with
  | 0 => .int .i64 (recN.sv fs p)
  | 1 => .ro (.ints .i64 (recL.sv fs p)) (recL.sv fs p).length 1
  | _ => .ro (.rows .i64 (recR.sv fs p)) (recR.sv fs p).length 1
def recCs (fs : List Fld) (b : Nat) : List Nat → Nat → List AVal
  | [], _ => []
  | k :: r, j => recC k fs (b + j) :: recCs fs b r (j + 1)
def recfit.sp (sh : List Nat) (fs : List Fld) : Bool := decide (∀ p, p < fs.length → (fs.getD p (.num 0)).kind = sh.getD (p % sh.length) 0)
def Cont.get? : Cont → Nat → Option AVal
  | .ints k xs, i => match xs[i]? with | some n => some (.int k n) | none => none
  | .flts k xs, i => match xs[i]? with | some n => some (.flt k n) | none => none
  | .cpxs k xs, i => match xs[i]? with | some n => some (.cpx k n.1 n.2) | none => none
  | .bools xs, i => match xs[i]? with | some b => some (.bool b) | none => none
  | .strs xs, i => match xs[i]? with | some b => some (.str b) | none => none
  | .rows k xs, i => match xs[i]? with | some r => some (.ro (.ints k r) r.length 1) | none => none
  | .recs _ fs, i => match fs[i]? with | some f => some f.lent | none => none
def Cont.set? : Cont → Nat → AVal → Option Cont
  | .ints k xs, i, .int k' n => if k = k' then bif decide (i < xs.length) then some (.ints k (xs.set i n)) else none else none
  | .flts k xs, i, .flt k' n => if k = k' then bif decide (i < xs.length) then some (.flts k (xs.set i n)) else none else none
  | .cpxs k xs, i, .cpx k' a b => if k = k' then bif decide (i < xs.length) then some (.cpxs k (xs.set i (a, b))) else none else none
  | .bools xs, i, .bool b => bif decide (i < xs.length) then some (.bools (xs.set i b)) else none
  | .strs xs, i, .str b => bif decide (i < xs.length) then some (.strs (xs.set i b)) else none
  | .rows k xs, i, .ro c n z => match c with
    | .ints k' r => if k = k' then bif decide (i < xs.length) && z == 1 then some (.rows k (xs.set i (r.take n))) else none else none
    | _ => none
  | _, _, _ => none
def Cont.take : Cont → Nat → Cont
  | .ints k xs, n => .ints k (xs.take n)
  | .flts k xs, n => .flts k (xs.take n)
  | .cpxs k xs, n => .cpxs k (xs.take n)
  | .bools xs, n => .bools (xs.take n)
  | .strs xs, n => .strs (xs.take n)
  | .rows k xs, n => .rows k (xs.take n)
  | .recs sh fs, n => .recs sh (fs.take n)
def Cont.drop : Cont → Nat → Cont
  | .ints k xs, n => .ints k (xs.drop n)
  | .flts k xs, n => .flts k (xs.drop n)
  | .cpxs k xs, n => .cpxs k (xs.drop n)
  | .bools xs, n => .bools (xs.drop n)
  | .strs xs, n => .strs (xs.drop n)
  | .rows k xs, n => .rows k (xs.drop n)
  | .recs sh fs, n => .recs sh (fs.drop n)
def Cont.app? : Cont → Cont → Option Cont
  | .ints k xs, .ints k' ys => if k = k' then some (.ints k (xs ++ ys)) else none
  | .flts k xs, .flts k' ys => if k = k' then some (.flts k (xs ++ ys)) else none
  | .cpxs k xs, .cpxs k' ys => if k = k' then some (.cpxs k (xs ++ ys)) else none
  | .bools xs, .bools ys => some (.bools (xs ++ ys))
  | .strs xs, .strs ys => some (.strs (xs ++ ys))
  | .rows k xs, .rows k' ys => if k = k' then some (.rows k (xs ++ ys)) else none
  | _, _ => none

/-- The value of one cell. -/
def AVal.isCell : AVal → Bool
  | .top | .undef | .agg _ | .tup _ => false
  | _ => true

def BC.len : BC → Nat
  | .typ c => c.len
  | .cells vs => hlen vs
def BC.get? : BC → Nat → Option AVal
  | .typ c, i => c.get? i
  | .cells vs, i => nth vs i
def BC.set? : BC → Nat → AVal → Option BC
  | .typ c, i, v => match c.set? i v with | some c' => some (.typ c') | none => none
  | .cells vs, i, v => bif v.isCell && decide (i < hlen vs) then some (.cells (upd vs i v)) else none

/-- Does a value lead only to blocks below 'n'? -/
def AVal.inR (n : Nat) : AVal → Bool
  | .own l _ _ _ _ => decide (l < n)
  | .ptr l _ _ => decide (l < n)
  | .rom vs _ => inRs n vs
  | .ros vs _ _ => inRs n vs
  | .agg vs => inRs n vs
  | .tup vs => inRs n vs
  | .fn _ vs => inRs n vs
  | _ => true
  where inRs (n : Nat) : List AVal → Bool
  | [] => true
  | v :: vs => v.inR n && inRs n vs
def BC.inR (n : Nat) : BC → Bool
  | .typ _ => true
  | .cells vs => AVal.inR.inRs n vs

/-- Move the numbers of blocks up. -/
def AVal.shift (n : Nat) : AVal → AVal
  | .own l off len ver z => .own (n + l) off len ver z
  | .ptr l off ver => .ptr (n + l) off ver
  | .rom vs off => .rom (shifts n vs) off
  | .ros vs len z => .ros (shifts n vs) len z
  | .agg vs => .agg (shifts n vs)
  | .tup vs => .tup (shifts n vs)
  | .fn f vs => .fn f (shifts n vs)
  | v => v
  where shifts (n : Nat) : List AVal → List AVal
  | [] => []
  | v :: vs => v.shift n :: shifts n vs
def BC.shift (n : Nat) : BC → BC
  | .typ c => .typ c
  | .cells vs => .cells (AVal.shift.shifts n vs)
def Blk.shift (n : Nat) (b : Blk) : Blk := ⟨b.c.shift n, b.ver⟩

def ofCell : Value → AVal
  | .bool b => .bool b
  | .int k n => .int k n
  | .float k b => .flt k b
  | .complex k a b => .cpx k a b
  | .string s => .str s
  | .slice none n c => if n = 0 ∧ c = 0 then .nils else .top
  | .nilFunc => .nilf
  | .nilIface => .nili
  | _ => .top
def ofConst : Value → AVal
  | .agg cs => .agg (mapL ofCell cs.toList)
  | v => ofCell v

structure State where
  t : List AVal
  h : Heap

/-- Tables of the library's that are read: which variable, what it holds. -/
def glTab : List (Nat × List Int) := [(6, [0, 1, 56, 2, 57, 49, 28, 3, 61, 58, 42, 50, 38, 29, 17, 4, 62, 47, 59, 36, 45, 43, 51, 22, 53, 39, 33, 30, 24, 18, 12, 5, 63, 55, 48, 27, 60, 41, 37, 16, 46, 35, 44, 21, 52, 32, 23, 11, 54, 26, 40, 15, 34, 20, 31, 10, 25, 14, 19, 9, 13, 8, 7, 6])]
def glFind : List (Nat × List Int) → Nat → AVal
  | [], _ => .top
  | (k, xs) :: r, g => bif eqN k g then .rom (mapL (fun n => .int .u8 n) xs) 0 else glFind r g
def State.ev (s : State) : Operand → AVal
  | .tmp t => match nth s.t t with | some v => v | none => .undef
  | .const v => ofConst v
  | .global g => glFind glTab g
  | .func f => .fn f []
def State.put (s : State) (d : Option Tmp) (v : AVal) : State :=
  match d with
  | some d => ⟨upd s.t d v, s.h⟩
  | none => s

/-! ## Operations that touch no memory -/

def qnan : FloatKind → Nat
  | .f32 => 0x7fc00000
  | .f64 => 0x7ff8000000000000
/-- Arithmetic on floats; whatever is not a number is 'qnan'. -/
def fadd (k : FloatKind) (a b : Nat) : Nat := (k.format.add a b).getD (qnan k)
def fsub (k : FloatKind) (a b : Nat) : Nat := (k.format.sub a b).getD (qnan k)
def fmul (k : FloatKind) (a b : Nat) : Nat := (k.format.mul a b).getD (qnan k)
def fdiv (k : FloatKind) (a b : Nat) : Nat := (k.format.div a b).getD (qnan k)

def isBoolT (P : Program) (t : TypeId) : Bool := match P.underlying t with | some .bool => true | _ => false
def isSliceT (P : Program) (t : TypeId) : Bool := match P.underlying t with | some (.slice _) => true | _ => false

/-- A byte of a text. -/
def sat.sv (s : ByteArray) (i : Nat) : Int := match s[i]? with | some b => (b.toNat : Int) | none => 0
def satn.sv (s : ByteArray) : Int := (s.size : Int)
def sadd.sv (a b : ByteArray) : ByteArray := a ++ b
def seq.sv (a b : ByteArray) : Bool := a.toList == b.toList
def sext.sv (s : ByteArray) (l h : Nat) : ByteArray := s.extract l h
/-- The bytes of a text as numbers, and the text of some numbers. -/
def sby.sv (s : ByteArray) : List Int := s.data.toList.map fun b => (b.toNat : Int)
def bys.sv (xs : List Int) : ByteArray := ⟨(xs.map fun n => UInt8.ofNat n.toNat).toArray⟩
def isStrT (P : Program) (t : TypeId) : Bool := match P.underlying t with | some .string => true | _ => false
/-- Sums of complex numbers, where the parts are numbers. -/
def cadd.ok.sp (k : FloatKind) (a b c d : Nat) : Bool := (k.format.add a c).isSome && (k.format.add b d).isSome
def nilC : Operand → Bool
  | .const .nilIface => true
  | _ => false
/-- Is it nil? -/
def isIfcT (P : Program) (t : TypeId) : Bool := match P.underlying t with | some (.interface _) => true | _ => false
def anil (P : Program) (t : TypeId) (op : BinOp) (x : AVal) : Option AVal := bif isIfcT P t then match op, x with
  | .eql, .nili => some (.bool true)
  | .neq, .nili => some (.bool false)
  | _, _ => none
  else none
/-- Shifts and bits, kept folded. -/
def ishl.sv (k : IntKind) (a b : Int) : Int := k.wrap (a * 2 ^ (min b.toNat k.bits))
def ishr.sv (k : IntKind) (a b : Int) : Int := a.fdiv (2 ^ (min b.toNat k.bits))
def iand.sv (k : IntKind) (a b : Int) : Int := k.wrap (BitVec.ofInt k.bits a &&& BitVec.ofInt k.bits b).toNat
def ior.sv (k : IntKind) (a b : Int) : Int := k.wrap (BitVec.ofInt k.bits a ||| BitVec.ofInt k.bits b).toNat
def ixor.sv (k : IntKind) (a b : Int) : Int := k.wrap (BitVec.ofInt k.bits a ^^^ BitVec.ofInt k.bits b).toNat
def iandn.sv (k : IntKind) (a b : Int) : Int := k.wrap (BitVec.ofInt k.bits a &&& ~~~ BitVec.ofInt k.bits b).toNat
def abin (P : Program) (t : TypeId) (op : BinOp) (x y : AVal) : Option AVal :=
  match x, y with
  | .int k a, .int k' b =>
    match op with
    | .shl => bif decide (0 ≤ b) then some (.int k (ishl.sv k a b)) else none
    | .shr => bif decide (0 ≤ b) then some (.int k (ishr.sv k a b)) else none
    | .add => if k = k' then some (.int k (k.wrap (a + b))) else none
    | .sub => if k = k' then some (.int k (k.wrap (a - b))) else none
    | .mul => if k = k' then some (.int k (k.wrap (a * b))) else none
    | .quo => if k = k' then bif !(b == 0) then some (.int k (k.wrap (a.tdiv b))) else none else none
    | .rem => if k = k' then bif !(b == 0) then some (.int k (a.tmod b)) else none else none
    | .and => if k = k' then some (.int k (iand.sv k a b)) else none
    | .or => if k = k' then some (.int k (ior.sv k a b)) else none
    | .xor => if k = k' then some (.int k (ixor.sv k a b)) else none
    | .andNot => if k = k' then some (.int k (iandn.sv k a b)) else none
    | .eql => if k = k' then some (.bool (a == b)) else none
    | .neq => if k = k' then some (.bool (a != b)) else none
    | .lss => if k = k' then some (.bool (decide (a < b))) else none
    | .leq => if k = k' then some (.bool (decide (a ≤ b))) else none
    | .gtr => if k = k' then some (.bool (decide (b < a))) else none
    | .geq => if k = k' then some (.bool (decide (b ≤ a))) else none
  | .flt k a, .flt k' b =>
    if k = k' then
      match op with
      | .add => some (.flt k (fadd k a b))
      | .sub => some (.flt k (fsub k a b))
      | .mul => some (.flt k (fmul k a b))
      | .quo => some (.flt k (fdiv k a b))
      | .eql => some (.bool (k.format.order a b == some .eq))
      | .neq => some (.bool (k.format.order a b != some .eq))
      | .lss => some (.bool (k.format.order a b == some .lt))
      | .leq => some (.bool (k.format.order a b == some .lt || k.format.order a b == some .eq))
      | .gtr => some (.bool (k.format.order a b == some .gt))
      | .geq => some (.bool (k.format.order a b == some .gt || k.format.order a b == some .eq))
      | _ => none
    else none
  | .bool a, .bool b =>
    bif isBoolT P t then
      match op with
      | .eql => some (.bool (a == b))
      | .neq => some (.bool (!(a == b)))
      | _ => none
    else none
  | .cpx k a b, .cpx k' c d =>
    if k = k' then
      match op with
      | .eql => some (.bool (k.format.order a c == some .eq && k.format.order b d == some .eq))
      | .neq => some (.bool (!(k.format.order a c == some .eq && k.format.order b d == some .eq)))
      | .add => bif cadd.ok.sp k a b c d then some (.cpx k (fadd k a c) (fadd k b d)) else none
      | _ => none
    else none
  | .nils, .nils =>
    bif isSliceT P t then
      match op with
      | .eql => some (.bool true)
      | .neq => some (.bool false)
      | _ => none
    else none
  | .ro _ (_ + 1) _, .nils =>
    bif isSliceT P t then
      match op with
      | .eql => some (.bool false)
      | .neq => some (.bool true)
      | _ => none
    else none
  | .own _ _ _ _ _, .nils =>
    bif isSliceT P t then
      match op with
      | .eql => some (.bool false)
      | .neq => some (.bool true)
      | _ => none
    else none
  | .str a, .str b =>
    match op with
    | .add => bif decide (satn.sv a + satn.sv b ≤ 9223372036854775807) then some (.str (sadd.sv a b)) else none
    | .eql => some (.bool (seq.sv a b))
    | .neq => some (.bool (!(seq.sv a b)))
    | _ => none
  | _, _ => none

def aun (op : UnOp) (x : AVal) : Option AVal :=
  match op, x with
  | .neg, .int k n => some (.int k (k.wrap (0 - n)))
  | .not, .bool b => some (.bool (!b))
  | .neg, .flt k b => some (.flt k (Op.negFloat k b))
  | .neg, .cpx k a b => some (.cpx k (Op.negFloat k a) (Op.negFloat k b))
  | _, _ => none

/-- From single to double. -/
def fwid.sv (b : Nat) : Nat := match FloatKind.f32.decode b with
  | .nan _ _ => qnan .f64
  | d => FloatKind.f64.encode d
/-- From double to single, where it is a number there. -/
def nar.ok.sp (b : Nat) : Bool := match FloatKind.f64.decode b with
  | .number s m e => !(FloatKind.f32.decode (FloatKind.f32.encode (.number s m e))).isInfinity
  | _ => true
def nar.sv (b : Nat) : Nat := match FloatKind.f64.decode b with
  | .nan _ _ => qnan .f32
  | d => FloatKind.f32.encode d
/-- From a float to an integer, where it is within bounds. -/
def fti.ok.sp (k : IntKind) (f : FloatKind) (b : Nat) : Bool := match (f.decode b).toInt .zero with
  | some n => decide (k.min ≤ n ∧ n ≤ k.max)
  | none => false
def fti.sv (f : FloatKind) (b : Nat) : Int := ((f.decode b).toInt .zero).getD 0
def narn.sp (b : Nat) : Bool := match FloatKind.f64.decode b with
  | .number s m e => !(FloatKind.f32.decode (FloatKind.f32.encode (.number s m e))).isInfinity
  | _ => false
def num32.sp (b : Nat) : Bool := match FloatKind.f32.decode b with
  | .number _ _ _ => true
  | _ => false
def aconv (P : Program) (src dst : TypeId) (x : AVal) : Option AVal :=
  match P.underlying src with
  | none => none
  | some _ =>
    match P.underlying dst, x with
    | some (.int k), .int _ n => some (.int k (k.wrap n))
    | some (.float k), .int _ n => some (.flt k (k.nearest n))
    | some (.float .f64), .flt .f32 b => some (.flt .f64 (fwid.sv b))
    | some (.float .f32), .flt .f32 b => some (.flt .f32 b)
    | some (.float .f64), .flt .f64 b => some (.flt .f64 b)
    | some (.float .f32), .flt .f64 b => bif nar.ok.sp b then some (.flt .f32 (nar.sv b)) else none
    | some (.int k), .flt f b => bif fti.ok.sp k f b then some (.int k (fti.sv f b)) else none
    | some (.complex .f64), .cpx .f32 a b => bif num32.sp a && num32.sp b then some (.cpx .f64 (fwid.sv a) (fwid.sv b)) else none
    | some (.complex .f32), .cpx .f64 a b => bif narn.sp a && narn.sp b then some (.cpx .f32 (nar.sv a) (nar.sv b)) else none
    | _, _ => none

def asz (P : Program) (t : TypeId) : Option Nat := match P.info? t with | some i => some i.size | none => none

/-- The place of an element of what is read; of a record, its cells. -/
def roIdx (c : Cont) (len z sz : Nat) (n : Int) : Option AVal := match c with
  | .recs sh fs => bif decide (0 ≤ n) && (decide (n < len) && (z == sz && (sh.length == sz && recfit.sp sh fs))) then some (.rom (recCs fs (n.toNat * sz) sh 0) 0) else none
  | c => bif decide (0 ≤ n) && (decide (n < len) && z == sz) then some (.rop c (n.toNat * sz)) else none
/-- 'indexAddr': the address of an element. -/
def aindex (P : Program) (t : TypeId) (x i : AVal) : Option AVal :=
  match P.underlying t with
  | some (.slice e) =>
    match asz P e, x, i with
    | some sz, .ro c len z, .int _ n => roIdx c len z sz n
    | some sz, .own l off len ver z, .int _ n => bif decide (0 ≤ n) && (decide (n < len) && z == sz) then some (.ptr l (off + n.toNat * sz) ver) else none
    | some sz, .ros vs len z, .int _ n => bif decide (0 ≤ n) && (decide (n < len) && z == sz) then some (.rom vs (n.toNat * sz)) else none
    | _, _, _ => none
  | some (.array len e) =>
    match asz P e, x, i with
    | some sz, .ptr l off ver, .int _ n => bif decide (0 ≤ n) && decide (n < len) then some (.ptr l (off + n.toNat * sz) ver) else none
    | some sz, .rom vs off, .int _ n => bif decide (0 ≤ n) && decide (n < len) then some (.rom vs (off + n.toNat * sz)) else none
    | _, _, _ => none
  | _ => none

def afield (P : Program) (s : TypeId) (x : AVal) (f : Nat) : Option AVal :=
  match P.underlying s with
  | some (.struct fs) =>
    match fs[f]? with
    | some fl =>
      match asz P fl.type, x with
      | some (_ + 1), .ptr l off ver => some (.ptr l (off + fl.offset) ver)
      | some (_ + 1), .rom vs off => some (.rom vs (off + fl.offset))
      | _, _ => none
    | none => none
  | _ => none

def abound (x : Option AVal) (dflt hi : Nat) : Option Nat :=
  match x with
  | none => some dflt
  | some (.int _ n) => bif decide (0 ≤ n) && decide (n ≤ hi) then some n.toNat else none
  | _ => none

/-- 's[lo:hi]' of a slice, both within its length. -/
def aslice (P : Program) (t : TypeId) (x : AVal) (lo hi : Option AVal) : Option AVal :=
  match P.underlying t with
  | some (.slice e) =>
    match asz P e, x with
    | some sz, .ro c len z =>
      match abound hi len len with
      | some h => match abound lo 0 h with
        | some l => bif z == sz then some (.ro ((c.drop (l * sz)).take ((h - l) * sz)) (h - l) z) else none
        | none => none
      | none => none
    | some sz, .own b off len ver z =>
      match abound hi len len with
      | some h => match abound lo 0 h with
        | some l => bif z == sz && (decide (l < h) || l == 0) then some (.own b (off + l * sz) (h - l) ver z) else none
        | none => none
      | none => none
    | _, _ => none
  | some .string => match x with
    | .str s => match abound hi s.size s.size with
      | some h => match abound lo 0 h with
        | some l => some (.str (sext.sv s l h))
        | none => none
      | none => none
    | _ => none
  | _ => none
/-- 'a[lo:]' of an array of bytes. -/
def asliceM (P : Program) (H : Heap) (t : TypeId) (x : AVal) (lo : Option AVal) : Option AVal :=
  match P.underlying t with
  | some (.array n e) =>
    match asz P e, x with
    | some 1, .ptr b 0 ver =>
      match nth H b with
      | some ⟨.typ (.ints _ xs), ver'⟩ =>
        match abound lo 0 n with
        | some l => bif (ver == ver' && decide (l < n)) && decide (xs.length = n) then some (.own b l (n - l) ver 1) else none
        | none => none
      | _ => none
    | _, _ => none
  | _ => none

/-- 's[:0:0]'. -/
def aslice0 (P : Program) (t : TypeId) (x : AVal) (lo hi : Option AVal) (mx : AVal) : Option AVal :=
  match P.underlying t with
  | some (.slice e) =>
    match asz P e, lo, hi, mx with
    | some _, none, some (.int _ 0), .int _ 0 => match x with
      | .nils => some .nils
      | .emp => some .emp
      | .ro _ _ _ => some .emp
      | .ros _ _ _ => some .emp
      | .own _ _ _ _ _ => some .emp
      | _ => none
    | _, _, _, _ => none
  | _ => none

def alen : AVal → Option AVal
  | .nils => some (.int .i64 0)
  | .emp => some (.int .i64 0)
  | .ro _ len _ => some (.int .i64 len)
  | .own _ _ len _ _ => some (.int .i64 len)
  | .ros _ len _ => some (.int .i64 len)
  | _ => none

/-- The greater of two floats, if they can be compared. -/
def ord.sp (k : FloatKind) (a b : Nat) : Bool := (k.format.order a b).isSome
def fmax.sv (k : FloatKind) (a b : Nat) : Nat := match k.format.order a b with
  | some .lt => b
  | some .gt => a
  | _ => if (k.decode a).neg then b else a
def amax2 : AVal → AVal → Option AVal
  | .int k a, .int _ b => some (.int k (if a < b then b else a))
  | .flt k a, .flt k' b => if k = k' then bif ord.sp k a b then some (.flt k (fmax.sv k a b)) else none else none
  | _, _ => none
/-- The less of two floats, if they can be compared. -/
def fmin.sv (k : FloatKind) (a b : Nat) : Nat := match k.format.order a b with
  | some .lt => a
  | some .gt => b
  | _ => if (k.decode a).neg then a else b
def amin2 : AVal → AVal → Option AVal
  | .int k a, .int _ b => some (.int k (if b < a then b else a))
  | .flt k a, .flt k' b => if k = k' then bif ord.sp k a b then some (.flt k (fmin.sv k a b)) else none else none
  | _, _ => none
def afold (f : AVal → AVal → Option AVal) : AVal → List AVal → Option AVal
  | a, [] => some a
  | a, b :: r => match f a b with | some c => afold f c r | none => none

def abuiltin (P : Program) (b : Builtin) (ts : List TypeId) (args : List AVal) : Option AVal :=
  match b, ts, args with
  | .len, t :: _, [x] => bif isSliceT P t then alen x else bif isStrT P t then (match x with | .str s => some (.int .i64 (satn.sv s)) | _ => none) else none
  | .max, _, x :: r => afold amax2 x r
  | .min, _, x :: r => afold amin2 x r
  | .real, _, [.cpx k a _] => some (.flt k a)
  | .imag, _, [.cpx k _ b] => some (.flt k b)
  | .complex, _, [.flt k a, .flt k' b] => if k = k' then some (.cpx k a b) else none
  | _, _, _ => none

/-- The cells of a value. -/
def AVal.cells? : AVal → Option (List AVal)
  | .agg vs => some vs
  | .tup _ => none
  | .top => none
  | .undef => none
  | v => some [v]
/-- Where the fields of a struct lie. -/
def aplaces (P : Program) : List Field → Option (List (Nat × Nat))
  | [] => some []
  | f :: r => match asz P f.type with
    | some n => match aplaces P r with
      | some l => some ((f.offset, n) :: l)
      | none => none
    | none => none
/-- Where the elements of an array lie that are of one cell. -/
def aones : Nat → Nat → List (Nat × Nat)
  | 0, _ => []
  | n + 1, k => (k, 1) :: aones n (k + 1)
theorem aones_ok : ∀ (n k i : Nat) {p : Nat × Nat}, (aones n k)[i]? = some p → p = (k + i, 1)
  | 0, _, _, _, h => by simp [aones] at h
  | n + 1, k, 0, p, h => by simp only [aones, List.getElem?_cons_zero, Option.some.injEq] at h; rw [← h]; rfl
  | n + 1, k, i + 1, p, h => by
    simp only [aones, List.getElem?_cons_succ] at h
    rw [aones_ok n (k + 1) i h]
    congr 1
    omega
def updL : List AVal → Nat → List AVal → List AVal
  | vs, _, [] => vs
  | vs, off, u :: r => updL (upd vs off u) (off + 1) r
def longer : List AVal → Nat → Bool
  | _, 0 => true
  | [], _ + 1 => false
  | _ :: r, k + 1 => longer r k
theorem longer_le : ∀ (vs : List AVal) (k : Nat), longer vs k = true ↔ k ≤ vs.length
  | _, 0 => by simp [longer]
  | [], k + 1 => by simp [longer]
  | _ :: r, k + 1 => by simp [longer, longer_le r k]
theorem updL_len : ∀ (us vs : List AVal) (off : Nat), (updL vs off us).length = vs.length
  | [], _, _ => rfl
  | u :: r, vs, off => by rw [updL, updL_len r, upd_eq, List.length_set]
/-- A struct of parts. -/
def afill (pl : List (Nat × Nat)) (ev : Operand → AVal) : List AVal → List (Nat × Operand) → Option (List AVal)
  | vs, [] => some vs
  | vs, (i, x) :: r => match nth pl i with
    | some (off, n) => match (ev x).cells? with
      | some us => bif eqN (hlen us) n && longer vs (off + n) then afill pl ev (updL vs off us) r else none
      | none => none
    | none => none
def abuildS (P : Program) (ev : Operand → AVal) (t : TypeId) (parts : List (Nat × Operand)) : Option AVal :=
  match P.underlying t with
  | some (.struct fs) => match P.info? t with
    | some i => match i.zero with
      | some z => match aplaces P fs.toList with
        | some pl => match afill pl ev (mapL ofCell z.cells.toList) parts with
          | some vs => some (.agg vs)
          | none => none
        | none => none
      | none => none
    | none => none
  | some (.array n e) => match P.info? t, asz P e with
    | some i, some 1 => match i.zero with
      | some z => match afill (aones n 0) ev (mapL ofCell z.cells.toList) parts with
        | some vs => some (.agg vs)
        | none => none
      | none => none
    | _, _ => none
  | _ => none

def aat (P : Program) (t : TypeId) (x i : AVal) : Option AVal :=
  match P.underlying t, x, i with
  | some .string, .str s, .int _ n => bif decide (0 ≤ n) && decide (n < satn.sv s) then some (.int .u8 (sat.sv s n.toNat)) else none
  | _, _, _ => none

/-- An operation that touches no memory. -/
def apure (P : Program) (ev : Operand → AVal) : Op → Option AVal
  | .move x => some (ev x)
  | .assign x => some (ev x)
  | .binOp op t x y _ => bif nilC y then anil P t op (ev x) else abin P t op (ev x) (ev y)
  | .unOp op _ x => aun op (ev x)
  | .convert src dst x => aconv P src dst (ev x)
  | .extract t i => match ev t with | .tup vs => nth vs i | _ => none
  | .fieldAddr s x f => afield P s (ev x) f
  | .indexAddr t x i => aindex P t (ev x) (ev i)
  | .slice t x lo hi none => aslice P t (ev x) (lo.map ev) (hi.map ev)
  | .slice t x lo hi (some mx) => aslice0 P t (ev x) (lo.map ev) (hi.map ev) (ev mx)
  | .nilCheck x => match ev x with | .ptr l o v => some (.ptr l o v) | .rop c o => some (.rop c o) | .rom vs o => some (.rom vs o) | _ => none
  | .build t parts => abuildS P ev t parts.toList
  | .makeFunc (.func f) first caps => match first.toList with | [] => some (.fn f (mapL ev caps.toList)) | _ => none
  | .call { callee := .builtin b, args, argTypes } => abuiltin P b argTypes.toList (mapL ev args.toList)
  | .index t x i => aat P t (ev x) (ev i)
  | _ => none

/-! ## Operations on memory -/

def isAggD : TypeDesc → Bool
  | .struct _ | .array _ _ => true
  | _ => false

/-- One cell. -/
def acell (H : Heap) (x : AVal) (i : Nat) : Option AVal :=
  match x with
  | .rop c off => c.get? (off + i)
  | .rom vs off => nth vs (off + i)
  | .ptr l off ver => match nth H l with
    | some blk => bif ver == blk.ver then blk.c.get? (off + i) else none
    | none => none
  | _ => none
def acells (H : Heap) (x : AVal) : Nat → Nat → Option (List AVal)
  | _, 0 => some []
  | i, n + 1 => match acell H x i with
    | some v => match acells H x (i + 1) n with
      | some r => some (v :: r)
      | none => none
    | none => none
def aload (P : Program) (H : Heap) (t : TypeId) (x : AVal) : Option AVal :=
  match P.underlying t with
  | some d =>
    bif isAggD d then match asz P t with
      | some (n + 1) => match acells H x 0 (n + 1) with | some vs => some (.agg vs) | none => none
      | some 0 => none
      | none => none
    else acell H x 0
  | none => none

def abset (c : BC) (off : Nat) : List AVal → Option BC
  | [] => some c
  | v :: r => match c.set? off v with
    | some c' => abset c' (off + 1) r
    | none => none
def astore (P : Program) (H : Heap) (t : TypeId) (x v : AVal) : Option Heap :=
  match asz P t, x, v.cells? with
  | some sz, .ptr l off ver, some vs => bif hlen vs == sz then
      match nth H l with
      | some blk => bif ver == blk.ver then match abset blk.c off vs with
          | some c' => some (upd H l ⟨c', blk.ver⟩)
          | none => none
        else none
      | none => none
    else none
  | _, _, _ => none

/-- So many zeros of a type of one cell. -/
def azeros (z : Value) (n : Nat) : Option Cont :=
  match z with
  | .int k 0 => some (.ints k (List.replicate n 0))
  | .float k 0 => some (.flts k (List.replicate n 0))
  | .complex k 0 0 => some (.cpxs k (List.replicate n (0, 0)))
  | .bool false => some (.bools (List.replicate n false))
  | .string s => bif decide (s = ByteArray.empty) then some (.strs (List.replicate n ByteArray.empty)) else none
  | .slice none 0 0 => some (.rows .i64 (List.replicate n []))
  | _ => none
def amake (P : Program) (H : Heap) (t : TypeId) (len cap : AVal) : Option (AVal × Heap) :=
  match P.underlying t, len, cap with
  | some (.slice e), .int _ n, .int _ m =>
    match P.info? e with
    | some i => match i.zero with
      | some z => bif i.size == 1 && (decide (0 ≤ n) && (n == m && decide (n * i.bytes ≤ 140737488355328) && decide (n ≤ 4611686018427387904))) then
          match azeros z n.toNat with
          | some c => some (.own (hlen H) 0 n.toNat 0 1, snoc H ⟨.typ c, 0⟩)
          | none => none
        else none
      | none => none
    | none => none
  | _, _, _ => none
def abuild (P : Program) (ev : Operand → AVal) (H : Heap) (t : TypeId) (len : Nat) (parts : List (Nat × Operand)) : Option (AVal × Heap) :=
  match P.underlying t with
  | some (.slice e) =>
    match P.info? e with
    | some i => match i.zero with
      | some z => bif i.size == 1 && decide (len ≤ 1000000) then
          match azeros z len with
          | some c => match fill (.typ c) parts with
            | some c' => some (.own (hlen H) 0 len 0 1, snoc H ⟨c', 0⟩)
            | none => none
          | none => none
        else none
      | none => none
    | none => none
  | _ => none
  where fill (c : BC) : List (Nat × Operand) → Option BC
  | [] => some c
  | (i, x) :: r => match c.set? i (ev x) with
    | some c' => fill c' r
    | none => none
/-- A slice of elements of more cells than one, all of them written out: to be read alone. -/
def abcells (ev : Operand → AVal) (sz : Nat) : Nat → List (Nat × Operand) → Option (List AVal)
  | _, [] => some []
  | i, (j, x) :: r => bif eqN i j then match (ev x).cells? with
      | some vs => bif eqN (hlen vs) sz then match abcells ev sz (i + 1) r with | some us => some (app vs us) | none => none else none
      | none => none
    else none
def abuildC (P : Program) (ev : Operand → AVal) (H : Heap) (t : TypeId) (len : Nat) (parts : List (Nat × Operand)) : Option (AVal × Heap) :=
  match P.underlying t with
  | some (.slice e) =>
    match P.info? e with
    | some i => match i.zero with
      | some _ => bif decide (2 ≤ i.size) && (decide (len * i.size ≤ 1000000) && (eqN (hlen parts) len && decide (2 ≤ len))) then
          match abcells ev i.size 0 parts with
          | some vs => some (.ros vs len i.size, H)
          | none => none
        else none
      | none => none
    | none => none
  | _ => none
def abuildA (P : Program) (ev : Operand → AVal) (H : Heap) (t : TypeId) (len : Nat) (parts : List (Nat × Operand)) : Option (AVal × Heap) :=
  match abuild P ev H t len parts with
  | some r => some r
  | none => abuildC P ev H t len parts
/-- Are they all noughts of bytes? -/
def zu8 : List Value → Option Nat
  | [] => some 0
  | .int .u8 0 :: r => match zu8 r with | some n => some (n + 1) | none => none
  | _ => none
/-- A new variable's cells: a longer array of bytes is a list. -/
def azcells (cs : List Value) : BC :=
  bif longer (mapL ofCell cs) 17 then (match zu8 cs with | some n => .typ (.ints .u8 (List.replicate n 0)) | none => .cells (mapL ofCell cs)) else .cells (mapL ofCell cs)
def aalloc (P : Program) (H : Heap) (e : TypeId) : Option (AVal × Heap) :=
  match P.info? e with
  | some i => match i.zero with
    | some z => some (.ptr (hlen H) 0 0, snoc H ⟨azcells z.cells.toList, 0⟩)
    | none => none
  | none => none
def abox (H : Heap) (v : AVal) : Option (AVal × Heap) :=
  match v.cells? with
  | some vs => some (.ptr (hlen H) 0 0, snoc H ⟨.cells vs, 0⟩)
  | none => none

/-- What a slice reads as. -/
def aread (H : Heap) : AVal → Option Cont
  | .ro c len z => bif z == 1 then some (c.take len) else none
  | .own l off len ver z => match nth H l with
    | some ⟨.typ c, ver'⟩ => bif ver == ver' && z == 1 then some ((c.drop off).take len) else none
    | _ => none
  | _ => none
def aappend (P : Program) (H : Heap) (t : TypeId) (s x : AVal) : Option (AVal × Heap) :=
  match P.underlying t with
  | some (.slice e) =>
    match P.info? e with
    | some i => match i.zero with
      | some z => bif i.size == 1 && z.cells.size == 1 then
          match s, aread H x with
          | .own l off len ver z, some news => match nth H l with
            | some ⟨.typ c, ver'⟩ => bif (ver == ver' && (off == 0 && z == 1)) && (decide (len + news.len ≤ 4611686018427387904) && decide ((len + news.len) * i.bytes ≤ 140737488355328)) then
                match (c.take len).app? news with
                | some c' => some (.own l 0 (len + news.len) (ver + 1) 1, upd H l ⟨.typ c', ver + 1⟩)
                | none => none
              else none
            | _ => none
          | .emp, some news => match x with
            | .ro _ 0 _ => some (.emp, H)
            | .own _ _ 0 _ _ => some (.emp, H)
            | _ => bif decide (0 < news.len) && (decide (news.len ≤ 4611686018427387904) && decide (news.len * i.bytes ≤ 140737488355328)) then
              some (.own (hlen H) 0 news.len 0 1, snoc H ⟨.typ news, 0⟩)
            else none
          | .nils, some news => bif decide (0 < news.len) && (decide (news.len ≤ 4611686018427387904) && decide (news.len * i.bytes ≤ 140737488355328)) then
              some (.own (hlen H) 0 news.len 0 1, snoc H ⟨.typ news, 0⟩)
            else none
          | _, _ => none
        else none
      | none => none
    | none => none
  | _ => none

/-- 'clear' of a slice of integers. -/
def aclear (P : Program) (H : Heap) (t : TypeId) (x : AVal) : Option Heap :=
  match P.underlying t, x with
  | some (.slice e), .own l off len ver z =>
    match P.info? e with
    | some i => match i.zero with
      | some (.int k 0) => match nth H l with
        | some ⟨.typ (.ints k' xs), ver'⟩ => if k = k' then bif (ver == ver' && z == 1) && decide (off + len ≤ xs.length) then
            some (upd H l ⟨.typ (.ints k' (xs.take off ++ (List.replicate len 0 ++ xs.drop (off + len)))), ver'⟩) else none else none
        | _ => none
      | _ => none
    | none => none
  | _, _ => none

/-- The first cells of a slice; what a slice of integers holds when some are copied into it. -/
def AVal.shrink (n : Nat) : AVal → AVal
  | .ro c len z => .ro c (min n len) z
  | .own l off len ver z => .own l off (min n len) ver z
  | v => v
def cpy {α : Type} (xs : List α) (off n : Nat) (ys : List α) : List α := xs.take off ++ (ys ++ xs.drop (off + n))
/-- 'copy' of integers. -/
def acopy (P : Program) (H : Heap) (t : TypeId) (x y : AVal) : Option (AVal × Heap) :=
  match P.underlying t, x with
  | some (.slice e), .own l off len ver z =>
    match P.info? e with
    | some i => match aread H y with
      | some (.ints _ ys0) => match aread H (y.shrink (min ys0.length len)) with
        | some (.ints k ys) => match nth H l with
          | some ⟨.typ (.ints k' xs), ver'⟩ => if k = k' then bif (ver == ver' && (z == 1 && i.size == 1)) && (decide (off + len ≤ xs.length) && decide (ys.length = min ys0.length len)) then
              some (.int .i64 ((min ys0.length len : Nat) : Int), upd H l ⟨.typ (.ints k' (cpy xs off (min ys0.length len) ys)), ver'⟩) else none else none
          | _ => none
        | _ => none
      | some (.bools ys0) => match aread H (y.shrink (min ys0.length len)) with
        | some (.bools ys) => match nth H l with
          | some ⟨.typ (.bools xs), ver'⟩ => bif (ver == ver' && (z == 1 && i.size == 1)) && (decide (off + len ≤ xs.length) && decide (ys.length = min ys0.length len)) then
              some (.int .i64 ((min ys0.length len : Nat) : Int), upd H l ⟨.typ (.bools (cpy xs off (min ys0.length len) ys)), ver'⟩) else none
          | _ => none
        | _ => none
      | _ => none
    | none => none
  | _, _ => none

/-- A text out of bytes, bytes out of a text. -/
def aconvM (P : Program) (H : Heap) (src dst : TypeId) (x : AVal) : Option AVal :=
  match P.underlying src, P.underlying dst with
  | some (.slice e), some .string => match P.underlying e with
    | some (.int .u8) => match aread H x with
      | some (.ints .u8 xs) => some (.str (bys.sv xs))
      | _ => none
    | _ => none
  | some .string, some (.slice e) => match P.underlying e, x with
    | some (.int .u8), .str s => some (.ro (.ints .u8 (sby.sv s)) (sby.sv s).length 1)
    | _, _ => none
  | _, _ => none
/-- An operation on memory. -/
def amem (P : Program) (s : State) : Op → Option (AVal × Heap)
  | .load t x => match aload P s.h t (s.ev x) with | some v => some (v, s.h) | none => none
  | .store t x v => match astore P s.h t (s.ev x) (s.ev v) with | some h => some (.undef, h) | none => none
  | .alloc e => aalloc P s.h e
  | .box _ x => abox s.h (s.ev x)
  | .makeSlice t l c => amake P s.h t (s.ev l) (s.ev c)
  | .convert a b x => match aconvM P s.h a b (s.ev x) with | some v => some (v, s.h) | none => none
  | .slice t x lo none none => match asliceM P s.h t (s.ev x) (match lo with | some a => some (s.ev a) | none => none) with | some v => some (v, s.h) | none => none
  | .buildSlice t n parts => abuildA P s.ev s.h t n parts.toList
  | .call { callee := .builtin .append, args, argTypes } => match mapL s.ev args.toList, argTypes.toList with
    | [x, y], [t, t'] => bif t == t' then aappend P s.h t x y else none
    | _, _ => none
  | .call { callee := .builtin .clear, args, argTypes } => match mapL s.ev args.toList, argTypes.toList with
    | [x], [t] => match aclear P s.h t x with | some h => some (.tup [], h) | none => none
    | _, _ => none
  | .call { callee := .builtin .copy, args, argTypes } => match mapL s.ev args.toList, argTypes.toList with
    | [x, y], [t, _] => acopy P s.h t x y
    | _, _ => none
  | _ => none

/-- What calls come to. -/
abbrev Orc := FuncId → List AVal → Heap → Option (AVal × Heap)

def acall (A : Orc) (s : State) : Op → Option (AVal × Heap)
  | .call { callee := .value f, args, .. } => match s.ev f with
    | .fn f caps => A f (app (mapL s.ev args.toList) caps) s.h
    | _ => none
  | _ => none

def astep (P : Program) (A : Orc) (s : State) (o : Op) : Option (AVal × Heap) :=
  match apure P s.ev o with
  | some v => some (v, s.h)
  | none => match amem P s o with
    | some r => some r
    | none => acall A s o

end Go.Proofs.YtjhofofieiiplaaGreatDoor.Ab
