/-
  A small calculus over the model: abstract data D, an evaluator of the operations of a region over abstract data, and what a state of a walk says. No program in sight.
-/
import Derived.WalkKit
import Derived.WalkLawsBesides
import Derived.WalkSpells
namespace Go.Proofs.Yteliiabopphgmaa.RX

inductive D : Type 1
  | val (v : Value)
  | str (l : List UInt8)
  | own (i off : Nat)
  | agg (ds : List D)
  | tup (ds : List D)
  | recs {α : Type} (dflt : α) (enc : α → List D) (l : List α)
  | el (ds : List D)
  | fn (f : Nat) (caps : List D)
  | row (k : Nat)
  | elm (k : Nat) (i : Int) (size off : Nat)
  | rowc (m : Bool) {α : Type} (dflt : α) (enc : α → List D) (l : List α)
  | tree {α : Type} (d : α) (pre : α → List D) (kids : α → List α) (l : List α)
  | arr {α : Type} (d : α) (enc : α → List D) (l : List α)
  | hole

/-- The cells of a node: what it holds, and the slice of its nodes. -/
def treeEnc {α : Type} (d : α) (pre : α → List D) (kids : α → List α) : α → List D := fun x => pre x ++ [.tree d pre kids (kids x)]
/-- A slice of nodes, opened. -/
def D.opn : D → D
  | .tree d pre kids l => .recs d (treeEnc d pre kids) l
  | d => d

def D.cells : D → List D
  | .agg ds => ds
  | .arr _ enc l => l.flatMap enc
  | d => [d]
def D.flat : D → Bool
  | .agg _ | .tup _ | .rowc _ _ _ _ | .arr _ _ _ => false
  | _ => true
mutual
def D.noOwn : D → Bool
  | .own _ _ => false
  | .row _ => false
  | .elm _ _ _ _ => false
  | .agg ds => D.noOwns ds
  | .tup ds => D.noOwns ds
  | .fn _ ds => D.noOwns ds
  | _ => true
def D.noOwns : List D → Bool
  | [] => true
  | d :: ds => D.noOwn d && D.noOwns ds
end
mutual
def D.names (i : Nat) : D → Bool
  | .own j _ => i == j
  | .row j => i == j
  | .elm j _ _ _ => i == j
  | .agg ds => D.namess i ds
  | .tup ds => D.namess i ds
  | .fn _ ds => D.namess i ds
  | _ => false
def D.namess (i : Nat) : List D → Bool
  | [] => false
  | d :: ds => D.names i d || D.namess i ds
end

/-! ### the leaves that name a box or a row, replaced -/
mutual
def D.sub (s : D → Option D) : D → D
  | .own k off => (s (.own k off)).getD (.own k off)
  | .row k => (s (.row k)).getD (.row k)
  | .elm k i z off => (s (.elm k i z off)).getD (.elm k i z off)
  | .agg ds => .agg (D.subs s ds)
  | .tup ds => .tup (D.subs s ds)
  | .fn f ds => .fn f (D.subs s ds)
  | d => d
def D.subs (s : D → Option D) : List D → List D
  | [] => []
  | d :: ds => D.sub s d :: D.subs s ds
end
/-- Box k with its cells for good. -/
def toEl (k : Nat) (cs : List D) : D → Option D
  | .own j off => if j = k then some (.el (cs.drop off)) else none
  | .row j => if j = k then some .hole else none
  | .elm j _ _ _ => if j = k then some .hole else none
  | _ => none
/-- Box k, an array, as a row. -/
def toElm (k z : Nat) : D → Option D
  | .own j off => if j = k then some (if off = 0 then .elm k 0 z 0 else .hole) else none
  | .row j => if j = k then some .hole else none
  | .elm j _ _ _ => if j = k then some .hole else none
  | _ => none
def rename (k k' : Nat) : D → Option D
  | .own j off => if j = k then some (.own k' off) else none
  | .row j => if j = k then some (.row k') else none
  | .elm j i z off => if j = k then some (.elm k' i z off) else none
  | _ => none

/-- Keys renamed by a list; what it doesn't name reads as fb. -/
def renF (fb : D) (ren : List (Nat × Nat)) : D → Option D
  | .own j off => match ren.lookup j with | some k => some (.own k off) | none => some fb
  | .row j => match ren.lookup j with | some k => some (.row k) | none => some fb
  | .elm j i z off => match ren.lookup j with | some k => some (.elm k i z off) | none => some fb
  | _ => none
/-- What nothing reads as. -/
def never : D := .agg [.rowc false () (fun _ => []) []]

inductive TK where
  | other
  | bool
  | str
  | slice (esize : Nat) (eagg : Bool)
  | int (k : IntKind)
  | struct (fields : List (Nat × Nat × Bool))
  | array (n esize : Nat) (eagg : Bool)
structure TI where
  agg : Bool
  size : Nat
  zero : List Value
  kind : TK
  elt : Nat := 0
  eb : Nat := 0
  ez : List Value := []
  ek : Option IntKind := none
  eqs : List Nat := []

def flatV : Value → Bool
  | .agg _ | .tuple _ => false
  | _ => true

def ofValue : Value → D
  | .string s => .str s.data.toList
  | v => .val v

/-- The cells of a part. -/
def partOf (agg : Bool) (size off : Nat) (ds : List D) : Option D :=
  if agg then (if off + size ≤ ds.length then some (.agg ((ds.drop off).take size)) else none) else ds[off]?

def setCells (ds : List D) (off : Nat) (cs : List D) : List D := ds.take off ++ cs ++ ds.drop (off + cs.length)

def fillParts (place : Nat → Option (Nat × Nat)) : List D → List (Nat × D) → Option (List D)
  | ds, [] => some ds
  | ds, (i, d) :: rest =>
    match place i with
    | none => none
    | some (off, size) => if d.cells.length = size ∧ off + size ≤ ds.length then fillParts place (setCells ds off d.cells) rest else none

/-- What an operation comes to. -/
inductive Out : Type 1
  | val (d : D)
  | box (t : Nat) (cells : List D)
  | store (key off : Nat) (cells : List D)
  | call (f : Nat) (args : List D)
  | row (e : Nat) (m : Bool) (old : Option Nat) (spec : D → Prop)
  | upd (k : Nat) (n : Int) (size off : Nat) (cells : List D)
  | known (spec : D → Prop)
  | arow (t z m : Nat) (d : D)
  | fill (k z m : Nat) (d : D)
  | turn (k z m : Nat) (d : D)

def intBin (op : BinOp) (k : IntKind) (a b : Int) : Option (D × List Bool) :=
  match op with
  | .add => some (.val (.int k (k.wrap (a + b))), [])
  | .sub => some (.val (.int k (k.wrap (a - b))), [])
  | .mul => some (.val (.int k (k.wrap (a * b))), [])
  | .quo => some (.val (.int k (k.wrap (a.tdiv b))), [b != 0])
  | .rem => some (.val (.int k (a.tmod b)), [b != 0])
  | .and => some (.val (.int k (k.wrap (BitVec.ofInt k.bits a &&& BitVec.ofInt k.bits b).toNat)), [])
  | .or => some (.val (.int k (k.wrap (BitVec.ofInt k.bits a ||| BitVec.ofInt k.bits b).toNat)), [])
  | .xor => some (.val (.int k (k.wrap (BitVec.ofInt k.bits a ^^^ BitVec.ofInt k.bits b).toNat)), [])
  | .andNot => some (.val (.int k (k.wrap (BitVec.ofInt k.bits a &&& ~~~ BitVec.ofInt k.bits b).toNat)), [])
  | .eql => some (.val (.bool (a == b)), [])
  | .neq => some (.val (.bool (a != b)), [])
  | .lss => some (.val (.bool (decide (a < b))), [])
  | .leq => some (.val (.bool (decide (a ≤ b))), [])
  | .gtr => some (.val (.bool (decide (a > b))), [])
  | .geq => some (.val (.bool (decide (a ≥ b))), [])
  | _ => none

def strBin (op : BinOp) (a b : List UInt8) : Option (D × List Bool) :=
  match op with
  | .add => some (.str (a ++ b), [decide (((a.length + b.length : Nat) : Int) ≤ 9223372036854775807)])
  | .eql => some (.val (.bool (a == b)), [])
  | .neq => some (.val (.bool (!(a == b))), [])
  | .lss => some (.val (.bool (Op.bytesLess a b)), [])
  | .leq => some (.val (.bool (Op.bytesLess a b || a == b)), [])
  | .gtr => some (.val (.bool (!(Op.bytesLess a b || a == b))), [])
  | .geq => some (.val (.bool (!(Op.bytesLess a b))), [])
  | _ => none

def shiftBin (op : BinOp) (k : IntKind) (a b : Int) : Option (D × List Bool) :=
  match op with
  | .shl => some (.val (.int k (k.wrap (a * 2 ^ (min b.toNat k.bits)))), [decide (0 ≤ b)])
  | .shr => some (.val (.int k (a.fdiv (2 ^ (min b.toNat k.bits)))), [decide (0 ≤ b)])
  | _ => none

def kindEq (a b : IntKind) : Bool := a == b

def binD (op : BinOp) (x y : D) : Option (D × List Bool) :=
  match x, y with
  | .val (.int k a), .val (.int k' b) =>
    match op with
    | .shl | .shr => shiftBin op k a b
    | _ => if k = k' then intBin op k a b else none
  | .str a, .str b => strBin op a b
  | _, _ => none

def unD (op : UnOp) (x : D) : Option D :=
  match op, x with
  | .neg, .val (.int k n) => some (.val (.int k (k.wrap (0 - n))))
  | .xor, .val (.int k n) => some (.val (.int k (k.wrap (BitVec.ofInt k.bits (if k.signed then -1 else k.max) ^^^ BitVec.ofInt k.bits n).toNat)))
  | .not, .val (.bool b) => some (.val (.bool (!b)))
  | _, _ => none

/-- The cells of two structs, told apart cell by cell: integers, bools, strings. -/
def cmpCell : Nat → D → D → Option Bool
  | 0, .val (.int k a), .val (.int k' b) => if k = k' then some (a == b) else none
  | 1, .val (.bool a), .val (.bool b) => some (a == b)
  | 2, .str a, .str b => some (a == b)
  | _, _, _ => none
def cmpCells : List Nat → List D → List D → Option Bool
  | [], [], [] => some true
  | [k], [a], [b] => cmpCell k a b
  | k :: ks, a :: as, b :: bs =>
    match cmpCell k a b, cmpCells ks as bs with
    | some x, some y => some (x && y)
    | _, _ => none
  | _, _, _ => none

def sliceStr (l : List UInt8) (lo hi : Option D) : Option (D × List Bool) :=
  match lo, hi with
  | none, none => some (.str l, [])
  | some (.val (.int _ a)), none => some (.str (l.drop a.toNat), [decide (0 ≤ a ∧ a ≤ (l.length : Int))])
  | none, some (.val (.int _ b)) => some (.str (l.take b.toNat), [decide (0 ≤ b ∧ b ≤ (l.length : Int))])
  | some (.val (.int _ a)), some (.val (.int _ b)) => some (.str ((l.drop a.toNat).take (b.toNat - a.toNat)), [decide (0 ≤ b ∧ b ≤ (l.length : Int)), decide (0 ≤ a ∧ a ≤ b)])
  | _, _ => none

def sliceRecs {α : Type} (d : α) (enc : α → List D) (l : List α) (lo hi : Option D) : Option (D × List Bool) :=
  match lo, hi with
  | none, none => some (.recs d enc l, [])
  | some (.val (.int _ a)), none => some (.recs d enc (l.drop a.toNat), [decide (0 ≤ a ∧ a ≤ (l.length : Int))])
  | none, some (.val (.int _ b)) => some (.recs d enc (l.take b.toNat), [decide (0 ≤ b ∧ b ≤ (l.length : Int))])
  | some (.val (.int _ a)), some (.val (.int _ b)) => some (.recs d enc ((l.drop a.toNat).take (b.toNat - a.toNat)), [decide (0 ≤ b ∧ b ≤ (l.length : Int)), decide (0 ≤ a ∧ a ≤ b)])
  | _, _ => none

def omap (get : Operand → Option D) : Option Operand → Option (Option D)
  | none => some none
  | some x => (get x).map some

def getAll (get : Operand → Option D) : List Operand → Option (List D)
  | [] => some []
  | x :: xs => match get x, getAll get xs with | some d, some ds => some (d :: ds) | _, _ => none
def getParts (get : Operand → Option D) : List (Nat × Operand) → Option (List (Nat × D))
  | [] => some []
  | (i, x) :: xs => match get x, getParts get xs with | some d, some ds => some ((i, d) :: ds) | _, _ => none

abbrev Boxes := List (Nat × Nat × List D)
/-- Frozen rows read as what they hold. -/
def sealS (L : Boxes) : D → Option D
  | .row k => match L.lookup k with | some (_, [.rowc true d enc l]) => some (.recs d enc l) | _ => none
  | _ => none
def D.shut (L : Boxes) (d : D) : D := D.sub (sealS L) d
def D.seals (L : Boxes) (ds : List D) : List D := D.subs (sealS L) ds

/-- The content of a slice, as cells and how many elements. -/
def contentOf (es : Nat) (L : Boxes) : D → Option (List D × Nat)
  | .recs d enc l => if (enc d).length = es then some (l.flatMap enc, l.length) else none
  | .row k => match L.lookup k with | some (_, [.rowc _ d enc l]) => if (enc d).length = es then some (l.flatMap enc, l.length) else none | _ => none
  | .str l => if es = 1 then some (l.map fun b => .val (.int .u8 b.toNat), l.length) else none
  | _ => none
def limit : Nat := 140737488355328
def GoodR : D → Prop
  | .recs d enc _ => 0 < (enc d).length ∧ ∀ x, (enc x).length = (enc d).length ∧ (enc x).all D.flat = true
  | _ => False
/-! ### the same said weaker: a nil slice is an empty one -/
mutual
inductive Weak : D → D → Prop
  | refl (d : D) : Weak d d
  | zero {α : Type} (d : α) (enc : α → List D) : Weak (.val (.slice none 0 0)) (.recs d enc [])
  | agg {ds es : List D} (h : Weaks ds es) : Weak (.agg ds) (.agg es)
  | arr {α : Type} {d : α} {enc : α → List D} {l : List α} {ds : List D} (h : l.flatMap enc = ds) (hg : GoodR (.recs d enc l)) (hn : D.noOwns ds = true) : Weak (.agg ds) (.arr d enc l)
  | tup {ds es : List D} (h : Weaks ds es) : Weak (.tup ds) (.tup es)
  | el {ds es : List D} (h : Weaks ds es) : Weak (.el ds) (.el es)
  | fn {f : Nat} {ds es : List D} (h : Weaks ds es) : Weak (.fn f ds) (.fn f es)
  | zeroT {α : Type} (d : α) (pre : α → List D) (kids : α → List α) : Weak (.val (.slice none 0 0)) (.tree d pre kids [])
  | opn {α : Type} (d : α) (pre : α → List D) (kids : α → List α) (l : List α) : Weak (.tree d pre kids l) (.recs d (treeEnc d pre kids) l)
  | close {α : Type} (d : α) (pre : α → List D) (kids : α → List α) (l : List α) : Weak (.recs d (treeEnc d pre kids) l) (.tree d pre kids l)
inductive Weaks : List D → List D → Prop
  | nil : Weaks [] []
  | cons {d e : D} {ds es : List D} (h : Weak d e) (hs : Weaks ds es) : Weaks (d :: ds) (e :: es)
end
/-- What is owed of a row that the reckoning is told. -/
def MkOb (z : Nat) (cs : List D) (n : Nat) (r : D) : Prop := ∃ (α : Type) (d : α) (enc : α → List D) (l : List α), Weaks cs (l.flatMap enc) ∧ l.length = n ∧ (enc d).length = z ∧ r = .recs d enc l
def MadeOb (cs : List D) (n : Nat) (r : D) : Prop := ∃ (α : Type) (d : α) (enc : α → List D), Weaks cs (enc d) ∧ r = .recs d enc (List.replicate n d)
def AppOb {α : Type} (d : α) (enc : α → List D) (l : List α) (cs : List D) (n : Nat) (r : D) : Prop := ∃ xs, Weaks cs (xs.flatMap enc) ∧ xs.length = n ∧ r = .recs d enc (l ++ xs)
def StrOb (cs : List D) (r : D) : Prop := ∃ s : List UInt8, cs = (s.map fun b => .val (.int .u8 b.toNat)) ∧ r = .str s
def UpdOb {α : Type} (d : α) (enc : α → List D) (l : List α) (n : Int) (off : Nat) (cells : List D) (r : D) : Prop := ∃ x, Weaks (setCells (enc (l[n.toNat]?.getD d)) off cells) (enc x) ∧ r = .recs d enc (l.set n.toNat x)
/-- What is owed of a comparison of two arrays. -/
def EqOb (ks : List Nat) (neg : Bool) (as bs : List D) (r : D) : Prop := ∃ b, cmpCells ks as bs = some b ∧ r = .val (.bool (xor neg b))
def sameRow (k : Nat) : D → Bool
  | .row k' => k' == k
  | _ => false
def appSpec (es el : Nat) (L : Boxes) (s x : D) : Option (Option Nat × Bool × Nat × (D → Prop)) :=
  match s, contentOf es L x with
  | .row k, some (cs, n) =>
    match sameRow k x, L.lookup k with
    | false, some (tt, [.rowc m d enc l]) => if (enc d).length = es ∧ tt = el then some (some k, m, l.length + n, AppOb d enc l cs n) else none
    | _, _ => none
  | .val (.slice none 0 0), some (cs, n) => some (none, false, n, MkOb es cs n)
  | _, _ => none

def evCall (Γ : Nat → Option TI) (L : Boxes) (get : Operand → Option D) (c : Call) : Option (Out × List Bool) :=
  match c.callee, getAll get c.args.toList with
  | .value (.func f), some ds => some (.call f (D.seals L ds), [])
  | .value x, some ds => match get x with | some (.fn f caps) => some (.call f (D.seals L (ds ++ caps)), []) | _ => none
  | .builtin .append, some [s, x] =>
    match c.argTypes.toList with
    | [t, t'] => (Γ t).bind fun ti => (Γ t').bind fun ti' => match ti.kind, ti'.kind with
      | .slice es _, .slice _ _ => if t = t' ∧ ti.ez.length = es ∧ 0 < es then (appSpec es ti.elt L s x).map fun r => (.row ti.elt r.2.1 r.1 r.2.2.2, [decide (r.2.2.1 * (ti.eb + 1) ≤ limit)]) else none
      | .slice es _, .str => if ti.ez.length = es ∧ 0 < es then (appSpec es ti.elt L s x).map fun r => (.row ti.elt r.2.1 r.1 r.2.2.2, [decide (r.2.2.1 * (ti.eb + 1) ≤ limit)]) else none
      | _, _ => none
    | _ => none
  | .builtin .len, some [.row k] => match c.argTypes.toList with | [t] => (Γ t).bind fun ti => (match ti.kind, L.lookup k with | .slice _ _, some (_, [.rowc _ _ _ l]) => some (.val (.val (.int .i64 l.length)), []) | _, _ => none) | _ => none
  | .builtin .len, some [.str l] => match c.argTypes.toList with | [t] => (Γ t).bind fun ti => (match ti.kind with | .str => some (.val (.val (.int .i64 l.length)), []) | _ => none) | _ => none
  | .builtin .len, some [.recs _ _ l] => match c.argTypes.toList with | [t] => (Γ t).bind fun ti => (match ti.kind with | .slice _ _ => some (.val (.val (.int .i64 l.length)), []) | _ => none) | _ => none
  | .builtin .min, some [.val (.int k a), .val (.int _ b)] => some (.val (.val (.int k (if b < a then b else a))), [])
  | .builtin .max, some [.val (.int k a), .val (.int _ b)] => some (.val (.val (.int k (if b > a then b else a))), [])
  | _, _ => none

def evOp0 (Γ : Nat → Option TI) (L : Boxes) (get : Operand → Option D) (dst : Option Nat) (op : Op) : Option (Out × List Bool) :=
  match op with
  | .move x | .assign x => (get x).map fun d => (.val d, [])
  | .alloc t => (Γ t).map fun ti => (.box t (ti.zero.map ofValue), [])
  | .box t x =>
    match Γ t, get x with
    | some ti, some (.arr d enc l) => match ti.kind with | .array m es _ => some (.arow t es m (.arr d enc l), []) | _ => none
    | some ti, some d => if d.cells.length = ti.size then some (.box t d.cells, []) else none
    | _, _ => none
  | .build t parts =>
    match Γ t, getParts get parts.toList with
    | some ti, some ps =>
      match ti.kind with
      | .struct fs => (fillParts (fun i => (fs[i]?).map fun f => (f.1, f.2.1)) (ti.zero.map ofValue) ps).map fun ds => (.val (.agg ds), [])
      | .array _ es _ => (fillParts (fun i => some (i * es, es)) (ti.zero.map ofValue) ps).map fun ds => (.val (.agg ds), [])
      | _ => none
    | _, _ => none
  | .load t x =>
    match Γ t, get x with
    | some ti, some (.own k off) => match L.lookup k with | some (_, ds) => (partOf ti.agg ti.size off ds).map fun d => (.val d, []) | none => none
    | some ti, some (.el ds) => (partOf ti.agg ti.size 0 ds).map fun d => (.val d, [])
    | some ti, some (.elm k n z off) =>
      match ti.kind, L.lookup k with
      | .array m es _, some (_, [.rowc _ d enc l]) => if (enc d).length = es ∧ z = es ∧ n = 0 ∧ off = 0 ∧ ti.size = m * es ∧ ti.agg = true then some (.val (.arr d enc l), [decide (l.length = m)]) else none
      | _, some (_, [.rowc _ d enc l]) => if (enc d).length = z then (partOf ti.agg ti.size off (enc (l[n.toNat]?.getD d))).map fun r => (.val r, [decide (0 ≤ n ∧ n < (l.length : Int))]) else none
      | _, _ => none
    | _, _ => none
  | .store t x y =>
    match Γ t, get x, get y with
    | some ti, some (.elm k n z off), some d =>
      match ti.kind, L.lookup k with
      | .array m es _, _ => if z = es ∧ n = 0 ∧ off = 0 ∧ ti.size = m * es ∧ d.noOwn = true then some (.fill k es m d, []) else none
      | _, some (_, [.rowc false _ _ l]) => if d.cells.length = ti.size ∧ off + ti.size ≤ z then some (.upd k n z off (D.seals L d.cells), [decide (0 ≤ n ∧ n < (l.length : Int))]) else none
      | _, _ => none
    | some ti, some (.own k off), some (.arr d enc l) =>
      match ti.kind, L.lookup k with
      | .array m es _, some (_, ds) => if off = 0 ∧ ds.length = m * es ∧ ti.size = m * es then some (.turn k es m (.arr d enc l), []) else none
      | _, _ => none
    | some ti, some (.own k off), some d =>
      match L.lookup k with
      | some (_, ds) => if d.cells.length = ti.size ∧ off + ti.size ≤ ds.length then some (.store k off d.cells, []) else none
      | none => none
    | _, _, _ => none
  | .nilCheck x => match get x with | some (.own k off) => some (.val (.own k off), []) | some (.el ds) => some (.val (.el ds), []) | some (.fn f c) => some (.val (.fn f c), []) | some (.elm k n z off) => some (.val (.elm k n z off), []) | _ => none
  | .binOp op t x y _ =>
    match get x, get y with
    | some (.agg a), some (.agg b) =>
      match Γ t, op with
      | some ti, .eql => if ti.eqs = [] then none else (cmpCells ti.eqs a b).map fun r => (.val (.val (.bool r)), [])
      | some ti, .neq => if ti.eqs = [] then none else (cmpCells ti.eqs a b).map fun r => (.val (.val (.bool (!r))), [])
      | _, _ => none
    | some (.arr d enc l), some (.arr d' enc' l') =>
      match Γ t, op with
      | some ti, .eql => if ti.eqs = [] then none else some (.known (EqOb ti.eqs false (l.flatMap enc) (l'.flatMap enc')), [])
      | some ti, .neq => if ti.eqs = [] then none else some (.known (EqOb ti.eqs true (l.flatMap enc) (l'.flatMap enc')), [])
      | _, _ => none
    | some (.val (.bool a)), some (.val (.bool b)) =>
      match Γ t with
      | some ti => match ti.kind, op with
        | .bool, .eql => some (.val (.val (.bool (a == b))), [])
        | .bool, .neq => some (.val (.val (.bool (!(a == b)))), [])
        | _, _ => none
      | none => none
    | some a, some b => (binD op a b).map fun r => (.val r.1, r.2)
    | _, _ => none
  | .unOp op _ x => match get x with | some d => (unD op d).map fun r => (.val r, []) | none => none
  | .convert s t x =>
    match Γ s, Γ t, get x with
    | some si, some ti, some (.val (.int _ n)) => match si.kind, ti.kind with | .int _, .int k => some (.val (.val (.int k (k.wrap n))), []) | _, _ => none
    | some si, some ti, some (.str l) => match si.kind, ti.kind with
      | .str, .str => some (.val (.str l), [])
      | .str, .slice 1 _ => if ti.ek = some .u8 ∧ ti.ez.length = 1 then some (.row ti.elt false none (MkOb 1 (l.map fun b => .val (.int .u8 b.toNat)) l.length), [decide (l.length ≤ limit)]) else none
      | _, _ => none
    | some si, some ti, some (.val (.slice none 0 0)) => match si.kind, ti.kind with | .slice _ _, .str => if si.ek = some .u8 then some (.val (.str []), []) else none | _, _ => none
    | some si, some ti, some d => match si.kind, ti.kind with
      | .slice 1 _, .str => if si.ek = some .u8 then (contentOf 1 L d).map fun c => (.known (StrOb c.1), []) else none
      | _, _ => none
    | _, _, _ => none
  | .buildSlice t len parts =>
    match Γ t, getParts get parts.toList with
    | some ti, some ps =>
      match ti.kind with
      | .slice es _ =>
        match fillParts (fun i => some (i * es, es)) ((List.replicate len (ti.ez.map ofValue)).flatten) (ps.map fun x => (x.1, x.2.shut L)) with
        | some cs => if D.noOwns cs ∧ len * es ≤ 16777216 ∧ 0 < es ∧ ti.ez.length = es then some (.row ti.elt false none (MkOb es cs len), []) else none
        | none => none
      | _ => none
    | _, _ => none
  | .makeSlice t n c =>
    match Γ t, get n, get c with
    | some ti, some (.val (.int _ n)), some (.val (.int _ c)) =>
      match ti.kind with
      | .slice es _ => if 0 < es ∧ ti.ez.length = es then some (.row ti.elt false none (MadeOb (ti.ez.map ofValue) n.toNat), [decide (0 ≤ n ∧ n ≤ c), decide (c * (ti.eb + 1 : Nat) ≤ (limit : Int))]) else none
      | _ => none
    | _, _, _ => none
  | .slice t x lo hi none =>
    match Γ t, get x, omap get lo, omap get hi with
    | some ti, some (.str l), some lo, some hi => match ti.kind with | .str => (sliceStr l lo hi).map fun r => (.val r.1, r.2) | _ => none
    | some ti, some (.recs d enc l), some lo, some hi => match ti.kind with | .slice es _ => if (enc d).length = es then (sliceRecs d enc l lo hi).map fun r => (.val r.1, r.2) else none | _ => none
    | some ti, some (.elm k n z off), some lo, some hi =>
      match ti.kind, L.lookup k with
      | .array m es _, some (_, [.rowc true d enc l]) => if (enc d).length = es ∧ z = es ∧ n = 0 ∧ off = 0 then (sliceRecs d enc l lo hi).map fun r => (.val r.1, decide (l.length = m) :: r.2) else none
      | _, _ => none
    | some ti, some (.row k), some lo, some hi =>
      match ti.kind, L.lookup k with
      | .slice es _, some (_, [.rowc true d enc l]) => if (enc d).length = es then (sliceRecs d enc l lo hi).map fun r => (.val r.1, r.2) else none
      | _, _ => none
    | _, _, _, _ => none
  | .fieldAddr t x f =>
    match Γ t, get x with
    | some ti, some (.own k off) => match ti.kind with | .struct fs => (fs[f]?).bind fun g => if g.2.1 = 0 then none else some (.val (.own k (off + g.1)), []) | _ => none
    | some ti, some (.el ds) => match ti.kind with | .struct fs => (fs[f]?).bind fun g => if g.2.1 = 0 then none else some (.val (.el (ds.drop g.1)), []) | _ => none
    | some ti, some (.elm k n z off) => match ti.kind with | .struct fs => (fs[f]?).bind fun g => if g.2.1 = 0 then none else some (.val (.elm k n z (off + g.1)), []) | _ => none
    | _, _ => none
  | .field t x f =>
    match Γ t, get x with
    | some ti, some (.agg ds) => match ti.kind with | .struct fs => (fs[f]?).bind fun g => (partOf g.2.2 g.2.1 g.1 ds).map fun d => (.val d, []) | _ => none
    | _, _ => none
  | .indexAddr t x i =>
    match Γ t, get x, get i with
    | some ti, some (.recs d enc l), some (.val (.int _ n)) =>
      match ti.kind with
      | .slice es _ => if (enc d).length = es then some (.val (.el (enc (l[n.toNat]?.getD d))), [decide (0 ≤ n ∧ n < (l.length : Int))]) else none
      | _ => none
    | some ti, some (.row k), some (.val (.int _ n)) =>
      match ti.kind, L.lookup k with
      | .slice es _, some (_, [.rowc _ d enc l]) => if (enc d).length = es then some (.val (.elm k n es 0), [decide (0 ≤ n ∧ n < (l.length : Int))]) else none
      | _, _ => none
    | some ti, some (.elm k n0 z off), some (.val (.int _ n)) =>
      match ti.kind with
      | .array m es _ => if n0 = 0 ∧ off = 0 ∧ z = es then some (.val (.elm k n es 0), [decide (0 ≤ n ∧ n < (m : Int))]) else none
      | _ => none
    | some ti, some (.own k off), some (.val (.int _ n)) =>
      match ti.kind with
      | .array m es _ => if 2 ≤ m then some (.val (.own k (off + n.toNat * es)), [decide (0 ≤ n ∧ n < (m : Int))]) else none
      | _ => none
    | _, _, _ => none
  | .index t x i =>
    match Γ t, get x, get i with
    | some ti, some (.str l), some (.val (.int _ n)) => match ti.kind with | .str => some (.val (.val (.int .u8 (l[n.toNat]?.getD 0).toNat)), [decide (0 ≤ n ∧ n < (l.length : Int))]) | _ => none
    | some ti, some (.arr d enc l), some (.val (.int _ n)) =>
      match ti.kind with
      | .array m es ea => if (enc d).length = es then (partOf ea es 0 (enc (l[n.toNat]?.getD d))).map fun r => (.val r, [decide (0 ≤ n ∧ n < (m : Int)), decide (l.length = m)]) else none
      | _ => none
    | some ti, some (.agg ds), some (.val (.int _ n)) =>
      match ti.kind with
      | .array m es ea => (partOf ea es (n.toNat * es) ds).map fun d => (.val d, [decide (0 ≤ n ∧ n < (m : Int))])
      | _ => none
    | _, _, _ => none
  | .makeFunc (.func f) first captured => if first.toList.isEmpty then (getAll get captured.toList).map fun ds => (.val (.fn f ds), []) else none
  | .extract x i => match get x with | some (.tup ds) => (ds[i]?).map fun d => (.val d, []) | _ => none
  | .call c => evCall Γ L get c
  | _ => none

def evOp (Γ : Nat → Option TI) (L : Boxes) (get : Operand → Option D) (dst : Option Nat) (op : Op) : Option (Out × List Bool) := evOp0 Γ L (fun x => (get x).map D.opn) dst op

abbrev Cnd := List (Nat × Bool)
structure Ent where
  slot : Nat
  src : Nat
  cnd : Cnd
  d : D

def tv (tab : List (Nat × Bool)) (j : Nat) : Bool := (tab.lookup j).getD false
def holds (tab : List (Nat × Bool)) : Cnd → Bool
  | [] => true
  | [x] => tv tab x.1 == x.2
  | x :: c => (tv tab x.1 == x.2) && holds tab c
def Cnd.le (c c' : Cnd) : Bool := c.all fun x => c'.any fun y => x.1 == y.1 && x.2 == y.2

structure ES where
  K : List Ent
  L : Boxes
  tab : List (Nat × Bool)
  obl : List Prop

def findSlot (K : List Ent) (t : Nat) : Option Ent := K.find? fun e => e.slot == t
def getOp (K : List Ent) (g : Cnd) : Operand → Option D
  | .tmp t => match findSlot K t with | some e => if e.cnd.le g then some e.d else none | none => none
  | .const v => if flatV v then some (ofValue v) else none
  | .global _ => none
  | .func f => some (.fn f [])

def guardCnd (ops : List Oper) (K : List Ent) : Option (Nat × Bool) → Option Cnd
  | none => some []
  | some (j, want) =>
    match (ops[j]?).bind (·.dst) with
    | none => none
    | some t =>
      match findSlot K t with
      | none => none
      | some e => if e.src = j + 1 then (match e.d with | .val (.bool _) => some ((j, want) :: e.cnd) | _ => none) else none

def withOb (tab : List (Nat × Bool)) (g : Cnd) (b : Bool) : Bool := match g with | [] => b | _ => !(holds tab g) || b
def addTab (i : Nat) (d : D) (tab : List (Nat × Bool)) : List (Nat × Bool) := match d with | .val (.bool b) => (i, b) :: tab | _ => tab
def putEnt (e : Ent) (K : List Ent) : List Ent := e :: K.filter fun x => !(x.slot == e.slot)
def putBox (k t : Nat) (cs : List D) (L : Boxes) : Boxes := (k, t, cs) :: L.filter fun x => !(x.1 == k)
def subK (s : D → Option D) (K : List Ent) : List Ent := K.map fun e => { e with d := e.d.sub s }
def subL (s : D → Option D) (L : Boxes) : Boxes := L.map fun x => (x.1, x.2.1, D.subs s x.2.2)
def dropKey (L : Boxes) : Option Nat → Boxes
  | none => L
  | some k => L.filter fun x => !(x.1 == k)
def setRow (k t : Nat) (r : D) (L : Boxes) : Boxes := (k, t, [r]) :: L.filter fun x => !(x.1 == k)
def storeBox (k off : Nat) (cs : List D) (L : Boxes) : Boxes := L.map fun x => if x.1 = k then (x.1, x.2.1, setCells x.2.2 off cs) else x

def isRowc : List D → Bool
  | [.rowc _ _ _ _] => true
  | _ => false
/-- A call to which boxes and rows are handed: the callee's contract in its own keys, and how its keys are named here, ahead of it and behind it. -/
structure CBd where
  ren : List (Nat × Nat)
  ren2 : List (Nat × Nat)
  ds : List D
  Lin : Boxes
  r : D
  Lout : Boxes
def renL2 (ren : List (Nat × Nat)) (L : Boxes) : Boxes := L.filterMap fun x => (ren.lookup x.1).map fun k => (k, x.2.1, D.subs (renF .hole ren) x.2.2)
def nodupB : List Nat → Bool
  | [] => true
  | x :: l => !(l.contains x) && nodupB l
def handed (c : CBd) : List Nat := c.Lin.filterMap fun x => c.ren.lookup x.1
/-- A box or row of ours that was handed over and is the same one behind the call. -/
def sameB (c : CBd) (p : Nat × Nat) : Bool := c.ren.lookup p.1 == some p.2 && (c.Lin.map (·.1)).contains p.1
/-- The keys that stand for something new behind the call. -/
def newKeys (c : CBd) : List Nat := (c.ren2.filter fun p => !(sameB c p)).map (·.2)
def cbOK (c : CBd) : Bool :=
  (c.Lin.all fun x => decide (1000000 ≤ x.1)) && nodupB (c.ren.map (·.2)) && nodupB (c.ren2.map (·.2)) && nodupB (c.ren2.map (·.1)) && c.ren2.all fun p => decide (p.2 < 1000000) || sameB c p
def found (c : CBd) (L : Boxes) : List (Option (Nat × List D)) := c.Lin.map fun x => (c.ren.lookup x.1).bind fun k => L.lookup k
def CbOb (CB : Nat → List D → Boxes → D → Boxes → Prop) (f : Nat) (args : List D) (fd : List (Option (Nat × List D))) (c : CBd) : Prop :=
  CB f c.ds c.Lin c.r c.Lout ∧ args = D.subs (renF never c.ren) c.ds ∧ fd = c.Lin.map fun x => some (x.2.1, D.subs (renF never c.ren) x.2.2)

section
variable (C : Nat → List D → D → Prop) (CB : Nat → List D → Boxes → D → Boxes → Prop) (Γ : Nat → Option TI) (nt : Nat) (orc : List (Nat × D)) (orb : List (Nat × CBd)) (ops : List Oper)

def stepPick (i : Nat) (g : Cnd) (dst : Option Nat) (c a b : Operand) (s : ES) : Option ES :=
  match dst, c with
  | some t, .tmp tc =>
    match findSlot s.K tc with
    | some e =>
      if e.cnd.le g ∧ e.src ≠ 0 ∧ t < nt then
        match e.d, getOp s.K ((e.src - 1, true) :: g) a, getOp s.K ((e.src - 1, false) :: g) b with
        | .val (.bool bc), some (.val (.bool ba)), some (.val (.bool bb)) =>
          some { s with K := putEnt ⟨t, i + 1, g, .val (.bool (bif bc then ba else bb))⟩ s.K, tab := (i, bif bc then ba else bb) :: s.tab }
        | _, _, _ => none
      else none
    | none => none
  | _, _ => none

def stepOut (i : Nat) (g : Cnd) (dst : Option Nat) (s : ES) : Out × List Bool → Option ES
  | (.val d, cs) =>
    match dst with
    | some t => if t < nt then some { s with K := putEnt ⟨t, i + 1, g, d⟩ s.K, tab := addTab i d s.tab, obl := s.obl ++ cs.map fun c => withOb s.tab g c = true } else none
    | none => none
  | (.call f args, cs) =>
    match orb.lookup i with
    | some c =>
      match g with
      | [] =>
        if cs.isEmpty ∧ cbOK c then
          let K' := s.K.filter fun e => (newKeys c).all fun k => !(D.names k e.d)
          let L' := renL2 c.ren2 c.Lout ++ s.L.filter fun x => !((handed c).contains x.1) && (newKeys c).all fun k => !(x.1 == k) && !(D.namess k x.2.2)
          match dst with
          | some t => if t < nt then some { s with K := putEnt ⟨t, i + 1, [], c.r.sub (renF .hole c.ren2)⟩ K', L := L', tab := addTab i (c.r.sub (renF .hole c.ren2)) s.tab, obl := s.obl ++ [CbOb CB f args (found c s.L) c] } else none
          | none => some { s with K := K', L := L', obl := s.obl ++ [CbOb CB f args (found c s.L) c] }
        else none
      | _ => none
    | none =>
    match orc.lookup i, dst with
    | some r, some t => if t < nt ∧ D.noOwns args ∧ D.noOwn r ∧ cs.isEmpty then some { s with K := putEnt ⟨t, i + 1, g, r⟩ s.K, tab := addTab i r s.tab, obl := s.obl ++ [holds s.tab g = true → C f args r] } else none
    | some r, none => if D.noOwns args ∧ cs.isEmpty then some { s with obl := s.obl ++ [holds s.tab g = true → C f args r] } else none
    | none, _ => none
  | (.box ty cells, cs) =>
    match g, dst with
    | [], some t =>
      if t < nt ∧ t < 1000000 ∧ cells.all D.flat ∧ !D.namess t cells ∧ cs.isEmpty then
        some { s with K := putEnt ⟨t, i + 1, [], .own t 0⟩ (s.K.filter fun x => !D.names t x.d), L := putBox t ty cells (s.L.filter fun x => !D.namess t x.2.2) }
      else none
    | _, _ => none
  | (.store k off cells, cs) =>
    match g, dst with
    | [], none => if cells.all D.flat ∧ cs.isEmpty then some { s with L := storeBox k off cells s.L } else none
    | _, _ => none
  | (.row ty m old spec, cs) =>
    match g, dst, orc.lookup i, old with
    | _ :: _, some t, some (.recs d enc l), none =>
      if t < nt ∧ t < 1000000 then
        some { s with K := putEnt ⟨t, i + 1, g, .recs d enc l⟩ (s.K.filter fun x => !D.names t x.d), L := (s.L.filter fun x => !D.namess t x.2.2).filter fun x => !(x.1 == t),
                      obl := s.obl ++ (cs.map fun c => withOb s.tab g c = true) ++ [holds s.tab g = true → spec (.recs d enc l) ∧ GoodR (.recs d enc l)] }
      else none
    | [], some t, some (.recs d enc l), _ =>
      if t < nt ∧ t < 1000000 then
        some { s with K := putEnt ⟨t, i + 1, [], .row t⟩ (s.K.filter fun x => !D.names t x.d), L := putBox t ty [.rowc m d enc l] ((dropKey s.L old).filter fun x => !D.namess t x.2.2),
                      obl := s.obl ++ (cs.map fun c => withOb s.tab [] c = true) ++ [spec (.recs d enc l) ∧ GoodR (.recs d enc l)] }
      else none
    | _, _, _, _ => none
  | (.upd k n z off cells, cs) =>
    match g, dst, orc.lookup i, s.L.lookup k with
    | [], none, some (.recs d' enc' l'), some (t, [.rowc false d enc l]) =>
      if cells.all D.flat ∧ D.noOwns cells ∧ z = (enc d).length then
        some { s with L := setRow k t (.rowc false d' enc' l') s.L, obl := s.obl ++ (cs.map fun c => withOb s.tab [] c = true) ++ [UpdOb d enc l n off cells (.recs d' enc' l')] }
      else none
    | _, _, _, _ => none
  | (.arow ty z m d, cs) =>
    match g, dst, orc.lookup i with
    | [], some t, some (.recs d' enc l) =>
      if t < nt ∧ t < 1000000 ∧ m ≤ 1000000 ∧ cs.isEmpty then
        some { s with K := putEnt ⟨t, i + 1, [], .elm t 0 z 0⟩ (s.K.filter fun x => !D.names t x.d), L := putBox t ty [.rowc false d' enc l] (s.L.filter fun x => !D.namess t x.2.2), obl := s.obl ++ [MkOb z d.cells m (.recs d' enc l) ∧ GoodR (.recs d' enc l)] }
      else none
    | _, _, _ => none
  | (.fill k z m d, cs) =>
    match g, dst, orc.lookup i, s.L.lookup k with
    | [], none, some (.recs d' enc' l'), some (t, [.rowc false d0 enc l]) =>
      if cs.isEmpty ∧ (enc d0).length = z ∧ 0 < m then
        some { s with L := setRow k t (.rowc false d' enc' l') s.L, obl := s.obl ++ [decide (l.length = m) = true, MkOb z d.cells m (.recs d' enc' l') ∧ GoodR (.recs d' enc' l')] }
      else none
    | _, _, _, _ => none
  | (.turn k z m d, cs) =>
    match g, dst, orc.lookup i, s.L.lookup k with
    | [], none, some (.recs d' enc' l'), some (t, ds) =>
      if cs.isEmpty ∧ k < 1000000 ∧ m ≤ 1000000 then
        some { s with K := subK (toElm k z) s.K, L := setRow k t (.rowc false d' enc' l') (subL (toElm k z) (s.L.filter fun x => !(x.1 == k))), obl := s.obl ++ [MkOb z d.cells m (.recs d' enc' l') ∧ GoodR (.recs d' enc' l')] }
      else none
    | _, _, _, _ => none
  | (.known spec, cs) =>
    match dst, orc.lookup i with
    | some t, some r => if t < nt ∧ cs.isEmpty then some { s with K := putEnt ⟨t, i + 1, g, r⟩ s.K, tab := addTab i r s.tab, obl := s.obl ++ [holds s.tab g = true → spec r] } else none
    | _, _ => none

/-- Row k, or box k, is to stay as it is from now on. -/
def settle (s : ES) (k : Nat) : ES :=
  match s.L.lookup k with
  | some (t, [.rowc _ d enc l]) => { s with L := setRow k t (.rowc true d enc l) s.L }
  | some (_, ds) =>
    if D.noOwns (D.seals s.L ds) then { s with K := subK (toEl k (D.seals s.L ds)) s.K, L := subL (toEl k (D.seals s.L ds)) (s.L.filter fun x => !(x.1 == k)) } else s
  | none => s

def stepOp (i : Nat) (o : Oper) (s : ES) : Option ES :=
  match guardCnd ops s.K o.guard with
  | none => none
  | some g =>
    match o.op with
    | .pick c a b => stepPick nt i g o.dst c a b s
    | op => (evOp Γ s.L (getOp s.K g) o.dst op).bind (stepOut C CB nt orc orb i g o.dst s)

def settles (fz : List (Nat × List Nat)) (i : Nat) (s : ES) : ES := match fz.lookup i with | some ks => ks.foldl settle s | none => s
def evOps (fz : List (Nat × List Nat)) : List Oper → Nat → ES → Option ES
  | [], i, s => some (settles fz i s)
  | o :: rest, i, s =>
    match stepOp C CB Γ nt orc orb ops i o (settles fz i s) with
    | some s' => evOps fz rest (i + 1) s'
    | none => none

def keepK (K : List Ent) : List Nat → Option (List (Nat × D))
  | [] => some []
  | t :: ts =>
    match findSlot K t, keepK K ts with
    | some e, some r => if e.cnd.isEmpty then some ((t, e.d) :: r) else none
    | _, _ => none
def keepL (L : Boxes) : List Nat → Option Boxes
  | [] => some []
  | k :: ks =>
    match L.lookup k, keepL L ks with
    | some x, some r => some ((k, x) :: r)
    | _, _ => none

def startES (K : List (Nat × D)) (L : Boxes) : ES := { K := K.map fun x => ⟨x.1, 0, [], x.2⟩, L := L, tab := [], obl := [] }

/-- A region: what is known behind it of the slots and boxes to be kept, and what is owed. -/
def evRegion (fz : List (Nat × List Nat)) (K : List (Nat × D)) (L : Boxes) (kk kl : List Nat) : Option (List (Nat × D) × Boxes × List Prop) :=
  match evOps C CB Γ nt orc orb ops fz ops 0 (startES K L) with
  | some s => match keepK s.K kk, keepL s.L kl with | some K', some L' => some (K', L', s.obl) | _, _ => none
  | none => none
end

/-! ### a region whose order is open -/

def onL (o : Oper) : List Nat := o.after.toList.filterMap fun e => if Region.binds .any e then some e.on else none
def okFor (ops : List Oper) (i : Nat) (on : List Nat) (e : Ent) : Bool :=
  if e.src = 0 then ops.zipIdx.all fun x => x.2 == i || !(x.1.dst == some e.slot) || (onL x.1).contains i
  else on.contains (e.src - 1)

/-- The one append of such a region: where, the row that it takes, the new one, its type and content. -/
structure NRow where
  i : Nat
  old : Option Nat
  t : Nat
  e : Nat
  r : D
structure DS where
  K : List Ent
  tab : List (Nat × Bool)
  obl : List Prop
  A : List (Nat × Nat × Nat × List D)
  T : List (Nat × Nat × Nat × List D)
  R : List (Nat × Nat)
  N : Option NRow
  Q : List (Nat × Nat)

def applyT (k : Nat) (c : List D) : List (Nat × Nat × Nat × List D) → List D
  | [] => c
  | s :: T => if s.2.1 = k then setCells (applyT k c T) s.2.2.1 s.2.2.2 else applyT k c T
def taken (N : Option NRow) (k : Nat) : Bool := match N with | some n => n.old == some k | none => false
def viewB (L0 : Boxes) (s : DS) : Boxes := ((L0.filter fun x => !(isRowc x.2.2)) ++ s.A.map fun x => (x.2.1, x.2.2.1, x.2.2.2)).map fun x => (x.1, x.2.1, applyT x.1 x.2.2 s.T)
def viewR (L0 : Boxes) (s : DS) (ks an : List Nat) : Boxes :=
  (L0.filter fun x => isRowc x.2.2 && !(taken s.N x.1) && ks.contains x.1) ++ (match s.N with | some n => if ks.contains n.t && an.contains n.i then [(n.t, n.e, [n.r])] else [] | none => [])
/-- What operation i may read: the boxes, and of the rows those that it names. -/
def viewAt (L0 : Boxes) (s : DS) (ks an : List Nat) : Boxes := viewB L0 s ++ viewR L0 s ks an
def viewD (L0 : Boxes) (s : DS) : Boxes := viewB L0 s ++ ((L0.filter fun x => isRowc x.2.2 && !(taken s.N x.1)) ++ (match s.N with | some n => [(n.t, n.e, [n.r])] | none => []))
mutual
def D.rows : D → List Nat
  | .row k => [k]
  | .elm k _ _ _ => [k]
  | .agg ds => D.rowss ds
  | .tup ds => D.rowss ds
  | .fn _ ds => D.rowss ds
  | _ => []
def D.rowss : List D → List Nat
  | [] => []
  | d :: ds => D.rows d ++ D.rowss ds
end
/-- The rows whose content an operation may read. -/
def keysOf (get : Operand → Option D) : Op → List Nat
  | .move _ | .assign _ | .nilCheck _ | .extract _ _ => []
  | op => (op.operands.toList.filterMap get).flatMap D.rows
/-- What must have been done ahead of operation i. -/
def ancL (ops : List Oper) (i : Nat) : List Nat :=
  (List.range i).reverse.foldl (fun acc j => if (i :: acc).any fun m => (match ops[m]? with | some o => (onL o).contains j | none => false) then j :: acc else acc) []

/-- The box that a load or a store is about. -/
def boxOf (get : Operand → Option D) : Op → Option Nat
  | .load _ x => match get x with | some (.own k _) => some k | _ => none
  | .store _ x _ => match get x with | some (.own k _) => some k | _ => none
  | _ => none
def boxOK (on : List Nat) (s : DS) : Option Nat → Bool
  | none => true
  | some k => s.T.all fun x => !(x.2.1 == k) || on.contains x.1

section
variable (C : Nat → List D → D → Prop) (Γ : Nat → Option TI) (nt : Nat) (orc : List (Nat × D)) (ops : List Oper) (L0 : Boxes)

def outD (i : Nat) (g : Cnd) (on an : List Nat) (bx : Option Nat) (dst : Option Nat) (s : DS) : Out × List Bool → Option DS
  | (.val d, cs) =>
    match dst with
    | some t => if t < nt then some { s with K := ⟨t, i + 1, g, d⟩ :: s.K, tab := addTab i d s.tab, obl := s.obl ++ cs.map (fun c => withOb s.tab g c = true), R := match bx with | some k => (i, k) :: s.R | none => s.R } else none
    | none => none
  | (.call f args, cs) =>
    match orc.lookup i, dst with
    | some r, some t => if t < nt ∧ D.noOwns args ∧ D.noOwn r ∧ cs.isEmpty then some { s with K := ⟨t, i + 1, g, r⟩ :: s.K, tab := addTab i r s.tab, obl := s.obl ++ [holds s.tab g = true → C f args r] } else none
    | _, _ => none
  | (.box ty cells, cs) =>
    match g, dst with
    | [], some t =>
      if t < nt ∧ t < 1000000 ∧ cells.all D.flat ∧ cs.isEmpty ∧ (s.K.all fun x => !(x.src == 0) || !D.names t x.d) ∧ (L0.all fun x => !(x.1 == t) && !D.namess t x.2.2) ∧ (s.A.all fun x => !(x.2.1 == t)) then
        some { s with K := ⟨t, i + 1, [], .own t 0⟩ :: s.K, A := (i, t, ty, cells) :: s.A }
      else none
    | _, _ => none
  | (.store k off cells, cs) =>
    match g, dst with
    | [], none => if cells.all D.flat ∧ cs.isEmpty ∧ (s.R.all fun x => !(x.2 == k) || on.contains x.1) ∧ bx = some k then some { s with T := (i, k, off, cells) :: s.T } else none
    | _, _ => none
  | (.row ty m old spec, cs) =>
    match dst, orc.lookup i, old with
    | some t, some (.row _), some k =>
      match g, orc.lookup (1000 + i) with
      | [], some (.recs d enc l) =>
        if t < nt ∧ t < 1000000 ∧ s.N.isNone ∧ (s.Q.all fun x => !(x.2 == k) || an.contains x.1) ∧ (s.K.all fun x => !(x.src == 0) || !D.names t x.d) ∧ (L0.all fun x => !(x.1 == t) && !D.namess t x.2.2) ∧ (s.A.all fun x => !(x.2.1 == t) && !D.namess t x.2.2.2) then
          some { s with K := ⟨t, i + 1, [], .row t⟩ :: s.K, N := some ⟨i, some k, t, ty, .rowc m d enc l⟩, obl := s.obl ++ (cs.map fun c => withOb s.tab [] c = true) ++ [spec (.recs d enc l) ∧ GoodR (.recs d enc l)] }
        else none
      | _, _ => none
    | some t, some r, none => if t < nt then some { s with K := ⟨t, i + 1, g, r⟩ :: s.K, tab := addTab i r s.tab, obl := s.obl ++ (cs.map fun c => withOb s.tab g c = true) ++ [holds s.tab g = true → spec r ∧ GoodR r] } else none
    | _, _, _ => none
  | (.known spec, cs) =>
    match dst, orc.lookup i with
    | some t, some r => if t < nt ∧ cs.isEmpty then some { s with K := ⟨t, i + 1, g, r⟩ :: s.K, tab := addTab i r s.tab, obl := s.obl ++ [holds s.tab g = true → spec r] } else none
    | _, _ => none
  | _ => none

def pickD (i : Nat) (g : Cnd) (Kr : List Ent) (dst : Option Nat) (c a b : Operand) (s : DS) : Option DS :=
  match dst, c with
  | some t, .tmp tc =>
    match findSlot Kr tc with
    | some e =>
      if e.cnd.le g ∧ e.src ≠ 0 ∧ t < nt then
        match e.d, getOp Kr ((e.src - 1, true) :: g) a, getOp Kr ((e.src - 1, false) :: g) b with
        | .val (.bool bc), some (.val (.bool ba)), some (.val (.bool bb)) =>
          some { s with K := ⟨t, i + 1, g, .val (.bool (bif bc then ba else bb))⟩ :: s.K, tab := (i, bif bc then ba else bb) :: s.tab }
        | _, _, _ => none
      else none
    | none => none
  | _, _ => none

def stepD (i : Nat) (o : Oper) (s : DS) : Option DS :=
  let on := onL o
  let Kr := s.K.filter (okFor ops i on)
  match guardCnd ops Kr o.guard with
  | none => none
  | some g =>
    match o.op with
    | .pick c a b => pickD nt i g Kr o.dst c a b s
    | op =>
      let bx := boxOf (getOp Kr g) op
      let ks := keysOf (getOp Kr g) op
      let an := ancL ops i
      if boxOK on s bx then ((evOp Γ (viewAt L0 s ks an) (getOp Kr g) o.dst op).bind (outD C nt orc L0 i g on an bx o.dst s)).map fun s' => { s' with Q := ks.map (fun k => (i, k)) ++ s'.Q } else none

def evOpsD : List Oper → Nat → DS → Option DS
  | [], _, s => some s
  | o :: rest, i, s =>
    match stepD C Γ nt orc ops L0 i o s with
    | some s' => evOpsD rest (i + 1) s'
    | none => none

def dstsOK : List Oper → Bool
  | [] => true
  | o :: os => (match o.dst with | some t => os.all fun x => !(x.dst == some t) | none => true) && dstsOK os
def edgesOK (ops : List Oper) : Bool := ops.zipIdx.all fun x => (onL x.1).all fun j => decide (j < x.2)

def startDS (K : List (Nat × D)) : DS := { K := K.map fun x => ⟨x.1, 0, [], x.2⟩, tab := [], obl := [], A := [], T := [], R := [], N := none, Q := [] }
/-- What is known of a slot behind the region: the new entry, or the old one where no operation writes the slot. -/
def keepKD (ops : List Oper) (K : List Ent) : List Nat → Option (List (Nat × D))
  | [] => some []
  | t :: ts =>
    match findSlot K t, keepKD ops K ts with
    | some e, some r => if e.cnd.isEmpty ∧ (e.src ≠ 0 ∨ ops.all fun o => !(o.dst == some t)) then some ((t, e.d) :: r) else none
    | _, _ => none
def evRegionD (K : List (Nat × D)) (kk kl : List Nat) : Option (List (Nat × D) × Boxes × List Prop) :=
  if dstsOK ops && edgesOK ops && (L0.all fun x => isRowc x.2.2 || x.2.2.all D.flat) then
    match evOpsD C Γ nt orc ops L0 ops 0 (startDS K) with
    | some s => match keepKD ops s.K kk, keepL (viewD L0 s) kl with | some K', some L' => some (K', L', s.obl) | _, _ => none
    | none => none
  else none
end

def evResults (Γ : Nat → Option TI) (K : List (Nat × D)) (L : Boxes) : List ResultVar → Option (List D)
  | [] => some []
  | .tmp t :: rest => match K.lookup t, evResults Γ K L rest with | some d, some ds => some (d :: ds) | _, _ => none
  | .cell t ty :: rest =>
    match K.lookup t, Γ ty, evResults Γ K L rest with
    | some (.own k off), some ti, some ds => match L.lookup k with | some (_, cs) => (partOf ti.agg ti.size off cs).map fun d => d :: ds | none => none
    | _, _, _ => none
def evRet (Γ : Nat → Option TI) (K : List (Nat × D)) (L : Boxes) (rs : List ResultVar) : Option D :=
  match evResults Γ K L rs with
  | some [d] => if (d.shut L).noOwn then some (d.shut L) else none
  | some ds => if D.noOwns (D.seals L ds) then some (.tup (D.seals L ds)) else none
  | none => none

end Go.Proofs.Yteliiabopphgmaa.RX
