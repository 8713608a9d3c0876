import Derived.WalkKit
import Derived.WalkLawsBesides
import Derived.WalkSpells
import Derived.Lib.Strings
import Derived.Laws.AppendOwn
import Derived.MapKept
import Derived.Laws.CopyRow
import Derived.ChangeKeysEq
import Derived.Laws.MakeOwn
import Derived.Laws.BytesString
import Derived.Lib.ConvBytes
set_option linter.all false
namespace Go.Proofs.YtefojkdckfidcaaGreatDoor
abbrev Bs:=List UInt8
abbrev Ls:=List Bs
abbrev lg:Bs:=[110,117,108,108]
abbrev sU:Bs:=[45,45,45]
abbrev sQ:Bs:=[46,46,46]
abbrev vn:Bs:=[63,58,44,91,93,123,125,35,38,42,33,124,62,39,34,37,64,96]
abbrev C5:Bs:=[97,58,10,32,32,45,32,120,10,32,32,45,32,98,58,32,121,10,32,32,32,32,99,58,32,110,117,108,108,10]
abbrev Il:Bs:=[97,58,32,91,120,44,32,123,98,58,32,121,44,32,99,58,32,110,117,108,108,125,93]
end Go.Proofs.YtefojkdckfidcaaGreatDoor
namespace Go.Proofs.YtefojkdckfidcaaGreatDoor.RX
abbrev MK:=Sum Bs Int
def bF{α : Type} : List (MK×α)->MK->Option α
  |[],_=>none
  |p::r,x=>if p.1=x then some p.2 else bF r x
def dG{α : Type} : List (MK×α)->MK->α->List (MK×α)
  |[],x,v=>[(x,v)]
  |p::r,x,v=>if p.1=x then(x,v)::r else p::dG r x v
def tZ{α : Type} : List (MK×α)->MK->List (MK×α)
  |[],_=>[]
  |p::r,x=>if p.1=x then r else p::tZ r x
inductive D : Type 1
  |val (v : Value)
  |str (l : Bs)
  |own (i off : Nat)
  |opt (i : Nat)
  |aY (k : Nat)
  |mp (k : Nat)
  |eE (kk : Option IntKind) (ag : Bool) {α : Type} (d : α) (enc : α->List D) (l : List (MK×α))
  |agg (ds : List D)
  |tup (ds : List D)
  |recs {α : Type} (dflt : α) (enc : α->List D) (l : List α)
  |el (ds : List D)
  |fn (f : Nat) (caps : List D)
  |row (k : Nat)
  |elm (k : Nat) (i : Int) (size off : Nat)
  |aO (m : Bool) {α : Type} (dflt : α) (enc : α->List D) (l : List α)
  |tree {α : Type} (d : α) (pre : α->List D) (kids : α->List α) (l : List α)
  |arr {α : Type} (d : α) (enc : α->List D) (l : List α)
  |hole
  |qX (b : Nat) (o : Obj) (S : (Nat->Nat->Prop)->World->Prop)
def oM{α : Type}(d : α)(pre : α->List D)(kids : α->List α) : α->List D:=fun x=>pre x++[.tree d pre kids (kids x)]
def D.opn : D->D
  |.tree d pre kids l=>.recs d (oM d pre kids) l
  |d=>d
def D.cells : D->List D
  |.agg ds=>ds
  |.arr _ enc l=>l.flatMap enc
  |d=>[d]
def D.flat : D->Bool
  |.agg _|.tup _|.aO _ _ _ _|.arr _ _ _|.eE _ _ _ _ _|.qX _ _ _=>false
  |_=>true
mutual
def D.dS : D->Bool
  |.own _ _=>false
  |.opt _=>false
  |.aY _=>false
  |.mp _=>false
  |.row _=>false
  |.elm _ _ _ _=>false
  |.agg ds=>D.bP ds
  |.tup ds=>D.bP ds
  |.fn _ ds=>D.bP ds
  |_=>true
def D.bP : List D->Bool
  |[]=>true
  |d::ds=>D.dS d&&D.bP ds
end
mutual
def D.names(i : Nat) : D->Bool
  |.own j _=>i==j
  |.opt j=>i==j
  |.aY j=>i==j
  |.mp j=>i==j
  |.row j=>i==j
  |.elm j _ _ _=>i==j
  |.agg ds=>D.bu i ds
  |.tup ds=>D.bu i ds
  |.fn _ ds=>D.bu i ds
  |_=>false
def D.bu(i : Nat) : List D->Bool
  |[]=>false
  |d::ds=>D.names i d||D.bu i ds
end
mutual
def D.sub(s : D->Option D) : D->D
  |.own k off=>(s (.own k off)).getD (.own k off)
  |.opt k=>(s (.opt k)).getD (.opt k)
  |.aY k=>(s (.aY k)).getD (.aY k)
  |.mp k=>(s (.mp k)).getD (.mp k)
  |.row k=>(s (.row k)).getD (.row k)
  |.elm k i z off=>(s (.elm k i z off)).getD (.elm k i z off)
  |.agg ds=>.agg (D.subs s ds)
  |.tup ds=>.tup (D.subs s ds)
  |.fn f ds=>.fn f (D.subs s ds)
  |d=>d
def D.subs(s : D->Option D) : List D->List D
  |[]=>[]
  |d::ds=>D.sub s d::D.subs s ds
end
def qW(k : Nat)(cs : List D) : D->Option D
  |.own j off=>if j=k then some (.el (cs.drop off)) else none
  |.opt j=>if j=k then some .hole else none
  |.aY j=>if j=k then some .hole else none
  |.mp j=>if j=k then some .hole else none
  |.row j=>if j=k then some .hole else none
  |.elm j _ _ _=>if j=k then some .hole else none
  |_=>none
def ie(k z : Nat) : D->Option D
  |.own j off=>if j=k then some (if off=0 then .elm k 0 z 0 else .hole) else none
  |.opt j=>if j=k then some .hole else none
  |.aY j=>if j=k then some .hole else none
  |.mp j=>if j=k then some .hole else none
  |.row j=>if j=k then some .hole else none
  |.elm j _ _ _=>if j=k then some .hole else none
  |_=>none
def rename(k k' : Nat) : D->Option D
  |.own j off=>if j=k then some (.own k' off) else none
  |.opt j=>if j=k then some (.opt k') else none
  |.aY j=>if j=k then some (.aY k') else none
  |.mp j=>if j=k then some (.mp k') else none
  |.row j=>if j=k then some (.row k') else none
  |.elm j i z off=>if j=k then some (.elm k' i z off) else none
  |_=>none
def bZ(fb : D)(ren : List (Nat×Nat)) : D->Option D
  |.own j off=>match ren.lookup j with|some k=>some (.own k off)|none=>some fb
  |.opt j=>match ren.lookup j with|some k=>some (.opt k)|none=>some fb
  |.aY j=>match ren.lookup j with|some k=>some (.aY k)|none=>some fb
  |.mp j=>match ren.lookup j with|some k=>some (.mp k)|none=>some fb
  |.row j=>match ren.lookup j with|some k=>some (.row k)|none=>some fb
  |.elm j i z off=>match ren.lookup j with|some k=>some (.elm k i z off)|none=>some fb
  |_=>none
def never : D:=.agg [.aO false () (fun _=>[]) []]
inductive TK where
  |other
  |bool
  |str
  |slice (esize : Nat) (eagg : Bool)
  |int (k : IntKind)
  |struct (fields : List (Nat×Nat×Bool))
  |array (n esize : Nat) (eagg : Bool)
  |map (kk : Option IntKind) (esize : Nat) (eagg : Bool)
  |ptr
structure TI where
  agg : Bool
  size : Nat
  zero : List Value
  kind : TK
  elt : Nat:=0
  eb : Nat:=0
  ez : List Value:=[]
  ek : Option IntKind:=none
  eqs : List Nat:=[]
def gY : Value->Bool
  |.agg _|.tuple _=>false
  |_=>true
def ofValue : Value->D
  |.string s=>.str s.data.toList
  |v=>.val v
def partOf(agg : Bool)(size off : Nat)(ds : List D) : Option D :=
  if agg then(if off+size<=ds.length then some (.agg ((ds.drop off).take size)) else none) else ds[off]?
def setCells(ds : List D)(off : Nat)(cs : List D) : List D:=ds.take off++cs++ds.drop (off+cs.length)
def gK(place : Nat->Option (Nat×Nat)) : List D->List (Nat×D)->Option (List D)
  |ds,[]=>some ds
  |ds,(i,d)::rest =>
    match place i with
    |none=>none
    |some (off,size)=>if d.cells.length=size/\off+size<=ds.length then gK place (setCells ds off d.cells) rest else none
inductive Out : Type 1
  |val (d : D)
  |box (t : Nat) (cells : List D)
  |store (key off : Nat) (cells : List D)
  |call (f : Nat) (args : List D)
  |row (e : Nat) (m : Bool) (old : Option Nat) (spec : D->Prop)
  |upd (k : Nat) (n : Int) (size off : Nat) (cells : List D)
  |known (spec : D->Prop)
  |vS (t z m : Nat) (d : D)
  |fill (k z m : Nat) (d : D)
  |turn (k z m : Nat) (d : D)
  |pL (t : Nat) (kk : Option IntKind) (ag : Bool)
  |qO (k : Nat) (kk : Option IntKind) (ag : Bool) (key : MK) (cells : List D)
  |mlk (k : Nat) (kk : Option IntKind) (ag : Bool) (key : MK) (ok : Bool) (ez : List D)
  |uT (k : Nat)
  |mdl (k : Nat) (kk : Option IntKind) (ag : Bool) (key : MK)
  |cpy (k es : Nat) (cells : List D) (n : Nat)
def zo(op : BinOp)(k : IntKind)(a b : Int) : Option (D×List Bool) :=
  match op with
  |.add=>some (.val (.int k (k.wrap (a+b))),[])
  |.sub=>some (.val (.int k (k.wrap (a-b))),[])
  |.mul=>some (.val (.int k (k.wrap (a*b))),[])
  |.quo=>some (.val (.int k (k.wrap (a.tdiv b))),[b != 0])
  |.rem=>some (.val (.int k (a.tmod b)),[b != 0])
  |.and=>some (.val (.int k (k.wrap (BitVec.ofInt k.bits a &&& BitVec.ofInt k.bits b).toNat)),[])
  |.or=>some (.val (.int k (k.wrap (BitVec.ofInt k.bits a ||| BitVec.ofInt k.bits b).toNat)),[])
  |.xor=>some (.val (.int k (k.wrap (BitVec.ofInt k.bits a ^^^ BitVec.ofInt k.bits b).toNat)),[])
  |.andNot=>some (.val (.int k (k.wrap (BitVec.ofInt k.bits a &&& ~~~ BitVec.ofInt k.bits b).toNat)),[])
  |.eql=>some (.val (.bool (a==b)),[])
  |.neq=>some (.val (.bool (a != b)),[])
  |.lss=>some (.val (.bool (decide (a<b))),[])
  |.leq=>some (.val (.bool (decide (a<=b))),[])
  |.gtr=>some (.val (.bool (decide (a>b))),[])
  |.geq=>some (.val (.bool (decide (a>=b))),[])
  |_=>none
def BU(op : BinOp)(a b : Bs) : Option (D×List Bool) :=
  match op with
  |.add=>some (.str (a++b),[decide (((a.length+b.length : Nat) : Int)<=9223372036854775807)])
  |.eql=>some (.val (.bool (a==b)),[])
  |.neq=>some (.val (.bool (!(a==b))),[])
  |.lss=>some (.val (.bool (Op.bytesLess a b)),[])
  |.leq=>some (.val (.bool (Op.bytesLess a b||a==b)),[])
  |.gtr=>some (.val (.bool (!(Op.bytesLess a b||a==b))),[])
  |.geq=>some (.val (.bool (!(Op.bytesLess a b))),[])
  |_=>none
def uq(op : BinOp)(k : IntKind)(a b : Int) : Option (D×List Bool) :=
  match op with
  |.shl=>some (.val (.int k (k.wrap (a*2 ^ (min b.toNat k.bits)))),[decide (0<=b)])
  |.shr=>some (.val (.int k (a.fdiv (2 ^ (min b.toNat k.bits)))),[decide (0<=b)])
  |_=>none
def qc(op : BinOp)(x y : D) : Option (D×List Bool) :=
  match x,y with
  |.val (.int k a),.val (.int k' b) =>
    match op with
    |.shl|.shr=>uq op k a b
    |_=>if k=k' then zo op k a b else none
  |.str a,.str b=>BU op a b
  |_,_=>none
def unD(op : UnOp)(x : D) : Option D :=
  match op,x with
  |.neg,.val (.int k n)=>some (.val (.int k (k.wrap (0-n))))
  |.xor,.val (.int k n)=>some (.val (.int k (k.wrap (BitVec.ofInt k.bits (if k.signed then -1 else k.max) ^^^ BitVec.ofInt k.bits n).toNat)))
  |.not,.val (.bool b)=>some (.val (.bool (!b)))
  |_,_=>none
def EE : Nat->D->D->Option Bool
  |0,.val (.int k a),.val (.int k' b)=>if k=k' then some (a==b) else none
  |1,.val (.bool a),.val (.bool b)=>some (a==b)
  |2,.str a,.str b=>some (a==b)
  |_,_,_=>none
def oO : List Nat->List D->List D->Option Bool
  |[],[],[]=>some true
  |[k],[a],[b]=>EE k a b
  |k::ks,a::as,b::bs =>
    match EE k a b,oO ks as bs with
    |some x,some y=>some (x&&y)
    |_,_=>none
  |_,_,_=>none
def ud(l : Bs)(lo hi : Option D) : Option (D×List Bool) :=
  match lo,hi with
  |none,none=>some (.str l,[])
  |some (.val (.int _ a)),none=>some (.str (l.drop a.toNat),[decide (0<=a/\a<=(l.length : Int))])
  |none,some (.val (.int _ b))=>some (.str (l.take b.toNat),[decide (0<=b/\b<=(l.length : Int))])
  |some (.val (.int _ a)),some (.val (.int _ b))=>some (.str ((l.drop a.toNat).take (b.toNat-a.toNat)),[decide (0<=b/\b<=(l.length : Int)),decide (0<=a/\a<=b)])
  |_,_=>none
def ki{α : Type}(d : α)(enc : α->List D)(l : List α)(lo hi : Option D) : Option (D×List Bool) :=
  match lo,hi with
  |none,none=>some (.recs d enc l,[])
  |some (.val (.int _ a)),none=>some (.recs d enc (l.drop a.toNat),[decide (0<=a/\a<=(l.length : Int))])
  |none,some (.val (.int _ b))=>some (.recs d enc (l.take b.toNat),[decide (0<=b/\b<=(l.length : Int))])
  |some (.val (.int _ a)),some (.val (.int _ b))=>some (.recs d enc ((l.drop a.toNat).take (b.toNat-a.toNat)),[decide (0<=b/\b<=(l.length : Int)),decide (0<=a/\a<=b)])
  |_,_=>none
def omap(get : Operand->Option D) : Option Operand->Option (Option D)
  |none=>some none
  |some x=>(get x).map some
def getAll(get : Operand->Option D) : List Operand->Option (List D)
  |[]=>some []
  |x::xs=>match get x,getAll get xs with|some d,some ds=>some (d::ds)|_,_=>none
def ni(get : Operand->Option D) : List (Nat×Operand)->Option (List (Nat×D))
  |[]=>some []
  |(i,x)::xs=>match get x,ni get xs with|some d,some ds=>some ((i,d)::ds)|_,_=>none
abbrev ax:=List (Nat×Nat×List D)
def lG(L : ax) : D->Option D
  |.row k=>match L.lookup k with|some (_,[.aO true d enc l])=>some (.recs d enc l)|_=>none
  |_=>none
def D.shut(L : ax)(d : D) : D:=D.sub (lG L) d
def D.ic(L : ax)(ds : List D) : List D:=D.subs (lG L) ds
def jE(es : Nat)(L : ax) : D->Option (List D×Nat)
  |.recs d enc l=>if(enc d).length=es then some (l.flatMap enc,l.length) else none
  |.row k=>match L.lookup k with|some (_,[.aO _ d enc l])=>if(enc d).length=es then some (l.flatMap enc,l.length) else none|_=>none
  |.str l=>if es=1 then some (l.map fun b=>.val (.int .u8 b.toNat),l.length) else none
  |_=>none
def limit : Nat:=140737488355328
def aQ : D->Prop
  |.recs d enc _=>0<(enc d).length/\∀x,(enc x).length=(enc d).length/\(enc x).all D.flat=true
  |_=>False
mutual
inductive ju : D->D->Prop
  |refl (d : D) : ju d d
  |zero {α : Type} (d : α) (enc : α->List D) : ju (.val (.slice none 0 0)) (.recs d enc [])
  |agg {ds es : List D} (h : bq ds es) : ju (.agg ds) (.agg es)
  |arr {α : Type} {d : α} {enc : α->List D} {l : List α} {ds : List D} (h : l.flatMap enc=ds) (hg : aQ (.recs d enc l)) (hn : D.bP ds=true) : ju (.agg ds) (.arr d enc l)
  |tup {ds es : List D} (h : bq ds es) : ju (.tup ds) (.tup es)
  |el {ds es : List D} (h : bq ds es) : ju (.el ds) (.el es)
  |fn {f : Nat} {ds es : List D} (h : bq ds es) : ju (.fn f ds) (.fn f es)
  |fE {α : Type} (d : α) (pre : α->List D) (kids : α->List α) : ju (.val (.slice none 0 0)) (.tree d pre kids [])
  |opn {α : Type} (d : α) (pre : α->List D) (kids : α->List α) (l : List α) : ju (.tree d pre kids l) (.recs d (oM d pre kids) l)
  |close {α : Type} (d : α) (pre : α->List D) (kids : α->List α) (l : List α) : ju (.recs d (oM d pre kids) l) (.tree d pre kids l)
inductive bq : List D->List D->Prop
  |nil : bq [] []
  |cons {d e : D} {ds es : List D} (h : ju d e) (hs : bq ds es) : bq (d::ds) (e::es)
end
def dC(z : Nat)(cs : List D)(n : Nat)(r : D) : Prop:=∃(α : Type)(d : α)(enc : α->List D)(l : List α),bq cs (l.flatMap enc)/\l.length=n/\(enc d).length=z/\r=.recs d enc l
def yL(cs : List D)(n : Nat)(r : D) : Prop:=∃(α : Type)(d : α)(enc : α->List D),bq cs (enc d)/\r=.recs d enc (List.replicate n d)
def eQ{α : Type}(d : α)(enc : α->List D)(l : List α)(cs : List D)(n : Nat)(r : D) : Prop:=∃xs,bq cs (xs.flatMap enc)/\xs.length=n/\r=.recs d enc (l++xs)
def wB(cs : List D)(r : D) : Prop:=∃s : Bs,cs=(s.map fun b=>.val (.int .u8 b.toNat))/\r=.str s
def BL{α : Type}(d : α)(enc : α->List D)(l : List α)(n : Int)(off : Nat)(cells : List D)(r : D) : Prop:=∃x,bq (setCells (enc (l[n.toNat]?.getD d)) off cells) (enc x)/\r=.recs d enc (l.set n.toNat x)
def nS{α : Type}(l xs : List α) : List α:=xs.take l.length++l.drop xs.length
def yT{α : Type}(d : α)(enc : α->List D)(l : List α)(cs : List D)(n : Nat)(r : D) : Prop:=∃xs,bq cs (xs.flatMap enc)/\xs.length=n/\r=.recs d enc (nS l xs)
def uy(ag : Bool)(ds : List D) : Option D:=if ag then some (.agg ds) else match ds with|[d]=>some d|_=>none
def ry{α : Type}(ag : Bool)(enc : α->List D)(l : List (MK×α))(x : MK)(ez : List D)(r : D) : Prop:=∃z : α,bq ez (enc z)/\uy ag (enc ((bF l x).getD z))=some r
def xB{α : Type}(ag : Bool)(enc : α->List D)(l : List (MK×α))(x : MK)(ez : List D)(r : D) : Prop:=∃(z : α)(r' : D),bq ez (enc z)/\uy ag (enc ((bF l x).getD z))=some r'/\r=.tup [r',.val (.bool (bF l x).isSome)]
def za{α : Type}(enc : α->List D)(l : List (MK×α))(x : MK)(cells : List D)(l' : List (MK×α)) : Prop:=∃v,bq cells (enc v)/\l'=dG l x v
def wo{α : Type}(ag : Bool)(enc : α->List D) : Prop:=(∀x,(enc x).all D.flat=true)/\(ag=false->∀x,(enc x).length=1)
def rD : D->Option (Bool×List D)
  |.agg ds=>some (true,ds)
  |d=>if d.flat then some (false,[d]) else none
def sq(kk : Option IntKind) : D->Option MK
  |.str s=>match kk with|none=>some (.inl s)|some _=>none
  |.val (.int k n)=>if kk=some k then some (.inr n) else none
  |_=>none
def Iu(ks : List Nat)(neg : Bool)(as bs : List D)(r : D) : Prop:=∃b,oO ks as bs=some b/\r=.val (.bool (xor neg b))
def sameRow(k : Nat) : D->Bool
  |.row k'=>k'==k
  |_=>false
def appSpec(es el : Nat)(L : ax)(s x : D) : Option (Option Nat×Bool×Nat×(D->Prop)) :=
  match s,jE es L x with
  |.row k,some (cs,n) =>
    match sameRow k x,L.lookup k with
    |false,some (tt,[.aO m d enc l])=>if(enc d).length=es/\tt=el then some (some k,m,l.length+n,eQ d enc l cs n) else none
    |_,_=>none
  |.val (.slice none 0 0),some (cs,n)=>some (none,false,n,dC es cs n)
  |_,_=>none
def fO(Γ : Nat->Option TI)(L : ax)(get : Operand->Option D)(c : Call) : Option (Out×List Bool) :=
  match c.callee,getAll get c.args.toList with
  |.value (.func f),some ds=>some (.call f (D.ic L ds),[])
  |.value x,some ds=>match get x with|some (.fn f caps)=>some (.call f (D.ic L (ds++caps)),[])|_=>none
  |.builtin .append,some [s,x] =>
    match c.argTypes.toList with
    |[t,t']=>(Γ t).bind fun ti=>(Γ t').bind fun ti'=>match ti.kind,ti'.kind with
      |.slice es _,.slice _ _=>if t=t'/\ti.ez.length=es/\0<es then(appSpec es ti.elt L s x).map fun r=>(.row ti.elt r.2.1 r.1 r.2.2.2,[decide (r.2.2.1*(ti.eb+1)<=limit)]) else none
      |.slice es _,.str=>if ti.ez.length=es/\0<es then(appSpec es ti.elt L s x).map fun r=>(.row ti.elt r.2.1 r.1 r.2.2.2,[decide (r.2.2.1*(ti.eb+1)<=limit)]) else none
      |_,_=>none
    |_=>none
  |.builtin .len,some [.row k]=>match c.argTypes.toList with|[t]=>(Γ t).bind fun ti=>(match ti.kind,L.lookup k with|.slice _ _,some (_,[.aO _ _ _ l])=>some (.val (.val (.int .i64 l.length)),[])|_,_=>none)|_=>none
  |.builtin .len,some [.mp k]=>match c.argTypes.toList with|[t]=>(Γ t).bind fun ti=>(match ti.kind with|.map _ _ _=>some (.uT k,[])|_=>none)|_=>none
  |.builtin .len,some [.str l]=>match c.argTypes.toList with|[t]=>(Γ t).bind fun ti=>(match ti.kind with|.str=>some (.val (.val (.int .i64 l.length)),[])|_=>none)|_=>none
  |.builtin .len,some [.recs _ _ l]=>match c.argTypes.toList with|[t]=>(Γ t).bind fun ti=>(match ti.kind with|.slice _ _=>some (.val (.val (.int .i64 l.length)),[])|_=>none)|_=>none
  |.builtin .min,some [.val (.int k a),.val (.int _ b)]=>some (.val (.val (.int k (if b<a then b else a))),[])
  |.builtin .max,some [.val (.int k a),.val (.int _ b)]=>some (.val (.val (.int k (if b>a then b else a))),[])
  |_,_=>none
def jV(Γ : Nat->Option TI)(L : ax)(get : Operand->Option D)(dst : Option Nat)(op : Op) : Option (Out×List Bool) :=
  match op with
  |.move x|.assign x=>(get x).map fun d=>(.val d,[])
  |.alloc t=>(Γ t).map fun ti=>(.box t (ti.zero.map ofValue),[])
  |.box t x =>
    match Γ t,get x with
    |some ti,some (.arr d enc l)=>match ti.kind with|.array m es _=>some (.vS t es m (.arr d enc l),[])|_=>none
    |some ti,some d=>if d.cells.length=ti.size then some (.box t d.cells,[]) else none
    |_,_=>none
  |.build t parts =>
    match Γ t,ni get parts.toList with
    |some ti,some ps =>
      match ti.kind with
      |.struct fs=>(gK (fun i=>(fs[i]?).map fun f=>(f.1,f.2.1)) (ti.zero.map ofValue) ps).map fun ds=>(.val (.agg ds),[])
      |.array _ es _=>(gK (fun i=>some (i*es,es)) (ti.zero.map ofValue) ps).map fun ds=>(.val (.agg ds),[])
      |_=>none
    |_,_=>none
  |.load t x =>
    match Γ t,get x with
    |some ti,some (.own k off)=>match L.lookup k with|some (_,ds)=>(partOf ti.agg ti.size off ds).map fun d=>(.val d,[])|none=>none
    |some ti,some (.el ds)=>(partOf ti.agg ti.size 0 ds).map fun d=>(.val d,[])
    |some ti,some (.elm k n z off) =>
      match ti.kind,L.lookup k with
      |.array m es _,some (_,[.aO _ d enc l])=>if(enc d).length=es/\z=es/\n=0/\off=0/\ti.size=m*es/\ti.agg=true then some (.val (.arr d enc l),[decide (l.length=m)]) else none
      |_,some (_,[.aO _ d enc l])=>if(enc d).length=z then(partOf ti.agg ti.size off (enc (l[n.toNat]?.getD d))).map fun r=>(.val r,[decide (0<=n/\n<(l.length : Int))]) else none
      |_,_=>none
    |_,_=>none
  |.store t x y =>
    match Γ t,get x,get y with
    |some ti,some (.elm k n z off),some d =>
      match ti.kind,L.lookup k with
      |.array m es _,_=>if z=es/\n=0/\off=0/\ti.size=m*es/\d.dS=true then some (.fill k es m d,[]) else none
      |_,some (_,[.aO false _ _ l])=>if d.cells.length=ti.size/\off+ti.size<=z then some (.upd k n z off (D.ic L d.cells),[decide (0<=n/\n<(l.length : Int))]) else none
      |_,_=>none
    |some ti,some (.own k off),some (.arr d enc l) =>
      match ti.kind,L.lookup k with
      |.array m es _,some (_,ds)=>if off=0/\ds.length=m*es/\ti.size=m*es then some (.turn k es m (.arr d enc l),[]) else none
      |_,_=>none
    |some ti,some (.own k off),some d =>
      match L.lookup k with
      |some (_,ds)=>if d.cells.length=ti.size/\off+ti.size<=ds.length then some (.store k off d.cells,[]) else none
      |none=>none
    |_,_,_=>none
  |.nilCheck x=>match get x with|some (.own k off)=>some (.val (.own k off),[])|some (.el ds)=>some (.val (.el ds),[])|some (.fn f c)=>some (.val (.fn f c),[])|some (.elm k n z off)=>some (.val (.elm k n z off),[])|some (.val (.pointer none))=>some (.val (.el (List.replicate 8 (.val (.pointer none)))),[false])|_=>none
  |.binOp op t x y _ =>
    match get x,get y with
    |some (.agg a),some (.agg b) =>
      match Γ t,op with
      |some ti,.eql=>if ti.eqs=[] then none else(oO ti.eqs a b).map fun r=>(.val (.val (.bool r)),[])
      |some ti,.neq=>if ti.eqs=[] then none else(oO ti.eqs a b).map fun r=>(.val (.val (.bool (!r))),[])
      |_,_=>none
    |some (.arr d enc l),some (.arr d' enc' l') =>
      match Γ t,op with
      |some ti,.eql=>if ti.eqs=[] then none else some (.known (Iu ti.eqs false (l.flatMap enc) (l'.flatMap enc')),[])
      |some ti,.neq=>if ti.eqs=[] then none else some (.known (Iu ti.eqs true (l.flatMap enc) (l'.flatMap enc')),[])
      |_,_=>none
    |some (.val (.bool a)),some (.val (.bool b)) =>
      match Γ t with
      |some ti=>match ti.kind,op with
        |.bool,.eql=>some (.val (.val (.bool (a==b))),[])
        |.bool,.neq=>some (.val (.val (.bool (!(a==b)))),[])
        |_,_=>none
      |none=>none
    |some a,some b=>(qc op a b).map fun r=>(.val r.1,r.2)
    |_,_=>none
  |.unOp op _ x=>match get x with|some d=>(unD op d).map fun r=>(.val r,[])|none=>none
  |.convert s t x =>
    match Γ s,Γ t,get x with
    |some si,some ti,some (.val (.int _ n))=>match si.kind,ti.kind with|.int _,.int k=>some (.val (.val (.int k (k.wrap n))),[])|_,_=>none
    |some si,some ti,some (.str l)=>match si.kind,ti.kind with
      |.str,.str=>some (.val (.str l),[])
      |.str,.slice 1 _=>if ti.ek=some .u8/\ti.ez.length=1 then some (.row ti.elt false none (dC 1 (l.map fun b=>.val (.int .u8 b.toNat)) l.length),[decide (l.length<=limit)]) else none
      |_,_=>none
    |some si,some ti,some (.val (.slice none 0 0))=>match si.kind,ti.kind with|.slice _ _,.str=>if si.ek=some .u8 then some (.val (.str []),[]) else none|_,_=>none
    |some si,some ti,some d=>match si.kind,ti.kind with
      |.slice 1 _,.str=>if si.ek=some .u8 then(jE 1 L d).map fun c=>(.known (wB c.1),[]) else none
      |_,_=>none
    |_,_,_=>none
  |.buildSlice t len parts =>
    match Γ t,ni get parts.toList with
    |some ti,some ps =>
      match ti.kind with
      |.slice es _ =>
        match gK (fun i=>some (i*es,es)) ((List.replicate len (ti.ez.map ofValue)).flatten) (ps.map fun x=>(x.1,x.2.shut L)) with
        |some cs=>if D.bP cs/\len*es<=16777216/\0<es/\ti.ez.length=es then some (.row ti.elt false none (dC es cs len),[]) else none
        |none=>none
      |_=>none
    |_,_=>none
  |.makeSlice t n c =>
    match Γ t,get n,get c with
    |some ti,some (.val (.int _ n)),some (.val (.int _ c)) =>
      match ti.kind with
      |.slice es _=>if 0<es/\ti.ez.length=es then some (.row ti.elt false none (yL (ti.ez.map ofValue) n.toNat),[decide (0<=n/\n<=c),decide (c*(ti.eb+1 : Nat)<=(limit : Int))]) else none
      |_=>none
    |_,_,_=>none
  |.slice t x lo hi none =>
    match Γ t,get x,omap get lo,omap get hi with
    |some ti,some (.str l),some lo,some hi=>match ti.kind with|.str=>(ud l lo hi).map fun r=>(.val r.1,r.2)|_=>none
    |some ti,some (.recs d enc l),some lo,some hi=>match ti.kind with|.slice es _=>if(enc d).length=es then(ki d enc l lo hi).map fun r=>(.val r.1,r.2) else none|_=>none
    |some ti,some (.elm k n z off),some lo,some hi =>
      match ti.kind,L.lookup k with
      |.array m es _,some (_,[.aO true d enc l])=>if(enc d).length=es/\z=es/\n=0/\off=0 then(ki d enc l lo hi).map fun r=>(.val r.1,decide (l.length=m)::r.2) else none
      |_,_=>none
    |some ti,some (.row k),some lo,some hi =>
      match ti.kind,L.lookup k with
      |.slice es _,some (_,[.aO true d enc l])=>if(enc d).length=es then(ki d enc l lo hi).map fun r=>(.val r.1,r.2) else none
      |_,_=>none
    |_,_,_,_=>none
  |.fieldAddr t x f =>
    match Γ t,get x with
    |some ti,some (.own k off)=>match ti.kind with|.struct fs=>(fs[f]?).bind fun g=>if g.2.1=0 then none else some (.val (.own k (off+g.1)),[])|_=>none
    |some ti,some (.el ds)=>match ti.kind with|.struct fs=>(fs[f]?).bind fun g=>if g.2.1=0 then none else some (.val (.el (ds.drop g.1)),[])|_=>none
    |some ti,some (.elm k n z off)=>match ti.kind with|.struct fs=>(fs[f]?).bind fun g=>if g.2.1=0 then none else some (.val (.elm k n z (off+g.1)),[])|_=>none
    |_,_=>none
  |.field t x f =>
    match Γ t,get x with
    |some ti,some (.agg ds)=>match ti.kind with|.struct fs=>(fs[f]?).bind fun g=>(partOf g.2.2 g.2.1 g.1 ds).map fun d=>(.val d,[])|_=>none
    |_,_=>none
  |.indexAddr t x i =>
    match Γ t,get x,get i with
    |some ti,some (.recs d enc l),some (.val (.int _ n)) =>
      match ti.kind with
      |.slice es _=>if(enc d).length=es then some (.val (.el (enc (l[n.toNat]?.getD d))),[decide (0<=n/\n<(l.length : Int))]) else none
      |_=>none
    |some ti,some (.row k),some (.val (.int _ n)) =>
      match ti.kind,L.lookup k with
      |.slice es _,some (_,[.aO _ d enc l])=>if(enc d).length=es then some (.val (.elm k n es 0),[decide (0<=n/\n<(l.length : Int))]) else none
      |_,_=>none
    |some ti,some (.elm k n0 z off),some (.val (.int _ n)) =>
      match ti.kind with
      |.array m es _=>if n0=0/\off=0/\z=es then some (.val (.elm k n es 0),[decide (0<=n/\n<(m : Int))]) else none
      |_=>none
    |some ti,some (.own k off),some (.val (.int _ n)) =>
      match ti.kind with
      |.array m es _=>if 2<=m then some (.val (.own k (off+n.toNat*es)),[decide (0<=n/\n<(m : Int))]) else none
      |_=>none
    |_,_,_=>none
  |.index t x i =>
    match Γ t,get x,get i with
    |some ti,some (.str l),some (.val (.int _ n))=>match ti.kind with|.str=>some (.val (.val (.int .u8 (l[n.toNat]?.getD 0).toNat)),[decide (0<=n/\n<(l.length : Int))])|_=>none
    |some ti,some (.arr d enc l),some (.val (.int _ n)) =>
      match ti.kind with
      |.array m es ea=>if(enc d).length=es then(partOf ea es 0 (enc (l[n.toNat]?.getD d))).map fun r=>(.val r,[decide (0<=n/\n<(m : Int)),decide (l.length=m)]) else none
      |_=>none
    |some ti,some (.agg ds),some (.val (.int _ n)) =>
      match ti.kind with
      |.array m es ea=>(partOf ea es (n.toNat*es) ds).map fun d=>(.val d,[decide (0<=n/\n<(m : Int))])
      |_=>none
    |_,_,_=>none
  |.makeFunc (.func f) first captured=>if first.toList.isEmpty then(getAll get captured.toList).map fun ds=>(.val (.fn f ds),[]) else none
  |.extract x i=>match get x with|some (.tup ds)=>(ds[i]?).map fun d=>(.val d,[])|_=>none
  |.call c=>fO Γ L get c
  |.makeMap t none=>(Γ t).bind fun ti=>match ti.kind with|.map kk _ ag=>some (.pL t kk ag,[])|_=>none
  |.lookup t x y ok =>
    match Γ t,get x,get y with
    |some ti,some (.mp k),some y =>
      match ti.kind with
      |.map kk es ag=>if ti.ez.length=es/\0<es then(sq kk y).map fun key=>(.mlk k kk ag key ok (ti.ez.map ofValue),[]) else none
      |_=>none
    |_,_,_=>none
  |.mapUpdate t x y z =>
    match Γ t,get x,get y,get z with
    |some ti,some (.mp k),some y,some z =>
      match ti.kind with
      |.map kk es ag=>match rD z with|some (ag',cs)=>if cs.length=es/\ag'=ag then(sq kk y).map fun key=>(.qO k kk ag key (D.ic L cs),[]) else none|none=>none
      |_=>none
    |_,_,_,_=>none
  |_=>none
def EW(op : BinOp)(x y : D) : Option Bool :=
  match op,x,y with
  |.eql,.own _ _,.val (.pointer none)=>some false
  |.neq,.own _ _,.val (.pointer none)=>some true
  |.eql,.val (.pointer none),.val (.pointer none)=>some true
  |.neq,.val (.pointer none),.val (.pointer none)=>some false
  |_,_,_=>none
def evX(Γ : Nat->Option TI)(L : ax)(get : Operand->Option D)(op : Op) : Option Out :=
  match op with
  |.binOp op t x y _ =>
    match Γ t,get x,get y with
    |some ti,some dx,some dy=>match ti.kind with|.ptr=>(EW op dx dy).map fun b=>.val (.val (.bool b))|_=>none
    |_,_,_=>none
  |.call c =>
    match c.callee,getAll get c.args.toList,c.argTypes.toList with
    |.builtin .delete,some [.mp k,y],[t,_] =>
      match Γ t with
      |some ti=>match ti.kind with|.map kk _ ag=>(sq kk y).map fun key=>.mdl k kk ag key|_=>none
      |none=>none
    |.builtin .copy,some [.row k,x],[t,_] =>
      match Γ t with
      |some ti=>match ti.kind with|.slice es _=>if sameRow k x then none else(match x with|.str _=>none|x=>(jE es L x).map fun c=>.cpy k es c.1 c.2)|_=>none
      |none=>none
    |_,_,_=>none
  |_=>none
def fV(Γ : Nat->Option TI)(L : ax)(get : Operand->Option D)(dst : Option Nat)(op : Op) : Option (Out×List Bool) :=
  match evX Γ L get op with
  |some out=>some (out,[])
  |none=>jV Γ L (fun x=>(get x).map D.opn) dst op
abbrev Cnd:=List (Nat×Bool)
structure Ent where
  slot : Nat
  src : Nat
  cnd : Cnd
  d : D
def tv(tab : List (Nat×Bool))(j : Nat) : Bool:=(tab.lookup j).getD false
def holds(tab : List (Nat×Bool)) : Cnd->Bool
  |[]=>true
  |[x]=>tv tab x.1==x.2
  |x::c=>(tv tab x.1==x.2)&&holds tab c
def Cnd.le(c c' : Cnd) : Bool:=c.all fun x=>c'.any fun y=>x.1==y.1&&x.2==y.2
structure ES where
  K : List Ent
  L : ax
  tab : List (Nat×Bool)
  obl : List Prop
def jR(K : List Ent)(t : Nat) : Option Ent:=K.find? fun e=>e.slot==t
def Hu(v : Value) : Option D :=
  if gY v then some (ofValue v) else match v with|.agg vs=>if vs.toList.all gY then some (.agg (vs.toList.map ofValue)) else none|_=>none
def getOp(K : List Ent)(g : Cnd) : Operand->Option D
  |.tmp t=>match jR K t with|some e=>if e.cnd.le g then some e.d else none|none=>none
  |.const v=>Hu v
  |.global _=>none
  |.func f=>some (.fn f [])
def iP(ops : List Oper)(K : List Ent) : Option (Nat×Bool)->Option Cnd
  |none=>some []
  |some (j,want) =>
    match (ops[j]?).bind (·.dst) with
    |none=>none
    |some t =>
      match jR K t with
      |none=>none
      |some e=>if e.src=j+1 then(match e.d with|.val (.bool _)=>some ((j,want)::e.cnd)|_=>none) else none
def j4(tab : List (Nat×Bool))(g : Cnd)(b : Bool) : Bool:=match g with|[]=>b|_=>!(holds tab g)||b
def dV(i : Nat)(d : D)(tab : List (Nat×Bool)) : List (Nat×Bool):=match d with|.val (.bool b)=>(i,b)::tab|_=>tab
def gu(e : Ent)(K : List Ent) : List Ent:=e::K.filter fun x=>!(x.slot==e.slot)
def qb(k t : Nat)(cs : List D)(L : ax) : ax:=(k,t,cs)::L.filter fun x=>!(x.1==k)
def Fj(s : D->Option D)(K : List Ent) : List Ent:=K.map fun e=>{ e with d:=e.d.sub s }
def zM(s : D->Option D)(L : ax) : ax:=L.map fun x=>(x.1,x.2.1,D.subs s x.2.2)
def dropKey(L : ax) : Option Nat->ax
  |none=>L
  |some k=>L.filter fun x=>!(x.1==k)
def setRow(k t : Nat)(r : D)(L : ax) : ax:=(k,t,[r])::L.filter fun x=>!(x.1==k)
def yr(k off : Nat)(cs : List D)(L : ax) : ax:=L.map fun x=>if x.1=k then(x.1,x.2.1,setCells x.2.2 off cs) else x
def jy : List D->Bool
  |[.aO _ _ _ _]=>true
  |_=>false
structure CBd where
  ren : List (Nat×Nat)
  dJ : List (Nat×Nat)
  ds : List D
  Lin : ax
  r : D
  dT : ax
def ua(ren : List (Nat×Nat))(L : ax) : ax:=L.filterMap fun x=>(ren.lookup x.1).map fun k=>(k,x.2.1,D.subs (bZ .hole ren) x.2.2)
def nodupB : List Nat->Bool
  |[]=>true
  |x::l=>!(l.contains x)&&nodupB l
def handed(c : CBd) : List Nat:=c.Lin.filterMap fun x=>c.ren.lookup x.1
def yP(c : CBd)(p : Nat×Nat) : Bool:=c.ren.lookup p.1==some p.2&&(c.Lin.map (·.1)).contains p.1
def di(c : CBd) : List Nat:=(c.dJ.filter fun p=>!(yP c p)).map (·.2)
def vW(c : CBd) : Bool :=
  (c.Lin.all fun x=>decide (1000000<=x.1))&&nodupB (c.ren.map (·.2))&&nodupB (c.dJ.map (·.2))&&nodupB (c.dJ.map (·.1))&&c.dJ.all fun p=>decide (p.2<1000000)||yP c p
def found(c : CBd)(L : ax) : List (Option (Nat×List D)):=c.Lin.map fun x=>(c.ren.lookup x.1).bind fun k=>L.lookup k
def Jn(L : ax)(c : CBd) : ax:=c.dT.filterMap fun x=>(c.dJ.lookup x.1).bind fun k=>(L.lookup k).map fun y=>(k,y)
def tK(fd : ax)(c : CBd) : Prop:=ua c.dJ c.dT=fd
def qp(CB : Nat->List D->ax->D->ax->Prop)(f : Nat)(args : List D)(fd : List (Option (Nat×List D)))(c : CBd) : Prop :=
  CB f c.ds c.Lin c.r c.dT/\args=D.subs (bZ never c.ren) c.ds/\fd=c.Lin.map fun x=>some (x.2.1,D.subs (bZ never c.ren) x.2.2)
section
variable (C : Nat->List D->D->Prop) (CB : Nat->List D->ax->D->ax->Prop) (Γ : Nat->Option TI) (nt : Nat) (orc : List (Nat×D)) (orb : List (Nat×CBd)) (ops : List Oper)
def yp(i : Nat)(g : Cnd)(dst : Option Nat)(c a b : Operand)(s : ES) : Option ES :=
  match dst,c with
  |some t,.tmp tc =>
    match jR s.K tc with
    |some e =>
      if e.cnd.le g/\e.src≠0/\t<nt then
        match e.d,getOp s.K ((e.src-1,true)::g) a,getOp s.K ((e.src-1,false)::g) b with
        |.val (.bool bc),some (.val (.bool ba)),some (.val (.bool bb)) =>
          some { s with K:=gu ⟨t,i+1,g,.val (.bool (bif bc then ba else bb))⟩ s.K,tab:=(i,bif bc then ba else bb)::s.tab }
        |_,_,_=>none
      else none
    |none=>none
  |_,_=>none
def fF(i : Nat)(g : Cnd)(dst : Option Nat)(s : ES) : Out×List Bool->Option ES
  |(.val d,cs) =>
    match dst with
    |some t=>if t<nt then some { s with K:=gu ⟨t,i+1,g,d⟩ s.K,tab:=dV i d s.tab,obl:=s.obl++cs.map fun c=>j4 s.tab g c=true } else none
    |none=>none
  |(.call f args,cs) =>
    match orb.lookup i with
    |some c =>
      match g with
      |[] =>
        if cs.isEmpty/\vW c then
          let K':=s.K.filter fun e=>(di c).all fun k=>!(D.names k e.d)
          let L':=ua c.dJ c.dT++s.L.filter fun x=>!((handed c).contains x.1)&&(di c).all fun k=>!(x.1==k)&&!(D.bu k x.2.2)
          match dst with
          |some t=>if t<nt then some { s with K:=gu ⟨t,i+1,[],c.r.sub (bZ .hole c.dJ)⟩ K',L:=L',tab:=dV i (c.r.sub (bZ .hole c.dJ)) s.tab,obl:=s.obl++[qp CB f args (found c s.L) c] } else none
          |none=>some { s with K:=K',L:=L',obl:=s.obl++[qp CB f args (found c s.L) c] }
        else none
      |_::_ =>
        if cs.isEmpty/\vW c/\(di c).isEmpty then
          let K':=s.K.filter fun e=>(di c).all fun k=>!(D.names k e.d)
          let L':=ua c.dJ c.dT++s.L.filter fun x=>!((handed c).contains x.1)&&(di c).all fun k=>!(x.1==k)&&!(D.bu k x.2.2)
          match dst with
          |some t=>if t<nt then some { s with K:=gu ⟨t,i+1,g,c.r.sub (bZ .hole c.dJ)⟩ K',L:=L',tab:=dV i (c.r.sub (bZ .hole c.dJ)) s.tab,obl:=s.obl++[holds s.tab g=true->qp CB f args (found c s.L) c,holds s.tab g=false->tK (Jn s.L c) c] } else none
          |none=>none
        else none
    |none =>
    match orc.lookup i,dst with
    |some r,some t=>if t<nt/\D.bP args/\D.dS r/\cs.isEmpty then some { s with K:=gu ⟨t,i+1,g,r⟩ s.K,tab:=dV i r s.tab,obl:=s.obl++[holds s.tab g=true->C f args r] } else none
    |some r,none=>if D.bP args/\cs.isEmpty then some { s with obl:=s.obl++[holds s.tab g=true->C f args r] } else none
    |none,_=>none
  |(.box ty cells,cs) =>
    match g,dst with
    |[],some t =>
      if t<nt/\t<1000000/\cells.all D.flat/\!D.bu t cells/\cs.isEmpty then
        some { s with K:=gu ⟨t,i+1,[],.own t 0⟩ (s.K.filter fun x=>!D.names t x.d),L:=qb t ty cells (s.L.filter fun x=>!D.bu t x.2.2) }
      else none
    |_,_=>none
  |(.store k off cells,cs) =>
    match g,dst with
    |[],none=>if cells.all D.flat/\cs.isEmpty then some { s with L:=yr k off cells s.L } else none
    |_,_=>none
  |(.row ty m old spec,cs) =>
    match g,dst,orc.lookup i,old with
    |_::_,some t,some (.recs d enc l),none =>
      if t<nt/\t<1000000 then
        some { s with K:=gu ⟨t,i+1,g,.recs d enc l⟩ (s.K.filter fun x=>!D.names t x.d),L:=(s.L.filter fun x=>!D.bu t x.2.2).filter fun x=>!(x.1==t),
                      obl:=s.obl++(cs.map fun c=>j4 s.tab g c=true)++[holds s.tab g=true->spec (.recs d enc l)/\aQ (.recs d enc l)] }
      else none
    |[],some t,some (.recs d enc l),_ =>
      if t<nt/\t<1000000 then
        some { s with K:=gu ⟨t,i+1,[],.row t⟩ (s.K.filter fun x=>!D.names t x.d),L:=qb t ty [.aO m d enc l] ((dropKey s.L old).filter fun x=>!D.bu t x.2.2),
                      obl:=s.obl++(cs.map fun c=>j4 s.tab [] c=true)++[spec (.recs d enc l)/\aQ (.recs d enc l)] }
      else none
    |_,_,_,_=>none
  |(.upd k n z off cells,cs) =>
    match g,dst,orc.lookup i,s.L.lookup k with
    |[],none,some (.recs d' enc' l'),some (t,[.aO false d enc l]) =>
      if cells.all D.flat/\D.bP cells/\z=(enc d).length then
        some { s with L:=setRow k t (.aO false d' enc' l') s.L,obl:=s.obl++(cs.map fun c=>j4 s.tab [] c=true)++[BL d enc l n off cells (.recs d' enc' l')] }
      else none
    |_,_,_,_=>none
  |(.vS ty z m d,cs) =>
    match g,dst,orc.lookup i with
    |[],some t,some (.recs d' enc l) =>
      if t<nt/\t<1000000/\m<=1000000/\cs.isEmpty then
        some { s with K:=gu ⟨t,i+1,[],.elm t 0 z 0⟩ (s.K.filter fun x=>!D.names t x.d),L:=qb t ty [.aO false d' enc l] (s.L.filter fun x=>!D.bu t x.2.2),obl:=s.obl++[dC z d.cells m (.recs d' enc l)/\aQ (.recs d' enc l)] }
      else none
    |_,_,_=>none
  |(.fill k z m d,cs) =>
    match g,dst,orc.lookup i,s.L.lookup k with
    |[],none,some (.recs d' enc' l'),some (t,[.aO false d0 enc l]) =>
      if cs.isEmpty/\(enc d0).length=z/\0<m then
        some { s with L:=setRow k t (.aO false d' enc' l') s.L,obl:=s.obl++[decide (l.length=m)=true,dC z d.cells m (.recs d' enc' l')/\aQ (.recs d' enc' l')] }
      else none
    |_,_,_,_=>none
  |(.turn k z m d,cs) =>
    match g,dst,orc.lookup i,s.L.lookup k with
    |[],none,some (.recs d' enc' l'),some (t,ds) =>
      if cs.isEmpty/\k<1000000/\m<=1000000 then
        some { s with K:=Fj (ie k z) s.K,L:=setRow k t (.aO false d' enc' l') (zM (ie k z) (s.L.filter fun x=>!(x.1==k))),obl:=s.obl++[dC z d.cells m (.recs d' enc' l')/\aQ (.recs d' enc' l')] }
      else none
    |_,_,_,_=>none
  |(.pL ty kk ag,cs) =>
    match g,dst,orc.lookup i with
    |[],some t,some (.eE kk' ag' d enc []) =>
      if t<nt/\t<1000000/\cs.isEmpty/\kk'=kk/\ag'=ag then
        some { s with K:=gu ⟨t,i+1,[],.mp t⟩ (s.K.filter fun x=>!D.names t x.d),L:=qb t ty [.eE kk ag d enc []] (s.L.filter fun x=>!D.bu t x.2.2),obl:=s.obl++[wo ag enc] }
      else none
    |_,_,_=>none
  |(.mlk k kk ag key ok ez,cs) =>
    match dst,orc.lookup i,s.L.lookup k with
    |some t,some r,some (_,[.eE kk' ag' d enc l]) =>
      if t<nt/\cs.isEmpty/\kk'=kk/\ag'=ag then some { s with K:=gu ⟨t,i+1,g,r⟩ s.K,tab:=dV i r s.tab,obl:=s.obl++[holds s.tab g=true->if ok then xB ag enc l key ez r else ry ag enc l key ez r] } else none
    |_,_,_=>none
  |(.uT k,cs) =>
    match dst,s.L.lookup k with
    |some t,some (_,[.eE _ _ _ _ l])=>if t<nt/\cs.isEmpty then some { s with K:=gu ⟨t,i+1,g,.val (.int .i64 l.length)⟩ s.K } else none
    |_,_=>none
  |(.qO k kk ag key cells,cs) =>
    match g,dst,s.L.lookup k with
    |[],none,some (t,[.eE kk' ag' (α:=α) d enc l]) =>
      if D.bP cells/\cs.isEmpty/\kk'=kk/\ag'=ag then
        match orc.lookup i with
        |some r=>some { s with L:=setRow k t r s.L,obl:=s.obl++[∃l' : List (MK×α),r=.eE kk ag d enc l'/\za enc l key cells l'] }
        |none=>none
      else none
    |_,_,_=>none
  |(.mdl k kk ag key,cs) =>
    match g,dst,s.L.lookup k with
    |[],none,some (t,[.eE kk' ag' d enc l]) =>
      if cs.isEmpty/\kk'=kk/\ag'=ag then some { s with L:=setRow k t (.eE kk ag d enc (tZ l key)) s.L } else none
    |_,_,_=>none
  |(.cpy k es cells n,cs) =>
    match g,dst,orc.lookup i,s.L.lookup k with
    |[],none,some (.recs d' enc' l'),some (t,[.aO false d enc l]) =>
      if cs.isEmpty/\(enc d).length=es then some { s with L:=setRow k t (.aO false d' enc' l') s.L,obl:=s.obl++[yT d enc l cells n (.recs d' enc' l')] } else none
    |[],some tt,some (.recs d' enc' l'),some (t,[.aO false d enc l]) =>
      if tt<nt/\cs.isEmpty/\(enc d).length=es then some { s with K:=gu ⟨tt,i+1,[],.val (.int .i64 (Nat.min n l.length : Nat))⟩ s.K,L:=setRow k t (.aO false d' enc' l') s.L,obl:=s.obl++[yT d enc l cells n (.recs d' enc' l')] } else none
    |_,_,_,_=>none
  |(.known spec,cs) =>
    match dst,orc.lookup i with
    |some t,some r=>if t<nt/\cs.isEmpty then some { s with K:=gu ⟨t,i+1,g,r⟩ s.K,tab:=dV i r s.tab,obl:=s.obl++[holds s.tab g=true->spec r] } else none
    |_,_=>none
def settle(s : ES)(k : Nat) : ES :=
  match s.L.lookup k with
  |some (t,[.aO _ d enc l])=>{ s with L:=setRow k t (.aO true d enc l) s.L }
  |some (_,ds) =>
    if D.bP (D.ic s.L ds)&&ds.all D.flat then { s with K:=Fj (qW k (D.ic s.L ds)) s.K,L:=zM (qW k (D.ic s.L ds)) (s.L.filter fun x=>!(x.1==k)) } else s
  |none=>s
def qa(i : Nat)(o : Oper)(s : ES) : Option ES :=
  match iP ops s.K o.guard with
  |none=>none
  |some g =>
    match o.op with
    |.pick c a b=>yp nt i g o.dst c a b s
    |op=>(fV Γ s.L (getOp s.K g) o.dst op).bind (fF C CB nt orc orb i g o.dst s)
def j5(fz : List (Nat×List Nat))(i : Nat)(s : ES) : ES:=match fz.lookup i with|some ks=>ks.foldl settle s|none=>s
def lD(fz : List (Nat×List Nat)) : List Oper->Nat->ES->Option ES
  |[],i,s=>some (j5 fz i s)
  |o::rest,i,s =>
    match qa C CB Γ nt orc orb ops i o (j5 fz i s) with
    |some s'=>lD fz rest (i+1) s'
    |none=>none
def pJ(K : List Ent) : List Nat->Option (List (Nat×D))
  |[]=>some []
  |t::ts =>
    match jR K t,pJ K ts with
    |some e,some r=>if e.cnd.isEmpty then some ((t,e.d)::r) else none
    |_,_=>none
def ia(L : ax) : List Nat->Option ax
  |[]=>some []
  |k::ks =>
    match L.lookup k,ia L ks with
    |some x,some r=>some ((k,x)::r)
    |_,_=>none
def nu(K : List (Nat×D))(L : ax) : ES:={ K:=K.map fun x=>⟨x.1,0,[],x.2⟩,L:=L,tab:=[],obl:=[] }
def ng(fz : List (Nat×List Nat))(K : List (Nat×D))(L : ax)(kk kl : List Nat) : Option (List (Nat×D)×ax×List Prop) :=
  match lD C CB Γ nt orc orb ops fz ops 0 (nu K L) with
  |some s=>match pJ s.K kk,ia s.L kl with|some K',some L'=>some (K',L',s.obl)|_,_=>none
  |none=>none
end
def onL(o : Oper) : List Nat:=o.after.toList.filterMap fun e=>if Region.binds .any e then some e.on else none
def dX(ops : List Oper)(i : Nat)(on : List Nat)(e : Ent) : Bool :=
  if e.src=0 then ops.zipIdx.all fun x=>x.2==i||!(x.1.dst==some e.slot)||(onL x.1).contains i
  else on.contains (e.src-1)
structure xN where
  i : Nat
  old : Option Nat
  t : Nat
  e : Nat
  r : D
structure DS where
  K : List Ent
  tab : List (Nat×Bool)
  obl : List Prop
  A : List (Nat×Nat×Nat×List D)
  T : List (Nat×Nat×Nat×List D)
  R : List (Nat×Nat)
  N : Option xN
  Q : List (Nat×Nat)
def fJ(k : Nat)(c : List D) : List (Nat×Nat×Nat×List D)->List D
  |[]=>c
  |s::T=>if s.2.1=k then setCells (fJ k c T) s.2.2.1 s.2.2.2 else fJ k c T
def taken(N : Option xN)(k : Nat) : Bool:=match N with|some n=>n.old==some k|none=>false
def yV(L0 : ax)(s : DS) : ax:=((L0.filter fun x=>!(jy x.2.2))++s.A.map fun x=>(x.2.1,x.2.2.1,x.2.2.2)).map fun x=>(x.1,x.2.1,fJ x.1 x.2.2 s.T)
def E3(L0 : ax)(s : DS)(ks an : List Nat) : ax :=
  (L0.filter fun x=>jy x.2.2&&!(taken s.N x.1)&&ks.contains x.1)++(match s.N with|some n=>if ks.contains n.t&&an.contains n.i then [(n.t,n.e,[n.r])] else []|none=>[])
def viewAt(L0 : ax)(s : DS)(ks an : List Nat) : ax:=yV L0 s++E3 L0 s ks an
def FG(L0 : ax)(s : DS) : ax:=yV L0 s++((L0.filter fun x=>jy x.2.2&&!(taken s.N x.1))++(match s.N with|some n=>[(n.t,n.e,[n.r])]|none=>[]))
mutual
def D.rows : D->List Nat
  |.row k=>[k]
  |.elm k _ _ _=>[k]
  |.agg ds=>D.BM ds
  |.tup ds=>D.BM ds
  |.fn _ ds=>D.BM ds
  |_=>[]
def D.BM : List D->List Nat
  |[]=>[]
  |d::ds=>D.rows d++D.BM ds
end
def keysOf(get : Operand->Option D) : Op->List Nat
  |.move _|.assign _|.nilCheck _|.extract _ _=>[]
  |op=>(op.operands.toList.filterMap get).flatMap D.rows
def kX(ops : List Oper)(i : Nat) : List Nat :=
  (List.range i).reverse.foldl (fun acc j=>if(i::acc).any fun m=>(match ops[m]? with|some o=>(onL o).contains j|none=>false) then j::acc else acc) []
def jU(get : Operand->Option D) : Op->Option Nat
  |.load _ x=>match get x with|some (.own k _)=>some k|_=>none
  |.store _ x _=>match get x with|some (.own k _)=>some k|_=>none
  |_=>none
def pw(on : List Nat)(s : DS) : Option Nat->Bool
  |none=>true
  |some k=>s.T.all fun x=>!(x.2.1==k)||on.contains x.1
section
variable (C : Nat->List D->D->Prop) (Γ : Nat->Option TI) (nt : Nat) (orc : List (Nat×D)) (ops : List Oper) (L0 : ax)
def lY(i : Nat)(g : Cnd)(on an : List Nat)(bx : Option Nat)(dst : Option Nat)(s : DS) : Out×List Bool->Option DS
  |(.val d,cs) =>
    match dst with
    |some t=>if t<nt then some { s with K:=⟨t,i+1,g,d⟩::s.K,tab:=dV i d s.tab,obl:=s.obl++cs.map (fun c=>j4 s.tab g c=true),R:=match bx with|some k=>(i,k)::s.R|none=>s.R } else none
    |none=>none
  |(.call f args,cs) =>
    match orc.lookup i,dst with
    |some r,some t=>if t<nt/\D.bP args/\D.dS r/\cs.isEmpty then some { s with K:=⟨t,i+1,g,r⟩::s.K,tab:=dV i r s.tab,obl:=s.obl++[holds s.tab g=true->C f args r] } else none
    |_,_=>none
  |(.box ty cells,cs) =>
    match g,dst with
    |[],some t =>
      if t<nt/\t<1000000/\cells.all D.flat/\cs.isEmpty/\(s.K.all fun x=>!(x.src==0)||!D.names t x.d)/\(L0.all fun x=>!(x.1==t)&&!D.bu t x.2.2)/\(s.A.all fun x=>!(x.2.1==t)) then
        some { s with K:=⟨t,i+1,[],.own t 0⟩::s.K,A:=(i,t,ty,cells)::s.A }
      else none
    |_,_=>none
  |(.store k off cells,cs) =>
    match g,dst with
    |[],none=>if cells.all D.flat/\cs.isEmpty/\(s.R.all fun x=>!(x.2==k)||on.contains x.1)/\bx=some k then some { s with T:=(i,k,off,cells)::s.T } else none
    |_,_=>none
  |(.row ty m old spec,cs) =>
    match dst,orc.lookup i,old with
    |some t,some (.row _),some k =>
      match g,orc.lookup (1000+i) with
      |[],some (.recs d enc l) =>
        if t<nt/\t<1000000/\s.N.isNone/\(s.Q.all fun x=>!(x.2==k)||an.contains x.1)/\(s.K.all fun x=>!(x.src==0)||!D.names t x.d)/\(L0.all fun x=>!(x.1==t)&&!D.bu t x.2.2)/\(s.A.all fun x=>!(x.2.1==t)&&!D.bu t x.2.2.2) then
          some { s with K:=⟨t,i+1,[],.row t⟩::s.K,N:=some ⟨i,some k,t,ty,.aO m d enc l⟩,obl:=s.obl++(cs.map fun c=>j4 s.tab [] c=true)++[spec (.recs d enc l)/\aQ (.recs d enc l)] }
        else none
      |_,_=>none
    |some t,some r,none=>if t<nt then some { s with K:=⟨t,i+1,g,r⟩::s.K,tab:=dV i r s.tab,obl:=s.obl++(cs.map fun c=>j4 s.tab g c=true)++[holds s.tab g=true->spec r/\aQ r] } else none
    |_,_,_=>none
  |(.known spec,cs) =>
    match dst,orc.lookup i with
    |some t,some r=>if t<nt/\cs.isEmpty then some { s with K:=⟨t,i+1,g,r⟩::s.K,tab:=dV i r s.tab,obl:=s.obl++[holds s.tab g=true->spec r] } else none
    |_,_=>none
  |_=>none
def Ju(i : Nat)(g : Cnd)(Kr : List Ent)(dst : Option Nat)(c a b : Operand)(s : DS) : Option DS :=
  match dst,c with
  |some t,.tmp tc =>
    match jR Kr tc with
    |some e =>
      if e.cnd.le g/\e.src≠0/\t<nt then
        match e.d,getOp Kr ((e.src-1,true)::g) a,getOp Kr ((e.src-1,false)::g) b with
        |.val (.bool bc),some (.val (.bool ba)),some (.val (.bool bb)) =>
          some { s with K:=⟨t,i+1,g,.val (.bool (bif bc then ba else bb))⟩::s.K,tab:=(i,bif bc then ba else bb)::s.tab }
        |_,_,_=>none
      else none
    |none=>none
  |_,_=>none
def stepD(i : Nat)(o : Oper)(s : DS) : Option DS :=
  let on:=onL o
  let Kr:=s.K.filter (dX ops i on)
  match iP ops Kr o.guard with
  |none=>none
  |some g =>
    match o.op with
    |.pick c a b=>Ju nt i g Kr o.dst c a b s
    |op =>
      let bx:=jU (getOp Kr g) op
      let ks:=keysOf (getOp Kr g) op
      let an:=kX ops i
      if pw on s bx then((fV Γ (viewAt L0 s ks an) (getOp Kr g) o.dst op).bind (lY C nt orc L0 i g on an bx o.dst s)).map fun s'=>{ s' with Q:=ks.map (fun k=>(i,k))++s'.Q } else none
def rq : List Oper->Nat->DS->Option DS
  |[],_,s=>some s
  |o::rest,i,s =>
    match stepD C Γ nt orc ops L0 i o s with
    |some s'=>rq rest (i+1) s'
    |none=>none
def nZ : List Oper->Bool
  |[]=>true
  |o::os=>(match o.dst with|some t=>os.all fun x=>!(x.dst==some t)|none=>true)&&nZ os
def kW(ops : List Oper) : Bool:=ops.zipIdx.all fun x=>(onL x.1).all fun j=>decide (j<x.2)
def qI(K : List (Nat×D)) : DS:={ K:=K.map fun x=>⟨x.1,0,[],x.2⟩,tab:=[],obl:=[],A:=[],T:=[],R:=[],N:=none,Q:=[] }
def zd(ops : List Oper)(K : List Ent) : List Nat->Option (List (Nat×D))
  |[]=>some []
  |t::ts =>
    match jR K t,zd ops K ts with
    |some e,some r=>if e.cnd.isEmpty/\(e.src≠0\/ops.all fun o=>!(o.dst==some t)) then some ((t,e.d)::r) else none
    |_,_=>none
def A8(K : List (Nat×D))(kk kl : List Nat) : Option (List (Nat×D)×ax×List Prop) :=
  if nZ ops&&kW ops&&(L0.all fun x=>jy x.2.2||x.2.2.all D.flat) then
    match rq C Γ nt orc ops L0 ops 0 (qI K) with
    |some s=>match zd ops s.K kk,ia (FG L0 s) kl with|some K',some L'=>some (K',L',s.obl)|_,_=>none
    |none=>none
  else none
end
def lZ(Γ : Nat->Option TI)(K : List (Nat×D))(L : ax) : List ResultVar->Option (List D)
  |[]=>some []
  |.tmp t::rest=>match K.lookup t,lZ Γ K L rest with|some d,some ds=>some (d::ds)|_,_=>none
  |.cell t ty::rest =>
    match K.lookup t,Γ ty,lZ Γ K L rest with
    |some (.own k off),some ti,some ds=>match L.lookup k with|some (_,cs)=>(partOf ti.agg ti.size off cs).map fun d=>d::ds|none=>none
    |_,_,_=>none
def um(Γ : Nat->Option TI)(K : List (Nat×D))(L : ax)(rs : List ResultVar) : Option D :=
  match lZ Γ K L rs with
  |some [d]=>if(d.shut L).dS then some (d.shut L) else none
  |some ds=>if D.bP (D.ic L ds) then some (.tup (D.ic L ds)) else none
  |none=>none
end Go.Proofs.YtefojkdckfidcaaGreatDoor.RX
namespace Go.Proofs.YtefojkdckfidcaaGreatDoor.RX
open Go.RowKit
abbrev Fz:=Nat->Nat->Prop
inductive Ref where
 |box (b:Nat)
 |row (p:Option Nat) (n cap:Nat)
 |map (b:Nat)
def Ref.blk:Ref->Option Nat
 |.box b=>some b
 |.row p _ _=>p
 |.map b=>some b
def bf(p:Option Nat)(n cap:Nat):Value:=.slice (p.map fun b=>⟨b,0,none⟩) n cap
def pI(v:Value)(p:Option Nat)(n cap:Nat):Prop:=v=bf p n cap\/(p=none/\n=0/\cap=0/\∃q,v=.slice q 0 0)
abbrev Env:=Nat->Option Ref
def NB:Env:=fun _=>none
mutual
inductive Rep(F:Fz)(w:World):Env->D->Value->Prop
 |val {B} (v:Value) (hv:gY v=true):Rep F w B (.val v) v
 |str {B} (l:Bs):Rep F w B (.str l) (.string ⟨l.toArray⟩)
 |own {B} (i off b:Nat) (h:B i=some (.box b)):Rep F w B (.own i off) (.pointer (some ⟨b,off,none⟩))
 |opt {B} (i b:Nat) (v:Value) (h:B i=some (.box b)) (hv:v=.pointer none\/v=.pointer (some ⟨b,0,none⟩)):Rep F w B (.opt i) v
 |mp {B} (i b:Nat) (h:B i=some (.map b)):Rep F w B (.mp i) (.map (some b))
 |aY {B} (k:Nat) (p:Option Nat) (n cap:Nat) (h:B k=some (.row p n cap)):Rep F w B (.aY k) (bf p n cap)
 |agg {B} (ds:List D) (vs:List Value) (h:aA F w B ds vs):Rep F w B (.agg ds) (.agg vs.toArray)
 |tup {B} (ds:List D) (vs:List Value) (h:aA F w B ds vs):Rep F w B (.tup ds) (.tuple vs.toArray)
 |bW {B} {α:Type} (d:α) (enc:α->List D) (p:Option Addr):Rep F w B (.recs d enc []) (.slice p 0 0)
 |recs {B} {α:Type} (d:α) (enc:α->List D) (l:List α) (g off cap size:Nat) (vs:Nat->List Value) (hz:size=(enc d).length)
   (h1:∀i,i<l.length->(vs i).length=size)
   (h2:∀i,i<l.length->aA F w NB (enc (l[i]?.getD d)) (vs i))
   (h3:∀i j,i<l.length->j<size->F g (off+i*size+j)/\w.cell? ⟨g,off+i*size+j,none⟩=(vs i)[j]?)
   (hc:l.length<=cap):Rep F w B (.recs d enc l) (.slice (some ⟨g,off,none⟩) l.length cap)
 |el {B} (ds:List D) (vs:List Value) (g off:Nat) (h:aA F w NB ds vs)
   (h2:∀j,j<vs.length->F g (off+j)/\w.cell? ⟨g,off+j,none⟩=vs[j]?):Rep F w B (.el ds) (.pointer (some ⟨g,off,none⟩))
 |fn {B} (f:Nat) (ds:List D) (vs:List Value) (h:aA F w B ds vs):Rep F w B (.fn f ds) (.func (.func f) #[] vs.toArray)
 |row {B} (k:Nat) (p:Option Nat) (n cap:Nat) (h:B k=some (.row p n cap)):Rep F w B (.row k) (bf p n cap)
 |dn {B} (k:Nat) (q:Option Addr) (h:B k=some (.row none 0 0)):Rep F w B (.row k) (.slice q 0 0)
 |elm {B} (k:Nat) (n:Int) (z off b nn cap:Nat) (h:B k=some (.row (some b) nn cap)):Rep F w B (.elm k n z off) (.pointer (some ⟨b,n.toNat*z+off,none⟩))
 |tree {B} {α:Type} (d:α) (pre:α->List D) (kids:α->List α) (l:List α) (v:Value) (h:Rep F w B (.recs d (oM d pre kids) l) v):Rep F w B (.tree d pre kids l) v
 |arr {B} {α:Type} (d:α) (enc:α->List D) (l:List α) (vs:List Value) (hg:0<(enc d).length/\∀x,(enc x).length=(enc d).length/\(enc x).all D.flat=true) (h:aA F w NB (l.flatMap enc) vs):Rep F w B (.arr d enc l) (.agg vs.toArray)
 |hole {B} (v:Value) (hv:gY v=true):Rep F w B .hole v
inductive aA(F:Fz)(w:World):Env->List D->List Value->Prop
 |nil {B}:aA F w B [] []
 |cons {B} (d:D) (v:Value) (ds:List D) (vs:List Value) (h:Rep F w B d v) (hs:aA F w B ds vs):aA F w B (d::ds) (v::vs)
end
theorem Rep.row_of{F:Fz}{w:World}{B:Env}{k:Nat}{p:Option Nat}{n cap:Nat}{v:Value}(h:B k=some (.row p n cap))(hv:pI v p n cap):Rep F w B (.row k) v:=by
 rcases hv with rfl|⟨rfl,rfl,rfl,q,rfl⟩
 ·exact .row k p n cap h
 ·exact .dn k q h
structure Grow(F F':Fz)(w w':World):Prop where
 frz:∀g k,F g k->F' g k
 cell:∀g k,F g k->w'.cell? ⟨g,k,none⟩=w.cell? ⟨g,k,none⟩
theorem Grow.refl(F:Fz)(w:World):Grow F F w w:=⟨fun _ _ h=>h,fun _ _ _=>rfl⟩
mutual
theorem Rep.grow{F F':Fz}{w w':World}(g:Grow F F' w w'):∀{B d v},Rep F w B d v->Rep F' w' B d v
 |_,_,_,.val v hv=>.val v hv
 |_,_,_,.str l=>.str l
 |_,_,_,.own i off b h=>.own i off b h
 |_,_,_,.opt i b v h hv=>.opt i b v h hv
 |_,_,_,.aY k p n cap h=>.aY k p n cap h
 |_,_,_,.mp i b h=>.mp i b h
 |_,_,_,.agg ds vs h=>.agg ds vs (aA.grow g h)
 |_,_,_,.tup ds vs h=>.tup ds vs (aA.grow g h)
 |_,_,_,.bW d enc p=>.bW d enc p
 |_,_,_,.recs d enc l gb off cap size vs hz h1 h2 h3 hc =>
  .recs d enc l gb off cap size vs hz h1 (fun i hi=>aA.grow g (h2 i hi))
   (fun i j hi hj=>⟨g.frz _ _ (h3 i j hi hj).1,(g.cell _ _ (h3 i j hi hj).1).trans (h3 i j hi hj).2⟩) hc
 |_,_,_,.el ds vs gb off h h2=>.el ds vs gb off (aA.grow g h) (fun j hj=>⟨g.frz _ _ (h2 j hj).1,(g.cell _ _ (h2 j hj).1).trans (h2 j hj).2⟩)
 |_,_,_,.fn f ds vs h=>.fn f ds vs (aA.grow g h)
 |_,_,_,.row k p n cap h=>.row k p n cap h
 |_,_,_,.dn k q h=>.dn k q h
 |_,_,_,.elm k n z off b nn cap h=>.elm k n z off b nn cap h
 |_,_,_,.tree d pre kids l v h=>.tree d pre kids l v (Rep.grow g h)
 |_,_,_,.arr d enc l vs hg h=>.arr d enc l vs hg (aA.grow g h)
 |_,_,_,.hole v hv=>.hole v hv
theorem aA.grow{F F':Fz}{w w':World}(g:Grow F F' w w'):∀{B ds vs},aA F w B ds vs->aA F' w' B ds vs
 |_,_,_,.nil=>.nil
 |_,_,_,.cons d v ds vs h hs=>.cons d v ds vs (Rep.grow g h) (aA.grow g hs)
end
mutual
theorem Rep.fB{F:Fz}{w:World}{B B':Env}(k:Nat)(hB:∀i,i≠k->B' i=B i):∀{d v},Rep F w B d v->D.names k d=false->Rep F w B' d v
 |_,_,.val v hv,_=>.val v hv
 |_,_,.str l,_=>.str l
 |_,_,.own i off b h,hn=>.own i off b (by
   rw[hB i (by intro e;subst e;simp[D.names] at hn)];exact h)
 |_,_,.opt i b v h hv,hn=>.opt i b v (by
   rw[hB i (by intro e;subst e;simp[D.names] at hn)];exact h) hv
 |_,_,.mp i b h,hn=>.mp i b (by
   rw[hB i (by intro e;subst e;simp[D.names] at hn)];exact h)
 |_,_,.aY j p n cap h,hn=>.aY j p n cap (by
   rw[hB j (by intro e;subst e;simp[D.names] at hn)];exact h)
 |_,_,.agg ds vs h,hn=>.agg ds vs (aA.fB k hB h hn)
 |_,_,.tup ds vs h,hn=>.tup ds vs (aA.fB k hB h hn)
 |_,_,.bW d enc p,_=>.bW d enc p
 |_,_,.recs d enc l gb off cap size vs hz h1 h2 h3 hc,_=>.recs d enc l gb off cap size vs hz h1 h2 h3 hc
 |_,_,.el ds vs gb off h h2,_=>.el ds vs gb off h h2
 |_,_,.fn f ds vs h,hn=>.fn f ds vs (aA.fB k hB h hn)
 |_,_,.row j p n cap h,hn=>.row j p n cap (by
   rw[hB j (by intro e;subst e;simp[D.names] at hn)];exact h)
 |_,_,.dn j q h,hn=>.dn j q (by
   rw[hB j (by intro e;subst e;simp[D.names] at hn)];exact h)
 |_,_,.elm j n z off b nn cap h,hn=>.elm j n z off b nn cap (by
   rw[hB j (by intro e;subst e;simp[D.names] at hn)];exact h)
 |_,_,.tree d pre kids l v h,_=>.tree d pre kids l v (Rep.fB k hB h rfl)
 |_,_,.arr d enc l vs hg h,_=>.arr d enc l vs hg h
 |_,_,.hole v hv,_=>.hole v hv
theorem aA.fB{F:Fz}{w:World}{B B':Env}(k:Nat)(hB:∀i,i≠k->B' i=B i):∀{ds vs},aA F w B ds vs->D.bu k ds=false->aA F w B' ds vs
 |_,_,.nil,_=>.nil
 |_,_,.cons d v ds vs h hs,hn=>by
  have hn':D.names k d=false/\D.bu k ds=false:=by simpa[D.bu] using hn
  exact .cons d v ds vs (Rep.fB k hB h hn'.1) (aA.fB k hB hs hn'.2)
end
mutual
theorem Rep.bare{F:Fz}{w:World}{B B':Env}:∀{d v},Rep F w B d v->D.dS d=true->Rep F w B' d v
 |_,_,.val v hv,_=>.val v hv
 |_,_,.str l,_=>.str l
 |_,_,.own i off b h,hn=>by simp[D.dS] at hn
 |_,_,.opt i b v h hv,hn=>by simp[D.dS] at hn
 |_,_,.aY j p n cap h,hn=>by simp[D.dS] at hn
 |_,_,.mp i b h,hn=>by simp[D.dS] at hn
 |_,_,.agg ds vs h,hn=>.agg ds vs (aA.bare h hn)
 |_,_,.tup ds vs h,hn=>.tup ds vs (aA.bare h hn)
 |_,_,.bW d enc p,_=>.bW d enc p
 |_,_,.recs d enc l gb off cap size vs hz h1 h2 h3 hc,_=>.recs d enc l gb off cap size vs hz h1 h2 h3 hc
 |_,_,.el ds vs gb off h h2,_=>.el ds vs gb off h h2
 |_,_,.fn f ds vs h,hn=>.fn f ds vs (aA.bare h hn)
 |_,_,.row j p n cap h,hn=>by simp[D.dS] at hn
 |_,_,.dn j q h,hn=>by simp[D.dS] at hn
 |_,_,.elm j n z off b nn cap h,hn=>by simp[D.dS] at hn
 |_,_,.tree d pre kids l v h,_=>.tree d pre kids l v (Rep.bare h rfl)
 |_,_,.arr d enc l vs hg h,_=>.arr d enc l vs hg h
 |_,_,.hole v hv,_=>.hole v hv
theorem aA.bare{F:Fz}{w:World}{B B':Env}:∀{ds vs},aA F w B ds vs->D.bP ds=true->aA F w B' ds vs
 |_,_,.nil,_=>.nil
 |_,_,.cons d v ds vs h hs,hn=>by
  have hn':D.dS d=true/\D.bP ds=true:=by simpa[D.bP] using hn
  exact .cons d v ds vs (Rep.bare h hn'.1) (aA.bare hs hn'.2)
end
mutual
theorem Rep.rE{F:Fz}{w:World}{B B':Env}(hB:∀i b,B i=some b->B' i=some b):∀{d v},Rep F w B d v->Rep F w B' d v
 |_,_,.val v hv=>.val v hv
 |_,_,.str l=>.str l
 |_,_,.own i off b h=>.own i off b (hB _ _ h)
 |_,_,.opt i b v h hv=>.opt i b v (hB _ _ h) hv
 |_,_,.aY j p n cap h=>.aY j p n cap (hB _ _ h)
 |_,_,.mp i b h=>.mp i b (hB _ _ h)
 |_,_,.agg ds vs h=>.agg ds vs (aA.rE hB h)
 |_,_,.tup ds vs h=>.tup ds vs (aA.rE hB h)
 |_,_,.bW d enc p=>.bW d enc p
 |_,_,.recs d enc l gb off cap size vs hz h1 h2 h3 hc=>.recs d enc l gb off cap size vs hz h1 h2 h3 hc
 |_,_,.el ds vs gb off h h2=>.el ds vs gb off h h2
 |_,_,.fn f ds vs h=>.fn f ds vs (aA.rE hB h)
 |_,_,.row j p n cap h=>.row j p n cap (hB _ _ h)
 |_,_,.dn j q h=>.dn j q (hB _ _ h)
 |_,_,.elm j n z off b nn cap h=>.elm j n z off b nn cap (hB _ _ h)
 |_,_,.tree d pre kids l v h=>.tree d pre kids l v (Rep.rE hB h)
 |_,_,.arr d enc l vs hg h=>.arr d enc l vs hg h
 |_,_,.hole v hv=>.hole v hv
theorem aA.rE{F:Fz}{w:World}{B B':Env}(hB:∀i b,B i=some b->B' i=some b):∀{ds vs},aA F w B ds vs->aA F w B' ds vs
 |_,_,.nil=>.nil
 |_,_,.cons d v ds vs h hs=>.cons d v ds vs (Rep.rE hB h) (aA.rE hB hs)
end
mutual
theorem Rep.lift{F:Fz}{w:World}{B B':Env}(hB:∀i,B i=none):∀{d v},Rep F w B d v->Rep F w B' d v
 |_,_,.val v hv=>.val v hv
 |_,_,.str l=>.str l
 |_,_,.own i off b h=>by rw[hB] at h;cases h
 |_,_,.opt i b v h hv=>by rw[hB] at h;cases h
 |_,_,.aY j p n cap h=>by rw[hB] at h;cases h
 |_,_,.mp i b h=>by rw[hB] at h;cases h
 |_,_,.agg ds vs h=>.agg ds vs (aA.lift hB h)
 |_,_,.tup ds vs h=>.tup ds vs (aA.lift hB h)
 |_,_,.bW d enc p=>.bW d enc p
 |_,_,.recs d enc l gb off cap size vs hz h1 h2 h3 hc=>.recs d enc l gb off cap size vs hz h1 h2 h3 hc
 |_,_,.el ds vs gb off h h2=>.el ds vs gb off h h2
 |_,_,.fn f ds vs h=>.fn f ds vs (aA.lift hB h)
 |_,_,.row j p n cap h=>by rw[hB] at h;cases h
 |_,_,.dn j q h=>by rw[hB] at h;cases h
 |_,_,.elm j n z off b nn cap h=>by rw[hB] at h;cases h
 |_,_,.tree d pre kids l v h=>.tree d pre kids l v (Rep.lift hB h)
 |_,_,.arr d enc l vs hg h=>.arr d enc l vs hg h
 |_,_,.hole v hv=>.hole v hv
theorem aA.lift{F:Fz}{w:World}{B B':Env}(hB:∀i,B i=none):∀{ds vs},aA F w B ds vs->aA F w B' ds vs
 |_,_,.nil=>.nil
 |_,_,.cons d v ds vs h hs=>.cons d v ds vs (Rep.lift hB h) (aA.lift hB hs)
end
theorem aA.length{F:Fz}{w:World}:∀{B ds vs},aA F w B ds vs->vs.length=ds.length
 |_,_,_,.nil=>rfl
 |_,_,_,.cons _ _ _ _ _ hs=>by simp[aA.length hs]
theorem aA.get{F:Fz}{w:World}{B}:∀{ds vs}(i:Nat){d:D},aA F w B ds vs->ds[i]? = some d->∃v,vs[i]? = some v/\Rep F w B d v
 |_,_,i,d,.nil,h=>by simp at h
 |_,_,0,d,.cons d' v ds vs h hs,he=>by simp at he;subst he;exact⟨v,rfl,h⟩
 |_,_,i+1,d,.cons d' v ds vs h hs,he=>by
  have:=aA.get i hs (by simpa using he)
  simpa using this
theorem aA.append{F:Fz}{w:World}{B}:∀{ds vs ds' vs'},aA F w B ds vs->aA F w B ds' vs'->aA F w B (ds++ds') (vs++vs')
 |_,_,_,_,.nil,h=>h
 |_,_,_,_,.cons d v ds vs h hs,h'=>.cons d v _ _ h (aA.append hs h')
theorem aA.drop{F:Fz}{w:World}{B}:∀(n:Nat){ds vs},aA F w B ds vs->aA F w B (ds.drop n) (vs.drop n)
 |0,_,_,h=>h
 |_+1,_,_,.nil=>.nil
 |n+1,_,_,.cons d v ds vs h hs=>aA.drop n hs
theorem aA.take{F:Fz}{w:World}{B}:∀(n:Nat){ds vs},aA F w B ds vs->aA F w B (ds.take n) (vs.take n)
 |0,_,_,_=>.nil
 |_+1,_,_,.nil=>.nil
 |n+1,_,_,.cons d v ds vs h hs=>.cons d v _ _ h (aA.take n hs)
theorem aA.set{F:Fz}{w:World}{B}{d:D}{v:Value}(hd:Rep F w B d v):∀(i:Nat){ds vs},aA F w B ds vs->aA F w B (ds.set i d) (vs.set i v)
 |_,_,_,.nil=>.nil
 |0,_,_,.cons d' v' ds vs h hs=>.cons d v _ _ hd hs
 |i+1,_,_,.cons d' v' ds vs h hs=>.cons d' v' _ _ h (aA.set hd i hs)
def bV(vs:List Value)(off:Nat)(us:List Value):List Value:=vs.take off++us++vs.drop (off+us.length)
theorem aA.sets{F:Fz}{w:World}{B}{cs us}(h:aA F w B cs us)(off:Nat){ds vs}(hs:aA F w B ds vs):aA F w B (setCells ds off cs) (bV vs off us):=by
 unfold setCells bV
 rw[aA.length h]
 exact((hs.take off).append h).append (hs.drop _)
theorem Rep.cells{F:Fz}{w:World}{B d v}(h:Rep F w B d v):aA F w B d.cells v.cells.toList:=by
 cases h with
 |val v hv =>
  have hc:v.cells.toList=[v]:=by cases v<;>first|rfl|(simp[gY] at hv)
  rw[hc];exact .cons _ _ _ _ (.val _ hv) .nil
 |agg ds vs h=>simpa[D.cells,Value.cells] using h
 |arr d enc l vs hg h=>exact(aA.lift (fun _=>rfl) h)
 |tup ds vs h=>exact .cons _ _ _ _ (.tup ds vs h) .nil
 |str l=>exact .cons _ _ _ _ (.str l) .nil
 |own i off b h=>exact .cons _ _ _ _ (.own i off b h) .nil
 |opt i b v h hv =>
  have hc:v.cells.toList=[v]:=by rcases hv with rfl|rfl<;>rfl
  rw[hc];exact .cons _ _ _ _ (.opt i b v h hv) .nil
 |aY k p n cap h=>exact .cons _ _ _ _ (.aY k p n cap h) .nil
 |mp i b h=>exact .cons _ _ _ _ (.mp i b h) .nil
 |bW d enc p=>exact .cons _ _ _ _ (.bW d enc p) .nil
 |recs d enc l gb off cap size vs hz h1 h2 h3 hc=>exact .cons _ _ _ _ (.recs d enc l gb off cap size vs hz h1 h2 h3 hc) .nil
 |el ds vs gb off h h2=>exact .cons _ _ _ _ (.el ds vs gb off h h2) .nil
 |fn f ds vs h=>exact .cons _ _ _ _ (.fn f ds vs h) .nil
 |row k p n cap h=>exact .cons _ _ _ _ (.row k p n cap h) .nil
 |dn k q h=>exact .cons _ _ _ _ (.dn k q h) .nil
 |elm k n z off b nn cap h=>exact .cons _ _ _ _ (.elm k n z off b nn cap h) .nil
 |tree d pre kids l v h=>cases h with
  |bW _ _ p=>exact .cons _ _ _ _ (.tree d pre kids [] _ (.bW _ _ p)) .nil
  |recs _ _ _ gb off cap size vs hz h1 h2 h3 hc=>exact .cons _ _ _ _ (.tree d pre kids l _ (.recs _ _ l gb off cap size vs hz h1 h2 h3 hc)) .nil
 |hole v hv =>
  have hc:v.cells.toList=[v]:=by cases v<;>first|rfl|(simp[gY] at hv)
  rw[hc];exact .cons _ _ _ _ (.hole _ hv) .nil
theorem Rep.one{F:Fz}{w:World}{B d v}(h:Rep F w B d v)(hf:d.flat=true):gY v=true:=by
 cases h<;>first|assumption|rfl|(simp[D.flat] at hf;done)|(rename_i h;cases h<;>rfl)|(rename_i hv;rcases hv with rfl|rfl<;>rfl)
theorem Rep.ofValue{F:Fz}{w:World}{B}(v:Value)(hv:gY v=true):Rep F w B (ofValue v) v:=by
 unfold RX.ofValue
 split
 ·rename_i s
  have:Value.string s=.string ⟨s.data.toList.toArray⟩:=by cases s;simp
  rw[this];exact .str _
 ·exact .val v hv
theorem Rep.opn{F:Fz}{w:World}{B d v}(h:Rep F w B d v):Rep F w B d.opn v:=by
 cases h<;>first|assumption|(constructor<;>assumption)|skip
structure mj(F:Fz)(w:World)(B B':Env)(s:D->Option D):Prop where
 got:∀d r v,s d=some r->Rep F w B d v->Rep F w B' r v
 own:∀k off,s (.own k off)=none->B' k=B k
 row:∀k,s (.row k)=none->B' k=B k
 opt:∀k,s (.opt k)=none->B' k=B k
 aY:∀k,s (.aY k)=none->B' k=B k
 elm:∀k n z off,s (.elm k n z off)=none->B' k=B k
 mp:∀k,s (.mp k)=none->B' k=B k
mutual
theorem Rep.sub{F:Fz}{w:World}{B B':Env}{s:D->Option D}(hs:mj F w B B' s):∀{d v},Rep F w B d v->Rep F w B' (D.sub s d) v
 |_,_,.val v hv=>.val v hv
 |_,_,.str l=>.str l
 |_,_,.own i off b h=>by
  unfold D.sub
  cases he:s (.own i off) with
  |none=>exact .own i off b (by rw[hs.own i off he];exact h)
  |some r=>exact hs.got _ _ _ he (.own i off b h)
 |_,_,.opt i b v h hv=>by
  unfold D.sub
  cases he:s (.opt i) with
  |none=>exact .opt i b v (by rw[hs.opt i he];exact h) hv
  |some r=>exact hs.got _ _ _ he (.opt i b v h hv)
 |_,_,.mp i b h=>by
  unfold D.sub
  cases he:s (.mp i) with
  |none=>exact .mp i b (by rw[hs.mp i he];exact h)
  |some r=>exact hs.got _ _ _ he (.mp i b h)
 |_,_,.aY j p n cap h=>by
  unfold D.sub
  cases he:s (.aY j) with
  |none=>exact .aY j p n cap (by rw[hs.aY j he];exact h)
  |some r=>exact hs.got _ _ _ he (.aY j p n cap h)
 |_,_,.agg ds vs h=>.agg _ vs (aA.sub hs h)
 |_,_,.tup ds vs h=>.tup _ vs (aA.sub hs h)
 |_,_,.bW d enc p=>.bW d enc p
 |_,_,.recs d enc l gb off cap size vs hz h1 h2 h3 hc=>.recs d enc l gb off cap size vs hz h1 h2 h3 hc
 |_,_,.el ds vs gb off h h2=>.el ds vs gb off h h2
 |_,_,.fn f ds vs h=>.fn f _ vs (aA.sub hs h)
 |_,_,.row j p n cap h=>by
  unfold D.sub
  cases he:s (.row j) with
  |none=>exact .row j p n cap (by rw[hs.row j he];exact h)
  |some r=>exact hs.got _ _ _ he (.row j p n cap h)
 |_,_,.dn j q h=>by
  unfold D.sub
  cases he:s (.row j) with
  |none=>exact .dn j q (by rw[hs.row j he];exact h)
  |some r=>exact hs.got _ _ _ he (.dn j q h)
 |_,_,.elm j n z off b nn cap h=>by
  unfold D.sub
  cases he:s (.elm j n z off) with
  |none=>exact .elm j n z off b nn cap (by rw[hs.elm j n z off he];exact h)
  |some r=>exact hs.got _ _ _ he (.elm j n z off b nn cap h)
 |_,_,.tree d pre kids l v h=>.tree d pre kids l v (Rep.sub hs h)
 |_,_,.arr d enc l vs hg h=>.arr d enc l vs hg h
 |_,_,.hole v hv=>.hole v hv
theorem aA.sub{F:Fz}{w:World}{B B':Env}{s:D->Option D}(hs:mj F w B B' s):∀{ds vs},aA F w B ds vs->aA F w B' (D.subs s ds) vs
 |_,_,.nil=>.nil
 |_,_,.cons d v ds vs h hr=>.cons _ v _ vs (Rep.sub hs h) (aA.sub hs hr)
end
theorem Ep{s:D->Option D}(hs:∀d v,s d≠some (.val v)){d:D}{v:Value}(h:D.sub s d=.val v):d=.val v:=by
 cases d<;>simp only[D.sub] at h<;>first|exact h|(cases h;done)|skip
 all_goals
  rename_i x
  revert h
 ·cases he:s (.own _ _) with
  |none=>intro h;cases h
  |some r=>intro h;simp at h;exact absurd (h▸he) (hs _ _)
 ·cases he:s (.opt _) with
  |none=>intro h;cases h
  |some r=>intro h;simp at h;exact absurd (h▸he) (hs _ _)
 ·cases he:s (.aY _) with
  |none=>intro h;cases h
  |some r=>intro h;simp at h;exact absurd (h▸he) (hs _ _)
 ·cases he:s (.mp _) with
  |none=>intro h;cases h
  |some r=>intro h;simp at h;exact absurd (h▸he) (hs _ _)
 ·cases he:s (.row _) with
  |none=>intro h;cases h
  |some r=>intro h;simp at h;exact absurd (h▸he) (hs _ _)
 ·cases he:s (.elm _ _ _ _) with
  |none=>intro h;cases h
  |some r=>intro h;simp at h;exact absurd (h▸he) (hs _ _)
theorem xq(s:D->Option D):∀ds:List D,(D.subs s ds).length=ds.length
 |[]=>rfl
 |d::ds=>by simp[D.subs,xq s ds]
theorem CH{s:D->Option D}(hs:∀d r,s d=some r->r.flat=true):∀{d:D},d.flat=true->(D.sub s d).flat=true
 |.own _ _,_=>by unfold D.sub;cases he:s (.own _ _) with|none=>rfl|some r=>exact hs _ _ he
 |.opt _,_=>by unfold D.sub;cases he:s (.opt _) with|none=>rfl|some r=>exact hs _ _ he
 |.aY _,_=>by unfold D.sub;cases he:s (.aY _) with|none=>rfl|some r=>exact hs _ _ he
 |.mp _,_=>by unfold D.sub;cases he:s (.mp _) with|none=>rfl|some r=>exact hs _ _ he
 |.row _,_=>by unfold D.sub;cases he:s (.row _) with|none=>rfl|some r=>exact hs _ _ he
 |.elm _ _ _ _,_=>by unfold D.sub;cases he:s (.elm _ _ _ _) with|none=>rfl|some r=>exact hs _ _ he
 |.val _,h=>h
 |.str _,h=>h
 |.recs _ _ _,h=>h
 |.tree _ _ _ _,h=>h
 |.el _,h=>h
 |.fn _ _,_=>rfl
 |.hole,h=>h
 |.agg _,h=>by cases h
 |.arr _ _ _,h=>by cases h
 |.tup _,h=>by cases h
 |.aO _ _ _ _,h=>by cases h
 |.eE _ _ _ _ _,h=>by cases h
 |.qX _ _ _,h=>by cases h
theorem nF{s:D->Option D}(hs:∀d r,s d=some r->r.flat=true):∀{ds:List D},ds.all D.flat=true->(D.subs s ds).all D.flat=true
 |[],_=>rfl
 |d::ds,h=>by
  simp only[List.all_cons,Bool.and_eq_true] at h
  simp only[D.subs,List.all_cons,Bool.and_eq_true]
  exact⟨CH hs h.1,nF hs h.2⟩
def cq(w:World)(e size:Nat)(p:Option Nat)(n cap:Nat)(xs:List Value):Prop :=
 xs.length=n*size/\((p=none/\n=0/\cap=0) \/
  ∃g cur fz,p=some g/\w.heap[g]? = some (.cells cur e fz)/\(∀j,j<cur.size->¬(fz.1<=j/\j<fz.2))/\n<=cap/\cap<=maxLen/\cur.size=cap*size/\cur.toList.take (n*size)=xs)
theorem cq.cells{w:World}{e size g n cap:Nat}{xs:List Value}(h:cq w e size (some g) n cap xs){j:Nat}{u:Value}(hu:xs[j]? = some u):w.cell? ⟨g,j,none⟩=some u:=by
 rcases h.2 with⟨h1,_⟩|⟨g',cur,fz,hp,hh,_,_,_,_,htk⟩
 ·cases h1
 ·cases hp
  rw[<-htk,List.getElem?_take] at hu
  split at hu
  ·simpa[World.cell?,hh] using hu
  ·cases hu
def oW(F:Fz)(w:World)(p:Option Nat)(n cap:Nat)(e:Nat)(m:Bool){α:Type}(d:α)(enc:α->List D)(l:List α):Prop :=
 n=l.length/\0<(enc d).length/\(∀x,(enc x).length=(enc d).length/\(enc x).all D.flat=true) /\
 ∃xs,aA F w NB (l.flatMap enc) xs/\cq w e (enc d).length p n cap xs/\∀b,p=some b->∀j,F b j↔(m=true/\j<n*(enc d).length)
theorem aA.po{F:Fz}{w:World}{B}{α:Type}{enc:α->List D}{z:Nat}(hz:∀x,(enc x).length=z):∀(l:List α)(xs:List Value),aA F w B (l.flatMap enc) xs->∀(i:Nat)(x:α),l[i]? = some x->aA F w B (enc x) ((xs.drop (i*z)).take z)
 |[],xs,_,i,x,hi=>by simp at hi
 |y::l,xs,h,i,x,hi=>by
  have hl:=aA.length h
  simp only[List.flatMap_cons] at h
  have h1:aA F w B (enc y) (xs.take z):=by
   have:=h.take z
   rwa[List.take_left' (hz y)] at this
  have h2:aA F w B (l.flatMap enc) (xs.drop z):=by
   have:=h.drop z
   rwa[List.drop_left' (hz y)] at this
  cases i with
  |zero =>
   simp only[List.getElem?_cons_zero,Option.some.injEq] at hi
   subst hi
   simpa using h1
  |succ i =>
   have:=aA.po hz l _ h2 i x (by simpa using hi)
   rw[List.drop_drop] at this
   rwa[show(i+1)*z=z+i*z by rw[Nat.add_mul];omega]
theorem fy{α:Type}{enc:α->List D}{z:Nat}(hz:∀x,(enc x).length=z):∀l:List α,(l.flatMap enc).length=l.length*z
 |[]=>by simp
 |x::l=>by simp only[List.flatMap_cons,List.length_append,hz,fy hz l,List.length_cons,Nat.add_mul];omega
theorem oW.grow{F F':Fz}{w w':World}{p n cap e m}{α:Type}{d:α}{enc:α->List D}{l:List α}(h:oW F w p n cap e m d enc l)(g:Grow F F' w w')(hb:∀b,p=some b->w'.heap[b]? = w.heap[b]?/\∀j,F' b j->F b j):oW F' w' p n cap e m d enc l:=by
 obtain⟨h1,h2,h3,xs,h4,h5,h6⟩:=h
 refine⟨h1,h2,h3,xs,h4.grow g,⟨h5.1,?_⟩,fun b hp j=>?_⟩
 ·rcases h5.2 with h|⟨gb,cur,fz,hp,hh,hr⟩
  ·exact .inl h
  ·refine .inr ⟨gb,cur,fz,hp,?_,hr⟩
   rw[(hb gb hp).1];exact hh
 ·rw[<-h6 b hp j]
  exact⟨(hb b hp).2 j,g.frz b j⟩
theorem oW.recs{F:Fz}{w:World}{B:Env}{p n cap e}{α:Type}{d:α}{enc:α->List D}{l:List α}(h:oW F w p n cap e true d enc l):Rep F w B (.recs d enc l) (bf p n cap):=by
 obtain⟨rfl,h2,h3,xs,h4,h5,h6⟩:=h
 rcases h5.2 with⟨hp,hn,hc⟩|⟨g,cur,fz,hp,hh,hfz,hnc,hcm,hsz,htk⟩
 ·have:l=[]:=List.eq_nil_of_length_eq_zero hn
  subst this;subst hp;subst hc
  exact .bW d enc none
 ·subst hp
  have hlen:=h5.1
  refine .recs d enc l g 0 cap (enc d).length (fun i=>(xs.drop (i*(enc d).length)).take (enc d).length) rfl (fun i hi=>?_) (fun i hi=>?_) (fun i j hi hj=>?_) hnc
  ·have:i*(enc d).length+(enc d).length<=l.length*(enc d).length:=by
    rw[<-Nat.succ_mul];exact Nat.mul_le_mul_right _ hi
   simp;omega
  ·have hx:=List.getElem?_eq_getElem hi
   rw[hx]
   exact aA.po (fun x=>(h3 x).1) l xs h4 i _ hx
  ·have hle:i*(enc d).length+(enc d).length<=l.length*(enc d).length:=by
    rw[<-Nat.succ_mul];exact Nat.mul_le_mul_right _ hi
   refine⟨(h6 g rfl _).2 ⟨rfl,by omega⟩,?_⟩
   have hj2:i*(enc d).length+j<xs.length:=by omega
   have h7:=h5.cells (List.getElem?_eq_getElem hj2)
   rw[Nat.zero_add,h7,List.getElem?_take,if_pos hj,List.getElem?_drop,List.getElem?_eq_getElem hj2]
theorem oW.Jw{F:Fz}{w:World}{B:Env}{p n cap e}{α:Type}{d:α}{enc:α->List D}{l:List α}{v:Value}(h:oW F w p n cap e true d enc l)(hv:pI v p n cap):Rep F w B (.recs d enc l) v:=by
 rcases hv with rfl|⟨rfl,rfl,rfl,q,rfl⟩
 ·exact h.recs
 ·have:l=[]:=List.eq_nil_of_length_eq_zero h.1.symm
  subst this
  exact .bW d enc q
def MK.val(kk:Option IntKind):MK->Value
 |.inl s=>.string ⟨s.toArray⟩
 |.inr n=>.int (kk.getD .i64) n
def MK.ok(kk:Option IntKind):MK->Prop
 |.inl _=>kk=none
 |.inr _=>kk≠none
def rC(F:Fz)(w:World)(ag:Bool)(ds:List D)(v:Value):Prop:=∃d,uy ag ds=some d/\Rep F w NB d v
inductive dK(F:Fz)(w:World)(kk:Option IntKind)(ag:Bool){α:Type}(enc:α->List D):List (MK×α)->List MapEntry->Prop
 |nil:dK F w kk ag enc [] []
 |cons (x:MK) (v:α) (l:List (MK×α)) (e:MapEntry) (es:List MapEntry) (hk:e.key=x.val kk) (hx:x.ok kk) (hv:rC F w ag (enc v) e.val) (hr:dK F w kk ag enc l es):dK F w kk ag enc ((x,v)::l) (e::es)
def zq(F:Fz)(w:World)(b:Nat)(kk:Option IntKind)(ag:Bool){α:Type}(enc:α->List D)(l:List (MK×α)):Prop :=
 wo ag enc/\(∀j,¬F b j)/\∃es clock,w.heap[b]? = some (.map es clock)/\MapKept.Stamped es clock/\dK F w kk ag enc l es.toList
theorem dK.grow{F F':Fz}{w w':World}(g:Grow F F' w w'){kk:Option IntKind}{ag:Bool}{α:Type}{enc:α->List D}:∀{l:List (MK×α)}{es:List MapEntry},dK F w kk ag enc l es->dK F' w' kk ag enc l es
 |_,_,.nil=>.nil
 |_,_,.cons x v l e es hk hx ⟨d,h1,h2⟩ hr=>.cons x v l e es hk hx ⟨d,h1,h2.grow g⟩ (dK.grow g hr)
theorem dK.length{F:Fz}{w:World}{kk:Option IntKind}{ag:Bool}{α:Type}{enc:α->List D}:∀{l:List (MK×α)}{es:List MapEntry},dK F w kk ag enc l es->es.length=l.length
 |_,_,.nil=>rfl
 |_,_,.cons _ _ _ _ _ _ _ _ hr=>by simp[dK.length hr]
theorem zq.grow{F F':Fz}{w w':World}{b:Nat}{kk:Option IntKind}{ag:Bool}{α:Type}{enc:α->List D}{l:List (MK×α)}(h:zq F w b kk ag enc l)(g:Grow F F' w w')(hb:w'.heap[b]? = w.heap[b]?/\∀j,F' b j->F b j):zq F' w' b kk ag enc l:=by
 obtain⟨h0,h1,es,clock,h2,hs,h3⟩:=h
 exact⟨h0,fun j hj=>h1 j (hb.2 j hj),es,clock,by rw[hb.1];exact h2,hs,h3.grow g⟩
mutual
theorem ju.rep{F w B}:∀{d e:D}{v:Value},ju d e->Rep F w B d v->Rep F w B e v
 |_,_,_,.refl _,hr=>hr
 |_,_,_,.zero d enc,hr=>by cases hr;exact .bW d enc none
 |_,_,_,.agg h,hr=>by cases hr with|agg _ vs hr=>exact .agg _ _ (bq.rep h hr)
 |_,_,_,.arr h hg hn,hr=>by cases hr with|agg _ vs hr=>exact .arr _ _ _ vs hg (by rw[h];exact hr.bare hn)
 |_,_,_,.tup h,hr=>by cases hr with|tup _ vs hr=>exact .tup _ _ (bq.rep h hr)
 |_,_,_,.el h,hr=>by cases hr with|el _ vs g off hr h2=>exact .el _ _ g off (bq.rep h hr) h2
 |_,_,_,.fn h,hr=>by cases hr with|fn _ _ vs hr=>exact .fn _ _ _ (bq.rep h hr)
 |_,_,_,.fE d pre kids,hr=>by cases hr;exact .tree d pre kids [] _ (.bW d _ none)
 |_,_,_,.opn d pre kids l,hr=>by cases hr with|tree _ _ _ _ _ h=>exact h
 |_,_,_,.close d pre kids l,hr=>.tree d pre kids l _ hr
theorem bq.rep{F w B}:∀{ds es:List D}{vs:List Value},bq ds es->aA F w B ds vs->aA F w B es vs
 |_,_,_,.nil,hr=>hr
 |_,_,_,.cons h hs,hr=>by cases hr with|cons _ _ _ _ hr hrs=>exact .cons _ _ _ _ (ju.rep h hr) (bq.rep hs hrs)
end
theorem ju.flat{d e:D}(h:ju d e)(hf:d.flat=true):e.flat=true:=by
 cases h with
 |refl=>exact hf
 |zero=>rfl
 |agg=>cases hf
 |arr=>cases hf
 |tup=>cases hf
 |el=>rfl
 |fn=>rfl
 |fE=>rfl
 |opn=>rfl
 |close=>rfl
theorem bq.flat:∀{ds es:List D},bq ds es->ds.all D.flat=true->es.all D.flat=true
 |_,_,.nil,h=>h
 |_,_,.cons h hs,hf=>by
  simp only[List.all_cons,Bool.and_eq_true] at hf ⊢
  exact⟨ju.flat h hf.1,bq.flat hs hf.2⟩
theorem ju.uk{d e:D}(h:ju d e)(hf:e.flat=true):d.flat=true:=by
 cases h with
 |refl=>exact hf
 |zero=>rfl
 |agg=>cases hf
 |arr=>cases hf
 |tup=>cases hf
 |el=>rfl
 |fn=>rfl
 |fE=>rfl
 |opn=>rfl
 |close=>rfl
theorem bq.uk:∀{ds es:List D},bq ds es->es.all D.flat=true->ds.all D.flat=true
 |_,_,.nil,h=>h
 |_,_,.cons h hs,hf=>by
  simp only[List.all_cons,Bool.and_eq_true] at hf ⊢
  exact⟨ju.uk h hf.1,bq.uk hs hf.2⟩
theorem bq.refl:∀ds:List D,bq ds ds
 |[]=>.nil
 |d::ds=>.cons (.refl d) (bq.refl ds)
theorem bq.of_eq{ds es:List D}(h:ds=es):bq ds es:=h▸bq.refl ds
theorem bq.length:∀{ds es:List D},bq ds es->ds.length=es.length
 |_,_,.nil=>rfl
 |_,_,.cons _ hs=>by rw[List.length_cons,List.length_cons,bq.length hs]
theorem bq.append:∀{ds es ds' es':List D},bq ds es->bq ds' es'->bq (ds++ds') (es++es')
 |_,_,_,_,.nil,h=>h
 |_,_,_,_,.cons h hs,h'=>.cons h (bq.append hs h')
end Go.Proofs.YtefojkdckfidcaaGreatDoor.RX
namespace Go.Proofs.YtefojkdckfidcaaGreatDoor.RX
open Go.RowKit
def l5:TypeDesc->Bool
 |.struct _|.array _ _=>true
 |_=>false
def nY(P:Program)(t:Nat):Option (Nat×Bool) :=
 match P.info? t,P.underlying t with
 |some i,some d=>some (i.size,l5 d)
 |_,_=>none
def fieldsOf(P:Program):List Field->Option (List (Nat×Nat×Bool))
 |[]=>some []
 |f::fs=>match nY P f.type,fieldsOf P fs with|some s,some r=>some ((f.offset,s.1,s.2)::r)|_,_=>none
def wE(P:Program)(k:Nat):Option (Option IntKind):=match P.underlying k with|some .string=>some none|some (.int k)=>some (some k)|_=>none
def kindOf(P:Program):TypeDesc->TK
 |.string=>.str
 |.bool=>.bool
 |.int k=>.int k
 |.slice e=>match nY P e with|some s=>.slice s.1 s.2|none=>.other
 |.struct fs=>match fieldsOf P fs.toList with|some r=>.struct r|none=>.other
 |.array n e=>match nY P e with|some s=>.array n s.1 s.2|none=>.other
 |.map k e=>match wE P k,nY P e with|some kk,some s=>.map kk s.1 s.2|_,_=>.other
 |.pointer _=>.ptr
 |_=>.other
def EK(P:Program)(e:Nat):List Value :=
 match P.info? e,P.underlying e with
 |some i,some d =>
  match i.zero with
  |some (.agg vs)=>if l5 d&&vs.toList.all gY&&vs.size==i.size then vs.toList else []
  |some v=>if !(l5 d)&&gY v&&i.size==1 then [v] else []
  |none=>[]
 |_,_=>[]
def lI(P:Program)(d:TypeDesc):Nat×Nat×List Value×Option IntKind :=
 match d with
 |.slice e=>(e,(match P.info? e with|some i=>i.bytes|none=>0),(match P.info? e with|some i=>(match i.zero with|some z=>if z.cells.toList.all gY&&z.cells.toList.length==i.size then z.cells.toList else []|none=>[])|none=>[]),(match P.underlying e with|some (.int k)=>some k|_=>none))
 |.map _ e=>(e,0,EK P e,none)
 |_=>(0,0,[],none)
def rB(P:Program)(t:Nat):Option TI :=
 match P.info? t,P.underlying t with
 |some i,some d =>
  match i.zero with
  |some z=>if z.cells.toList.all gY&&z.cells.toList.length==i.size then some { agg:=l5 d,size:=i.size,zero:=z.cells.toList,kind:=kindOf P d,elt:=(lI P d).1,eb:=(lI P d).2.1,ez:=(lI P d).2.2.1,ek:=(lI P d).2.2.2 } else none
  |none=>none
 |_,_=>none
def zN(P:Program)(t:Nat)(ks:List Nat):Prop:=∀(F:Fz)(w w':World)(B B':Env)(ds es:List D)(vs us:List Value)(r:Bool),aA F w B ds vs->aA F w B' es us->oO ks ds es=some r ->
 (eqGuard .eql t (.tmp 0) (.tmp 0) (.agg vs.toArray) (.agg us.toArray)).run P w'=.ok () w'/\(Op.equal t (.agg vs.toArray) (.agg us.toArray)).run P w'=.ok r w'
def ΓOK(P:Program)(Γ:Nat->Option TI):Prop:=∀t ti,Γ t=some ti->rB P t=some { ti with eqs:=[] }/\(ti.eqs≠[]->zN P t ti.eqs)
section
variable {P:Program}
theorem aU{t:Nat}{ti:TI}(h:rB P t=some ti):∃i d z,P.info? t=some i/\P.underlying t=some d/\i.zero=some z/\z.cells.toList=ti.zero/\ti.zero.all gY=true/\ti.zero.length=ti.size/\i.size=ti.size/\l5 d=ti.agg/\kindOf P d=ti.kind:=by
 unfold rB at h
 split at h
 ·rename_i i d hi hd
  split at h
  ·rename_i z hz
   split at h
   ·rename_i hc
    simp only[Bool.and_eq_true,beq_iff_eq] at hc
    cases h
    exact⟨i,d,z,hi,hd,hz,rfl,hc.1,hc.2,rfl,rfl,rfl⟩
   ·cases h
  ·cases h
 ·cases h
theorem uV{t:Nat}{ti:TI}(h:rB P t=some ti){d:TypeDesc}(hd:P.underlying t=some d):ti.elt=(lI P d).1/\ti.eb=(lI P d).2.1/\ti.ez=(lI P d).2.2.1/\ti.ek=(lI P d).2.2.2:=by
 unfold rB at h
 rw[hd] at h
 split at h
 ·rename_i i d' hi hd'
  cases hd'
  split at h
  ·split at h
   ·cases h;exact⟨rfl,rfl,rfl,rfl⟩
   ·cases h
  ·cases h
 ·cases h
theorem ux{t:Nat}{d:TypeDesc}(h:P.underlying t=some d)(w:World):(isAgg t).run P w=.ok (l5 d) w:=by
 unfold isAgg
 simp only[Sem.run_bind,run_underlying h,Result.andThen_ok]
 cases d<;>rfl
theorem iV{t:Nat}{i:TypeInfo}(h:P.info? t=some i)(w:World):(sizeOf t).run P w=.ok i.size w:=by
 simp[sizeOf,run_typeInfo w h]
theorem dH{t:Nat}{s:Nat×Bool}(h:nY P t=some s):(∀w,(sizeOf t).run P w=.ok s.1 w)/\(∀w,(isAgg t).run P w=.ok s.2 w):=by
 unfold nY at h
 split at h
 ·rename_i i d hi hd
  cases h
  exact⟨iV hi,ux hd⟩
 ·cases h
theorem rf:∀{fs:List Field}{r:List (Nat×Nat×Bool)},fieldsOf P fs=some r->∀(i:Nat) g,r[i]? = some g->∃f,fs[i]? = some f/\f.offset=g.1/\nY P f.type=some g.2
 |[],r,h,i,g,hg=>by cases h;simp at hg
 |f::fs,r,h,i,g,hg=>by
  unfold fieldsOf at h
  split at h
  ·rename_i s r' hs hr
   cases h
   cases i with
   |zero=>simp at hg;subst hg;exact⟨f,rfl,rfl,hs⟩
   |succ i=>simpa using rf hr i g (by simpa using hg)
  ·cases h
theorem kq{d:TypeDesc}(h:kindOf P d=.str):d=.string:=by
 cases d<;>simp only[kindOf] at h<;>first|rfl|(cases h;done)|(split at h<;>cases h)
theorem G0{d:TypeDesc}(h:kindOf P d=.bool):d=.bool:=by
 cases d<;>simp only[kindOf] at h<;>first|rfl|(cases h;done)|(split at h<;>cases h)
theorem kind_int{d:TypeDesc}{k:IntKind}(h:kindOf P d=.int k):d=.int k:=by
 cases d<;>simp only[kindOf] at h<;>first|(cases h;rfl)|(cases h;done)|(split at h<;>cases h)
theorem ft{d:TypeDesc}{es:Nat}{ea:Bool}(h:kindOf P d=.slice es ea):∃e,d=.slice e/\nY P e=some (es,ea):=by
 cases d<;>simp only[kindOf] at h<;>first|(cases h;done)|(split at h<;>first|(cases h;done)|(rename_i e _ s hs;cases h;exact⟨e,rfl,hs⟩))
theorem mg{d:TypeDesc}{n es:Nat}{ea:Bool}(h:kindOf P d=.array n es ea):∃e,d=.array n e/\nY P e=some (es,ea):=by
 cases d<;>simp only[kindOf] at h<;>first|(cases h;done)|(split at h<;>first|(cases h;done)|(rename_i n' e _ s hs;cases h;exact⟨e,rfl,hs⟩))
theorem sL{d:TypeDesc}{r}(h:kindOf P d=.struct r):∃fs,d=.struct fs/\fieldsOf P fs.toList=some r:=by
 cases d<;>simp only[kindOf] at h<;>first|(cases h;done)|(split at h<;>first|(cases h;done)|(rename_i fs _ s hs;cases h;exact⟨fs,rfl,hs⟩))
theorem tY{d:TypeDesc}{kk:Option IntKind}{es:Nat}{ea:Bool}(h:kindOf P d=.map kk es ea):∃k e,d=.map k e/\wE P k=some kk/\nY P e=some (es,ea):=by
 cases d<;>simp only[kindOf] at h<;>first|(cases h;done)|(split at h<;>first|(cases h;done)|(rename_i k e _ _ kk s hk hs;cases h;exact⟨k,e,rfl,hk,hs⟩))
theorem IQ{d:TypeDesc}(h:kindOf P d=.ptr):∃e,d=.pointer e:=by
 cases d<;>simp only[kindOf] at h<;>first|exact⟨_,rfl⟩|(cases h;done)|(split at h<;>cases h)
theorem Ce{e off:Nat}{s:Nat×Bool}(hs:nY P e=some s){F w B ds vs d}(h:aA F w B ds vs)(hp:partOf s.2 s.1 off ds=some d)(w':World) :
  ∃v,(part e vs.toArray off).run P w'=.ok v w'/\Rep F w B d v:=by
 obtain⟨h1,h2⟩:=dH hs
 unfold part
 simp only[Sem.run_bind,h2,Result.andThen_ok]
 unfold partOf at hp
 cases hb:s.2
 ·rw[hb] at hp
  simp only[Bool.false_eq_true,if_false] at hp ⊢
  obtain⟨v,hv,hr⟩:=h.get off hp
  refine⟨v,?_,hr⟩
  simp[hv]
 ·rw[hb] at hp
  simp only[if_true] at hp ⊢
  split at hp
  ·rename_i hl
   cases hp
   refine⟨.agg ((vs.drop off).take s.1).toArray,?_,.agg _ _ ((h.drop off).take s.1)⟩
   simp only[Sem.run_bind,h1,Result.andThen_ok,Sem.run_pure]
   congr 2
   apply Array.ext'
   simp[List.extract_eq_take_drop]
  ·cases hp
theorem add_eq(b off n:Nat):(⟨b,off,none⟩:Addr).add n=⟨b,off+n,none⟩:=by
 unfold Addr.add;split
 ·rename_i h;subst h;rfl
 ·rfl
theorem og{t b off:Nat}{ti:TI}(ht:rB P t=some ti){F w B ds vs d}(h:aA F w B ds vs)(hp:partOf ti.agg ti.size off ds=some d){o:Nat}
  (hc:∀j v,vs[j]? = some v->w.cell? ⟨b,o+j,none⟩=some v) (ho:off<=vs.length):∃v,(loadVar t ⟨b,o+off,none⟩).run P w=.ok v w/\Rep F w B d v:=by
 obtain⟨i,de,z,hi,hd,hz,hz1,hz2,hz3,hsz,hag,hk⟩:=aU ht
 unfold loadVar
 simp only[Sem.run_bind,ux hd,Result.andThen_ok,hag]
 unfold partOf at hp
 cases hb:ti.agg
 ·rw[hb] at hp
  simp only[Bool.false_eq_true,if_false] at hp ⊢
  obtain⟨v,hv,hr⟩:=h.get off hp
  refine⟨v,?_,hr⟩
  simp[hc off v hv]
 ·rw[hb] at hp
  simp only[if_true] at hp ⊢
  split at hp
  ·rename_i hl
   cases hp
   have hlen:=aA.length h
   refine⟨.agg ((vs.drop off).take ti.size).toArray,?_,.agg _ _ ((h.drop off).take ti.size)⟩
   simp only[Sem.run_bind,iV hi,Result.andThen_ok,hsz]
   have hl2:((vs.drop off).take ti.size).length=ti.size:=by simp;omega
   have:=run_loadCells_list (P:=P) w ⟨b,o+off,none⟩ ((vs.drop off).take ti.size) (fun j v hj=>by
    rw[add_eq]
    have hj2:j<ti.size:=by
     have:=(List.getElem?_eq_some_iff.1 hj).1;omega
    rw[List.getElem?_take,if_pos hj2,List.getElem?_drop] at hj
    have:=hc (off+j) v hj
    rwa[show o+off+j=o+(off+j) by omega])
   rw[hl2] at this
   simp[this]
  ·cases hp
end
end Go.Proofs.YtefojkdckfidcaaGreatDoor.RX
namespace Go.Proofs.YtefojkdckfidcaaGreatDoor.RX
open Go.RowKit
section
variable {P:Program}
theorem iQ(g o:Nat)(t:TypeId)(fz:Nat×Nat):∀(vs:List Value)(i:Nat)(cur:Array Value)(w:World),w.heap[g]? = some (.cells cur t fz)->(∀j,j<cur.size->¬(fz.1<=j/\j<fz.2))->o+i+vs.length<=cur.size->(∀v∈vs,v.oneCell'=true) ->
  (storeCells ⟨g,o,none⟩ vs i).run P w=.ok () (w.setRow g (cur.toList.take (o+i)++vs++cur.toList.drop (o+i+vs.length)).toArray)
 |[],i,cur,w,hg,_,_,_=>by
  simp only[storeCells,List.append_nil,List.length_nil,Nat.add_zero,List.take_append_drop,Array.toArray_toList]
  rw[setRow_self w g cur t fz hg]
  rfl
 |v::rest,i,cur,w,hg,hf,hl,h1=>by
  have hi:o+i<cur.size:=by simp at hl;omega
  have hadd:(⟨g,o,none⟩:Addr).add i=⟨g,o+i,none⟩:=by unfold Addr.add;split<;>simp_all
  have hcell:w.cell? ⟨g,o+i,none⟩=some cur[o+i]:=by simp[World.cell?,hg,hi]
  have hfro:w.frozen? ⟨g,o+i,none⟩=false:=by
   have:=hf _ hi
   simp only[World.frozen?,hg]
   rw[Bool.and_eq_false_iff]
   by_cases hc:fz.1<=o+i
   ·right;simp;omega
   ·left;simpa using hc
  have hst:(store ((⟨g,o,none⟩:Addr).add i) v).run P w=.ok () (w.setRow g (cur.setIfInBounds (o+i) v)):=by
   rw[hadd,run_store P w _ v _ (h1 v (by simp)),hcell]
   simp[hfro,setCell_eq_setRow w g (o+i) cur t fz v hg]
  have ih:=iQ g o t fz rest (i+1) (cur.setIfInBounds (o+i) v) (w.setRow g (cur.setIfInBounds (o+i) v)) (setRow_heap w g cur _ t _ hg) (by simpa using hf) (by simp at hl ⊢;omega) (fun x hx=>h1 x (by simp[hx]))
  simp only[storeCells,Sem.run_bind,hst,Result.andThen_ok,ih,setRow_setRow]
  congr 3
  have e:=list_seg_step cur.toList (o+i) v rest (by simp at hl ⊢;omega)
  simpa[Array.toList_setIfInBounds,Nat.add_assoc] using e
theorem uN{size:Nat}{q:Option Addr}{w:World}:(Builtin.firstCells size 0 (.slice q 0 0)).run P w=.ok #[] w:=by
 cases q<;>simp[Builtin.firstCells,loadCells,loadCellsFrom]
theorem zO{w:World}{t t2 ty e:Nat}{i:TypeInfo}{z v0:Value}{q:Option Addr}(hv0:v0=.slice q 0 0)(ht:P.underlying t=some (.slice e))(hi:P.info? e=some i)(hz:i.zero=some z)(hzs:z.cells.size=i.size)(hpos:0<i.size)
  (ht2:(∃e2,P.underlying t2=some (.slice e2))\/P.underlying t2=some .string)
  {xs:List Value} (hown:cq w e i.size none 0 0 xs)
  {x:Value} {m:Nat} {news:List Value} (hlen:∀w',(Builtin.lenOf x).run P w'=.ok m w') (hx:(Builtin.firstCells i.size m x).run P w=.ok news.toArray w) (hx':(Builtin.firstCells i.size m x).run P w.drew=.ok news.toArray w.drew)
  (hl:news.length=m*i.size) (h1:∀u∈news,u.oneCell'=true) (hb:(0+m)*(i.bytes+1)<=140737488355328) :
  ∃p' cap' w' v',(Builtin.append_ #[t,t2] ty #[v0,x]).run P w=.ok v' w'/\pI v' p' (0+m) cap'/\cq w' e i.size p' (0+m) cap' (xs++news)/\((p'=none/\w.grownBy w' none)\/(p'=some w.heap.size/\w.grownBy w' none)):=by
 subst hv0
 have hb1:(0+m)*i.bytes<=140737488355328:=Nat.le_trans (Nat.mul_le_mul_left _ (Nat.le_succ _)) hb
 have hb2:0+m<=140737488355328:=Nat.le_trans (Nat.le_mul_of_pos_right _ (Nat.succ_pos _)) hb
 have hmax:0+m<=maxLen:=by simp only[maxLen];omega
 have hxl:(xs++news).length=(0+m)*i.size:=by rw[List.length_append,hown.1,hl,Nat.add_mul]
 have grown:∀old,old<0+m->cq (w.drew.alloc (.cells (xs.toArray++news.toArray++Builtin.zeroCells z.cells (grownCap w (0+m) old e-(0+m))) e)) e i.size (some w.heap.size) (0+m) (grownCap w (0+m) old e) (xs++news) /\
   w.grownBy (w.drew.alloc (.cells (xs.toArray++news.toArray++Builtin.zeroCells z.cells (grownCap w (0+m) old e-(0+m))) e)) none:=by
  intro old ho
  have hge:=grownCap_ge w (0+m) old e
  have hcm:grownCap w (0+m) old e<=maxLen:=grownCap_le_maxLen w (0+m) old e hmax
  refine⟨⟨hxl,.inr ⟨w.heap.size,_,_,rfl,heap_alloc_new w.drew _,by simp,hge,hcm,?_,?_⟩⟩,⟨rfl,rfl,rfl,by simp,fun k hk _=>heap_alloc_old w.drew _ (by simpa using hk)⟩⟩
  ·simp only[Array.size_append,List.size_toArray,size_zeroCells,hzs,hown.1,hl,<-Nat.add_mul]
   congr 1
   omega
  ·simp only[Array.toList_append,List.append_assoc]
   rw[<-List.append_assoc,<-hxl]
   exact List.take_left
 have hx0:xs=[]:=List.eq_nil_of_length_eq_zero (by simpa using hown.1)
 subst hx0
 by_cases hm:m=0
 ·subst hm
  have hn:news=[]:=List.eq_nil_of_length_eq_zero (by simpa using hl)
  subst hn
  refine⟨none,0,w,.slice q 0 0,?_,.inr ⟨rfl,rfl,rfl,q,rfl⟩,⟨by simp,.inl ⟨rfl,rfl,rfl⟩⟩,.inl ⟨rfl,⟨rfl,rfl,rfl,Nat.le_refl _,fun _ _ _=>rfl⟩⟩⟩
  rcases ht2 with⟨e2,ht2⟩|ht2<;>cases q<;>simp[Builtin.append_,run_underlying ht,run_underlying ht2,sizeOf,typeInfo,hi,hlen,hx,storeCells]
 ·have hgr:=grown 0 (by omega)
  refine⟨some w.heap.size,_,_,bf (some w.heap.size) (0+m) (grownCap w (0+m) 0 e),?_,.inl rfl,hgr.1,.inr ⟨rfl,hgr.2⟩⟩
  have h48:¬(281474976710656<Builtin.nextslicecap m 0*i.bytes):=by
   rw[nextslicecap_zero (by omega)]
   simp only[Nat.zero_add] at hb1;omega
  have h63:¬(9223372036854775807<(m:Int)):=by omega
  rcases ht2 with⟨e2,ht2⟩|ht2<;>cases q<;>simp[bf,Builtin.append_,run_underlying ht,run_underlying ht2,sizeOf,typeInfo,zeroValue,hi,hz,hlen,hm,h48,h63,Question.forced,run_firstCells_none,uN,hx',newRow,grownCap]
theorem sS{w:World}{t t2 ty e:Nat}{i:TypeInfo}{z v0:Value}{p:Option Nat}{n cap:Nat}(hv0:pI v0 p n cap)(ht:P.underlying t=some (.slice e))(hi:P.info? e=some i)(hz:i.zero=some z)(hzs:z.cells.size=i.size)(hpos:0<i.size)
  (ht2:(∃e2,P.underlying t2=some (.slice e2))\/P.underlying t2=some .string)
  {xs:List Value} (hown:cq w e i.size p n cap xs)
  {x:Value} {m:Nat} {news:List Value} (hlen:∀w',(Builtin.lenOf x).run P w'=.ok m w') (hx:(Builtin.firstCells i.size m x).run P w=.ok news.toArray w) (hx':(Builtin.firstCells i.size m x).run P w.drew=.ok news.toArray w.drew)
  (hl:news.length=m*i.size) (h1:∀u∈news,u.oneCell'=true) (hb:(n+m)*(i.bytes+1)<=140737488355328) :
  ∃p' cap' w' v',(Builtin.append_ #[t,t2] ty #[v0,x]).run P w=.ok v' w'/\pI v' p' (n+m) cap'/\cq w' e i.size p' (n+m) cap' (xs++news)/\((p'=p/\w.grownBy w' p)\/(p'=some w.heap.size/\w.grownBy w' none)):=by
 rcases hown.2 with⟨rfl,rfl,rfl⟩|⟨g,cur,fz,rfl,hg,hfz,hnc,hcm,hcs,htake⟩
 ·have hq:∃q,v0=.slice q 0 0:=by
   rcases hv0 with rfl|⟨_,_,_,q,rfl⟩
   ·exact⟨none,rfl⟩
   ·exact⟨q,rfl⟩
  obtain⟨q,hq⟩:=hq
  exact zO hq ht hi hz hzs hpos ht2 hown hlen hx hx' hl h1 hb
 have hv1:v0=bf (some g) n cap:=by
  rcases hv0 with h|⟨h,_⟩
  ·exact h
  ·cases h
 subst hv1
 have hb1:(n+m)*i.bytes<=140737488355328:=Nat.le_trans (Nat.mul_le_mul_left _ (Nat.le_succ _)) hb
 have hb2:n+m<=140737488355328:=Nat.le_trans (Nat.le_mul_of_pos_right _ (Nat.succ_pos _)) hb
 have hmax:n+m<=maxLen:=by simp only[maxLen];omega
 have hxl:(xs++news).length=(n+m)*i.size:=by rw[List.length_append,hown.1,hl,Nat.add_mul]
 have grown:∀old,old<n+m->cq (w.drew.alloc (.cells (xs.toArray++news.toArray++Builtin.zeroCells z.cells (grownCap w (n+m) old e-(n+m))) e)) e i.size (some w.heap.size) (n+m) (grownCap w (n+m) old e) (xs++news) /\
   w.grownBy (w.drew.alloc (.cells (xs.toArray++news.toArray++Builtin.zeroCells z.cells (grownCap w (n+m) old e-(n+m))) e)) none:=by
  intro old ho
  have hge:=grownCap_ge w (n+m) old e
  have hcm:grownCap w (n+m) old e<=maxLen:=grownCap_le_maxLen w (n+m) old e hmax
  refine⟨⟨hxl,.inr ⟨w.heap.size,_,_,rfl,heap_alloc_new w.drew _,by simp,hge,hcm,?_,?_⟩⟩,⟨rfl,rfl,rfl,by simp,fun k hk _=>heap_alloc_old w.drew _ (by simpa using hk)⟩⟩
  ·simp only[Array.size_append,List.size_toArray,size_zeroCells,hzs,hown.1,hl,<-Nat.add_mul]
   congr 1
   omega
  ·simp only[Array.toList_append,List.append_assoc]
   rw[<-List.append_assoc,<-hxl]
   exact List.take_left
 by_cases hroom:n+m<=cap
 ·have hfit:n*i.size+news.length<=cur.size:=by rw[hl,hcs,<-Nat.add_mul];exact Nat.mul_le_mul_right _ hroom
  have hst:=iQ (P:=P) g (n*i.size) e fz news 0 cur w hg hfz (by simpa using hfit) h1
  simp only[Nat.add_zero] at hst
  refine⟨some g,cap,w.setRow g (cur.toList.take (n*i.size)++news++cur.toList.drop (n*i.size+news.length)).toArray,_,?_,.inl rfl,⟨hxl,.inr ⟨g,_,fz,rfl,setRow_heap w g cur _ e fz hg,?_,hroom,hcm,?_,?_⟩⟩,.inl ⟨rfl,⟨rfl,rfl,rfl,by simp,fun k hk hne=>setRow_other w g k _ (fun h=>hne (by rw[h]))⟩⟩⟩
  ·rcases ht2 with⟨e2,ht2⟩|ht2<;>simp[bf,Builtin.append_,run_underlying ht,run_underlying ht2,sizeOf,typeInfo,hi,hlen,hroom,hx,Addr.add_lit,hst]
  ·intro j hj
   refine hfz j ?_
   simp at hj
   omega
  ·simp only[List.size_toArray,List.length_append,List.length_take,List.length_drop,Array.length_toList]
   omega
  ·rw[htake,<-hxl]
   exact List.take_left
 ·have hgr:=grown cap (by omega)
  have holds:∀j u,xs[j]? = some u->w.cell? ((⟨g,0,none⟩:Addr).add j)=some u:=fun j u hu=>by
   rw[add_eq];simpa using hown.cells hu
  have hfo:=run_firstCells_some (P:=P) w.drew i.size n ⟨g,0,none⟩ n cap xs hown.1 holds
  have h48:¬(281474976710656<Builtin.nextslicecap (n+m) cap*i.bytes):=by
   have:=growslice_fits (need:=n+m) (old:=cap) (by omega) hb1;omega
  have h63:¬(9223372036854775807<((n:Int)+(m:Int))):=by omega
  refine⟨some w.heap.size,_,_,bf (some w.heap.size) (n+m) (grownCap w (n+m) cap e),?_,.inl rfl,hgr.1,.inr ⟨rfl,hgr.2⟩⟩
  rcases ht2 with⟨e2,ht2⟩|ht2<;>simp[bf,Builtin.append_,run_underlying ht,run_underlying ht2,sizeOf,typeInfo,zeroValue,hi,hz,hlen,hroom,h48,h63,Question.forced,hfo,hx',newRow,grownCap]
  all_goals
   congr 2
   apply Array.ext'
   simp[List.append_assoc]
theorem yS{z:Value}{n size:Nat}(hz:z.cells.toList.length=size)(hpos:0<size):(madeCells z.cells (n*size)).toList=(List.replicate n z.cells.toList).flatten:=by
 apply List.ext_getElem?
 intro j
 have hzs:z.cells.size=size:=by rw[<-hz];simp
 have hl:((List.replicate n z.cells.toList).flatten).length=n*size:=by simp[hzs]
 by_cases hj:j<n*size
 ·have hj2:j / size<n:=(Nat.div_lt_iff_lt_mul hpos).2 hj
  have hmod:j % size<size:=Nat.mod_lt _ hpos
  have h1:(madeCells z.cells (n*size)).toList[j]? = some (z.cells[j % size]'(by rw[hzs];exact hmod)):=by
   unfold madeCells
   rw[Array.getElem?_toList]
   simp only[Array.getElem?_map,Array.getElem?_range,hj,if_true,Option.map_some,hzs]
   rw[getElem!_pos z.cells (j % size) (by rw[hzs];exact hmod)]
  rw[h1]
  have key:∀(k m:Nat),k<m->∀r,r<size->((List.replicate m z.cells.toList).flatten)[k*size+r]? = z.cells.toList[r]?:=by
   intro k
   induction k with
   |zero =>
    intro m hm r hr
    cases m with
    |zero=>omega
    |succ m =>
     rw[List.replicate_succ,List.flatten_cons,List.getElem?_append_left (by rw[hz];omega)]
     simp
   |succ k ih =>
    intro m hm r hr
    cases m with
    |zero=>omega
    |succ m =>
     rw[List.replicate_succ,List.flatten_cons,List.getElem?_append_right (by rw[hz,Nat.add_mul];omega),hz]
     rw[show(k+1)*size+r-size=k*size+r by rw[Nat.add_mul];omega]
     exact ih m (by omega) r hr
  have hd:j=j / size*size+j % size:=by rw[Nat.mul_comm];exact(Nat.div_add_mod j size).symm
  have h2:=key _ _ hj2 _ hmod
  rw[<-hd] at h2
  rw[h2]
  simp[hzs,hmod]
 ·rw[List.getElem?_eq_none (by simp[madeCells];omega),List.getElem?_eq_none (by omega)]
end
end Go.Proofs.YtefojkdckfidcaaGreatDoor.RX
