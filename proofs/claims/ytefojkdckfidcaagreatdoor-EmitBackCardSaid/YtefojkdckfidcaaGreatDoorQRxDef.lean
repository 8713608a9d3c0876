import Derived.WalkKit
import Derived.WalkLawsBesides
import Derived.WalkSpells
import Derived.Lib.Strings
import Derived.Laws.AppendOwn
import Derived.MapKept
import Derived.Laws.CopyRow
import Derived.ChangeKeysEq
import Derived.Laws.MakeOwn
import Derived.Laws.BytesString
import Derived.Lib.ConvBytes
set_option linter.all false
namespace Go.Proofs.YtefojkdckfidcaaGreatDoor
abbrev Bs:=List UInt8
abbrev Ls:=List Bs
abbrev rM:Bs:=[110,117,108,108]
abbrev Je:Bs:=[63,58,44,91,93,123,125,35,38,42,33,124,62,39,34,37,64,96]
abbrev Jg:Bs:=[97,58,10,32,32,45,32,120,10,32,32,45,32,98,58,32,121,10,32,32,32,32,99,58,32,110,117,108,108,10]
abbrev Rm:Bs:=[97,58,32,91,120,44,32,123,98,58,32,121,44,32,99,58,32,110,117,108,108,125,93]
end Go.Proofs.YtefojkdckfidcaaGreatDoor
namespace Go.Proofs.YtefojkdckfidcaaGreatDoor.RX
abbrev MK:=Sum Bs Int
def aW{α : Type} : List (MK×α)->MK->Option α
  |[],_=>none
  |p::r,x=>if p.1=x then some p.2 else aW r x
def dJ{α : Type} : List (MK×α)->MK->α->List (MK×α)
  |[],x,v=>[(x,v)]
  |p::r,x,v=>if p.1=x then(x,v)::r else p::dJ r x v
def vA{α : Type} : List (MK×α)->MK->List (MK×α)
  |[],_=>[]
  |p::r,x=>if p.1=x then r else p::vA r x
inductive D : Type 1
  |val (v : Value)
  |str (l : Bs)
  |own (i off : Nat)
  |opt (i : Nat)
  |bn (k : Nat)
  |mp (k : Nat)
  |fL (kk : Option IntKind) (ag : Bool) {α : Type} (d : α) (enc : α->List D) (l : List (MK×α))
  |agg (ds : List D)
  |tup (ds : List D)
  |recs {α : Type} (dflt : α) (enc : α->List D) (l : List α)
  |el (ds : List D)
  |fn (f : Nat) (caps : List D)
  |row (k : Nat)
  |elm (k : Nat) (i : Int) (size off : Nat)
  |aP (m : Bool) {α : Type} (dflt : α) (enc : α->List D) (l : List α)
  |tree {α : Type} (d : α) (pre : α->List D) (kids : α->List α) (l : List α)
  |arr {α : Type} (d : α) (enc : α->List D) (l : List α)
  |hole
  |tY (b : Nat) (o : Obj) (S : (Nat->Nat->Prop)->World->Prop)
def pU{α : Type}(d : α)(pre : α->List D)(kids : α->List α) : α->List D:=fun x=>pre x++[.tree d pre kids (kids x)]
def D.opn : D->D
  |.tree d pre kids l=>.recs d (pU d pre kids) l
  |d=>d
def D.cells : D->List D
  |.agg ds=>ds
  |.arr _ enc l=>l.flatMap enc
  |d=>[d]
def D.flat : D->Bool
  |.agg _|.tup _|.aP _ _ _ _|.arr _ _ _|.fL _ _ _ _ _|.tY _ _ _=>false
  |_=>true
mutual
def D.fB : D->Bool
  |.own _ _=>false
  |.opt _=>false
  |.bn _=>false
  |.mp _=>false
  |.row _=>false
  |.elm _ _ _ _=>false
  |.agg ds=>D.cO ds
  |.tup ds=>D.cO ds
  |.fn _ ds=>D.cO ds
  |_=>true
def D.cO : List D->Bool
  |[]=>true
  |d::ds=>D.fB d&&D.cO ds
end
mutual
def D.names(i : Nat) : D->Bool
  |.own j _=>i==j
  |.opt j=>i==j
  |.bn j=>i==j
  |.mp j=>i==j
  |.row j=>i==j
  |.elm j _ _ _=>i==j
  |.agg ds=>D.bQ i ds
  |.tup ds=>D.bQ i ds
  |.fn _ ds=>D.bQ i ds
  |_=>false
def D.bQ(i : Nat) : List D->Bool
  |[]=>false
  |d::ds=>D.names i d||D.bQ i ds
end
mutual
def D.sub(s : D->Option D) : D->D
  |.own k off=>(s (.own k off)).getD (.own k off)
  |.opt k=>(s (.opt k)).getD (.opt k)
  |.bn k=>(s (.bn k)).getD (.bn k)
  |.mp k=>(s (.mp k)).getD (.mp k)
  |.row k=>(s (.row k)).getD (.row k)
  |.elm k i z off=>(s (.elm k i z off)).getD (.elm k i z off)
  |.agg ds=>.agg (D.subs s ds)
  |.tup ds=>.tup (D.subs s ds)
  |.fn f ds=>.fn f (D.subs s ds)
  |d=>d
def D.subs(s : D->Option D) : List D->List D
  |[]=>[]
  |d::ds=>D.sub s d::D.subs s ds
end
def tG(k : Nat)(cs : List D) : D->Option D
  |.own j off=>if j=k then some (.el (cs.drop off)) else none
  |.opt j=>if j=k then some .hole else none
  |.bn j=>if j=k then some .hole else none
  |.mp j=>if j=k then some .hole else none
  |.row j=>if j=k then some .hole else none
  |.elm j _ _ _=>if j=k then some .hole else none
  |_=>none
def je(k z : Nat) : D->Option D
  |.own j off=>if j=k then some (if off=0 then .elm k 0 z 0 else .hole) else none
  |.opt j=>if j=k then some .hole else none
  |.bn j=>if j=k then some .hole else none
  |.mp j=>if j=k then some .hole else none
  |.row j=>if j=k then some .hole else none
  |.elm j _ _ _=>if j=k then some .hole else none
  |_=>none
def rename(k k' : Nat) : D->Option D
  |.own j off=>if j=k then some (.own k' off) else none
  |.opt j=>if j=k then some (.opt k') else none
  |.bn j=>if j=k then some (.bn k') else none
  |.mp j=>if j=k then some (.mp k') else none
  |.row j=>if j=k then some (.row k') else none
  |.elm j i z off=>if j=k then some (.elm k' i z off) else none
  |_=>none
def dG(fb : D)(ren : List (Nat×Nat)) : D->Option D
  |.own j off=>match ren.lookup j with|some k=>some (.own k off)|none=>some fb
  |.opt j=>match ren.lookup j with|some k=>some (.opt k)|none=>some fb
  |.bn j=>match ren.lookup j with|some k=>some (.bn k)|none=>some fb
  |.mp j=>match ren.lookup j with|some k=>some (.mp k)|none=>some fb
  |.row j=>match ren.lookup j with|some k=>some (.row k)|none=>some fb
  |.elm j i z off=>match ren.lookup j with|some k=>some (.elm k i z off)|none=>some fb
  |_=>none
def never : D:=.agg [.aP false () (fun _=>[]) []]
inductive TK where
  |other
  |bool
  |str
  |slice (esize : Nat) (eagg : Bool)
  |int (k : IntKind)
  |struct (fields : List (Nat×Nat×Bool))
  |array (n esize : Nat) (eagg : Bool)
  |map (kk : Option IntKind) (esize : Nat) (eagg : Bool)
  |ptr
structure TI where
  agg : Bool
  size : Nat
  zero : List Value
  kind : TK
  elt : Nat:=0
  eb : Nat:=0
  ez : List Value:=[]
  ek : Option IntKind:=none
  eqs : List Nat:=[]
def ja : Value->Bool
  |.agg _|.tuple _=>false
  |_=>true
def ofValue : Value->D
  |.string s=>.str s.data.toList
  |v=>.val v
def partOf(agg : Bool)(size off : Nat)(ds : List D) : Option D :=
  if agg then(if off+size<=ds.length then some (.agg ((ds.drop off).take size)) else none) else ds[off]?
def setCells(ds : List D)(off : Nat)(cs : List D) : List D:=ds.take off++cs++ds.drop (off+cs.length)
def iY(place : Nat->Option (Nat×Nat)) : List D->List (Nat×D)->Option (List D)
  |ds,[]=>some ds
  |ds,(i,d)::rest =>
    match place i with
    |none=>none
    |some (off,size)=>if d.cells.length=size/\off+size<=ds.length then iY place (setCells ds off d.cells) rest else none
inductive Out : Type 1
  |val (d : D)
  |box (t : Nat) (cells : List D)
  |store (key off : Nat) (cells : List D)
  |call (f : Nat) (args : List D)
  |row (e : Nat) (m : Bool) (old : Option Nat) (spec : D->Prop)
  |upd (k : Nat) (n : Int) (size off : Nat) (cells : List D)
  |known (spec : D->Prop)
  |xY (t z m : Nat) (d : D)
  |fill (k z m : Nat) (d : D)
  |turn (k z m : Nat) (d : D)
  |qt (t : Nat) (kk : Option IntKind) (ag : Bool)
  |ud (k : Nat) (kk : Option IntKind) (ag : Bool) (key : MK) (cells : List D)
  |mlk (k : Nat) (kk : Option IntKind) (ag : Bool) (key : MK) (ok : Bool) (ez : List D)
  |wS (k : Nat)
  |mdl (k : Nat) (kk : Option IntKind) (ag : Bool) (key : MK)
  |cpy (k es : Nat) (cells : List D) (n : Nat)
def AZ(op : BinOp)(k : IntKind)(a b : Int) : Option (D×List Bool) :=
  match op with
  |.add=>some (.val (.int k (k.wrap (a+b))),[])
  |.sub=>some (.val (.int k (k.wrap (a-b))),[])
  |.mul=>some (.val (.int k (k.wrap (a*b))),[])
  |.quo=>some (.val (.int k (k.wrap (a.tdiv b))),[b != 0])
  |.rem=>some (.val (.int k (a.tmod b)),[b != 0])
  |.and=>some (.val (.int k (k.wrap (BitVec.ofInt k.bits a &&& BitVec.ofInt k.bits b).toNat)),[])
  |.or=>some (.val (.int k (k.wrap (BitVec.ofInt k.bits a ||| BitVec.ofInt k.bits b).toNat)),[])
  |.xor=>some (.val (.int k (k.wrap (BitVec.ofInt k.bits a ^^^ BitVec.ofInt k.bits b).toNat)),[])
  |.andNot=>some (.val (.int k (k.wrap (BitVec.ofInt k.bits a &&& ~~~ BitVec.ofInt k.bits b).toNat)),[])
  |.eql=>some (.val (.bool (a==b)),[])
  |.neq=>some (.val (.bool (a != b)),[])
  |.lss=>some (.val (.bool (decide (a<b))),[])
  |.leq=>some (.val (.bool (decide (a<=b))),[])
  |.gtr=>some (.val (.bool (decide (a>b))),[])
  |.geq=>some (.val (.bool (decide (a>=b))),[])
  |_=>none
def FR(op : BinOp)(a b : Bs) : Option (D×List Bool) :=
  match op with
  |.add=>some (.str (a++b),[decide (((a.length+b.length : Nat) : Int)<=9223372036854775807)])
  |.eql=>some (.val (.bool (a==b)),[])
  |.neq=>some (.val (.bool (!(a==b))),[])
  |.lss=>some (.val (.bool (Op.bytesLess a b)),[])
  |.leq=>some (.val (.bool (Op.bytesLess a b||a==b)),[])
  |.gtr=>some (.val (.bool (!(Op.bytesLess a b||a==b))),[])
  |.geq=>some (.val (.bool (!(Op.bytesLess a b))),[])
  |_=>none
def vq(op : BinOp)(k : IntKind)(a b : Int) : Option (D×List Bool) :=
  match op with
  |.shl=>some (.val (.int k (k.wrap (a*2 ^ (min b.toNat k.bits)))),[decide (0<=b)])
  |.shr=>some (.val (.int k (a.fdiv (2 ^ (min b.toNat k.bits)))),[decide (0<=b)])
  |_=>none
def rL(op : BinOp)(x y : D) : Option (D×List Bool) :=
  match x,y with
  |.val (.int k a),.val (.int k' b) =>
    match op with
    |.shl|.shr=>vq op k a b
    |_=>if k=k' then AZ op k a b else none
  |.str a,.str b=>FR op a b
  |_,_=>none
def unD(op : UnOp)(x : D) : Option D :=
  match op,x with
  |.neg,.val (.int k n)=>some (.val (.int k (k.wrap (0-n))))
  |.xor,.val (.int k n)=>some (.val (.int k (k.wrap (BitVec.ofInt k.bits (if k.signed then -1 else k.max) ^^^ BitVec.ofInt k.bits n).toNat)))
  |.not,.val (.bool b)=>some (.val (.bool (!b)))
  |_,_=>none
def Im : Nat->D->D->Option Bool
  |0,.val (.int k a),.val (.int k' b)=>if k=k' then some (a==b) else none
  |1,.val (.bool a),.val (.bool b)=>some (a==b)
  |2,.str a,.str b=>some (a==b)
  |_,_,_=>none
def qg : List Nat->List D->List D->Option Bool
  |[],[],[]=>some true
  |[k],[a],[b]=>Im k a b
  |k::ks,a::as,b::bs =>
    match Im k a b,qg ks as bs with
    |some x,some y=>some (x&&y)
    |_,_=>none
  |_,_,_=>none
def vP(l : Bs)(lo hi : Option D) : Option (D×List Bool) :=
  match lo,hi with
  |none,none=>some (.str l,[])
  |some (.val (.int _ a)),none=>some (.str (l.drop a.toNat),[decide (0<=a/\a<=(l.length : Int))])
  |none,some (.val (.int _ b))=>some (.str (l.take b.toNat),[decide (0<=b/\b<=(l.length : Int))])
  |some (.val (.int _ a)),some (.val (.int _ b))=>some (.str ((l.drop a.toNat).take (b.toNat-a.toNat)),[decide (0<=b/\b<=(l.length : Int)),decide (0<=a/\a<=b)])
  |_,_=>none
def kV{α : Type}(d : α)(enc : α->List D)(l : List α)(lo hi : Option D) : Option (D×List Bool) :=
  match lo,hi with
  |none,none=>some (.recs d enc l,[])
  |some (.val (.int _ a)),none=>some (.recs d enc (l.drop a.toNat),[decide (0<=a/\a<=(l.length : Int))])
  |none,some (.val (.int _ b))=>some (.recs d enc (l.take b.toNat),[decide (0<=b/\b<=(l.length : Int))])
  |some (.val (.int _ a)),some (.val (.int _ b))=>some (.recs d enc ((l.drop a.toNat).take (b.toNat-a.toNat)),[decide (0<=b/\b<=(l.length : Int)),decide (0<=a/\a<=b)])
  |_,_=>none
def omap(get : Operand->Option D) : Option Operand->Option (Option D)
  |none=>some none
  |some x=>(get x).map some
def getAll(get : Operand->Option D) : List Operand->Option (List D)
  |[]=>some []
  |x::xs=>match get x,getAll get xs with|some d,some ds=>some (d::ds)|_,_=>none
def oh(get : Operand->Option D) : List (Nat×Operand)->Option (List (Nat×D))
  |[]=>some []
  |(i,x)::xs=>match get x,oh get xs with|some d,some ds=>some ((i,d)::ds)|_,_=>none
abbrev aA:=List (Nat×Nat×List D)
def mq(L : aA) : D->Option D
  |.row k=>match L.lookup k with|some (_,[.aP true d enc l])=>some (.recs d enc l)|_=>none
  |_=>none
def D.shut(L : aA)(d : D) : D:=D.sub (mq L) d
def D.jg(L : aA)(ds : List D) : List D:=D.subs (mq L) ds
def kh(es : Nat)(L : aA) : D->Option (List D×Nat)
  |.recs d enc l=>if(enc d).length=es then some (l.flatMap enc,l.length) else none
  |.row k=>match L.lookup k with|some (_,[.aP _ d enc l])=>if(enc d).length=es then some (l.flatMap enc,l.length) else none|_=>none
  |.str l=>if es=1 then some (l.map fun b=>.val (.int .u8 b.toNat),l.length) else none
  |_=>none
def limit : Nat:=140737488355328
def aX : D->Prop
  |.recs d enc _=>0<(enc d).length/\∀x,(enc x).length=(enc d).length/\(enc x).all D.flat=true
  |_=>False
mutual
inductive jZ : D->D->Prop
  |refl (d : D) : jZ d d
  |zero {α : Type} (d : α) (enc : α->List D) : jZ (.val (.slice none 0 0)) (.recs d enc [])
  |agg {ds es : List D} (h : bG ds es) : jZ (.agg ds) (.agg es)
  |arr {α : Type} {d : α} {enc : α->List D} {l : List α} {ds : List D} (h : l.flatMap enc=ds) (hg : aX (.recs d enc l)) (hn : D.cO ds=true) : jZ (.agg ds) (.arr d enc l)
  |tup {ds es : List D} (h : bG ds es) : jZ (.tup ds) (.tup es)
  |el {ds es : List D} (h : bG ds es) : jZ (.el ds) (.el es)
  |fn {f : Nat} {ds es : List D} (h : bG ds es) : jZ (.fn f ds) (.fn f es)
  |ik {α : Type} (d : α) (pre : α->List D) (kids : α->List α) : jZ (.val (.slice none 0 0)) (.tree d pre kids [])
  |opn {α : Type} (d : α) (pre : α->List D) (kids : α->List α) (l : List α) : jZ (.tree d pre kids l) (.recs d (pU d pre kids) l)
  |close {α : Type} (d : α) (pre : α->List D) (kids : α->List α) (l : List α) : jZ (.recs d (pU d pre kids) l) (.tree d pre kids l)
inductive bG : List D->List D->Prop
  |nil : bG [] []
  |cons {d e : D} {ds es : List D} (h : jZ d e) (hs : bG ds es) : bG (d::ds) (e::es)
end
def fD(z : Nat)(cs : List D)(n : Nat)(r : D) : Prop:=∃(α : Type)(d : α)(enc : α->List D)(l : List α),bG cs (l.flatMap enc)/\l.length=n/\(enc d).length=z/\r=.recs d enc l
def A8(cs : List D)(n : Nat)(r : D) : Prop:=∃(α : Type)(d : α)(enc : α->List D),bG cs (enc d)/\r=.recs d enc (List.replicate n d)
def iN{α : Type}(d : α)(enc : α->List D)(l : List α)(cs : List D)(n : Nat)(r : D) : Prop:=∃xs,bG cs (xs.flatMap enc)/\xs.length=n/\r=.recs d enc (l++xs)
def Bi(cs : List D)(r : D) : Prop:=∃s : Bs,cs=(s.map fun b=>.val (.int .u8 b.toNat))/\r=.str s
def EH{α : Type}(d : α)(enc : α->List D)(l : List α)(n : Int)(off : Nat)(cells : List D)(r : D) : Prop:=∃x,bG (setCells (enc (l[n.toNat]?.getD d)) off cells) (enc x)/\r=.recs d enc (l.set n.toNat x)
def pM{α : Type}(l xs : List α) : List α:=xs.take l.length++l.drop xs.length
def Am{α : Type}(d : α)(enc : α->List D)(l : List α)(cs : List D)(n : Nat)(r : D) : Prop:=∃xs,bG cs (xs.flatMap enc)/\xs.length=n/\r=.recs d enc (pM l xs)
def vX(ag : Bool)(ds : List D) : Option D:=if ag then some (.agg ds) else match ds with|[d]=>some d|_=>none
def uf{α : Type}(ag : Bool)(enc : α->List D)(l : List (MK×α))(x : MK)(ez : List D)(r : D) : Prop:=∃z : α,bG ez (enc z)/\vX ag (enc ((aW l x).getD z))=some r
def zV{α : Type}(ag : Bool)(enc : α->List D)(l : List (MK×α))(x : MK)(ez : List D)(r : D) : Prop:=∃(z : α)(r' : D),bG ez (enc z)/\vX ag (enc ((aW l x).getD z))=some r'/\r=.tup [r',.val (.bool (aW l x).isSome)]
def Ax{α : Type}(enc : α->List D)(l : List (MK×α))(x : MK)(cells : List D)(l' : List (MK×α)) : Prop:=∃v,bG cells (enc v)/\l'=dJ l x v
def yC{α : Type}(ag : Bool)(enc : α->List D) : Prop:=(∀x,(enc x).all D.flat=true)/\(ag=false->∀x,(enc x).length=1)
def tV : D->Option (Bool×List D)
  |.agg ds=>some (true,ds)
  |d=>if d.flat then some (false,[d]) else none
def uQ(kk : Option IntKind) : D->Option MK
  |.str s=>match kk with|none=>some (.inl s)|some _=>none
  |.val (.int k n)=>if kk=some k then some (.inr n) else none
  |_=>none
def N4(ks : List Nat)(neg : Bool)(as bs : List D)(r : D) : Prop:=∃b,qg ks as bs=some b/\r=.val (.bool (xor neg b))
def sameRow(k : Nat) : D->Bool
  |.row k'=>k'==k
  |_=>false
def appSpec(es el : Nat)(L : aA)(s x : D) : Option (Option Nat×Bool×Nat×(D->Prop)) :=
  match s,kh es L x with
  |.row k,some (cs,n) =>
    match sameRow k x,L.lookup k with
    |false,some (tt,[.aP m d enc l])=>if(enc d).length=es/\tt=el then some (some k,m,l.length+n,iN d enc l cs n) else none
    |_,_=>none
  |.val (.slice none 0 0),some (cs,n)=>some (none,false,n,fD es cs n)
  |_,_=>none
def iH(Γ : Nat->Option TI)(L : aA)(get : Operand->Option D)(c : Call) : Option (Out×List Bool) :=
  match c.callee,getAll get c.args.toList with
  |.value (.func f),some ds=>some (.call f (D.jg L ds),[])
  |.value x,some ds=>match get x with|some (.fn f caps)=>some (.call f (D.jg L (ds++caps)),[])|_=>none
  |.builtin .append,some [s,x] =>
    match c.argTypes.toList with
    |[t,t']=>(Γ t).bind fun ti=>(Γ t').bind fun ti'=>match ti.kind,ti'.kind with
      |.slice es _,.slice _ _=>if t=t'/\ti.ez.length=es/\0<es then(appSpec es ti.elt L s x).map fun r=>(.row ti.elt r.2.1 r.1 r.2.2.2,[decide (r.2.2.1*(ti.eb+1)<=limit)]) else none
      |.slice es _,.str=>if ti.ez.length=es/\0<es then(appSpec es ti.elt L s x).map fun r=>(.row ti.elt r.2.1 r.1 r.2.2.2,[decide (r.2.2.1*(ti.eb+1)<=limit)]) else none
      |_,_=>none
    |_=>none
  |.builtin .len,some [.row k]=>match c.argTypes.toList with|[t]=>(Γ t).bind fun ti=>(match ti.kind,L.lookup k with|.slice _ _,some (_,[.aP _ _ _ l])=>some (.val (.val (.int .i64 l.length)),[])|_,_=>none)|_=>none
  |.builtin .len,some [.mp k]=>match c.argTypes.toList with|[t]=>(Γ t).bind fun ti=>(match ti.kind with|.map _ _ _=>some (.wS k,[])|_=>none)|_=>none
  |.builtin .len,some [.str l]=>match c.argTypes.toList with|[t]=>(Γ t).bind fun ti=>(match ti.kind with|.str=>some (.val (.val (.int .i64 l.length)),[])|_=>none)|_=>none
  |.builtin .len,some [.recs _ _ l]=>match c.argTypes.toList with|[t]=>(Γ t).bind fun ti=>(match ti.kind with|.slice _ _=>some (.val (.val (.int .i64 l.length)),[])|_=>none)|_=>none
  |.builtin .min,some [.val (.int k a),.val (.int _ b)]=>some (.val (.val (.int k (if b<a then b else a))),[])
  |.builtin .max,some [.val (.int k a),.val (.int _ b)]=>some (.val (.val (.int k (if b>a then b else a))),[])
  |_,_=>none
def kD(Γ : Nat->Option TI)(L : aA)(get : Operand->Option D)(dst : Option Nat)(op : Op) : Option (Out×List Bool) :=
  match op with
  |.move x|.assign x=>(get x).map fun d=>(.val d,[])
  |.alloc t=>(Γ t).map fun ti=>(.box t (ti.zero.map ofValue),[])
  |.box t x =>
    match Γ t,get x with
    |some ti,some (.arr d enc l)=>match ti.kind with|.array m es _=>some (.xY t es m (.arr d enc l),[])|_=>none
    |some ti,some d=>if d.cells.length=ti.size then some (.box t d.cells,[]) else none
    |_,_=>none
  |.build t parts =>
    match Γ t,oh get parts.toList with
    |some ti,some ps =>
      match ti.kind with
      |.struct fs=>(iY (fun i=>(fs[i]?).map fun f=>(f.1,f.2.1)) (ti.zero.map ofValue) ps).map fun ds=>(.val (.agg ds),[])
      |.array _ es _=>(iY (fun i=>some (i*es,es)) (ti.zero.map ofValue) ps).map fun ds=>(.val (.agg ds),[])
      |_=>none
    |_,_=>none
  |.load t x =>
    match Γ t,get x with
    |some ti,some (.own k off)=>match L.lookup k with|some (_,ds)=>(partOf ti.agg ti.size off ds).map fun d=>(.val d,[])|none=>none
    |some ti,some (.el ds)=>(partOf ti.agg ti.size 0 ds).map fun d=>(.val d,[])
    |some ti,some (.elm k n z off) =>
      match ti.kind,L.lookup k with
      |.array m es _,some (_,[.aP _ d enc l])=>if(enc d).length=es/\z=es/\n=0/\off=0/\ti.size=m*es/\ti.agg=true then some (.val (.arr d enc l),[decide (l.length=m)]) else none
      |_,some (_,[.aP _ d enc l])=>if(enc d).length=z then(partOf ti.agg ti.size off (enc (l[n.toNat]?.getD d))).map fun r=>(.val r,[decide (0<=n/\n<(l.length : Int))]) else none
      |_,_=>none
    |_,_=>none
  |.store t x y =>
    match Γ t,get x,get y with
    |some ti,some (.elm k n z off),some d =>
      match ti.kind,L.lookup k with
      |.array m es _,_=>if z=es/\n=0/\off=0/\ti.size=m*es/\d.fB=true then some (.fill k es m d,[]) else none
      |_,some (_,[.aP false _ _ l])=>if d.cells.length=ti.size/\off+ti.size<=z then some (.upd k n z off (D.jg L d.cells),[decide (0<=n/\n<(l.length : Int))]) else none
      |_,_=>none
    |some ti,some (.own k off),some (.arr d enc l) =>
      match ti.kind,L.lookup k with
      |.array m es _,some (_,ds)=>if off=0/\ds.length=m*es/\ti.size=m*es then some (.turn k es m (.arr d enc l),[]) else none
      |_,_=>none
    |some ti,some (.own k off),some d =>
      match L.lookup k with
      |some (_,ds)=>if d.cells.length=ti.size/\off+ti.size<=ds.length then some (.store k off d.cells,[]) else none
      |none=>none
    |_,_,_=>none
  |.nilCheck x=>match get x with|some (.own k off)=>some (.val (.own k off),[])|some (.el ds)=>some (.val (.el ds),[])|some (.fn f c)=>some (.val (.fn f c),[])|some (.elm k n z off)=>some (.val (.elm k n z off),[])|some (.val (.pointer none))=>some (.val (.el (List.replicate 8 (.val (.pointer none)))),[false])|_=>none
  |.binOp op t x y _ =>
    match get x,get y with
    |some (.agg a),some (.agg b) =>
      match Γ t,op with
      |some ti,.eql=>if ti.eqs=[] then none else(qg ti.eqs a b).map fun r=>(.val (.val (.bool r)),[])
      |some ti,.neq=>if ti.eqs=[] then none else(qg ti.eqs a b).map fun r=>(.val (.val (.bool (!r))),[])
      |_,_=>none
    |some (.arr d enc l),some (.arr d' enc' l') =>
      match Γ t,op with
      |some ti,.eql=>if ti.eqs=[] then none else some (.known (N4 ti.eqs false (l.flatMap enc) (l'.flatMap enc')),[])
      |some ti,.neq=>if ti.eqs=[] then none else some (.known (N4 ti.eqs true (l.flatMap enc) (l'.flatMap enc')),[])
      |_,_=>none
    |some (.val (.bool a)),some (.val (.bool b)) =>
      match Γ t with
      |some ti=>match ti.kind,op with
        |.bool,.eql=>some (.val (.val (.bool (a==b))),[])
        |.bool,.neq=>some (.val (.val (.bool (!(a==b)))),[])
        |_,_=>none
      |none=>none
    |some a,some b=>(rL op a b).map fun r=>(.val r.1,r.2)
    |_,_=>none
  |.unOp op _ x=>match get x with|some d=>(unD op d).map fun r=>(.val r,[])|none=>none
  |.convert s t x =>
    match Γ s,Γ t,get x with
    |some si,some ti,some (.val (.int _ n))=>match si.kind,ti.kind with|.int _,.int k=>some (.val (.val (.int k (k.wrap n))),[])|_,_=>none
    |some si,some ti,some (.str l)=>match si.kind,ti.kind with
      |.str,.str=>some (.val (.str l),[])
      |.str,.slice 1 _=>if ti.ek=some .u8/\ti.ez.length=1 then some (.row ti.elt false none (fD 1 (l.map fun b=>.val (.int .u8 b.toNat)) l.length),[decide (l.length<=limit)]) else none
      |_,_=>none
    |some si,some ti,some (.val (.slice none 0 0))=>match si.kind,ti.kind with|.slice _ _,.str=>if si.ek=some .u8 then some (.val (.str []),[]) else none|_,_=>none
    |some si,some ti,some d=>match si.kind,ti.kind with
      |.slice 1 _,.str=>if si.ek=some .u8 then(kh 1 L d).map fun c=>(.known (Bi c.1),[]) else none
      |_,_=>none
    |_,_,_=>none
  |.buildSlice t len parts =>
    match Γ t,oh get parts.toList with
    |some ti,some ps =>
      match ti.kind with
      |.slice es _ =>
        match iY (fun i=>some (i*es,es)) ((List.replicate len (ti.ez.map ofValue)).flatten) (ps.map fun x=>(x.1,x.2.shut L)) with
        |some cs=>if D.cO cs/\len*es<=16777216/\0<es/\ti.ez.length=es then some (.row ti.elt false none (fD es cs len),[]) else none
        |none=>none
      |_=>none
    |_,_=>none
  |.makeSlice t n c =>
    match Γ t,get n,get c with
    |some ti,some (.val (.int _ n)),some (.val (.int _ c)) =>
      match ti.kind with
      |.slice es _=>if 0<es/\ti.ez.length=es then some (.row ti.elt false none (A8 (ti.ez.map ofValue) n.toNat),[decide (0<=n/\n<=c),decide (c*(ti.eb+1 : Nat)<=(limit : Int))]) else none
      |_=>none
    |_,_,_=>none
  |.slice t x lo hi none =>
    match Γ t,get x,omap get lo,omap get hi with
    |some ti,some (.str l),some lo,some hi=>match ti.kind with|.str=>(vP l lo hi).map fun r=>(.val r.1,r.2)|_=>none
    |some ti,some (.recs d enc l),some lo,some hi=>match ti.kind with|.slice es _=>if(enc d).length=es then(kV d enc l lo hi).map fun r=>(.val r.1,r.2) else none|_=>none
    |some ti,some (.elm k n z off),some lo,some hi =>
      match ti.kind,L.lookup k with
      |.array m es _,some (_,[.aP true d enc l])=>if(enc d).length=es/\z=es/\n=0/\off=0 then(kV d enc l lo hi).map fun r=>(.val r.1,decide (l.length=m)::r.2) else none
      |_,_=>none
    |some ti,some (.row k),some lo,some hi =>
      match ti.kind,L.lookup k with
      |.slice es _,some (_,[.aP true d enc l])=>if(enc d).length=es then(kV d enc l lo hi).map fun r=>(.val r.1,r.2) else none
      |_,_=>none
    |_,_,_,_=>none
  |.fieldAddr t x f =>
    match Γ t,get x with
    |some ti,some (.own k off)=>match ti.kind with|.struct fs=>(fs[f]?).bind fun g=>if g.2.1=0 then none else some (.val (.own k (off+g.1)),[])|_=>none
    |some ti,some (.el ds)=>match ti.kind with|.struct fs=>(fs[f]?).bind fun g=>if g.2.1=0 then none else some (.val (.el (ds.drop g.1)),[])|_=>none
    |some ti,some (.elm k n z off)=>match ti.kind with|.struct fs=>(fs[f]?).bind fun g=>if g.2.1=0 then none else some (.val (.elm k n z (off+g.1)),[])|_=>none
    |_,_=>none
  |.field t x f =>
    match Γ t,get x with
    |some ti,some (.agg ds)=>match ti.kind with|.struct fs=>(fs[f]?).bind fun g=>(partOf g.2.2 g.2.1 g.1 ds).map fun d=>(.val d,[])|_=>none
    |_,_=>none
  |.indexAddr t x i =>
    match Γ t,get x,get i with
    |some ti,some (.recs d enc l),some (.val (.int _ n)) =>
      match ti.kind with
      |.slice es _=>if(enc d).length=es then some (.val (.el (enc (l[n.toNat]?.getD d))),[decide (0<=n/\n<(l.length : Int))]) else none
      |_=>none
    |some ti,some (.row k),some (.val (.int _ n)) =>
      match ti.kind,L.lookup k with
      |.slice es _,some (_,[.aP _ d enc l])=>if(enc d).length=es then some (.val (.elm k n es 0),[decide (0<=n/\n<(l.length : Int))]) else none
      |_,_=>none
    |some ti,some (.elm k n0 z off),some (.val (.int _ n)) =>
      match ti.kind with
      |.array m es _=>if n0=0/\off=0/\z=es then some (.val (.elm k n es 0),[decide (0<=n/\n<(m : Int))]) else none
      |_=>none
    |some ti,some (.own k off),some (.val (.int _ n)) =>
      match ti.kind with
      |.array m es _=>if 2<=m then some (.val (.own k (off+n.toNat*es)),[decide (0<=n/\n<(m : Int))]) else none
      |_=>none
    |_,_,_=>none
  |.index t x i =>
    match Γ t,get x,get i with
    |some ti,some (.str l),some (.val (.int _ n))=>match ti.kind with|.str=>some (.val (.val (.int .u8 (l[n.toNat]?.getD 0).toNat)),[decide (0<=n/\n<(l.length : Int))])|_=>none
    |some ti,some (.arr d enc l),some (.val (.int _ n)) =>
      match ti.kind with
      |.array m es ea=>if(enc d).length=es then(partOf ea es 0 (enc (l[n.toNat]?.getD d))).map fun r=>(.val r,[decide (0<=n/\n<(m : Int)),decide (l.length=m)]) else none
      |_=>none
    |some ti,some (.agg ds),some (.val (.int _ n)) =>
      match ti.kind with
      |.array m es ea=>(partOf ea es (n.toNat*es) ds).map fun d=>(.val d,[decide (0<=n/\n<(m : Int))])
      |_=>none
    |_,_,_=>none
  |.makeFunc (.func f) first captured=>if first.toList.isEmpty then(getAll get captured.toList).map fun ds=>(.val (.fn f ds),[]) else none
  |.extract x i=>match get x with|some (.tup ds)=>(ds[i]?).map fun d=>(.val d,[])|_=>none
  |.call c=>iH Γ L get c
  |.makeMap t none=>(Γ t).bind fun ti=>match ti.kind with|.map kk _ ag=>some (.qt t kk ag,[])|_=>none
  |.lookup t x y ok =>
    match Γ t,get x,get y with
    |some ti,some (.mp k),some y =>
      match ti.kind with
      |.map kk es ag=>if ti.ez.length=es/\0<es then(uQ kk y).map fun key=>(.mlk k kk ag key ok (ti.ez.map ofValue),[]) else none
      |_=>none
    |_,_,_=>none
  |.mapUpdate t x y z =>
    match Γ t,get x,get y,get z with
    |some ti,some (.mp k),some y,some z =>
      match ti.kind with
      |.map kk es ag=>match tV z with|some (ag',cs)=>if cs.length=es/\ag'=ag then(uQ kk y).map fun key=>(.ud k kk ag key (D.jg L cs),[]) else none|none=>none
      |_=>none
    |_,_,_,_=>none
  |_=>none
def JY(op : BinOp)(x y : D) : Option Bool :=
  match op,x,y with
  |.eql,.own _ _,.val (.pointer none)=>some false
  |.neq,.own _ _,.val (.pointer none)=>some true
  |.eql,.val (.pointer none),.val (.pointer none)=>some true
  |.neq,.val (.pointer none),.val (.pointer none)=>some false
  |_,_,_=>none
def evX(Γ : Nat->Option TI)(L : aA)(get : Operand->Option D)(op : Op) : Option Out :=
  match op with
  |.binOp op t x y _ =>
    match Γ t,get x,get y with
    |some ti,some dx,some dy=>match ti.kind with|.ptr=>(JY op dx dy).map fun b=>.val (.val (.bool b))|_=>none
    |_,_,_=>none
  |.call c =>
    match c.callee,getAll get c.args.toList,c.argTypes.toList with
    |.builtin .delete,some [.mp k,y],[t,_] =>
      match Γ t with
      |some ti=>match ti.kind with|.map kk _ ag=>(uQ kk y).map fun key=>.mdl k kk ag key|_=>none
      |none=>none
    |.builtin .copy,some [.row k,x],[t,_] =>
      match Γ t with
      |some ti=>match ti.kind with|.slice es _=>if sameRow k x then none else(match x with|.str _=>none|x=>(kh es L x).map fun c=>.cpy k es c.1 c.2)|_=>none
      |none=>none
    |_,_,_=>none
  |_=>none
def iK(Γ : Nat->Option TI)(L : aA)(get : Operand->Option D)(dst : Option Nat)(op : Op) : Option (Out×List Bool) :=
  match evX Γ L get op with
  |some out=>some (out,[])
  |none=>kD Γ L (fun x=>(get x).map D.opn) dst op
abbrev Cnd:=List (Nat×Bool)
structure Ent where
  slot : Nat
  src : Nat
  cnd : Cnd
  d : D
def tv(tab : List (Nat×Bool))(j : Nat) : Bool:=(tab.lookup j).getD false
def holds(tab : List (Nat×Bool)) : Cnd->Bool
  |[]=>true
  |[x]=>tv tab x.1==x.2
  |x::c=>(tv tab x.1==x.2)&&holds tab c
def Cnd.le(c c' : Cnd) : Bool:=c.all fun x=>c'.any fun y=>x.1==y.1&&x.2==y.2
structure ES where
  K : List Ent
  L : aA
  tab : List (Nat×Bool)
  obl : List Prop
def kz(K : List Ent)(t : Nat) : Option Ent:=K.find? fun e=>e.slot==t
def MI(v : Value) : Option D :=
  if ja v then some (ofValue v) else match v with|.agg vs=>if vs.toList.all ja then some (.agg (vs.toList.map ofValue)) else none|_=>none
def getOp(K : List Ent)(g : Cnd) : Operand->Option D
  |.tmp t=>match kz K t with|some e=>if e.cnd.le g then some e.d else none|none=>none
  |.const v=>MI v
  |.global _=>none
  |.func f=>some (.fn f [])
def jF(ops : List Oper)(K : List Ent) : Option (Nat×Bool)->Option Cnd
  |none=>some []
  |some (j,want) =>
    match (ops[j]?).bind (·.dst) with
    |none=>none
    |some t =>
      match kz K t with
      |none=>none
      |some e=>if e.src=j+1 then(match e.d with|.val (.bool _)=>some ((j,want)::e.cnd)|_=>none) else none
def kQ(tab : List (Nat×Bool))(g : Cnd)(b : Bool) : Bool:=match g with|[]=>b|_=>!(holds tab g)||b
def fE(i : Nat)(d : D)(tab : List (Nat×Bool)) : List (Nat×Bool):=match d with|.val (.bool b)=>(i,b)::tab|_=>tab
def iQ(e : Ent)(K : List Ent) : List Ent:=e::K.filter fun x=>!(x.slot==e.slot)
def rf(k t : Nat)(cs : List D)(L : aA) : aA:=(k,t,cs)::L.filter fun x=>!(x.1==k)
def Jn(s : D->Option D)(K : List Ent) : List Ent:=K.map fun e=>{ e with d:=e.d.sub s }
def CZ(s : D->Option D)(L : aA) : aA:=L.map fun x=>(x.1,x.2.1,D.subs s x.2.2)
def dropKey(L : aA) : Option Nat->aA
  |none=>L
  |some k=>L.filter fun x=>!(x.1==k)
def setRow(k t : Nat)(r : D)(L : aA) : aA:=(k,t,[r])::L.filter fun x=>!(x.1==k)
def zN(k off : Nat)(cs : List D)(L : aA) : aA:=L.map fun x=>if x.1=k then(x.1,x.2.1,setCells x.2.2 off cs) else x
def ki : List D->Bool
  |[.aP _ _ _ _]=>true
  |_=>false
structure CBd where
  ren : List (Nat×Nat)
  fh : List (Nat×Nat)
  ds : List D
  Lin : aA
  r : D
  fC : aA
def vQ(ren : List (Nat×Nat))(L : aA) : aA:=L.filterMap fun x=>(ren.lookup x.1).map fun k=>(k,x.2.1,D.subs (dG .hole ren) x.2.2)
def nodupB : List Nat->Bool
  |[]=>true
  |x::l=>!(l.contains x)&&nodupB l
def handed(c : CBd) : List Nat:=c.Lin.filterMap fun x=>c.ren.lookup x.1
def Bo(c : CBd)(p : Nat×Nat) : Bool:=c.ren.lookup p.1==some p.2&&(c.Lin.map (·.1)).contains p.1
def dX(c : CBd) : List Nat:=(c.fh.filter fun p=>!(Bo c p)).map (·.2)
def yb(c : CBd) : Bool :=
  (c.Lin.all fun x=>decide (1000000<=x.1))&&nodupB (c.ren.map (·.2))&&nodupB (c.fh.map (·.2))&&nodupB (c.fh.map (·.1))&&c.fh.all fun p=>decide (p.2<1000000)||Bo c p
def found(c : CBd)(L : aA) : List (Option (Nat×List D)):=c.Lin.map fun x=>(c.ren.lookup x.1).bind fun k=>L.lookup k
def OC(L : aA)(c : CBd) : aA:=c.fC.filterMap fun x=>(c.fh.lookup x.1).bind fun k=>(L.lookup k).map fun y=>(k,y)
def uX(fd : aA)(c : CBd) : Prop:=vQ c.fh c.fC=fd
def rO(CB : Nat->List D->aA->D->aA->Prop)(f : Nat)(args : List D)(fd : List (Option (Nat×List D)))(c : CBd) : Prop :=
  CB f c.ds c.Lin c.r c.fC/\args=D.subs (dG never c.ren) c.ds/\fd=c.Lin.map fun x=>some (x.2.1,D.subs (dG never c.ren) x.2.2)
section
variable (C : Nat->List D->D->Prop) (CB : Nat->List D->aA->D->aA->Prop) (Γ : Nat->Option TI) (nt : Nat) (orc : List (Nat×D)) (orb : List (Nat×CBd)) (ops : List Oper)
def zP(i : Nat)(g : Cnd)(dst : Option Nat)(c a b : Operand)(s : ES) : Option ES :=
  match dst,c with
  |some t,.tmp tc =>
    match kz s.K tc with
    |some e =>
      if e.cnd.le g/\e.src≠0/\t<nt then
        match e.d,getOp s.K ((e.src-1,true)::g) a,getOp s.K ((e.src-1,false)::g) b with
        |.val (.bool bc),some (.val (.bool ba)),some (.val (.bool bb)) =>
          some { s with K:=iQ ⟨t,i+1,g,.val (.bool (bif bc then ba else bb))⟩ s.K,tab:=(i,bif bc then ba else bb)::s.tab }
        |_,_,_=>none
      else none
    |none=>none
  |_,_=>none
def iq(i : Nat)(g : Cnd)(dst : Option Nat)(s : ES) : Out×List Bool->Option ES
  |(.val d,cs) =>
    match dst with
    |some t=>if t<nt then some { s with K:=iQ ⟨t,i+1,g,d⟩ s.K,tab:=fE i d s.tab,obl:=s.obl++cs.map fun c=>kQ s.tab g c=true } else none
    |none=>none
  |(.call f args,cs) =>
    match orb.lookup i with
    |some c =>
      match g with
      |[] =>
        if cs.isEmpty/\yb c then
          let K':=s.K.filter fun e=>(dX c).all fun k=>!(D.names k e.d)
          let L':=vQ c.fh c.fC++s.L.filter fun x=>!((handed c).contains x.1)&&(dX c).all fun k=>!(x.1==k)&&!(D.bQ k x.2.2)
          match dst with
          |some t=>if t<nt then some { s with K:=iQ ⟨t,i+1,[],c.r.sub (dG .hole c.fh)⟩ K',L:=L',tab:=fE i (c.r.sub (dG .hole c.fh)) s.tab,obl:=s.obl++[rO CB f args (found c s.L) c] } else none
          |none=>some { s with K:=K',L:=L',obl:=s.obl++[rO CB f args (found c s.L) c] }
        else none
      |_::_ =>
        if cs.isEmpty/\yb c/\(dX c).isEmpty then
          let K':=s.K.filter fun e=>(dX c).all fun k=>!(D.names k e.d)
          let L':=vQ c.fh c.fC++s.L.filter fun x=>!((handed c).contains x.1)&&(dX c).all fun k=>!(x.1==k)&&!(D.bQ k x.2.2)
          match dst with
          |some t=>if t<nt then some { s with K:=iQ ⟨t,i+1,g,c.r.sub (dG .hole c.fh)⟩ K',L:=L',tab:=fE i (c.r.sub (dG .hole c.fh)) s.tab,obl:=s.obl++[holds s.tab g=true->rO CB f args (found c s.L) c,holds s.tab g=false->uX (OC s.L c) c] } else none
          |none=>none
        else none
    |none =>
    match orc.lookup i,dst with
    |some r,some t=>if t<nt/\D.cO args/\D.fB r/\cs.isEmpty then some { s with K:=iQ ⟨t,i+1,g,r⟩ s.K,tab:=fE i r s.tab,obl:=s.obl++[holds s.tab g=true->C f args r] } else none
    |some r,none=>if D.cO args/\cs.isEmpty then some { s with obl:=s.obl++[holds s.tab g=true->C f args r] } else none
    |none,_=>none
  |(.box ty cells,cs) =>
    match g,dst with
    |[],some t =>
      if t<nt/\t<1000000/\cells.all D.flat/\!D.bQ t cells/\cs.isEmpty then
        some { s with K:=iQ ⟨t,i+1,[],.own t 0⟩ (s.K.filter fun x=>!D.names t x.d),L:=rf t ty cells (s.L.filter fun x=>!D.bQ t x.2.2) }
      else none
    |_,_=>none
  |(.store k off cells,cs) =>
    match g,dst with
    |[],none=>if cells.all D.flat/\cs.isEmpty then some { s with L:=zN k off cells s.L } else none
    |_,_=>none
  |(.row ty m old spec,cs) =>
    match g,dst,orc.lookup i,old with
    |_::_,some t,some (.recs d enc l),none =>
      if t<nt/\t<1000000 then
        some { s with K:=iQ ⟨t,i+1,g,.recs d enc l⟩ (s.K.filter fun x=>!D.names t x.d),L:=(s.L.filter fun x=>!D.bQ t x.2.2).filter fun x=>!(x.1==t),
                      obl:=s.obl++(cs.map fun c=>kQ s.tab g c=true)++[holds s.tab g=true->spec (.recs d enc l)/\aX (.recs d enc l)] }
      else none
    |[],some t,some (.recs d enc l),_ =>
      if t<nt/\t<1000000 then
        some { s with K:=iQ ⟨t,i+1,[],.row t⟩ (s.K.filter fun x=>!D.names t x.d),L:=rf t ty [.aP m d enc l] ((dropKey s.L old).filter fun x=>!D.bQ t x.2.2),
                      obl:=s.obl++(cs.map fun c=>kQ s.tab [] c=true)++[spec (.recs d enc l)/\aX (.recs d enc l)] }
      else none
    |_,_,_,_=>none
  |(.upd k n z off cells,cs) =>
    match g,dst,orc.lookup i,s.L.lookup k with
    |[],none,some (.recs d' enc' l'),some (t,[.aP false d enc l]) =>
      if cells.all D.flat/\D.cO cells/\z=(enc d).length then
        some { s with L:=setRow k t (.aP false d' enc' l') s.L,obl:=s.obl++(cs.map fun c=>kQ s.tab [] c=true)++[EH d enc l n off cells (.recs d' enc' l')] }
      else none
    |_,_,_,_=>none
  |(.xY ty z m d,cs) =>
    match g,dst,orc.lookup i with
    |[],some t,some (.recs d' enc l) =>
      if t<nt/\t<1000000/\m<=1000000/\cs.isEmpty then
        some { s with K:=iQ ⟨t,i+1,[],.elm t 0 z 0⟩ (s.K.filter fun x=>!D.names t x.d),L:=rf t ty [.aP false d' enc l] (s.L.filter fun x=>!D.bQ t x.2.2),obl:=s.obl++[fD z d.cells m (.recs d' enc l)/\aX (.recs d' enc l)] }
      else none
    |_,_,_=>none
  |(.fill k z m d,cs) =>
    match g,dst,orc.lookup i,s.L.lookup k with
    |[],none,some (.recs d' enc' l'),some (t,[.aP false d0 enc l]) =>
      if cs.isEmpty/\(enc d0).length=z/\0<m then
        some { s with L:=setRow k t (.aP false d' enc' l') s.L,obl:=s.obl++[decide (l.length=m)=true,fD z d.cells m (.recs d' enc' l')/\aX (.recs d' enc' l')] }
      else none
    |_,_,_,_=>none
  |(.turn k z m d,cs) =>
    match g,dst,orc.lookup i,s.L.lookup k with
    |[],none,some (.recs d' enc' l'),some (t,ds) =>
      if cs.isEmpty/\k<1000000/\m<=1000000 then
        some { s with K:=Jn (je k z) s.K,L:=setRow k t (.aP false d' enc' l') (CZ (je k z) (s.L.filter fun x=>!(x.1==k))),obl:=s.obl++[fD z d.cells m (.recs d' enc' l')/\aX (.recs d' enc' l')] }
      else none
    |_,_,_,_=>none
  |(.qt ty kk ag,cs) =>
    match g,dst,orc.lookup i with
    |[],some t,some (.fL kk' ag' d enc []) =>
      if t<nt/\t<1000000/\cs.isEmpty/\kk'=kk/\ag'=ag then
        some { s with K:=iQ ⟨t,i+1,[],.mp t⟩ (s.K.filter fun x=>!D.names t x.d),L:=rf t ty [.fL kk ag d enc []] (s.L.filter fun x=>!D.bQ t x.2.2),obl:=s.obl++[yC ag enc] }
      else none
    |_,_,_=>none
  |(.mlk k kk ag key ok ez,cs) =>
    match dst,orc.lookup i,s.L.lookup k with
    |some t,some r,some (_,[.fL kk' ag' d enc l]) =>
      if t<nt/\cs.isEmpty/\kk'=kk/\ag'=ag then some { s with K:=iQ ⟨t,i+1,g,r⟩ s.K,tab:=fE i r s.tab,obl:=s.obl++[holds s.tab g=true->if ok then zV ag enc l key ez r else uf ag enc l key ez r] } else none
    |_,_,_=>none
  |(.wS k,cs) =>
    match dst,s.L.lookup k with
    |some t,some (_,[.fL _ _ _ _ l])=>if t<nt/\cs.isEmpty then some { s with K:=iQ ⟨t,i+1,g,.val (.int .i64 l.length)⟩ s.K } else none
    |_,_=>none
  |(.ud k kk ag key cells,cs) =>
    match g,dst,s.L.lookup k with
    |[],none,some (t,[.fL kk' ag' (α:=α) d enc l]) =>
      if D.cO cells/\cs.isEmpty/\kk'=kk/\ag'=ag then
        match orc.lookup i with
        |some r=>some { s with L:=setRow k t r s.L,obl:=s.obl++[∃l' : List (MK×α),r=.fL kk ag d enc l'/\Ax enc l key cells l'] }
        |none=>none
      else none
    |_,_,_=>none
  |(.mdl k kk ag key,cs) =>
    match g,dst,s.L.lookup k with
    |[],none,some (t,[.fL kk' ag' d enc l]) =>
      if cs.isEmpty/\kk'=kk/\ag'=ag then some { s with L:=setRow k t (.fL kk ag d enc (vA l key)) s.L } else none
    |_,_,_=>none
  |(.cpy k es cells n,cs) =>
    match g,dst,orc.lookup i,s.L.lookup k with
    |[],none,some (.recs d' enc' l'),some (t,[.aP false d enc l]) =>
      if cs.isEmpty/\(enc d).length=es then some { s with L:=setRow k t (.aP false d' enc' l') s.L,obl:=s.obl++[Am d enc l cells n (.recs d' enc' l')] } else none
    |[],some tt,some (.recs d' enc' l'),some (t,[.aP false d enc l]) =>
      if tt<nt/\cs.isEmpty/\(enc d).length=es then some { s with K:=iQ ⟨tt,i+1,[],.val (.int .i64 (Nat.min n l.length : Nat))⟩ s.K,L:=setRow k t (.aP false d' enc' l') s.L,obl:=s.obl++[Am d enc l cells n (.recs d' enc' l')] } else none
    |_,_,_,_=>none
  |(.known spec,cs) =>
    match dst,orc.lookup i with
    |some t,some r=>if t<nt/\cs.isEmpty then some { s with K:=iQ ⟨t,i+1,g,r⟩ s.K,tab:=fE i r s.tab,obl:=s.obl++[holds s.tab g=true->spec r] } else none
    |_,_=>none
def settle(s : ES)(k : Nat) : ES :=
  match s.L.lookup k with
  |some (t,[.aP _ d enc l])=>{ s with L:=setRow k t (.aP true d enc l) s.L }
  |some (_,ds) =>
    if D.cO (D.jg s.L ds)&&ds.all D.flat then { s with K:=Jn (tG k (D.jg s.L ds)) s.K,L:=CZ (tG k (D.jg s.L ds)) (s.L.filter fun x=>!(x.1==k)) } else s
  |none=>s
def ru(i : Nat)(o : Oper)(s : ES) : Option ES :=
  match jF ops s.K o.guard with
  |none=>none
  |some g =>
    match o.op with
    |.pick c a b=>zP nt i g o.dst c a b s
    |op=>(iK Γ s.L (getOp s.K g) o.dst op).bind (iq C CB nt orc orb i g o.dst s)
def kK(fz : List (Nat×List Nat))(i : Nat)(s : ES) : ES:=match fz.lookup i with|some ks=>ks.foldl settle s|none=>s
def mr(fz : List (Nat×List Nat)) : List Oper->Nat->ES->Option ES
  |[],i,s=>some (kK fz i s)
  |o::rest,i,s =>
    match ru C CB Γ nt orc orb ops i o (kK fz i s) with
    |some s'=>mr fz rest (i+1) s'
    |none=>none
def qy(K : List Ent) : List Nat->Option (List (Nat×D))
  |[]=>some []
  |t::ts =>
    match kz K t,qy K ts with
    |some e,some r=>if e.cnd.isEmpty then some ((t,e.d)::r) else none
    |_,_=>none
def i6(L : aA) : List Nat->Option aA
  |[]=>some []
  |k::ks =>
    match L.lookup k,i6 L ks with
    |some x,some r=>some ((k,x)::r)
    |_,_=>none
def oC(K : List (Nat×D))(L : aA) : ES:={ K:=K.map fun x=>⟨x.1,0,[],x.2⟩,L:=L,tab:=[],obl:=[] }
def nZ(fz : List (Nat×List Nat))(K : List (Nat×D))(L : aA)(kk kl : List Nat) : Option (List (Nat×D)×aA×List Prop) :=
  match mr C CB Γ nt orc orb ops fz ops 0 (oC K L) with
  |some s=>match qy s.K kk,i6 s.L kl with|some K',some L'=>some (K',L',s.obl)|_,_=>none
  |none=>none
end
def onL(o : Oper) : List Nat:=o.after.toList.filterMap fun e=>if Region.binds .any e then some e.on else none
def fF(ops : List Oper)(i : Nat)(on : List Nat)(e : Ent) : Bool :=
  if e.src=0 then ops.zipIdx.all fun x=>x.2==i||!(x.1.dst==some e.slot)||(onL x.1).contains i
  else on.contains (e.src-1)
structure zB where
  i : Nat
  old : Option Nat
  t : Nat
  e : Nat
  r : D
structure DS where
  K : List Ent
  tab : List (Nat×Bool)
  obl : List Prop
  A : List (Nat×Nat×Nat×List D)
  T : List (Nat×Nat×Nat×List D)
  R : List (Nat×Nat)
  N : Option zB
  Q : List (Nat×Nat)
def iw(k : Nat)(c : List D) : List (Nat×Nat×Nat×List D)->List D
  |[]=>c
  |s::T=>if s.2.1=k then setCells (iw k c T) s.2.2.1 s.2.2.2 else iw k c T
def taken(N : Option zB)(k : Nat) : Bool:=match N with|some n=>n.old==some k|none=>false
def Az(L0 : aA)(s : DS) : aA:=((L0.filter fun x=>!(ki x.2.2))++s.A.map fun x=>(x.2.1,x.2.2.1,x.2.2.2)).map fun x=>(x.1,x.2.1,iw x.1 x.2.2 s.T)
def JB(L0 : aA)(s : DS)(ks an : List Nat) : aA :=
  (L0.filter fun x=>ki x.2.2&&!(taken s.N x.1)&&ks.contains x.1)++(match s.N with|some n=>if ks.contains n.t&&an.contains n.i then [(n.t,n.e,[n.r])] else []|none=>[])
def viewAt(L0 : aA)(s : DS)(ks an : List Nat) : aA:=Az L0 s++JB L0 s ks an
def I4(L0 : aA)(s : DS) : aA:=Az L0 s++((L0.filter fun x=>ki x.2.2&&!(taken s.N x.1))++(match s.N with|some n=>[(n.t,n.e,[n.r])]|none=>[]))
mutual
def D.rows : D->List Nat
  |.row k=>[k]
  |.elm k _ _ _=>[k]
  |.agg ds=>D.EL ds
  |.tup ds=>D.EL ds
  |.fn _ ds=>D.EL ds
  |_=>[]
def D.EL : List D->List Nat
  |[]=>[]
  |d::ds=>D.rows d++D.EL ds
end
def keysOf(get : Operand->Option D) : Op->List Nat
  |.move _|.assign _|.nilCheck _|.extract _ _=>[]
  |op=>(op.operands.toList.filterMap get).flatMap D.rows
def lZ(ops : List Oper)(i : Nat) : List Nat :=
  (List.range i).reverse.foldl (fun acc j=>if(i::acc).any fun m=>(match ops[m]? with|some o=>(onL o).contains j|none=>false) then j::acc else acc) []
def kG(get : Operand->Option D) : Op->Option Nat
  |.load _ x=>match get x with|some (.own k _)=>some k|_=>none
  |.store _ x _=>match get x with|some (.own k _)=>some k|_=>none
  |_=>none
def qB(on : List Nat)(s : DS) : Option Nat->Bool
  |none=>true
  |some k=>s.T.all fun x=>!(x.2.1==k)||on.contains x.1
section
variable (C : Nat->List D->D->Prop) (Γ : Nat->Option TI) (nt : Nat) (orc : List (Nat×D)) (ops : List Oper) (L0 : aA)
def mO(i : Nat)(g : Cnd)(on an : List Nat)(bx : Option Nat)(dst : Option Nat)(s : DS) : Out×List Bool->Option DS
  |(.val d,cs) =>
    match dst with
    |some t=>if t<nt then some { s with K:=⟨t,i+1,g,d⟩::s.K,tab:=fE i d s.tab,obl:=s.obl++cs.map (fun c=>kQ s.tab g c=true),R:=match bx with|some k=>(i,k)::s.R|none=>s.R } else none
    |none=>none
  |(.call f args,cs) =>
    match orc.lookup i,dst with
    |some r,some t=>if t<nt/\D.cO args/\D.fB r/\cs.isEmpty then some { s with K:=⟨t,i+1,g,r⟩::s.K,tab:=fE i r s.tab,obl:=s.obl++[holds s.tab g=true->C f args r] } else none
    |_,_=>none
  |(.box ty cells,cs) =>
    match g,dst with
    |[],some t =>
      if t<nt/\t<1000000/\cells.all D.flat/\cs.isEmpty/\(s.K.all fun x=>!(x.src==0)||!D.names t x.d)/\(L0.all fun x=>!(x.1==t)&&!D.bQ t x.2.2)/\(s.A.all fun x=>!(x.2.1==t)) then
        some { s with K:=⟨t,i+1,[],.own t 0⟩::s.K,A:=(i,t,ty,cells)::s.A }
      else none
    |_,_=>none
  |(.store k off cells,cs) =>
    match g,dst with
    |[],none=>if cells.all D.flat/\cs.isEmpty/\(s.R.all fun x=>!(x.2==k)||on.contains x.1)/\bx=some k then some { s with T:=(i,k,off,cells)::s.T } else none
    |_,_=>none
  |(.row ty m old spec,cs) =>
    match dst,orc.lookup i,old with
    |some t,some (.row _),some k =>
      match g,orc.lookup (1000+i) with
      |[],some (.recs d enc l) =>
        if t<nt/\t<1000000/\s.N.isNone/\(s.Q.all fun x=>!(x.2==k)||an.contains x.1)/\(s.K.all fun x=>!(x.src==0)||!D.names t x.d)/\(L0.all fun x=>!(x.1==t)&&!D.bQ t x.2.2)/\(s.A.all fun x=>!(x.2.1==t)&&!D.bQ t x.2.2.2) then
          some { s with K:=⟨t,i+1,[],.row t⟩::s.K,N:=some ⟨i,some k,t,ty,.aP m d enc l⟩,obl:=s.obl++(cs.map fun c=>kQ s.tab [] c=true)++[spec (.recs d enc l)/\aX (.recs d enc l)] }
        else none
      |_,_=>none
    |some t,some r,none=>if t<nt then some { s with K:=⟨t,i+1,g,r⟩::s.K,tab:=fE i r s.tab,obl:=s.obl++(cs.map fun c=>kQ s.tab g c=true)++[holds s.tab g=true->spec r/\aX r] } else none
    |_,_,_=>none
  |(.known spec,cs) =>
    match dst,orc.lookup i with
    |some t,some r=>if t<nt/\cs.isEmpty then some { s with K:=⟨t,i+1,g,r⟩::s.K,tab:=fE i r s.tab,obl:=s.obl++[holds s.tab g=true->spec r] } else none
    |_,_=>none
  |_=>none
def Oy(i : Nat)(g : Cnd)(Kr : List Ent)(dst : Option Nat)(c a b : Operand)(s : DS) : Option DS :=
  match dst,c with
  |some t,.tmp tc =>
    match kz Kr tc with
    |some e =>
      if e.cnd.le g/\e.src≠0/\t<nt then
        match e.d,getOp Kr ((e.src-1,true)::g) a,getOp Kr ((e.src-1,false)::g) b with
        |.val (.bool bc),some (.val (.bool ba)),some (.val (.bool bb)) =>
          some { s with K:=⟨t,i+1,g,.val (.bool (bif bc then ba else bb))⟩::s.K,tab:=(i,bif bc then ba else bb)::s.tab }
        |_,_,_=>none
      else none
    |none=>none
  |_,_=>none
def stepD(i : Nat)(o : Oper)(s : DS) : Option DS :=
  let on:=onL o
  let Kr:=s.K.filter (fF ops i on)
  match jF ops Kr o.guard with
  |none=>none
  |some g =>
    match o.op with
    |.pick c a b=>Oy nt i g Kr o.dst c a b s
    |op =>
      let bx:=kG (getOp Kr g) op
      let ks:=keysOf (getOp Kr g) op
      let an:=lZ ops i
      if qB on s bx then((iK Γ (viewAt L0 s ks an) (getOp Kr g) o.dst op).bind (mO C nt orc L0 i g on an bx o.dst s)).map fun s'=>{ s' with Q:=ks.map (fun k=>(i,k))++s'.Q } else none
def tP : List Oper->Nat->DS->Option DS
  |[],_,s=>some s
  |o::rest,i,s =>
    match stepD C Γ nt orc ops L0 i o s with
    |some s'=>tP rest (i+1) s'
    |none=>none
def pG : List Oper->Bool
  |[]=>true
  |o::os=>(match o.dst with|some t=>os.all fun x=>!(x.dst==some t)|none=>true)&&pG os
def lT(ops : List Oper) : Bool:=ops.zipIdx.all fun x=>(onL x.1).all fun j=>decide (j<x.2)
def sJ(K : List (Nat×D)) : DS:={ K:=K.map fun x=>⟨x.1,0,[],x.2⟩,tab:=[],obl:=[],A:=[],T:=[],R:=[],N:=none,Q:=[] }
def BF(ops : List Oper)(K : List Ent) : List Nat->Option (List (Nat×D))
  |[]=>some []
  |t::ts =>
    match kz K t,BF ops K ts with
    |some e,some r=>if e.cnd.isEmpty/\(e.src≠0\/ops.all fun o=>!(o.dst==some t)) then some ((t,e.d)::r) else none
    |_,_=>none
def D1(K : List (Nat×D))(kk kl : List Nat) : Option (List (Nat×D)×aA×List Prop) :=
  if pG ops&&lT ops&&(L0.all fun x=>ki x.2.2||x.2.2.all D.flat) then
    match tP C Γ nt orc ops L0 ops 0 (sJ K) with
    |some s=>match BF ops s.K kk,i6 (I4 L0 s) kl with|some K',some L'=>some (K',L',s.obl)|_,_=>none
    |none=>none
  else none
end
def mP(Γ : Nat->Option TI)(K : List (Nat×D))(L : aA) : List ResultVar->Option (List D)
  |[]=>some []
  |.tmp t::rest=>match K.lookup t,mP Γ K L rest with|some d,some ds=>some (d::ds)|_,_=>none
  |.cell t ty::rest =>
    match K.lookup t,Γ ty,mP Γ K L rest with
    |some (.own k off),some ti,some ds=>match L.lookup k with|some (_,cs)=>(partOf ti.agg ti.size off cs).map fun d=>d::ds|none=>none
    |_,_,_=>none
def wh(Γ : Nat->Option TI)(K : List (Nat×D))(L : aA)(rs : List ResultVar) : Option D :=
  match mP Γ K L rs with
  |some [d]=>if(d.shut L).fB then some (d.shut L) else none
  |some ds=>if D.cO (D.jg L ds) then some (.tup (D.jg L ds)) else none
  |none=>none
end Go.Proofs.YtefojkdckfidcaaGreatDoor.RX
namespace Go.Proofs.YtefojkdckfidcaaGreatDoor.RX
open Go.RowKit
abbrev Fz:=Nat->Nat->Prop
inductive Ref where
 |box (b:Nat)
 |row (p:Option Nat) (n cap:Nat)
 |map (b:Nat)
def Ref.blk:Ref->Option Nat
 |.box b=>some b
 |.row p _ _=>p
 |.map b=>some b
def bD(p:Option Nat)(n cap:Nat):Value:=.slice (p.map fun b=>⟨b,0,none⟩) n cap
def qx(v:Value)(p:Option Nat)(n cap:Nat):Prop:=v=bD p n cap\/(p=none/\n=0/\cap=0/\∃q,v=.slice q 0 0)
abbrev Env:=Nat->Option Ref
def NB:Env:=fun _=>none
mutual
inductive Rep(F:Fz)(w:World):Env->D->Value->Prop
 |val {B} (v:Value) (hv:ja v=true):Rep F w B (.val v) v
 |str {B} (l:Bs):Rep F w B (.str l) (.string ⟨l.toArray⟩)
 |own {B} (i off b:Nat) (h:B i=some (.box b)):Rep F w B (.own i off) (.pointer (some ⟨b,off,none⟩))
 |opt {B} (i b:Nat) (v:Value) (h:B i=some (.box b)) (hv:v=.pointer none\/v=.pointer (some ⟨b,0,none⟩)):Rep F w B (.opt i) v
 |mp {B} (i b:Nat) (h:B i=some (.map b)):Rep F w B (.mp i) (.map (some b))
 |bn {B} (k:Nat) (p:Option Nat) (n cap:Nat) (h:B k=some (.row p n cap)):Rep F w B (.bn k) (bD p n cap)
 |agg {B} (ds:List D) (vs:List Value) (h:aB F w B ds vs):Rep F w B (.agg ds) (.agg vs.toArray)
 |tup {B} (ds:List D) (vs:List Value) (h:aB F w B ds vs):Rep F w B (.tup ds) (.tuple vs.toArray)
 |dm {B} {α:Type} (d:α) (enc:α->List D) (p:Option Addr):Rep F w B (.recs d enc []) (.slice p 0 0)
 |recs {B} {α:Type} (d:α) (enc:α->List D) (l:List α) (g off cap size:Nat) (vs:Nat->List Value) (hz:size=(enc d).length)
   (h1:∀i,i<l.length->(vs i).length=size)
   (h2:∀i,i<l.length->aB F w NB (enc (l[i]?.getD d)) (vs i))
   (h3:∀i j,i<l.length->j<size->F g (off+i*size+j)/\w.cell? ⟨g,off+i*size+j,none⟩=(vs i)[j]?)
   (hc:l.length<=cap):Rep F w B (.recs d enc l) (.slice (some ⟨g,off,none⟩) l.length cap)
 |el {B} (ds:List D) (vs:List Value) (g off:Nat) (h:aB F w NB ds vs)
   (h2:∀j,j<vs.length->F g (off+j)/\w.cell? ⟨g,off+j,none⟩=vs[j]?):Rep F w B (.el ds) (.pointer (some ⟨g,off,none⟩))
 |fn {B} (f:Nat) (ds:List D) (vs:List Value) (h:aB F w B ds vs):Rep F w B (.fn f ds) (.func (.func f) #[] vs.toArray)
 |row {B} (k:Nat) (p:Option Nat) (n cap:Nat) (h:B k=some (.row p n cap)):Rep F w B (.row k) (bD p n cap)
 |eu {B} (k:Nat) (q:Option Addr) (h:B k=some (.row none 0 0)):Rep F w B (.row k) (.slice q 0 0)
 |elm {B} (k:Nat) (n:Int) (z off b nn cap:Nat) (h:B k=some (.row (some b) nn cap)):Rep F w B (.elm k n z off) (.pointer (some ⟨b,n.toNat*z+off,none⟩))
 |tree {B} {α:Type} (d:α) (pre:α->List D) (kids:α->List α) (l:List α) (v:Value) (h:Rep F w B (.recs d (pU d pre kids) l) v):Rep F w B (.tree d pre kids l) v
 |arr {B} {α:Type} (d:α) (enc:α->List D) (l:List α) (vs:List Value) (hg:0<(enc d).length/\∀x,(enc x).length=(enc d).length/\(enc x).all D.flat=true) (h:aB F w NB (l.flatMap enc) vs):Rep F w B (.arr d enc l) (.agg vs.toArray)
 |hole {B} (v:Value) (hv:ja v=true):Rep F w B .hole v
inductive aB(F:Fz)(w:World):Env->List D->List Value->Prop
 |nil {B}:aB F w B [] []
 |cons {B} (d:D) (v:Value) (ds:List D) (vs:List Value) (h:Rep F w B d v) (hs:aB F w B ds vs):aB F w B (d::ds) (v::vs)
end
theorem Rep.row_of{F:Fz}{w:World}{B:Env}{k:Nat}{p:Option Nat}{n cap:Nat}{v:Value}(h:B k=some (.row p n cap))(hv:qx v p n cap):Rep F w B (.row k) v:=by
 rcases hv with rfl|⟨rfl,rfl,rfl,q,rfl⟩
 ·exact .row k p n cap h
 ·exact .eu k q h
structure Grow(F F':Fz)(w w':World):Prop where
 frz:∀g k,F g k->F' g k
 cell:∀g k,F g k->w'.cell? ⟨g,k,none⟩=w.cell? ⟨g,k,none⟩
theorem Grow.refl(F:Fz)(w:World):Grow F F w w:=⟨fun _ _ h=>h,fun _ _ _=>rfl⟩
mutual
theorem Rep.grow{F F':Fz}{w w':World}(g:Grow F F' w w'):∀{B d v},Rep F w B d v->Rep F' w' B d v
 |_,_,_,.val v hv=>.val v hv
 |_,_,_,.str l=>.str l
 |_,_,_,.own i off b h=>.own i off b h
 |_,_,_,.opt i b v h hv=>.opt i b v h hv
 |_,_,_,.bn k p n cap h=>.bn k p n cap h
 |_,_,_,.mp i b h=>.mp i b h
 |_,_,_,.agg ds vs h=>.agg ds vs (aB.grow g h)
 |_,_,_,.tup ds vs h=>.tup ds vs (aB.grow g h)
 |_,_,_,.dm d enc p=>.dm d enc p
 |_,_,_,.recs d enc l gb off cap size vs hz h1 h2 h3 hc =>
  .recs d enc l gb off cap size vs hz h1 (fun i hi=>aB.grow g (h2 i hi))
   (fun i j hi hj=>⟨g.frz _ _ (h3 i j hi hj).1,(g.cell _ _ (h3 i j hi hj).1).trans (h3 i j hi hj).2⟩) hc
 |_,_,_,.el ds vs gb off h h2=>.el ds vs gb off (aB.grow g h) (fun j hj=>⟨g.frz _ _ (h2 j hj).1,(g.cell _ _ (h2 j hj).1).trans (h2 j hj).2⟩)
 |_,_,_,.fn f ds vs h=>.fn f ds vs (aB.grow g h)
 |_,_,_,.row k p n cap h=>.row k p n cap h
 |_,_,_,.eu k q h=>.eu k q h
 |_,_,_,.elm k n z off b nn cap h=>.elm k n z off b nn cap h
 |_,_,_,.tree d pre kids l v h=>.tree d pre kids l v (Rep.grow g h)
 |_,_,_,.arr d enc l vs hg h=>.arr d enc l vs hg (aB.grow g h)
 |_,_,_,.hole v hv=>.hole v hv
theorem aB.grow{F F':Fz}{w w':World}(g:Grow F F' w w'):∀{B ds vs},aB F w B ds vs->aB F' w' B ds vs
 |_,_,_,.nil=>.nil
 |_,_,_,.cons d v ds vs h hs=>.cons d v ds vs (Rep.grow g h) (aB.grow g hs)
end
mutual
theorem Rep.gV{F:Fz}{w:World}{B B':Env}(k:Nat)(hB:∀i,i≠k->B' i=B i):∀{d v},Rep F w B d v->D.names k d=false->Rep F w B' d v
 |_,_,.val v hv,_=>.val v hv
 |_,_,.str l,_=>.str l
 |_,_,.own i off b h,hn=>.own i off b (by
   rw[hB i (by intro e;subst e;simp[D.names] at hn)];exact h)
 |_,_,.opt i b v h hv,hn=>.opt i b v (by
   rw[hB i (by intro e;subst e;simp[D.names] at hn)];exact h) hv
 |_,_,.mp i b h,hn=>.mp i b (by
   rw[hB i (by intro e;subst e;simp[D.names] at hn)];exact h)
 |_,_,.bn j p n cap h,hn=>.bn j p n cap (by
   rw[hB j (by intro e;subst e;simp[D.names] at hn)];exact h)
 |_,_,.agg ds vs h,hn=>.agg ds vs (aB.gV k hB h hn)
 |_,_,.tup ds vs h,hn=>.tup ds vs (aB.gV k hB h hn)
 |_,_,.dm d enc p,_=>.dm d enc p
 |_,_,.recs d enc l gb off cap size vs hz h1 h2 h3 hc,_=>.recs d enc l gb off cap size vs hz h1 h2 h3 hc
 |_,_,.el ds vs gb off h h2,_=>.el ds vs gb off h h2
 |_,_,.fn f ds vs h,hn=>.fn f ds vs (aB.gV k hB h hn)
 |_,_,.row j p n cap h,hn=>.row j p n cap (by
   rw[hB j (by intro e;subst e;simp[D.names] at hn)];exact h)
 |_,_,.eu j q h,hn=>.eu j q (by
   rw[hB j (by intro e;subst e;simp[D.names] at hn)];exact h)
 |_,_,.elm j n z off b nn cap h,hn=>.elm j n z off b nn cap (by
   rw[hB j (by intro e;subst e;simp[D.names] at hn)];exact h)
 |_,_,.tree d pre kids l v h,_=>.tree d pre kids l v (Rep.gV k hB h rfl)
 |_,_,.arr d enc l vs hg h,_=>.arr d enc l vs hg h
 |_,_,.hole v hv,_=>.hole v hv
theorem aB.gV{F:Fz}{w:World}{B B':Env}(k:Nat)(hB:∀i,i≠k->B' i=B i):∀{ds vs},aB F w B ds vs->D.bQ k ds=false->aB F w B' ds vs
 |_,_,.nil,_=>.nil
 |_,_,.cons d v ds vs h hs,hn=>by
  have hn':D.names k d=false/\D.bQ k ds=false:=by simpa[D.bQ] using hn
  exact .cons d v ds vs (Rep.gV k hB h hn'.1) (aB.gV k hB hs hn'.2)
end
mutual
theorem Rep.bare{F:Fz}{w:World}{B B':Env}:∀{d v},Rep F w B d v->D.fB d=true->Rep F w B' d v
 |_,_,.val v hv,_=>.val v hv
 |_,_,.str l,_=>.str l
 |_,_,.own i off b h,hn=>by simp[D.fB] at hn
 |_,_,.opt i b v h hv,hn=>by simp[D.fB] at hn
 |_,_,.bn j p n cap h,hn=>by simp[D.fB] at hn
 |_,_,.mp i b h,hn=>by simp[D.fB] at hn
 |_,_,.agg ds vs h,hn=>.agg ds vs (aB.bare h hn)
 |_,_,.tup ds vs h,hn=>.tup ds vs (aB.bare h hn)
 |_,_,.dm d enc p,_=>.dm d enc p
 |_,_,.recs d enc l gb off cap size vs hz h1 h2 h3 hc,_=>.recs d enc l gb off cap size vs hz h1 h2 h3 hc
 |_,_,.el ds vs gb off h h2,_=>.el ds vs gb off h h2
 |_,_,.fn f ds vs h,hn=>.fn f ds vs (aB.bare h hn)
 |_,_,.row j p n cap h,hn=>by simp[D.fB] at hn
 |_,_,.eu j q h,hn=>by simp[D.fB] at hn
 |_,_,.elm j n z off b nn cap h,hn=>by simp[D.fB] at hn
 |_,_,.tree d pre kids l v h,_=>.tree d pre kids l v (Rep.bare h rfl)
 |_,_,.arr d enc l vs hg h,_=>.arr d enc l vs hg h
 |_,_,.hole v hv,_=>.hole v hv
theorem aB.bare{F:Fz}{w:World}{B B':Env}:∀{ds vs},aB F w B ds vs->D.cO ds=true->aB F w B' ds vs
 |_,_,.nil,_=>.nil
 |_,_,.cons d v ds vs h hs,hn=>by
  have hn':D.fB d=true/\D.cO ds=true:=by simpa[D.cO] using hn
  exact .cons d v ds vs (Rep.bare h hn'.1) (aB.bare hs hn'.2)
end
mutual
theorem Rep.tJ{F:Fz}{w:World}{B B':Env}(hB:∀i b,B i=some b->B' i=some b):∀{d v},Rep F w B d v->Rep F w B' d v
 |_,_,.val v hv=>.val v hv
 |_,_,.str l=>.str l
 |_,_,.own i off b h=>.own i off b (hB _ _ h)
 |_,_,.opt i b v h hv=>.opt i b v (hB _ _ h) hv
 |_,_,.bn j p n cap h=>.bn j p n cap (hB _ _ h)
 |_,_,.mp i b h=>.mp i b (hB _ _ h)
 |_,_,.agg ds vs h=>.agg ds vs (aB.tJ hB h)
 |_,_,.tup ds vs h=>.tup ds vs (aB.tJ hB h)
 |_,_,.dm d enc p=>.dm d enc p
 |_,_,.recs d enc l gb off cap size vs hz h1 h2 h3 hc=>.recs d enc l gb off cap size vs hz h1 h2 h3 hc
 |_,_,.el ds vs gb off h h2=>.el ds vs gb off h h2
 |_,_,.fn f ds vs h=>.fn f ds vs (aB.tJ hB h)
 |_,_,.row j p n cap h=>.row j p n cap (hB _ _ h)
 |_,_,.eu j q h=>.eu j q (hB _ _ h)
 |_,_,.elm j n z off b nn cap h=>.elm j n z off b nn cap (hB _ _ h)
 |_,_,.tree d pre kids l v h=>.tree d pre kids l v (Rep.tJ hB h)
 |_,_,.arr d enc l vs hg h=>.arr d enc l vs hg h
 |_,_,.hole v hv=>.hole v hv
theorem aB.tJ{F:Fz}{w:World}{B B':Env}(hB:∀i b,B i=some b->B' i=some b):∀{ds vs},aB F w B ds vs->aB F w B' ds vs
 |_,_,.nil=>.nil
 |_,_,.cons d v ds vs h hs=>.cons d v ds vs (Rep.tJ hB h) (aB.tJ hB hs)
end
mutual
theorem Rep.lift{F:Fz}{w:World}{B B':Env}(hB:∀i,B i=none):∀{d v},Rep F w B d v->Rep F w B' d v
 |_,_,.val v hv=>.val v hv
 |_,_,.str l=>.str l
 |_,_,.own i off b h=>by rw[hB] at h;cases h
 |_,_,.opt i b v h hv=>by rw[hB] at h;cases h
 |_,_,.bn j p n cap h=>by rw[hB] at h;cases h
 |_,_,.mp i b h=>by rw[hB] at h;cases h
 |_,_,.agg ds vs h=>.agg ds vs (aB.lift hB h)
 |_,_,.tup ds vs h=>.tup ds vs (aB.lift hB h)
 |_,_,.dm d enc p=>.dm d enc p
 |_,_,.recs d enc l gb off cap size vs hz h1 h2 h3 hc=>.recs d enc l gb off cap size vs hz h1 h2 h3 hc
 |_,_,.el ds vs gb off h h2=>.el ds vs gb off h h2
 |_,_,.fn f ds vs h=>.fn f ds vs (aB.lift hB h)
 |_,_,.row j p n cap h=>by rw[hB] at h;cases h
 |_,_,.eu j q h=>by rw[hB] at h;cases h
 |_,_,.elm j n z off b nn cap h=>by rw[hB] at h;cases h
 |_,_,.tree d pre kids l v h=>.tree d pre kids l v (Rep.lift hB h)
 |_,_,.arr d enc l vs hg h=>.arr d enc l vs hg h
 |_,_,.hole v hv=>.hole v hv
theorem aB.lift{F:Fz}{w:World}{B B':Env}(hB:∀i,B i=none):∀{ds vs},aB F w B ds vs->aB F w B' ds vs
 |_,_,.nil=>.nil
 |_,_,.cons d v ds vs h hs=>.cons d v ds vs (Rep.lift hB h) (aB.lift hB hs)
end
theorem aB.length{F:Fz}{w:World}:∀{B ds vs},aB F w B ds vs->vs.length=ds.length
 |_,_,_,.nil=>rfl
 |_,_,_,.cons _ _ _ _ _ hs=>by simp[aB.length hs]
theorem aB.get{F:Fz}{w:World}{B}:∀{ds vs}(i:Nat){d:D},aB F w B ds vs->ds[i]? = some d->∃v,vs[i]? = some v/\Rep F w B d v
 |_,_,i,d,.nil,h=>by simp at h
 |_,_,0,d,.cons d' v ds vs h hs,he=>by simp at he;subst he;exact⟨v,rfl,h⟩
 |_,_,i+1,d,.cons d' v ds vs h hs,he=>by
  have:=aB.get i hs (by simpa using he)
  simpa using this
theorem aB.append{F:Fz}{w:World}{B}:∀{ds vs ds' vs'},aB F w B ds vs->aB F w B ds' vs'->aB F w B (ds++ds') (vs++vs')
 |_,_,_,_,.nil,h=>h
 |_,_,_,_,.cons d v ds vs h hs,h'=>.cons d v _ _ h (aB.append hs h')
theorem aB.drop{F:Fz}{w:World}{B}:∀(n:Nat){ds vs},aB F w B ds vs->aB F w B (ds.drop n) (vs.drop n)
 |0,_,_,h=>h
 |_+1,_,_,.nil=>.nil
 |n+1,_,_,.cons d v ds vs h hs=>aB.drop n hs
theorem aB.take{F:Fz}{w:World}{B}:∀(n:Nat){ds vs},aB F w B ds vs->aB F w B (ds.take n) (vs.take n)
 |0,_,_,_=>.nil
 |_+1,_,_,.nil=>.nil
 |n+1,_,_,.cons d v ds vs h hs=>.cons d v _ _ h (aB.take n hs)
theorem aB.set{F:Fz}{w:World}{B}{d:D}{v:Value}(hd:Rep F w B d v):∀(i:Nat){ds vs},aB F w B ds vs->aB F w B (ds.set i d) (vs.set i v)
 |_,_,_,.nil=>.nil
 |0,_,_,.cons d' v' ds vs h hs=>.cons d v _ _ hd hs
 |i+1,_,_,.cons d' v' ds vs h hs=>.cons d' v' _ _ h (aB.set hd i hs)
def dn(vs:List Value)(off:Nat)(us:List Value):List Value:=vs.take off++us++vs.drop (off+us.length)
theorem aB.sets{F:Fz}{w:World}{B}{cs us}(h:aB F w B cs us)(off:Nat){ds vs}(hs:aB F w B ds vs):aB F w B (setCells ds off cs) (dn vs off us):=by
 unfold setCells dn
 rw[aB.length h]
 exact((hs.take off).append h).append (hs.drop _)
theorem Rep.cells{F:Fz}{w:World}{B d v}(h:Rep F w B d v):aB F w B d.cells v.cells.toList:=by
 cases h with
 |val v hv =>
  have hc:v.cells.toList=[v]:=by cases v<;>first|rfl|(simp[ja] at hv)
  rw[hc];exact .cons _ _ _ _ (.val _ hv) .nil
 |agg ds vs h=>simpa[D.cells,Value.cells] using h
 |arr d enc l vs hg h=>exact(aB.lift (fun _=>rfl) h)
 |tup ds vs h=>exact .cons _ _ _ _ (.tup ds vs h) .nil
 |str l=>exact .cons _ _ _ _ (.str l) .nil
 |own i off b h=>exact .cons _ _ _ _ (.own i off b h) .nil
 |opt i b v h hv =>
  have hc:v.cells.toList=[v]:=by rcases hv with rfl|rfl<;>rfl
  rw[hc];exact .cons _ _ _ _ (.opt i b v h hv) .nil
 |bn k p n cap h=>exact .cons _ _ _ _ (.bn k p n cap h) .nil
 |mp i b h=>exact .cons _ _ _ _ (.mp i b h) .nil
 |dm d enc p=>exact .cons _ _ _ _ (.dm d enc p) .nil
 |recs d enc l gb off cap size vs hz h1 h2 h3 hc=>exact .cons _ _ _ _ (.recs d enc l gb off cap size vs hz h1 h2 h3 hc) .nil
 |el ds vs gb off h h2=>exact .cons _ _ _ _ (.el ds vs gb off h h2) .nil
 |fn f ds vs h=>exact .cons _ _ _ _ (.fn f ds vs h) .nil
 |row k p n cap h=>exact .cons _ _ _ _ (.row k p n cap h) .nil
 |eu k q h=>exact .cons _ _ _ _ (.eu k q h) .nil
 |elm k n z off b nn cap h=>exact .cons _ _ _ _ (.elm k n z off b nn cap h) .nil
 |tree d pre kids l v h=>cases h with
  |dm _ _ p=>exact .cons _ _ _ _ (.tree d pre kids [] _ (.dm _ _ p)) .nil
  |recs _ _ _ gb off cap size vs hz h1 h2 h3 hc=>exact .cons _ _ _ _ (.tree d pre kids l _ (.recs _ _ l gb off cap size vs hz h1 h2 h3 hc)) .nil
 |hole v hv =>
  have hc:v.cells.toList=[v]:=by cases v<;>first|rfl|(simp[ja] at hv)
  rw[hc];exact .cons _ _ _ _ (.hole _ hv) .nil
theorem Rep.one{F:Fz}{w:World}{B d v}(h:Rep F w B d v)(hf:d.flat=true):ja v=true:=by
 cases h<;>first|assumption|rfl|(simp[D.flat] at hf;done)|(rename_i h;cases h<;>rfl)|(rename_i hv;rcases hv with rfl|rfl<;>rfl)
theorem Rep.ofValue{F:Fz}{w:World}{B}(v:Value)(hv:ja v=true):Rep F w B (ofValue v) v:=by
 unfold RX.ofValue
 split
 ·rename_i s
  have:Value.string s=.string ⟨s.data.toList.toArray⟩:=by cases s;simp
  rw[this];exact .str _
 ·exact .val v hv
theorem Rep.opn{F:Fz}{w:World}{B d v}(h:Rep F w B d v):Rep F w B d.opn v:=by
 cases h<;>first|assumption|(constructor<;>assumption)|skip
structure nz(F:Fz)(w:World)(B B':Env)(s:D->Option D):Prop where
 got:∀d r v,s d=some r->Rep F w B d v->Rep F w B' r v
 own:∀k off,s (.own k off)=none->B' k=B k
 row:∀k,s (.row k)=none->B' k=B k
 opt:∀k,s (.opt k)=none->B' k=B k
 bn:∀k,s (.bn k)=none->B' k=B k
 elm:∀k n z off,s (.elm k n z off)=none->B' k=B k
 mp:∀k,s (.mp k)=none->B' k=B k
mutual
theorem Rep.sub{F:Fz}{w:World}{B B':Env}{s:D->Option D}(hs:nz F w B B' s):∀{d v},Rep F w B d v->Rep F w B' (D.sub s d) v
 |_,_,.val v hv=>.val v hv
 |_,_,.str l=>.str l
 |_,_,.own i off b h=>by
  unfold D.sub
  cases he:s (.own i off) with
  |none=>exact .own i off b (by rw[hs.own i off he];exact h)
  |some r=>exact hs.got _ _ _ he (.own i off b h)
 |_,_,.opt i b v h hv=>by
  unfold D.sub
  cases he:s (.opt i) with
  |none=>exact .opt i b v (by rw[hs.opt i he];exact h) hv
  |some r=>exact hs.got _ _ _ he (.opt i b v h hv)
 |_,_,.mp i b h=>by
  unfold D.sub
  cases he:s (.mp i) with
  |none=>exact .mp i b (by rw[hs.mp i he];exact h)
  |some r=>exact hs.got _ _ _ he (.mp i b h)
 |_,_,.bn j p n cap h=>by
  unfold D.sub
  cases he:s (.bn j) with
  |none=>exact .bn j p n cap (by rw[hs.bn j he];exact h)
  |some r=>exact hs.got _ _ _ he (.bn j p n cap h)
 |_,_,.agg ds vs h=>.agg _ vs (aB.sub hs h)
 |_,_,.tup ds vs h=>.tup _ vs (aB.sub hs h)
 |_,_,.dm d enc p=>.dm d enc p
 |_,_,.recs d enc l gb off cap size vs hz h1 h2 h3 hc=>.recs d enc l gb off cap size vs hz h1 h2 h3 hc
 |_,_,.el ds vs gb off h h2=>.el ds vs gb off h h2
 |_,_,.fn f ds vs h=>.fn f _ vs (aB.sub hs h)
 |_,_,.row j p n cap h=>by
  unfold D.sub
  cases he:s (.row j) with
  |none=>exact .row j p n cap (by rw[hs.row j he];exact h)
  |some r=>exact hs.got _ _ _ he (.row j p n cap h)
 |_,_,.eu j q h=>by
  unfold D.sub
  cases he:s (.row j) with
  |none=>exact .eu j q (by rw[hs.row j he];exact h)
  |some r=>exact hs.got _ _ _ he (.eu j q h)
 |_,_,.elm j n z off b nn cap h=>by
  unfold D.sub
  cases he:s (.elm j n z off) with
  |none=>exact .elm j n z off b nn cap (by rw[hs.elm j n z off he];exact h)
  |some r=>exact hs.got _ _ _ he (.elm j n z off b nn cap h)
 |_,_,.tree d pre kids l v h=>.tree d pre kids l v (Rep.sub hs h)
 |_,_,.arr d enc l vs hg h=>.arr d enc l vs hg h
 |_,_,.hole v hv=>.hole v hv
theorem aB.sub{F:Fz}{w:World}{B B':Env}{s:D->Option D}(hs:nz F w B B' s):∀{ds vs},aB F w B ds vs->aB F w B' (D.subs s ds) vs
 |_,_,.nil=>.nil
 |_,_,.cons d v ds vs h hr=>.cons _ v _ vs (Rep.sub hs h) (aB.sub hs hr)
end
theorem Ig{s:D->Option D}(hs:∀d v,s d≠some (.val v)){d:D}{v:Value}(h:D.sub s d=.val v):d=.val v:=by
 cases d<;>simp only[D.sub] at h<;>first|exact h|(cases h;done)|skip
 all_goals
  rename_i x
  revert h
 ·cases he:s (.own _ _) with
  |none=>intro h;cases h
  |some r=>intro h;simp at h;exact absurd (h▸he) (hs _ _)
 ·cases he:s (.opt _) with
  |none=>intro h;cases h
  |some r=>intro h;simp at h;exact absurd (h▸he) (hs _ _)
 ·cases he:s (.bn _) with
  |none=>intro h;cases h
  |some r=>intro h;simp at h;exact absurd (h▸he) (hs _ _)
 ·cases he:s (.mp _) with
  |none=>intro h;cases h
  |some r=>intro h;simp at h;exact absurd (h▸he) (hs _ _)
 ·cases he:s (.row _) with
  |none=>intro h;cases h
  |some r=>intro h;simp at h;exact absurd (h▸he) (hs _ _)
 ·cases he:s (.elm _ _ _ _) with
  |none=>intro h;cases h
  |some r=>intro h;simp at h;exact absurd (h▸he) (hs _ _)
theorem ze(s:D->Option D):∀ds:List D,(D.subs s ds).length=ds.length
 |[]=>rfl
 |d::ds=>by simp[D.subs,ze s ds]
theorem EZ{s:D->Option D}(hs:∀d r,s d=some r->r.flat=true):∀{d:D},d.flat=true->(D.sub s d).flat=true
 |.own _ _,_=>by unfold D.sub;cases he:s (.own _ _) with|none=>rfl|some r=>exact hs _ _ he
 |.opt _,_=>by unfold D.sub;cases he:s (.opt _) with|none=>rfl|some r=>exact hs _ _ he
 |.bn _,_=>by unfold D.sub;cases he:s (.bn _) with|none=>rfl|some r=>exact hs _ _ he
 |.mp _,_=>by unfold D.sub;cases he:s (.mp _) with|none=>rfl|some r=>exact hs _ _ he
 |.row _,_=>by unfold D.sub;cases he:s (.row _) with|none=>rfl|some r=>exact hs _ _ he
 |.elm _ _ _ _,_=>by unfold D.sub;cases he:s (.elm _ _ _ _) with|none=>rfl|some r=>exact hs _ _ he
 |.val _,h=>h
 |.str _,h=>h
 |.recs _ _ _,h=>h
 |.tree _ _ _ _,h=>h
 |.el _,h=>h
 |.fn _ _,_=>rfl
 |.hole,h=>h
 |.agg _,h=>by cases h
 |.arr _ _ _,h=>by cases h
 |.tup _,h=>by cases h
 |.aP _ _ _ _,h=>by cases h
 |.fL _ _ _ _ _,h=>by cases h
 |.tY _ _ _,h=>by cases h
theorem oD{s:D->Option D}(hs:∀d r,s d=some r->r.flat=true):∀{ds:List D},ds.all D.flat=true->(D.subs s ds).all D.flat=true
 |[],_=>rfl
 |d::ds,h=>by
  simp only[List.all_cons,Bool.and_eq_true] at h
  simp only[D.subs,List.all_cons,Bool.and_eq_true]
  exact⟨EZ hs h.1,oD hs h.2⟩
def dH(w:World)(e size:Nat)(p:Option Nat)(n cap:Nat)(xs:List Value):Prop :=
 xs.length=n*size/\((p=none/\n=0/\cap=0) \/
  ∃g cur fz,p=some g/\w.heap[g]? = some (.cells cur e fz)/\(∀j,j<cur.size->¬(fz.1<=j/\j<fz.2))/\n<=cap/\cap<=maxLen/\cur.size=cap*size/\cur.toList.take (n*size)=xs)
theorem dH.cells{w:World}{e size g n cap:Nat}{xs:List Value}(h:dH w e size (some g) n cap xs){j:Nat}{u:Value}(hu:xs[j]? = some u):w.cell? ⟨g,j,none⟩=some u:=by
 rcases h.2 with⟨h1,_⟩|⟨g',cur,fz,hp,hh,_,_,_,_,htk⟩
 ·cases h1
 ·cases hp
  rw[<-htk,List.getElem?_take] at hu
  split at hu
  ·simpa[World.cell?,hh] using hu
  ·cases hu
def qD(F:Fz)(w:World)(p:Option Nat)(n cap:Nat)(e:Nat)(m:Bool){α:Type}(d:α)(enc:α->List D)(l:List α):Prop :=
 n=l.length/\0<(enc d).length/\(∀x,(enc x).length=(enc d).length/\(enc x).all D.flat=true) /\
 ∃xs,aB F w NB (l.flatMap enc) xs/\dH w e (enc d).length p n cap xs/\∀b,p=some b->∀j,F b j↔(m=true/\j<n*(enc d).length)
theorem aB.qH{F:Fz}{w:World}{B}{α:Type}{enc:α->List D}{z:Nat}(hz:∀x,(enc x).length=z):∀(l:List α)(xs:List Value),aB F w B (l.flatMap enc) xs->∀(i:Nat)(x:α),l[i]? = some x->aB F w B (enc x) ((xs.drop (i*z)).take z)
 |[],xs,_,i,x,hi=>by simp at hi
 |y::l,xs,h,i,x,hi=>by
  have hl:=aB.length h
  simp only[List.flatMap_cons] at h
  have h1:aB F w B (enc y) (xs.take z):=by
   have:=h.take z
   rwa[List.take_left' (hz y)] at this
  have h2:aB F w B (l.flatMap enc) (xs.drop z):=by
   have:=h.drop z
   rwa[List.drop_left' (hz y)] at this
  cases i with
  |zero =>
   simp only[List.getElem?_cons_zero,Option.some.injEq] at hi
   subst hi
   simpa using h1
  |succ i =>
   have:=aB.qH hz l _ h2 i x (by simpa using hi)
   rw[List.drop_drop] at this
   rwa[show(i+1)*z=z+i*z by rw[Nat.add_mul];omega]
theorem gW{α:Type}{enc:α->List D}{z:Nat}(hz:∀x,(enc x).length=z):∀l:List α,(l.flatMap enc).length=l.length*z
 |[]=>by simp
 |x::l=>by simp only[List.flatMap_cons,List.length_append,hz,gW hz l,List.length_cons,Nat.add_mul];omega
theorem qD.grow{F F':Fz}{w w':World}{p n cap e m}{α:Type}{d:α}{enc:α->List D}{l:List α}(h:qD F w p n cap e m d enc l)(g:Grow F F' w w')(hb:∀b,p=some b->w'.heap[b]? = w.heap[b]?/\∀j,F' b j->F b j):qD F' w' p n cap e m d enc l:=by
 obtain⟨h1,h2,h3,xs,h4,h5,h6⟩:=h
 refine⟨h1,h2,h3,xs,h4.grow g,⟨h5.1,?_⟩,fun b hp j=>?_⟩
 ·rcases h5.2 with h|⟨gb,cur,fz,hp,hh,hr⟩
  ·exact .inl h
  ·refine .inr ⟨gb,cur,fz,hp,?_,hr⟩
   rw[(hb gb hp).1];exact hh
 ·rw[<-h6 b hp j]
  exact⟨(hb b hp).2 j,g.frz b j⟩
theorem qD.recs{F:Fz}{w:World}{B:Env}{p n cap e}{α:Type}{d:α}{enc:α->List D}{l:List α}(h:qD F w p n cap e true d enc l):Rep F w B (.recs d enc l) (bD p n cap):=by
 obtain⟨rfl,h2,h3,xs,h4,h5,h6⟩:=h
 rcases h5.2 with⟨hp,hn,hc⟩|⟨g,cur,fz,hp,hh,hfz,hnc,hcm,hsz,htk⟩
 ·have:l=[]:=List.eq_nil_of_length_eq_zero hn
  subst this;subst hp;subst hc
  exact .dm d enc none
 ·subst hp
  have hlen:=h5.1
  refine .recs d enc l g 0 cap (enc d).length (fun i=>(xs.drop (i*(enc d).length)).take (enc d).length) rfl (fun i hi=>?_) (fun i hi=>?_) (fun i j hi hj=>?_) hnc
  ·have:i*(enc d).length+(enc d).length<=l.length*(enc d).length:=by
    rw[<-Nat.succ_mul];exact Nat.mul_le_mul_right _ hi
   simp;omega
  ·have hx:=List.getElem?_eq_getElem hi
   rw[hx]
   exact aB.qH (fun x=>(h3 x).1) l xs h4 i _ hx
  ·have hle:i*(enc d).length+(enc d).length<=l.length*(enc d).length:=by
    rw[<-Nat.succ_mul];exact Nat.mul_le_mul_right _ hi
   refine⟨(h6 g rfl _).2 ⟨rfl,by omega⟩,?_⟩
   have hj2:i*(enc d).length+j<xs.length:=by omega
   have h7:=h5.cells (List.getElem?_eq_getElem hj2)
   rw[Nat.zero_add,h7,List.getElem?_take,if_pos hj,List.getElem?_drop,List.getElem?_eq_getElem hj2]
theorem qD.Oo{F:Fz}{w:World}{B:Env}{p n cap e}{α:Type}{d:α}{enc:α->List D}{l:List α}{v:Value}(h:qD F w p n cap e true d enc l)(hv:qx v p n cap):Rep F w B (.recs d enc l) v:=by
 rcases hv with rfl|⟨rfl,rfl,rfl,q,rfl⟩
 ·exact h.recs
 ·have:l=[]:=List.eq_nil_of_length_eq_zero h.1.symm
  subst this
  exact .dm d enc q
def MK.val(kk:Option IntKind):MK->Value
 |.inl s=>.string ⟨s.toArray⟩
 |.inr n=>.int (kk.getD .i64) n
def MK.ok(kk:Option IntKind):MK->Prop
 |.inl _=>kk=none
 |.inr _=>kk≠none
def ta(F:Fz)(w:World)(ag:Bool)(ds:List D)(v:Value):Prop:=∃d,vX ag ds=some d/\Rep F w NB d v
inductive eX(F:Fz)(w:World)(kk:Option IntKind)(ag:Bool){α:Type}(enc:α->List D):List (MK×α)->List MapEntry->Prop
 |nil:eX F w kk ag enc [] []
 |cons (x:MK) (v:α) (l:List (MK×α)) (e:MapEntry) (es:List MapEntry) (hk:e.key=x.val kk) (hx:x.ok kk) (hv:ta F w ag (enc v) e.val) (hr:eX F w kk ag enc l es):eX F w kk ag enc ((x,v)::l) (e::es)
def An(F:Fz)(w:World)(b:Nat)(kk:Option IntKind)(ag:Bool){α:Type}(enc:α->List D)(l:List (MK×α)):Prop :=
 yC ag enc/\(∀j,¬F b j)/\∃es clock,w.heap[b]? = some (.map es clock)/\MapKept.Stamped es clock/\eX F w kk ag enc l es.toList
theorem eX.grow{F F':Fz}{w w':World}(g:Grow F F' w w'){kk:Option IntKind}{ag:Bool}{α:Type}{enc:α->List D}:∀{l:List (MK×α)}{es:List MapEntry},eX F w kk ag enc l es->eX F' w' kk ag enc l es
 |_,_,.nil=>.nil
 |_,_,.cons x v l e es hk hx ⟨d,h1,h2⟩ hr=>.cons x v l e es hk hx ⟨d,h1,h2.grow g⟩ (eX.grow g hr)
theorem eX.length{F:Fz}{w:World}{kk:Option IntKind}{ag:Bool}{α:Type}{enc:α->List D}:∀{l:List (MK×α)}{es:List MapEntry},eX F w kk ag enc l es->es.length=l.length
 |_,_,.nil=>rfl
 |_,_,.cons _ _ _ _ _ _ _ _ hr=>by simp[eX.length hr]
theorem An.grow{F F':Fz}{w w':World}{b:Nat}{kk:Option IntKind}{ag:Bool}{α:Type}{enc:α->List D}{l:List (MK×α)}(h:An F w b kk ag enc l)(g:Grow F F' w w')(hb:w'.heap[b]? = w.heap[b]?/\∀j,F' b j->F b j):An F' w' b kk ag enc l:=by
 obtain⟨h0,h1,es,clock,h2,hs,h3⟩:=h
 exact⟨h0,fun j hj=>h1 j (hb.2 j hj),es,clock,by rw[hb.1];exact h2,hs,h3.grow g⟩
mutual
theorem jZ.rep{F w B}:∀{d e:D}{v:Value},jZ d e->Rep F w B d v->Rep F w B e v
 |_,_,_,.refl _,hr=>hr
 |_,_,_,.zero d enc,hr=>by cases hr;exact .dm d enc none
 |_,_,_,.agg h,hr=>by cases hr with|agg _ vs hr=>exact .agg _ _ (bG.rep h hr)
 |_,_,_,.arr h hg hn,hr=>by cases hr with|agg _ vs hr=>exact .arr _ _ _ vs hg (by rw[h];exact hr.bare hn)
 |_,_,_,.tup h,hr=>by cases hr with|tup _ vs hr=>exact .tup _ _ (bG.rep h hr)
 |_,_,_,.el h,hr=>by cases hr with|el _ vs g off hr h2=>exact .el _ _ g off (bG.rep h hr) h2
 |_,_,_,.fn h,hr=>by cases hr with|fn _ _ vs hr=>exact .fn _ _ _ (bG.rep h hr)
 |_,_,_,.ik d pre kids,hr=>by cases hr;exact .tree d pre kids [] _ (.dm d _ none)
 |_,_,_,.opn d pre kids l,hr=>by cases hr with|tree _ _ _ _ _ h=>exact h
 |_,_,_,.close d pre kids l,hr=>.tree d pre kids l _ hr
theorem bG.rep{F w B}:∀{ds es:List D}{vs:List Value},bG ds es->aB F w B ds vs->aB F w B es vs
 |_,_,_,.nil,hr=>hr
 |_,_,_,.cons h hs,hr=>by cases hr with|cons _ _ _ _ hr hrs=>exact .cons _ _ _ _ (jZ.rep h hr) (bG.rep hs hrs)
end
theorem jZ.flat{d e:D}(h:jZ d e)(hf:d.flat=true):e.flat=true:=by
 cases h with
 |refl=>exact hf
 |zero=>rfl
 |agg=>cases hf
 |arr=>cases hf
 |tup=>cases hf
 |el=>rfl
 |fn=>rfl
 |ik=>rfl
 |opn=>rfl
 |close=>rfl
theorem bG.flat:∀{ds es:List D},bG ds es->ds.all D.flat=true->es.all D.flat=true
 |_,_,.nil,h=>h
 |_,_,.cons h hs,hf=>by
  simp only[List.all_cons,Bool.and_eq_true] at hf ⊢
  exact⟨jZ.flat h hf.1,bG.flat hs hf.2⟩
theorem jZ.wA{d e:D}(h:jZ d e)(hf:e.flat=true):d.flat=true:=by
 cases h with
 |refl=>exact hf
 |zero=>rfl
 |agg=>cases hf
 |arr=>cases hf
 |tup=>cases hf
 |el=>rfl
 |fn=>rfl
 |ik=>rfl
 |opn=>rfl
 |close=>rfl
theorem bG.wA:∀{ds es:List D},bG ds es->es.all D.flat=true->ds.all D.flat=true
 |_,_,.nil,h=>h
 |_,_,.cons h hs,hf=>by
  simp only[List.all_cons,Bool.and_eq_true] at hf ⊢
  exact⟨jZ.wA h hf.1,bG.wA hs hf.2⟩
theorem bG.refl:∀ds:List D,bG ds ds
 |[]=>.nil
 |d::ds=>.cons (.refl d) (bG.refl ds)
theorem bG.of_eq{ds es:List D}(h:ds=es):bG ds es:=h▸bG.refl ds
theorem bG.length:∀{ds es:List D},bG ds es->ds.length=es.length
 |_,_,.nil=>rfl
 |_,_,.cons _ hs=>by rw[List.length_cons,List.length_cons,bG.length hs]
theorem bG.append:∀{ds es ds' es':List D},bG ds es->bG ds' es'->bG (ds++ds') (es++es')
 |_,_,_,_,.nil,h=>h
 |_,_,_,_,.cons h hs,h'=>.cons h (bG.append hs h')
end Go.Proofs.YtefojkdckfidcaaGreatDoor.RX
namespace Go.Proofs.YtefojkdckfidcaaGreatDoor.RX
open Go.RowKit
def sG:TypeDesc->Bool
 |.struct _|.array _ _=>true
 |_=>false
def oS(P:Program)(t:Nat):Option (Nat×Bool) :=
 match P.info? t,P.underlying t with
 |some i,some d=>some (i.size,sG d)
 |_,_=>none
def fieldsOf(P:Program):List Field->Option (List (Nat×Nat×Bool))
 |[]=>some []
 |f::fs=>match oS P f.type,fieldsOf P fs with|some s,some r=>some ((f.offset,s.1,s.2)::r)|_,_=>none
def yz(P:Program)(k:Nat):Option (Option IntKind):=match P.underlying k with|some .string=>some none|some (.int k)=>some (some k)|_=>none
def kindOf(P:Program):TypeDesc->TK
 |.string=>.str
 |.bool=>.bool
 |.int k=>.int k
 |.slice e=>match oS P e with|some s=>.slice s.1 s.2|none=>.other
 |.struct fs=>match fieldsOf P fs.toList with|some r=>.struct r|none=>.other
 |.array n e=>match oS P e with|some s=>.array n s.1 s.2|none=>.other
 |.map k e=>match yz P k,oS P e with|some kk,some s=>.map kk s.1 s.2|_,_=>.other
 |.pointer _=>.ptr
 |_=>.other
def Ir(P:Program)(e:Nat):List Value :=
 match P.info? e,P.underlying e with
 |some i,some d =>
  match i.zero with
  |some (.agg vs)=>if sG d&&vs.toList.all ja&&vs.size==i.size then vs.toList else []
  |some v=>if !(sG d)&&ja v&&i.size==1 then [v] else []
  |none=>[]
 |_,_=>[]
def mW(P:Program)(d:TypeDesc):Nat×Nat×List Value×Option IntKind :=
 match d with
 |.slice e=>(e,(match P.info? e with|some i=>i.bytes|none=>0),(match P.info? e with|some i=>(match i.zero with|some z=>if z.cells.toList.all ja&&z.cells.toList.length==i.size then z.cells.toList else []|none=>[])|none=>[]),(match P.underlying e with|some (.int k)=>some k|_=>none))
 |.map _ e=>(e,0,Ir P e,none)
 |_=>(0,0,[],none)
def sT(P:Program)(t:Nat):Option TI :=
 match P.info? t,P.underlying t with
 |some i,some d =>
  match i.zero with
  |some z=>if z.cells.toList.all ja&&z.cells.toList.length==i.size then some { agg:=sG d,size:=i.size,zero:=z.cells.toList,kind:=kindOf P d,elt:=(mW P d).1,eb:=(mW P d).2.1,ez:=(mW P d).2.2.1,ek:=(mW P d).2.2.2 } else none
  |none=>none
 |_,_=>none
def BO(P:Program)(t:Nat)(ks:List Nat):Prop:=∀(F:Fz)(w w':World)(B B':Env)(ds es:List D)(vs us:List Value)(r:Bool),aB F w B ds vs->aB F w B' es us->qg ks ds es=some r ->
 (eqGuard .eql t (.tmp 0) (.tmp 0) (.agg vs.toArray) (.agg us.toArray)).run P w'=.ok () w'/\(Op.equal t (.agg vs.toArray) (.agg us.toArray)).run P w'=.ok r w'
def ΓOK(P:Program)(Γ:Nat->Option TI):Prop:=∀t ti,Γ t=some ti->sT P t=some { ti with eqs:=[] }/\(ti.eqs≠[]->BO P t ti.eqs)
section
variable {P:Program}
theorem aY{t:Nat}{ti:TI}(h:sT P t=some ti):∃i d z,P.info? t=some i/\P.underlying t=some d/\i.zero=some z/\z.cells.toList=ti.zero/\ti.zero.all ja=true/\ti.zero.length=ti.size/\i.size=ti.size/\sG d=ti.agg/\kindOf P d=ti.kind:=by
 unfold sT at h
 split at h
 ·rename_i i d hi hd
  split at h
  ·rename_i z hz
   split at h
   ·rename_i hc
    simp only[Bool.and_eq_true,beq_iff_eq] at hc
    cases h
    exact⟨i,d,z,hi,hd,hz,rfl,hc.1,hc.2,rfl,rfl,rfl⟩
   ·cases h
  ·cases h
 ·cases h
theorem xw{t:Nat}{ti:TI}(h:sT P t=some ti){d:TypeDesc}(hd:P.underlying t=some d):ti.elt=(mW P d).1/\ti.eb=(mW P d).2.1/\ti.ez=(mW P d).2.2.1/\ti.ek=(mW P d).2.2.2:=by
 unfold sT at h
 rw[hd] at h
 split at h
 ·rename_i i d' hi hd'
  cases hd'
  split at h
  ·split at h
   ·cases h;exact⟨rfl,rfl,rfl,rfl⟩
   ·cases h
  ·cases h
 ·cases h
theorem wo{t:Nat}{d:TypeDesc}(h:P.underlying t=some d)(w:World):(isAgg t).run P w=.ok (sG d) w:=by
 unfold isAgg
 simp only[Sem.run_bind,run_underlying h,Result.andThen_ok]
 cases d<;>rfl
theorem jO{t:Nat}{i:TypeInfo}(h:P.info? t=some i)(w:World):(sizeOf t).run P w=.ok i.size w:=by
 simp[sizeOf,run_typeInfo w h]
theorem eQ{t:Nat}{s:Nat×Bool}(h:oS P t=some s):(∀w,(sizeOf t).run P w=.ok s.1 w)/\(∀w,(isAgg t).run P w=.ok s.2 w):=by
 unfold oS at h
 split at h
 ·rename_i i d hi hd
  cases h
  exact⟨jO hi,wo hd⟩
 ·cases h
theorem sW:∀{fs:List Field}{r:List (Nat×Nat×Bool)},fieldsOf P fs=some r->∀(i:Nat) g,r[i]? = some g->∃f,fs[i]? = some f/\f.offset=g.1/\oS P f.type=some g.2
 |[],r,h,i,g,hg=>by cases h;simp at hg
 |f::fs,r,h,i,g,hg=>by
  unfold fieldsOf at h
  split at h
  ·rename_i s r' hs hr
   cases h
   cases i with
   |zero=>simp at hg;subst hg;exact⟨f,rfl,rfl,hs⟩
   |succ i=>simpa using sW hr i g (by simpa using hg)
  ·cases h
theorem kW{d:TypeDesc}(h:kindOf P d=.str):d=.string:=by
 cases d<;>simp only[kindOf] at h<;>first|rfl|(cases h;done)|(split at h<;>cases h)
theorem Ll{d:TypeDesc}(h:kindOf P d=.bool):d=.bool:=by
 cases d<;>simp only[kindOf] at h<;>first|rfl|(cases h;done)|(split at h<;>cases h)
theorem kind_int{d:TypeDesc}{k:IntKind}(h:kindOf P d=.int k):d=.int k:=by
 cases d<;>simp only[kindOf] at h<;>first|(cases h;rfl)|(cases h;done)|(split at h<;>cases h)
theorem gG{d:TypeDesc}{es:Nat}{ea:Bool}(h:kindOf P d=.slice es ea):∃e,d=.slice e/\oS P e=some (es,ea):=by
 cases d<;>simp only[kindOf] at h<;>first|(cases h;done)|(split at h<;>first|(cases h;done)|(rename_i e _ s hs;cases h;exact⟨e,rfl,hs⟩))
theorem nq{d:TypeDesc}{n es:Nat}{ea:Bool}(h:kindOf P d=.array n es ea):∃e,d=.array n e/\oS P e=some (es,ea):=by
 cases d<;>simp only[kindOf] at h<;>first|(cases h;done)|(split at h<;>first|(cases h;done)|(rename_i n' e _ s hs;cases h;exact⟨e,rfl,hs⟩))
theorem uI{d:TypeDesc}{r}(h:kindOf P d=.struct r):∃fs,d=.struct fs/\fieldsOf P fs.toList=some r:=by
 cases d<;>simp only[kindOf] at h<;>first|(cases h;done)|(split at h<;>first|(cases h;done)|(rename_i fs _ s hs;cases h;exact⟨fs,rfl,hs⟩))
theorem vU{d:TypeDesc}{kk:Option IntKind}{es:Nat}{ea:Bool}(h:kindOf P d=.map kk es ea):∃k e,d=.map k e/\yz P k=some kk/\oS P e=some (es,ea):=by
 cases d<;>simp only[kindOf] at h<;>first|(cases h;done)|(split at h<;>first|(cases h;done)|(rename_i k e _ _ kk s hk hs;cases h;exact⟨k,e,rfl,hk,hs⟩))
theorem NQ{d:TypeDesc}(h:kindOf P d=.ptr):∃e,d=.pointer e:=by
 cases d<;>simp only[kindOf] at h<;>first|exact⟨_,rfl⟩|(cases h;done)|(split at h<;>cases h)
theorem Gy{e off:Nat}{s:Nat×Bool}(hs:oS P e=some s){F w B ds vs d}(h:aB F w B ds vs)(hp:partOf s.2 s.1 off ds=some d)(w':World) :
  ∃v,(part e vs.toArray off).run P w'=.ok v w'/\Rep F w B d v:=by
 obtain⟨h1,h2⟩:=eQ hs
 unfold part
 simp only[Sem.run_bind,h2,Result.andThen_ok]
 unfold partOf at hp
 cases hb:s.2
 ·rw[hb] at hp
  simp only[Bool.false_eq_true,if_false] at hp ⊢
  obtain⟨v,hv,hr⟩:=h.get off hp
  refine⟨v,?_,hr⟩
  simp[hv]
 ·rw[hb] at hp
  simp only[if_true] at hp ⊢
  split at hp
  ·rename_i hl
   cases hp
   refine⟨.agg ((vs.drop off).take s.1).toArray,?_,.agg _ _ ((h.drop off).take s.1)⟩
   simp only[Sem.run_bind,h1,Result.andThen_ok,Sem.run_pure]
   congr 2
   apply Array.ext'
   simp[List.extract_eq_take_drop]
  ·cases hp
theorem add_eq(b off n:Nat):(⟨b,off,none⟩:Addr).add n=⟨b,off+n,none⟩:=by
 unfold Addr.add;split
 ·rename_i h;subst h;rfl
 ·rfl
theorem pJ{t b off:Nat}{ti:TI}(ht:sT P t=some ti){F w B ds vs d}(h:aB F w B ds vs)(hp:partOf ti.agg ti.size off ds=some d){o:Nat}
  (hc:∀j v,vs[j]? = some v->w.cell? ⟨b,o+j,none⟩=some v) (ho:off<=vs.length):∃v,(loadVar t ⟨b,o+off,none⟩).run P w=.ok v w/\Rep F w B d v:=by
 obtain⟨i,de,z,hi,hd,hz,hz1,hz2,hz3,hsz,hag,hk⟩:=aY ht
 unfold loadVar
 simp only[Sem.run_bind,wo hd,Result.andThen_ok,hag]
 unfold partOf at hp
 cases hb:ti.agg
 ·rw[hb] at hp
  simp only[Bool.false_eq_true,if_false] at hp ⊢
  obtain⟨v,hv,hr⟩:=h.get off hp
  refine⟨v,?_,hr⟩
  simp[hc off v hv]
 ·rw[hb] at hp
  simp only[if_true] at hp ⊢
  split at hp
  ·rename_i hl
   cases hp
   have hlen:=aB.length h
   refine⟨.agg ((vs.drop off).take ti.size).toArray,?_,.agg _ _ ((h.drop off).take ti.size)⟩
   simp only[Sem.run_bind,jO hi,Result.andThen_ok,hsz]
   have hl2:((vs.drop off).take ti.size).length=ti.size:=by simp;omega
   have:=run_loadCells_list (P:=P) w ⟨b,o+off,none⟩ ((vs.drop off).take ti.size) (fun j v hj=>by
    rw[add_eq]
    have hj2:j<ti.size:=by
     have:=(List.getElem?_eq_some_iff.1 hj).1;omega
    rw[List.getElem?_take,if_pos hj2,List.getElem?_drop] at hj
    have:=hc (off+j) v hj
    rwa[show o+off+j=o+(off+j) by omega])
   rw[hl2] at this
   simp[this]
  ·cases hp
end
end Go.Proofs.YtefojkdckfidcaaGreatDoor.RX
namespace Go.Proofs.YtefojkdckfidcaaGreatDoor.RX
open Go.RowKit
section
variable {P:Program}
theorem jJ(g o:Nat)(t:TypeId)(fz:Nat×Nat):∀(vs:List Value)(i:Nat)(cur:Array Value)(w:World),w.heap[g]? = some (.cells cur t fz)->(∀j,j<cur.size->¬(fz.1<=j/\j<fz.2))->o+i+vs.length<=cur.size->(∀v∈vs,v.oneCell'=true) ->
  (storeCells ⟨g,o,none⟩ vs i).run P w=.ok () (w.setRow g (cur.toList.take (o+i)++vs++cur.toList.drop (o+i+vs.length)).toArray)
 |[],i,cur,w,hg,_,_,_=>by
  simp only[storeCells,List.append_nil,List.length_nil,Nat.add_zero,List.take_append_drop,Array.toArray_toList]
  rw[setRow_self w g cur t fz hg]
  rfl
 |v::rest,i,cur,w,hg,hf,hl,h1=>by
  have hi:o+i<cur.size:=by simp at hl;omega
  have hadd:(⟨g,o,none⟩:Addr).add i=⟨g,o+i,none⟩:=by unfold Addr.add;split<;>simp_all
  have hcell:w.cell? ⟨g,o+i,none⟩=some cur[o+i]:=by simp[World.cell?,hg,hi]
  have hfro:w.frozen? ⟨g,o+i,none⟩=false:=by
   have:=hf _ hi
   simp only[World.frozen?,hg]
   rw[Bool.and_eq_false_iff]
   by_cases hc:fz.1<=o+i
   ·right;simp;omega
   ·left;simpa using hc
  have hst:(store ((⟨g,o,none⟩:Addr).add i) v).run P w=.ok () (w.setRow g (cur.setIfInBounds (o+i) v)):=by
   rw[hadd,run_store P w _ v _ (h1 v (by simp)),hcell]
   simp[hfro,setCell_eq_setRow w g (o+i) cur t fz v hg]
  have ih:=jJ g o t fz rest (i+1) (cur.setIfInBounds (o+i) v) (w.setRow g (cur.setIfInBounds (o+i) v)) (setRow_heap w g cur _ t _ hg) (by simpa using hf) (by simp at hl ⊢;omega) (fun x hx=>h1 x (by simp[hx]))
  simp only[storeCells,Sem.run_bind,hst,Result.andThen_ok,ih,setRow_setRow]
  congr 3
  have e:=list_seg_step cur.toList (o+i) v rest (by simp at hl ⊢;omega)
  simpa[Array.toList_setIfInBounds,Nat.add_assoc] using e
theorem wQ{size:Nat}{q:Option Addr}{w:World}:(Builtin.firstCells size 0 (.slice q 0 0)).run P w=.ok #[] w:=by
 cases q<;>simp[Builtin.firstCells,loadCells,loadCellsFrom]
theorem CQ{w:World}{t t2 ty e:Nat}{i:TypeInfo}{z v0:Value}{q:Option Addr}(hv0:v0=.slice q 0 0)(ht:P.underlying t=some (.slice e))(hi:P.info? e=some i)(hz:i.zero=some z)(hzs:z.cells.size=i.size)(hpos:0<i.size)
  (ht2:(∃e2,P.underlying t2=some (.slice e2))\/P.underlying t2=some .string)
  {xs:List Value} (hown:dH w e i.size none 0 0 xs)
  {x:Value} {m:Nat} {news:List Value} (hlen:∀w',(Builtin.lenOf x).run P w'=.ok m w') (hx:(Builtin.firstCells i.size m x).run P w=.ok news.toArray w) (hx':(Builtin.firstCells i.size m x).run P w.drew=.ok news.toArray w.drew)
  (hl:news.length=m*i.size) (h1:∀u∈news,u.oneCell'=true) (hb:(0+m)*(i.bytes+1)<=140737488355328) :
  ∃p' cap' w' v',(Builtin.append_ #[t,t2] ty #[v0,x]).run P w=.ok v' w'/\qx v' p' (0+m) cap'/\dH w' e i.size p' (0+m) cap' (xs++news)/\((p'=none/\w.grownBy w' none)\/(p'=some w.heap.size/\w.grownBy w' none)):=by
 subst hv0
 have hb1:(0+m)*i.bytes<=140737488355328:=Nat.le_trans (Nat.mul_le_mul_left _ (Nat.le_succ _)) hb
 have hb2:0+m<=140737488355328:=Nat.le_trans (Nat.le_mul_of_pos_right _ (Nat.succ_pos _)) hb
 have hmax:0+m<=maxLen:=by simp only[maxLen];omega
 have hxl:(xs++news).length=(0+m)*i.size:=by rw[List.length_append,hown.1,hl,Nat.add_mul]
 have grown:∀old,old<0+m->dH (w.drew.alloc (.cells (xs.toArray++news.toArray++Builtin.zeroCells z.cells (grownCap w (0+m) old e-(0+m))) e)) e i.size (some w.heap.size) (0+m) (grownCap w (0+m) old e) (xs++news) /\
   w.grownBy (w.drew.alloc (.cells (xs.toArray++news.toArray++Builtin.zeroCells z.cells (grownCap w (0+m) old e-(0+m))) e)) none:=by
  intro old ho
  have hge:=grownCap_ge w (0+m) old e
  have hcm:grownCap w (0+m) old e<=maxLen:=grownCap_le_maxLen w (0+m) old e hmax
  refine⟨⟨hxl,.inr ⟨w.heap.size,_,_,rfl,heap_alloc_new w.drew _,by simp,hge,hcm,?_,?_⟩⟩,⟨rfl,rfl,rfl,by simp,fun k hk _=>heap_alloc_old w.drew _ (by simpa using hk)⟩⟩
  ·simp only[Array.size_append,List.size_toArray,size_zeroCells,hzs,hown.1,hl,<-Nat.add_mul]
   congr 1
   omega
  ·simp only[Array.toList_append,List.append_assoc]
   rw[<-List.append_assoc,<-hxl]
   exact List.take_left
 have hx0:xs=[]:=List.eq_nil_of_length_eq_zero (by simpa using hown.1)
 subst hx0
 by_cases hm:m=0
 ·subst hm
  have hn:news=[]:=List.eq_nil_of_length_eq_zero (by simpa using hl)
  subst hn
  refine⟨none,0,w,.slice q 0 0,?_,.inr ⟨rfl,rfl,rfl,q,rfl⟩,⟨by simp,.inl ⟨rfl,rfl,rfl⟩⟩,.inl ⟨rfl,⟨rfl,rfl,rfl,Nat.le_refl _,fun _ _ _=>rfl⟩⟩⟩
  rcases ht2 with⟨e2,ht2⟩|ht2<;>cases q<;>simp[Builtin.append_,run_underlying ht,run_underlying ht2,sizeOf,typeInfo,hi,hlen,hx,storeCells]
 ·have hgr:=grown 0 (by omega)
  refine⟨some w.heap.size,_,_,bD (some w.heap.size) (0+m) (grownCap w (0+m) 0 e),?_,.inl rfl,hgr.1,.inr ⟨rfl,hgr.2⟩⟩
  have h48:¬(281474976710656<Builtin.nextslicecap m 0*i.bytes):=by
   rw[nextslicecap_zero (by omega)]
   simp only[Nat.zero_add] at hb1;omega
  have h63:¬(9223372036854775807<(m:Int)):=by omega
  rcases ht2 with⟨e2,ht2⟩|ht2<;>cases q<;>simp[bD,Builtin.append_,run_underlying ht,run_underlying ht2,sizeOf,typeInfo,zeroValue,hi,hz,hlen,hm,h48,h63,Question.forced,run_firstCells_none,wQ,hx',newRow,grownCap]
theorem uS{w:World}{t t2 ty e:Nat}{i:TypeInfo}{z v0:Value}{p:Option Nat}{n cap:Nat}(hv0:qx v0 p n cap)(ht:P.underlying t=some (.slice e))(hi:P.info? e=some i)(hz:i.zero=some z)(hzs:z.cells.size=i.size)(hpos:0<i.size)
  (ht2:(∃e2,P.underlying t2=some (.slice e2))\/P.underlying t2=some .string)
  {xs:List Value} (hown:dH w e i.size p n cap xs)
  {x:Value} {m:Nat} {news:List Value} (hlen:∀w',(Builtin.lenOf x).run P w'=.ok m w') (hx:(Builtin.firstCells i.size m x).run P w=.ok news.toArray w) (hx':(Builtin.firstCells i.size m x).run P w.drew=.ok news.toArray w.drew)
  (hl:news.length=m*i.size) (h1:∀u∈news,u.oneCell'=true) (hb:(n+m)*(i.bytes+1)<=140737488355328) :
  ∃p' cap' w' v',(Builtin.append_ #[t,t2] ty #[v0,x]).run P w=.ok v' w'/\qx v' p' (n+m) cap'/\dH w' e i.size p' (n+m) cap' (xs++news)/\((p'=p/\w.grownBy w' p)\/(p'=some w.heap.size/\w.grownBy w' none)):=by
 rcases hown.2 with⟨rfl,rfl,rfl⟩|⟨g,cur,fz,rfl,hg,hfz,hnc,hcm,hcs,htake⟩
 ·have hq:∃q,v0=.slice q 0 0:=by
   rcases hv0 with rfl|⟨_,_,_,q,rfl⟩
   ·exact⟨none,rfl⟩
   ·exact⟨q,rfl⟩
  obtain⟨q,hq⟩:=hq
  exact CQ hq ht hi hz hzs hpos ht2 hown hlen hx hx' hl h1 hb
 have hv1:v0=bD (some g) n cap:=by
  rcases hv0 with h|⟨h,_⟩
  ·exact h
  ·cases h
 subst hv1
 have hb1:(n+m)*i.bytes<=140737488355328:=Nat.le_trans (Nat.mul_le_mul_left _ (Nat.le_succ _)) hb
 have hb2:n+m<=140737488355328:=Nat.le_trans (Nat.le_mul_of_pos_right _ (Nat.succ_pos _)) hb
 have hmax:n+m<=maxLen:=by simp only[maxLen];omega
 have hxl:(xs++news).length=(n+m)*i.size:=by rw[List.length_append,hown.1,hl,Nat.add_mul]
 have grown:∀old,old<n+m->dH (w.drew.alloc (.cells (xs.toArray++news.toArray++Builtin.zeroCells z.cells (grownCap w (n+m) old e-(n+m))) e)) e i.size (some w.heap.size) (n+m) (grownCap w (n+m) old e) (xs++news) /\
   w.grownBy (w.drew.alloc (.cells (xs.toArray++news.toArray++Builtin.zeroCells z.cells (grownCap w (n+m) old e-(n+m))) e)) none:=by
  intro old ho
  have hge:=grownCap_ge w (n+m) old e
  have hcm:grownCap w (n+m) old e<=maxLen:=grownCap_le_maxLen w (n+m) old e hmax
  refine⟨⟨hxl,.inr ⟨w.heap.size,_,_,rfl,heap_alloc_new w.drew _,by simp,hge,hcm,?_,?_⟩⟩,⟨rfl,rfl,rfl,by simp,fun k hk _=>heap_alloc_old w.drew _ (by simpa using hk)⟩⟩
  ·simp only[Array.size_append,List.size_toArray,size_zeroCells,hzs,hown.1,hl,<-Nat.add_mul]
   congr 1
   omega
  ·simp only[Array.toList_append,List.append_assoc]
   rw[<-List.append_assoc,<-hxl]
   exact List.take_left
 by_cases hroom:n+m<=cap
 ·have hfit:n*i.size+news.length<=cur.size:=by rw[hl,hcs,<-Nat.add_mul];exact Nat.mul_le_mul_right _ hroom
  have hst:=jJ (P:=P) g (n*i.size) e fz news 0 cur w hg hfz (by simpa using hfit) h1
  simp only[Nat.add_zero] at hst
  refine⟨some g,cap,w.setRow g (cur.toList.take (n*i.size)++news++cur.toList.drop (n*i.size+news.length)).toArray,_,?_,.inl rfl,⟨hxl,.inr ⟨g,_,fz,rfl,setRow_heap w g cur _ e fz hg,?_,hroom,hcm,?_,?_⟩⟩,.inl ⟨rfl,⟨rfl,rfl,rfl,by simp,fun k hk hne=>setRow_other w g k _ (fun h=>hne (by rw[h]))⟩⟩⟩
  ·rcases ht2 with⟨e2,ht2⟩|ht2<;>simp[bD,Builtin.append_,run_underlying ht,run_underlying ht2,sizeOf,typeInfo,hi,hlen,hroom,hx,Addr.add_lit,hst]
  ·intro j hj
   refine hfz j ?_
   simp at hj
   omega
  ·simp only[List.size_toArray,List.length_append,List.length_take,List.length_drop,Array.length_toList]
   omega
  ·rw[htake,<-hxl]
   exact List.take_left
 ·have hgr:=grown cap (by omega)
  have holds:∀j u,xs[j]? = some u->w.cell? ((⟨g,0,none⟩:Addr).add j)=some u:=fun j u hu=>by
   rw[add_eq];simpa using hown.cells hu
  have hfo:=run_firstCells_some (P:=P) w.drew i.size n ⟨g,0,none⟩ n cap xs hown.1 holds
  have h48:¬(281474976710656<Builtin.nextslicecap (n+m) cap*i.bytes):=by
   have:=growslice_fits (need:=n+m) (old:=cap) (by omega) hb1;omega
  have h63:¬(9223372036854775807<((n:Int)+(m:Int))):=by omega
  refine⟨some w.heap.size,_,_,bD (some w.heap.size) (n+m) (grownCap w (n+m) cap e),?_,.inl rfl,hgr.1,.inr ⟨rfl,hgr.2⟩⟩
  rcases ht2 with⟨e2,ht2⟩|ht2<;>simp[bD,Builtin.append_,run_underlying ht,run_underlying ht2,sizeOf,typeInfo,zeroValue,hi,hz,hlen,hroom,h48,h63,Question.forced,hfo,hx',newRow,grownCap]
  all_goals
   congr 2
   apply Array.ext'
   simp[List.append_assoc]
theorem As{z:Value}{n size:Nat}(hz:z.cells.toList.length=size)(hpos:0<size):(madeCells z.cells (n*size)).toList=(List.replicate n z.cells.toList).flatten:=by
 apply List.ext_getElem?
 intro j
 have hzs:z.cells.size=size:=by rw[<-hz];simp
 have hl:((List.replicate n z.cells.toList).flatten).length=n*size:=by simp[hzs]
 by_cases hj:j<n*size
 ·have hj2:j / size<n:=(Nat.div_lt_iff_lt_mul hpos).2 hj
  have hmod:j % size<size:=Nat.mod_lt _ hpos
  have h1:(madeCells z.cells (n*size)).toList[j]? = some (z.cells[j % size]'(by rw[hzs];exact hmod)):=by
   unfold madeCells
   rw[Array.getElem?_toList]
   simp only[Array.getElem?_map,Array.getElem?_range,hj,if_true,Option.map_some,hzs]
   rw[getElem!_pos z.cells (j % size) (by rw[hzs];exact hmod)]
  rw[h1]
  have key:∀(k m:Nat),k<m->∀r,r<size->((List.replicate m z.cells.toList).flatten)[k*size+r]? = z.cells.toList[r]?:=by
   intro k
   induction k with
   |zero =>
    intro m hm r hr
    cases m with
    |zero=>omega
    |succ m =>
     rw[List.replicate_succ,List.flatten_cons,List.getElem?_append_left (by rw[hz];omega)]
     simp
   |succ k ih =>
    intro m hm r hr
    cases m with
    |zero=>omega
    |succ m =>
     rw[List.replicate_succ,List.flatten_cons,List.getElem?_append_right (by rw[hz,Nat.add_mul];omega),hz]
     rw[show(k+1)*size+r-size=k*size+r by rw[Nat.add_mul];omega]
     exact ih m (by omega) r hr
  have hd:j=j / size*size+j % size:=by rw[Nat.mul_comm];exact(Nat.div_add_mod j size).symm
  have h2:=key _ _ hj2 _ hmod
  rw[<-hd] at h2
  rw[h2]
  simp[hzs,hmod]
 ·rw[List.getElem?_eq_none (by simp[madeCells];omega),List.getElem?_eq_none (by omega)]
end
end Go.Proofs.YtefojkdckfidcaaGreatDoor.RX
