import Derived.Test.YtefojkdckfidcaaGreatDoorQPlain
import Derived.Test.YtefojkdckfidcaaGreatDoorQRxIZ
import Derived.Lib.CountLaws
import Derived.Test.YtefojkdckfidcaaGreatDoorQMB11e
set_option linter.all false
namespace Go.Proofs.YtefojkdckfidcaaGreatDoor.PL
open Go Go.Proofs.YtefojkdckfidcaaGreatDoor.RX
theorem drop_at{α:Type}{l:List α}{i:Nat}(h:i<l.length):l.drop i=l[i]::l.drop (i+1):=List.drop_eq_getElem_cons h
def II{ρ:Type}:Option ρ->Sum Unit ρ|some r=>.inr r|none=>.inl ()
@[simp] theorem RL{ρ:Type}:II (none:Option ρ)=.inl ():=rfl
@[simp] theorem RJ{ρ:Type}(r:ρ):II (some r)=.inr r:=rfl
theorem Oe{α ρ:Type}{L:Nat->Int->Option (Sum Unit ρ)}(l:List α)(g:α->Option ρ)(i0:Nat)(hN:l.length<1000000000)
  (hs:∀k i (h:i<l.length),i0<=i->L (k+1) (i:Int)=match g l[i] with|some r=>some (.inr r)|none=>L k (IntKind.wrap .i64 ((i:Int)+1)))
  (he:∀k,L (k+1) (l.length:Int)=some (.inl ())):∀(k i:Nat),i0<=i->i<=l.length->l.length-i<k->L k (i:Int)=some (II ((l.drop i).findSome? g))
 |0,i,_,_,h=>by omega
 |k+1,i,h0,h1,h2=>by
  by_cases h:i<l.length
  ·rw[hs k i h h0,drop_at h,List.findSome?_cons]
   cases g l[i] with
   |some r=>rfl
   |none =>
    show L k _=_
    rw[aZ i (by omega)]
    exact Oe l g i0 hN hs he k (i+1) (by omega) (by omega) (by omega)
  ·have:i=l.length:=by omega
   subst this
   rw[he,List.drop_eq_nil_of_le (Nat.le_refl _)];rfl
theorem nq{n:Nat}:decide ((n:Int)<(n:Int))=false:=by simp
theorem Ix{a b:Nat}(h:a+b<=1000000000):decide ((a+b)*(16+1)<=limit)=true:=decide_eq_true (by show(a+b)*(16+1)<=140737488355328;omega)
abbrev BS:=Bs
theorem iU(a:BS):¬a<a:=List.lt_irrefl a
theorem wC{a b c:BS}(h:a<b)(h':b<c):a<c:=List.lt_trans h h'
theorem mH{a b:BS}:¬a<b↔b<=a:=List.not_lt
theorem Dx{a b:BS}:¬a<=b↔b<a:=List.not_le
theorem uO{a b:BS}(h:a<=b)(h':b<=a):a=b:=List.le_antisymm h h'
theorem za{a b c:BS}(h:a<=b)(h':b<=c):a<=c:=List.le_trans h h'
theorem NH(a b:BS):a<=b\/b<=a:=List.le_total a b
theorem uF{a b:BS}(h:a<b):a<=b:=List.le_of_lt h
theorem nM{a b:BS}(h:a<=b)(hn:a≠b):a<b:=Dx.1 fun h'=>hn (uO h h')
theorem zJ:∀x y:BS,Op.bytesLess x y=decide (x<y)
 |[],[]=>by simp[Op.bytesLess]
 |_::_,[]=>by simp[Op.bytesLess]
 |[],_::_=>by simp[Op.bytesLess]
 |a::x,b::y=>by
  rw[Op.bytesLess,zJ x y]
  simp only[List.cons_lt_cons_iff]
  by_cases h1:a<b<;>by_cases h2:a=b<;>by_cases h3:x<y<;>simp[h1,h2,h3]
theorem PK(a b:BS):(Op.bytesLess a b||a==b)=decide (a<=b):=by
 rw[zJ,Bool.eq_iff_iff]
 simp only[Bool.or_eq_true,decide_eq_true_eq,beq_iff_eq]
 constructor
 ·rintro(h|rfl)
  ·exact uF h
  ·exact mH.1 (iU a)
 ·intro h
  by_cases e:a=b
  ·exact .inr e
  ·exact .inl (nM h e)
abbrev Asc(l:List BS):Prop:=l.Pairwise (·<·)
theorem Asc.ext:∀{l m:List BS},Asc l->Asc m->(∀x,x∈l↔x∈m)->l=m
 |[],[],_,_,_=>rfl
 |[],b::m,_,_,h=>by have:=(h b).2 (by simp);simp at this
 |a::l,[],_,_,h=>by have:=(h a).1 (by simp);simp at this
 |a::l,b::m,hl,hm,h=>by
  obtain⟨h1,h2⟩:=List.pairwise_cons.1 hl
  obtain⟨h3,h4⟩:=List.pairwise_cons.1 hm
  have hab:a=b:=by
   rcases List.mem_cons.1 ((h a).1 (by simp)) with e|e
   ·exact e
   ·rcases List.mem_cons.1 ((h b).2 (by simp)) with e'|e'
    ·exact e'.symm
    ·exact absurd (wC (h1 b e') (h3 a e)) (iU a)
  subst hab
  congr 1
  refine Asc.ext h2 h4 fun x=>⟨fun hx=>?_,fun hx=>?_⟩
  ·rcases List.mem_cons.1 ((h x).1 (by simp[hx])) with e|e
   ·exact absurd (h1 x hx) (e▸iU _)
   ·exact e
  ·rcases List.mem_cons.1 ((h x).2 (by simp[hx])) with e|e
   ·exact absurd (h3 x hx) (e▸iU _)
   ·exact e
def ins(x:BS):List BS->List BS
 |[]=>[x]
 |y::l=>if x<y then x::y::l else if x=y then y::l else y::ins x l
def srt(l:List BS):List BS:=l.foldr ins []
theorem CV{x z:BS}:∀{l:List BS},z∈ins x l↔z=x\/z∈l
 |[]=>by simp[ins]
 |y::l=>by
  unfold ins
  split
  ·simp
  ·split
   ·rename_i h;subst h;simp
   ·simp only[List.mem_cons,CV (l:=l)]
    constructor
    ·rintro(h|h|h)<;>simp[h]
    ·rintro(h|h|h)<;>simp[h]
theorem Ia{x:BS}:∀{l:List BS},Asc l->Asc (ins x l)
 |[],_=>by simp[ins]
 |y::l,h=>by
  obtain⟨h1,h2⟩:=List.pairwise_cons.1 h
  unfold ins
  split
  ·rename_i hx
   refine List.pairwise_cons.2 ⟨fun z hz=>?_,h⟩
   rcases List.mem_cons.1 hz with rfl|hz
   ·exact hx
   ·exact wC hx (h1 z hz)
  ·split
   ·exact h
   ·rename_i hx hy
    refine List.pairwise_cons.2 ⟨fun z hz=>?_,Ia h2⟩
    rcases CV.1 hz with rfl|hz
    ·exact nM (mH.1 hx) (fun e=>hy e.symm)
    ·exact h1 z hz
theorem yQ:∀l:List BS,Asc (srt l)
 |[]=>.nil
 |x::l=>Ia (yQ l)
theorem qm{z:BS}:∀{l:List BS},z∈srt l↔z∈l
 |[]=>by simp[srt]
 |x::l=>by
  show z∈ins x (srt l)↔_
  rw[CV,qm,List.mem_cons]
theorem rE(x:BS):∀l:List BS,(ins x l).length<=l.length+1
 |[]=>by simp[ins]
 |y::l=>by
  unfold ins
  have:=rE x l
  split
  ·simp
  ·split
   ·simp
   ·simp;omega
theorem nV:∀l:List BS,(srt l).length<=l.length
 |[]=>by simp[srt]
 |x::l=>by
  have:=rE x (srt l);have:=nV l
  show(ins x (srt l)).length<=_
  simp;omega
end Go.Proofs.YtefojkdckfidcaaGreatDoor.PL
namespace Go.Proofs.YtefojkdckfidcaaGreatDoor.PL
open Go Go.Proofs.YtefojkdckfidcaaGreatDoor.RX
theorem mD{i n:Nat}(h:i<=n):decide (0<=(i:Int)/\(i:Int)<=(n:Int))=true:=decide_eq_true (by omega)
theorem Jg{i j:Nat}(h:i<=j):decide (0<=(i:Int)/\(i:Int)<=(j:Int))=true:=decide_eq_true (by omega)
theorem tn(i:Nat):Int.toNat (i:Int)=i:=Int.toNat_natCast i
theorem oy{i j:Nat}:((i:Int)==(j:Int))=decide (i=j):=by
 rw[Bool.eq_iff_iff,beq_iff_eq,decide_eq_true_eq];omega
def upto(c:UInt8):BS->Option (BS×BS)
 |[]=>none
 |b::l=>if b=c then some ([],l) else(upto c l).map fun p=>(b::p.1,p.2)
theorem uD{c:UInt8}:∀{l p q:BS},upto c l=some (p,q)->l=p++c::q/\c∉p
 |[],p,q,h=>by cases h
 |b::l,p,q,h=>by
  unfold upto at h
  by_cases hb:b=c
  ·rw[if_pos hb] at h;cases h;exact⟨by rw[hb];rfl,by simp⟩
  ·rw[if_neg hb] at h
   obtain⟨⟨p',q'⟩,hp,he⟩:=Option.map_eq_some_iff.1 h
   cases he
   obtain⟨h1,h2⟩:=uD hp
   refine⟨by rw[h1];rfl,?_⟩
   simp only[List.mem_cons,not_or]
   exact⟨fun e=>hb e.symm,h2⟩
theorem OC(c:UInt8):∀l:BS,Lib.indexByte l c=match upto c l with|none=>-1|some p=>(p.1.length:Int)
 |[]=>rfl
 |b::l=>by
  unfold Lib.indexByte upto
  by_cases h:b=c
  ·subst h;simp
  ·have h':(b==c)=false:=by simpa using h
   rw[h',if_neg h,OC c l]
   cases upto c l with
   |none=>rfl
   |some p =>
    have:((p.1.length:Int)==-1)=false:=by rw[beq_eq_false_iff_ne];omega
    simp[this]
theorem Ol(c:UInt8):∀l:BS,Lib.index l [c]=Lib.indexByte l c
 |[]=>rfl
 |b::l=>by
  unfold Lib.index Lib.indexByte
  rw[Ol c l]
  have:[c].isPrefixOf (b::l)=(b==c):=by
   rw[List.isPrefixOf,List.isPrefixOf,Bool.and_true,Bool.eq_iff_iff,beq_iff_eq,beq_iff_eq]
   exact eq_comm
  rw[this]
theorem Lj(c:UInt8)(l:BS):Lib.cut l [c]=match upto c l with|none=>(l,[],false)|some p=>(p.1,p.2,true):=by
 unfold Lib.cut
 rw[Ol,OC]
 cases h:upto c l with
 |none=>rfl
 |some p =>
  obtain⟨p,q⟩:=p
  obtain⟨h1,_⟩:=uD h
  have hp:(0:Int)<=(p.length:Int):=by omega
  simp only
  rw[if_pos hp,tn,h1]
  have e1:(p++c::q).take p.length=p:=List.take_left
  have e2:(p++c::q).drop (p.length+[c].length)=q:=by
   rw[List.length_singleton,<-List.drop_drop,List.drop_left];rfl
  rw[e1,e2]
def sub(c:UInt8)(new:BS)(b:UInt8):BS:=if b=c then new else [b]
def parts(c:UInt8):BS->List BS
 |[]=>[[]]
 |b::t=>if b=c then []::parts c t else match parts c t with|[]=>[[b]]|x::r=>(b::x)::r
end Go.Proofs.YtefojkdckfidcaaGreatDoor.PL
namespace Go.Proofs.YtefojkdckfidcaaGreatDoor.M
open Go Go.Proofs.YtefojkdckfidcaaGreatDoor.RX Go.Proofs.YtefojkdckfidcaaGreatDoor.PL
set_option maxRecDepth 100000
def good(c:UInt8):Bool:=decide (32<=c.toNat)&&c.toNat != 127
theorem yy:∀c:UInt8,fK (c.toNat:Int)=good c:=gx (by decide +kernel)
theorem uv:∀c:UInt8,pH (c.toNat:Int)=good c:=gx (by decide +kernel)
theorem b34(c:UInt8):((c.toNat:Int)==34)=decide (c=34):=ic c 34 (by decide)
theorem b92(c:UInt8):((c.toNat:Int)==92)=decide (c=92):=ic c 92 (by decide)
theorem b10(c:UInt8):((c.toNat:Int)==10)=decide (c=10):=ic c 10 (by decide)
theorem b9(c:UInt8):((c.toNat:Int)==9)=decide (c=9):=ic c 9 (by decide)
theorem b39(c:UInt8):((c.toNat:Int)==39)=decide (c=39):=ic c 39 (by decide)
theorem b32(c:UInt8):((c.toNat:Int)==32)=decide (c=32):=ic c 32 (by decide)
theorem b45(c:UInt8):((c.toNat:Int)==45)=decide (c=45):=ic c 45 (by decide)
theorem b58(c:UInt8):((c.toNat:Int)==58)=decide (c=58):=ic c 58 (by decide)
theorem b35(c:UInt8):((c.toNat:Int)==35)=decide (c=35):=ic c 35 (by decide)
theorem Q7(c:UInt8):((c.toNat:Int)==110)=decide (c=110):=ic c 110 (by decide)
theorem Re(c:UInt8):((c.toNat:Int)==116)=decide (c=116):=ic c 116 (by decide)
theorem Rh(c:UInt8):((c.toNat:Int)==120)=decide (c=120):=ic c 120 (by decide)
theorem jN(c d:UInt8):((c.toNat:Int)==(d.toNat:Int))=(c==d):=by
 rw[Bool.eq_iff_iff,beq_iff_eq,beq_iff_eq,<-UInt8.toNat_inj]
 omega
theorem gQ(c d:UInt8):decide (c=d)=(c==d):=by
 rw[Bool.eq_iff_iff];simp
def yg:Bs:=[63,58,44,91,93,123,125,35,38,42,33,124,62,39,34,37,64,96]
def sp5:Bs:=[44,91,93,123,125]
theorem Sj:∀c:UInt8,decide ((Lib.indexByte ([63,58,44,91,93,123,125,35,38,42,33,124,62,39,34,37,64,96]:Bs) (Int.toNat (c.toNat:Int)).toUInt8)>=0)=yg.contains c:=gx (by decide +kernel)
theorem ix5:∀c:UInt8,decide ((Lib.indexByte ([44,91,93,123,125]:Bs) (Int.toNat (c.toNat:Int)).toUInt8)>=0)=sp5.contains c:=gx (by decide +kernel)
theorem Om(n:Nat)(c:UInt8)(L:Bs)(hL:L.length<=100000):∀(k i:Nat),i<=L.length->L.length-i<k->pI n (c.toNat:Int) L k (i:Int)=some (if(L.drop i).contains c=true then .inr true else .inl ())
 |0,i,h1,h2=>by omega
 |k+1,i,h1,h2=>by
  rw[pI]
  by_cases h:i<L.length
  ·rw[if_pos (gy h),if_pos (bU h),cY h,jN,drop_at h,List.contains_cons]
   cases hc:L[i]==c with
   |true =>
    have:(c==L[i])=true:=by rw[beq_iff_eq] at hc ⊢;exact hc.symm
    simp[this]
   |false =>
    have:(c==L[i])=false:=by rw[beq_eq_false_iff_ne] at hc ⊢;exact fun e=>hc e.symm
    rw[this,Bool.false_or,aZ i (by omega),Om n c L hL k (i+1) (by omega) (by omega)]
    rfl
  ·rw[if_neg (by rw[iM (Nat.not_lt.1 h)];exact Bool.false_ne_true),List.drop_eq_nil_of_le (by omega)]
   rfl
theorem Le(n:Nat)(c:UInt8)(L:Bs)(hL:L.length<=100000)(hn:200000<=n):qQ n (c.toNat:Int) L=some (L.contains c):=by
 unfold qQ
 rw[show((0:Int))=((0:Nat):Int) from rfl,Om n c L hL n 0 (by omega) (by omega),List.drop_zero]
 cases L.contains c<;>rfl
theorem Q5(n:Nat)(s:Bs)(hs:s.length<=100000):∀(k i:Nat),i<=s.length->s.length-i<k->kM n s (s.length:Int) k (i:Int)=some (if(s.drop i).any sp5.contains=true then .inr false else .inl ())
 |0,i,h1,h2=>by omega
 |k+1,i,h1,h2=>by
  rw[kM]
  by_cases h:i<s.length
  ·simp only[aP]
   rw[if_pos (gy h),if_pos (bU h),cY h,ix5,drop_at h,List.any_cons]
   cases hc:sp5.contains s[i] with
   |true=>simp
   |false =>
    rw[Bool.false_or,aZ i (by omega),Q5 n s hs k (i+1) (by omega) (by omega)]
    rfl
  ·rw[if_neg (by rw[iM (Nat.not_lt.1 h)];exact Bool.false_ne_true),List.drop_eq_nil_of_le (by omega)]
   rfl
theorem Qr(n:Nat)(s:Bs)(hs:s.length<=100000)(hn:200000<=n):∀(k i:Nat),i<=s.length->s.length-i<k->oY n s k (i:Int)=some (if(s.drop i).any sp5.contains=true then .inr false else .inl ())
 |0,i,h1,h2=>by omega
 |k+1,i,h1,h2=>by
  rw[oY]
  by_cases h:i<s.length
  ·rw[if_pos (gy h),if_pos (bU h),cY h,Le n _ _ (by simp) hn,Option.bind_some,drop_at h,List.any_cons]
   show(if(sp5.contains s[i])=true then _ else _)=_
   cases hc:sp5.contains s[i] with
   |true=>simp
   |false =>
    rw[Bool.false_or,aZ i (by omega),Qr n s hs hn k (i+1) (by omega) (by omega)]
    rfl
  ·rw[if_neg (by rw[iM (Nat.not_lt.1 h)];exact Bool.false_ne_true),List.drop_eq_nil_of_le (by omega)]
   rfl
def fq(s:Bs)(j:Nat):Bool:=if h:j<s.length then s[j]==32 else true
theorem bl(n j:Nat)(s:Bs):gv n (j:Int) s=some (fq s j):=by
 unfold gv fq
 have h0:decide ((j:Int)<0)=false:=decide_eq_false (by omega)
 by_cases h:j<s.length
 ·have h1:decide ((j:Int)>=(s.length:Int))=false:=decide_eq_false (by omega)
  rw[h0,h1,bU h,cY h,b32,dif_pos h,gQ]
  rfl
 ·have h1:decide ((j:Int)>=(s.length:Int))=true:=decide_eq_true (by omega)
  rw[h0,h1,dif_neg h]
  rfl
def wF(s:Bs)(i:Nat):Bool:=if h:i<s.length then good s[i]&&!(s[i]==58&&fq s (i+1))&&!(s[i]==35&&fq s (i-1)) else true
def gY(s:Bs)(i:Nat):Bool:=(List.range' i (s.length-i)).all (wF s)
theorem Gp{s:Bs}{i:Nat}(h:i<s.length):gY s i=(wF s i&&gY s (i+1)):=by
 unfold gY
 rw[show s.length-i=(s.length-(i+1))+1 by omega,List.range'_succ,List.all_cons]
theorem JB{s:Bs}{i:Nat}(h:s.length<=i):gY s i=true:=by
 unfold gY
 rw[show s.length-i=0 by omega];rfl
theorem xP{s:Bs}:∀{i j:Nat},gY s i=true->i<=j->j<s.length->wF s j=true:=by
 intro i j h hij hj
 unfold gY at h
 rw[List.all_eq_true] at h
 exact h j (List.mem_range'_1.2 ⟨hij,by omega⟩)
def plr(b:Bool):Sum Unit Bool:=if b=true then .inl () else .inr false
theorem Qs(n:Nat)(s:Bs)(hs:s.length<=100000)(h0:∀h:0<s.length,s[0]≠35):∀(k i:Nat),i<=s.length->s.length-i<k->jg n s s (s.length:Int) k (i:Int)=some (plr (gY s i))/\kP n s (s.length:Int) k (i:Int)=some (plr (gY s i))
 |0,i,h1,h2=>by omega
 |k+1,i,h1,h2=>by
  rw[jg,kP]
  by_cases h:i<s.length
  ·obtain⟨hq,hr⟩:=Qs n s hs h0 k (i+1) (by omega) (by omega)
   rw[Gp h]
   generalize gY s (i+1)=r at hq hr ⊢
   have hok:wF s i=(good s[i]&&!(s[i]==58&&fq s (i+1))&&!(s[i]==35&&fq s (i-1))):=by unfold wF;rw[dif_pos h]
   have hX:∃X,plr (wF s i&&r)=X:=⟨_,rfl⟩
   obtain⟨X,hX⟩:=hX
   rw[hX]
   rw[hok] at hX
   rw[if_pos (gy h),if_pos (gy h)]
   simp only[bU h,cY h,aP,b58,b35,yy,uv,if_true,Bool.or_true]
   cases hg:good s[i] with
   |false =>
    rw[hg] at hX
    obtain rfl:X=.inr false:=by rw[<-hX];simp[plr]
    exact⟨by simp,by simp⟩
   |true =>
    rw[hg] at hX
    have hwJ:=aZ i (by omega)
    have bJ:=bl n (i+1) s
    have inJ:=fun h':i+1<s.length=>bU h'
    have atJ:=fun h':i+1<s.length=>cY (d:=(0:UInt8)) h'
    generalize ((i+1:Nat):Int)=J at hwJ bJ inJ atJ hq hr
    by_cases h58:s[i]=58
    ·have h35:s[i]≠35:=by rw[h58];decide
     have hlast:((i:Int)==IntKind.wrap .i64 ((s.length:Int)-1))=decide (s.length<=i+1):=by
      rw[sW s.length (by omega) (by omega),Bool.eq_iff_iff,beq_iff_eq,decide_eq_true_eq];omega
     by_cases h':i+1<s.length
     ·have hl:decide (s.length<=i+1)=false:=decide_eq_false (by omega)
      have hb:fq s (i+1)=(s[i+1]==32):=by simp[fq,h']
      cases hx:s[i+1]==32 with
      |true =>
       obtain rfl:X=.inr false:=by rw[<-hX,hb,hx,h58];simp[plr]
       exact⟨by simp[h58,hwJ,bJ,hb,hx],by simp[h58,hlast,hl,hwJ,inJ h',atJ h',b32,gQ,hx]⟩
      |false =>
       obtain rfl:X=plr r:=by rw[<-hX,hb,hx,h58];simp
       exact⟨by simp[h58,hwJ,bJ,hb,hx,hq],by simp[h58,hlast,hl,hwJ,inJ h',atJ h',b32,gQ,hx,hr]⟩
     ·have hl:decide (s.length<=i+1)=true:=decide_eq_true (by omega)
      have hb:fq s (i+1)=true:=by simp[fq,h']
      obtain rfl:X=.inr false:=by rw[<-hX,hb,h58];simp[plr]
      exact⟨by simp[h58,hwJ,bJ,hb],by simp[h58,hlast,hl]⟩
    ·have n58:(s[i]==58)=false:=by simpa using h58
     by_cases h35:s[i]=35
     ·have hi0:0<i:=by
       rcases Nat.eq_zero_or_pos i with rfl|h9
       ·exact absurd h35 (h0 h)
       ·exact h9
      have hp:i-1<s.length:=by omega
      have hwK:=sW i (by omega) hi0
      have bK:=bl n (i-1) s
      have inK:=bU hp
      have atK:=cY (d:=(0:UInt8)) hp
      have hgt:decide ((i:Int)>0)=true:=decide_eq_true (by omega)
      have hb:fq s (i-1)=(s[i-1]==32):=by simp[fq,hp]
      generalize ((i-1:Nat):Int)=K at hwK bK inK atK
      cases hx:s[i-1]==32 with
      |true =>
       obtain rfl:X=.inr false:=by rw[<-hX,hb,hx,n58,h35];simp[plr]
       exact⟨by simp[h58,h35,hwK,bK,hb,hx],by simp only[h58,h35,hgt,hwK,inK,atK,b32,gQ,hx];simp⟩
      |false =>
       obtain rfl:X=plr r:=by rw[<-hX,hb,hx,n58,h35];simp
       exact⟨by simp[h58,h35,hwK,bK,hb,hx,hwJ,hq],by simp only[h58,h35,hgt,hwK,inK,atK,b32,gQ,hx,hwJ,hr];simp⟩
     ·have n35:(s[i]==35)=false:=by simpa using h35
      obtain rfl:X=plr r:=by rw[<-hX,n58,n35];simp
      exact⟨by simp[h58,h35,hwJ,hq],by simp[h58,h35,hwJ,hr]⟩
  ·rw[JB (Nat.not_lt.1 h)]
   exact⟨by rw[if_neg (by rw[iM (Nat.not_lt.1 h)];exact Bool.false_ne_true)];rfl,by rw[if_neg (by rw[iM (Nat.not_lt.1 h)];exact Bool.false_ne_true)];rfl⟩
def dm(s:Bs):Bool :=
 if h:0<s.length then
  !(s==[126])&&!(s==[110,117,108,108])&&!(s[0]==32)&&!(s[s.length-1]==32)&&!(yg.contains s[0])&&!(s[0]==45&&fq s 1)&&gY s 0
 else false
def rowB(s:Bs):Bool:=!(s.any sp5.contains)&&dm s
theorem tG(n:Nat)(s:Bs)(hs:s.length<=100000)(hn:200000<=n):iz n s=some (dm s)/\nR n s=some (dm s):=by
 have hone:=fun c=>Le n c yg (by decide) hn
 unfold iz nR
 by_cases hw:s=[]\/s=[126]\/s=[110,117,108,108]
 ·rcases hw with rfl|rfl|rfl<;>exact⟨by simp[aP,dm],by simp[aP,dm]⟩
 ·have hne:s≠[]:=fun e=>hw (.inl e)
  have hlen:0<s.length:=List.length_pos_iff.2 hne
  have e1:(s==[])=false:=by simpa using hne
  have e2:(s==[126])=false:=by simp;exact fun e=>hw (.inr (.inl e))
  have e3:(s==[110,117,108,108])=false:=by simp;exact fun e=>hw (.inr (.inr e))
  have e4:((List.length s:Int)==0)=false:=by simp;exact hne
  have hp:s.length-1<s.length:=by omega
  have z0:decide (0<=(0:Int)/\(0:Int)<(List.length s:Int))=true:=bU hlen
  have z1:(s[Int.toNat 0]?.getD 0)=s[0]:=cY hlen
  have hwK:=sW s.length (by omega) hlen
  have inK:=bU hp
  have atK:=cY (d:=(0:UInt8)) hp
  have hX:∃X,dm s=X:=⟨_,rfl⟩
  obtain⟨X,hX⟩:=hX
  rw[hX]
  unfold dm at hX
  rw[dif_pos hlen,e2,e3] at hX
  generalize ((s.length-1:Nat):Int)=K at hwK inK atK
  simp only[e1,e2,e3,e4,z0,z1,hwK,inK,atK,b32,b45,aP,Sj,Bool.or_true,if_true,cond_false]
  by_cases h32:s[0]=32
  ·obtain rfl:X=false:=by rw[<-hX,h32];simp
   exact⟨by simp[h32],by simp[h32]⟩
  ·have n32:(s[0]==32)=false:=by simpa using h32
   by_cases hl32:s[s.length-1]=32
   ·obtain rfl:X=false:=by rw[<-hX,hl32];simp
    exact⟨by simp[h32,hl32],by simp[h32,hl32]⟩
   ·have m32:(s[s.length-1]==32)=false:=by simpa using hl32
    have hone0:qQ n (s[0].toNat:Int) [63,58,44,91,93,123,125,35,38,42,33,124,62,39,34,37,64,96]=some (yg.contains s[0]):=hone s[0]
    rw[hone0]
    cases hsp:yg.contains s[0] with
    |true =>
     obtain rfl:X=false:=by rw[<-hX,hsp];simp
     exact⟨by simp[h32,hl32],by simp[h32,hl32]⟩
    |false =>
     have h35:∀h:0<s.length,s[0]≠35:=by
      intro _ e
      rw[e] at hsp
      exact absurd hsp (by decide)
     obtain⟨hq,hr⟩:=Qs n s hs h35 n 0 (by omega) (by omega)
     have hq:jg n s s (s.length:Int) n 0=some (plr (gY s 0)):=hq
     have hr:kP n s (s.length:Int) n 0=some (plr (gY s 0)):=hr
     have hb:(Sum.elim (fun _=>some true) (fun o4=>some o4):Sum Unit Bool->Option Bool) (plr (gY s 0))=some (gY s 0):=by cases gY s 0<;>rfl
     generalize plr (gY s 0)=r at hq hr hb
     rw[n32,m32,hsp] at hX
     have b1:=bl n 1 s
     have b1:gv n 1 s=some (fq s 1):=b1
     by_cases h45:s[0]=45
     ·by_cases h1:1<s.length
      ·have en:((List.length s:Int)==1)=false:=by rw[beq_eq_false_iff_ne];omega
       have y0:decide (0<=(1:Int)/\(1:Int)<(List.length s:Int))=true:=bU h1
       have y1:(s[Int.toNat 1]?.getD 0)=s[1]:=cY h1
       have hbl:fq s 1=(s[1]==32):=by simp[fq,h1]
       cases hx:s[1]==32 with
       |true =>
        obtain rfl:X=false:=by rw[<-hX,hbl,hx,h45];simp
        exact⟨by simp[h45,hl32,b1,hbl,hx],by simp only[h45,hl32,en,y0,y1,gQ,hx,b32];simp⟩
       |false =>
        obtain rfl:X=gY s 0:=by rw[<-hX,hbl,hx];simp
        exact⟨by simp only[h45,hl32,b1,hbl,hx,hq,gQ];simpa using hb,by simp only[h45,hl32,en,y0,y1,gQ,hx,hr,b32];simpa using hb⟩
      ·have en:((List.length s:Int)==1)=true:=by rw[beq_iff_eq];omega
       have hbl:fq s 1=true:=by simp[fq,h1]
       obtain rfl:X=false:=by rw[<-hX,hbl,h45];simp
       exact⟨by simp[h45,hl32,b1,hbl],by simp only[h45,hl32,en];simp⟩
     ·have n45:(s[0]==45)=false:=by simpa using h45
      obtain rfl:X=gY s 0:=by rw[<-hX,n45];simp
      exact⟨by simp only[h32,hl32,h45,hq];simpa using hb,by simp only[h32,hl32,h45,hr];simpa using hb⟩
theorem Bw(n:Nat)(s:Bs)(hs:s.length<=100000)(hn:200000<=n):lg n s=some (rowB s)/\qT n s=some (rowB s):=by
 obtain⟨h1,h2⟩:=tG n s hs hn
 unfold lg qT rowB
 rw[show((0:Int))=((0:Nat):Int) from rfl,Q5 n s hs n 0 (by omega) (by omega),Qr n s hs hn n 0 (by omega) (by omega),List.drop_zero,h1,h2]
 cases s.any sp5.contains<;>exact⟨rfl,rfl⟩
def ql(d:Nat):UInt8:=if d<10 then UInt8.ofNat (48+d) else UInt8.ofNat (87+d)
def esc(c:UInt8):Bs :=
 if c=34\/c=92 then [92,c] else if c=10 then [92,110] else if c=9 then [92,116] else if good c=false then [92,120,ql (c.toNat / 16),ql (c.toNat % 16)] else [c]
theorem Hl(c:UInt8):(esc c).length<=4:=by
 unfold esc;repeat' split
 all_goals simp
theorem RZ:∀c:UInt8,(decide (0<=(Int.fdiv (c.toNat:Int) (2 ^ (min (Int.toNat 4) (IntKind.bits .u8))))/\(Int.fdiv (c.toNat:Int) (2 ^ (min (Int.toNat 4) (IntKind.bits .u8))))<(List.length ([48,49,50,51,52,53,54,55,56,57,97,98,99,100,101,102]:Bs):Int)))=true /\
  (decide (0<=(IntKind.wrap .u8 ((BitVec.ofInt (IntKind.bits .u8) (c.toNat:Int) &&& BitVec.ofInt (IntKind.bits .u8) 15).toNat))/\(IntKind.wrap .u8 ((BitVec.ofInt (IntKind.bits .u8) (c.toNat:Int) &&& BitVec.ofInt (IntKind.bits .u8) 15).toNat))<(List.length ([48,49,50,51,52,53,54,55,56,57,97,98,99,100,101,102]:Bs):Int)))=true /\
  ((([48,49,50,51,52,53,54,55,56,57,97,98,99,100,101,102]:Bs))[Int.toNat (Int.fdiv (c.toNat:Int) (2 ^ (min (Int.toNat 4) (IntKind.bits .u8))))]?.getD 0)=ql (c.toNat / 16) /\
  ((([48,49,50,51,52,53,54,55,56,57,97,98,99,100,101,102]:Bs))[Int.toNat (IntKind.wrap .u8 ((BitVec.ofInt (IntKind.bits .u8) (c.toNat:Int) &&& BitVec.ofInt (IntKind.bits .u8) 15).toNat))]?.getD 0)=ql (c.toNat % 16):=gx (by decide +kernel)
theorem dq(n:Nat)(v0 v3:Bs)(v13:Int)(i:Nat)(h:i<v0.length)(hb:v3.length<=1000000):ko n v0 v3 v13 (i:Int)=some (v3++esc v0[i]):=by
 unfold ko
 simp only[bU h,cY h,if_true,aP]
 generalize v0[i]=c
 obtain⟨h1,h2,h3,h4⟩:=RZ c
 have hs:∀l:Bs,l.length<=4->decide ((List.length v3+List.length l)*(1+1)<=limit)=true:=fun l hl=>fits (by omega)
 simp only[b34,b92,b10,b9,yy,h1,h2,h3,h4,hs _ (by simp:[92,c].length<=4),hs _ (by simp:[(92:UInt8),110].length<=4),hs _ (by simp:[(92:UInt8),116].length<=4),hs _ (by simp:[c].length<=4),hs _ (by simp:[92,120,ql (c.toNat / 16),ql (c.toNat % 16)].length<=4),if_true]
 unfold esc
 by_cases c34:c=34
 ·simp[c34]
 ·by_cases c92:c=92
  ·simp[c92]
  ·by_cases c10:c=10
   ·simp[c10]
   ·by_cases c9:c=9
    ·simp[c9]
    ·cases hg:good c<;>simp[c34,c92,c10,c9]
theorem QN(n:Nat)(s:Bs)(hs:s.length<=100000):∀(k i:Nat)(acc:Bs),i<=s.length->s.length-i<k->acc.length+4*(s.length-i)<=1000000->jr n s (s.length:Int) k acc (i:Int)=some (acc++(s.drop i).flatMap esc)
 |0,i,acc,h1,h2,h3=>by omega
 |k+1,i,acc,h1,h2,h3=>by
  rw[jr]
  by_cases h:i<s.length
  ·rw[if_pos (gy h),dq n s acc _ i h (by omega),Option.bind_some,aZ i (by omega)]
   have:=Hl s[i]
   rw[QN n s hs k (i+1) _ (by omega) (by omega) (by simp;omega),drop_at h,List.flatMap_cons,List.append_assoc]
  ·rw[if_neg (by rw[iM (Nat.not_lt.1 h)];exact Bool.false_ne_true),List.drop_eq_nil_of_le (by omega)]
   simp
def bG(s:Bs):Bs:=[34]++s.flatMap esc++[34]
theorem lQ:∀s:Bs,(s.flatMap esc).length<=4*s.length
 |[]=>by simp
 |c::s=>by
  have:=Hl c;have:=lQ s
  simp only[List.flatMap_cons,List.length_append,List.length_cons];omega
theorem yG(n:Nat)(s:Bs)(hs:s.length<=100000)(hn:200000<=n):jq n s=some (bG s):=by
 have hl:=lQ s
 have hw:IntKind.wrap .i64 ((List.length s:Int)+2)=((s.length+2:Nat):Int):=CY _ (by omega)
 have e0:(List.drop 0 s)=s:=rfl
 have hd:decide ((List.length ([34]++s.flatMap esc)+List.length ([34]:Bs))*(1+1)<=limit)=true:=fits (by rw[List.length_append];simp only[List.length_cons,List.length_nil];omega)
 unfold jq
 have h1:decide ((0:Int)<=0/\(0:Int)<=((s.length+2:Nat):Int))=true:=by simp;omega
 have h2:decide (((s.length+2:Nat):Int)*((1+1:Nat):Int)<=(limit:Int))=true:=decide_eq_true (by show((s.length+2:Nat):Int)*((1+1:Nat):Int)<=((140737488355328:Nat):Int);omega)
 have h3:decide ((List.length ([]:Bs)+List.length ([34]:Bs))*(1+1)<=limit)=true:=by decide
 have:=QN n s hs n 0 ([]++[34]) (by omega) (by omega) (by simp;omega)
 rw[hw,if_pos h1,if_pos h2,if_pos h3,show((0:Int))=((0:Nat):Int) from rfl,this,Option.bind_some,List.drop_zero,List.nil_append,if_pos hd]
 rfl
theorem CS(l:List BS):(jS l).Pairwise (·<=·):=by
 have:=List.pairwise_mergeSort (le:=fun x y:BS=>decide (x<=y)) (fun a b c h1 h2=>by simp only[decide_eq_true_eq] at *;exact za h1 h2) (fun a b=>by simpa using NH a b) l
 exact this.imp fun h=>by simpa using h
theorem BH(zs:List BS)(hz:zs.Pairwise (·<=·)):∀m,m<=zs.length->Asc (Lib.compactUpTo zs.toArray m)/\∀x,x∈Lib.compactUpTo zs.toArray m↔x∈zs.take m
 |0,_=>by simp[Lib.compactUpTo]
 |m+1,hm=>by
  obtain⟨h1,h2⟩:=BH zs hz m (by omega)
  have hg:∀j (h:j<zs.length),zs.toArray[j]! = zs[j]:=fun j h=>by simp[h]
  have hle:∀j (h:j<zs.length),j<m->zs[j]<=zs[m]:=fun j h hj=>List.pairwise_iff_getElem.1 hz j m h (by omega) hj
  rw[Lib.compactUpTo_succ,List.take_succ_eq_append_getElem (by omega:m<zs.length)]
  by_cases hk:Lib.keeps zs.toArray m=true
  ·rw[if_pos hk,hg m (by omega)]
   refine⟨List.pairwise_append.2 ⟨h1,by simp,fun x hx y hy=>?_⟩,fun x=>by rw[List.mem_append,List.mem_append,h2]⟩
   rw[List.mem_singleton.1 hy]
   obtain⟨j,hj,rfl⟩:=List.mem_take_iff_getElem.1 ((h2 x).1 hx)
   have hjm:j<m:=by omega
   refine nM (hle j (by omega) hjm) fun e=>?_
   have hk':m=0\/zs.toArray[m]!≠zs.toArray[m-1]!:=by simpa[Lib.keeps] using hk
   rcases hk' with h0|h0
   ·omega
   ·rw[hg m (by omega),hg (m-1) (by omega)] at h0
    have a1:zs[j]<=zs[m-1]:=by
     by_cases hq:j=m-1
     ·subst hq;exact mH.1 (iU _)
     ·exact List.pairwise_iff_getElem.1 hz j (m-1) (by omega) (by omega) (by omega)
    have a2:zs[m-1]<=zs[m]:=hle (m-1) (by omega) (by omega)
    exact h0 (uO (e▸a1) a2)
  ·rw[if_neg hk,List.append_nil]
   refine⟨h1,fun x=>?_⟩
   have hk':¬(m=0\/zs.toArray[m]!≠zs.toArray[m-1]!):=by simpa[Lib.keeps] using hk
   have hm0:m≠0:=fun e=>hk' (.inl e)
   have he:zs[m]=zs[m-1]:=by
    have:zs.toArray[m]! = zs.toArray[m-1]!:=Classical.byContradiction fun h=>hk' (.inr h)
    rwa[hg m (by omega),hg (m-1) (by omega)] at this
   rw[h2,List.mem_append,List.mem_singleton]
   constructor
   ·exact fun h=>.inl h
   ·rintro(h|h)
    ·exact h
    ·rw[h,he]
     exact List.mem_take_iff_getElem.2 ⟨m-1,by omega,rfl⟩
theorem G6(l:List BS):Lib.compact (jS l)=srt l:=by
 obtain⟨h1,h2⟩:=BH (jS l) (CS l) _ (Nat.le_refl _)
 refine Asc.ext h1 (yQ l) fun x=>?_
 rw[qm]
 have:=h2 x
 rw[List.take_length] at this
 rw[show Lib.compact (jS l)=Lib.compactUpTo (jS l).toArray (jS l).length from rfl,this]
 exact List.mem_mergeSort
theorem Ov{a:Nat}(h:a<=1000000):decide (a*17<=limit)=true:=decide_eq_true (by show a*17<=140737488355328;omega)
theorem BM(n:Nat)(l:List BS)(h:l.length<=1000000):nT n l=some (srt l):=by
 unfold nT
 have h1:decide ((List.length ([]:List BS)+List.length l)*(16+1)<=limit)=true:=Ix (by simp;omega)
 have h3:(Sh.sort l).length=l.length:=List.length_mergeSort l
 rw[if_pos h1,List.nil_append,if_pos (Ov h),if_pos (Ov (by omega))]
 exact congrArg some (G6 l)
def kj(out:List BS)(x:BS):Bool:=if out.length=0 then true else decide ((out[out.length-1]?.getD [])<x)
def IQ(l out:List BS)(i:Nat)(v:Int):Prop :=
 (v=-1/\∀j (h:j<l.length),j<i->kj out l[j]=false)\/∃(b:Nat)(h:b<l.length),v=(b:Int)/\b<i/\kj out l[b]=true/\∀j (h:j<l.length),j<i->kj out l[j]=true->l[b]<=l[j]
theorem last_at{out:List BS}(h0:out.length≠0)(ho:out.length<1000000):(decide (0<=(IntKind.wrap .i64 ((List.length out:Int)-1))/\(IntKind.wrap .i64 ((List.length out:Int)-1))<(List.length out:Int)))=true/\(out[Int.toNat (IntKind.wrap .i64 ((List.length out:Int)-1))]?.getD [])=(out[out.length-1]?.getD []):=by
 rw[sW out.length (by omega) (by omega)]
 exact⟨bU (by omega),rfl⟩
theorem Rx(n:Nat)(l out:List BS)(i:Nat)(v:Int)(hi:i<l.length)(ho:out.length<1000000)(hv:v=-1\/∃b:Nat,v=(b:Int)/\b<l.length) :
  pJ n l out v (i:Int)=some (if(kj out l[i]&&(decide (v<0)||decide (l[i]<(l[Int.toNat v]?.getD []))))=true then(i:Int) else v):=by
 have hA:(bif ((List.length out:Int)==0) then true else(!(Op.bytesLess (l[Int.toNat (i:Int)]?.getD []) (out[Int.toNat (IntKind.wrap .i64 ((List.length out:Int)-1))]?.getD [])||(l[Int.toNat (i:Int)]?.getD [])==(out[Int.toNat (IntKind.wrap .i64 ((List.length out:Int)-1))]?.getD []))))=kj out l[i]:=by
  unfold kj
  rw[PK,cY hi]
  by_cases h0:out.length=0
  ·simp[h0]
  ·have e:((List.length out:Int)==0)=false:=by rw[beq_eq_false_iff_ne];omega
   rw[e,if_neg h0,(last_at h0 ho).2,cond_false,Bool.eq_iff_iff]
   simp[Dx]
 unfold pJ
 rw[hA]
 have c2:(!(((List.length out:Int)==0)==false)||decide (0<=(IntKind.wrap .i64 ((List.length out:Int)-1))/\(IntKind.wrap .i64 ((List.length out:Int)-1))<(List.length out:Int)))=true:=by
  by_cases h0:out.length=0
  ·simp[h0]
  ·rw[(last_at h0 ho).1,Bool.or_true]
 have c4:(!(((decide (v<0))==false)&&(kj out l[i]==true))||decide (0<=v/\v<(List.length l:Int)))=true:=by
  rcases hv with rfl|⟨b,rfl,hb⟩
  ·simp
  ·rw[bU hb,Bool.or_true]
 simp only[bU hi,Bool.or_true,if_true,c2,c4,aP,zJ,cY hi]
 cases kj out l[i]<;>cases decide (v<0)<;>simp
 split<;>rfl
theorem Lc{l out:List BS}{i:Nat}{v:Int}(hi:i<l.length)(h:IQ l out i v):IQ l out (i+1) (if(kj out l[i]&&(decide (v<0)||decide (l[i]<(l[Int.toNat v]?.getD []))))=true then(i:Int) else v):=by
 cases ha:kj out l[i] with
 |false =>
  rw[Bool.false_and,if_neg Bool.false_ne_true]
  rcases h with⟨rfl,h⟩|⟨b,hb,rfl,hbi,hab,h⟩
  ·refine .inl ⟨rfl,fun j hj hji=>?_⟩
   by_cases e:j=i
   ·subst e;exact ha
   ·exact h j hj (by omega)
  ·refine .inr ⟨b,hb,rfl,by omega,hab,fun j hj hji haj=>?_⟩
   by_cases e:j=i
   ·subst e;rw[ha] at haj;cases haj
   ·exact h j hj (by omega) haj
 |true =>
  rw[Bool.true_and]
  rcases h with⟨rfl,h⟩|⟨b,hb,rfl,hbi,hab,h⟩
  ·rw[if_pos (by simp)]
   refine .inr ⟨i,hi,rfl,by omega,ha,fun j hj hji haj=>?_⟩
   by_cases e:j=i
   ·subst e;exact mH.1 (iU _)
   ·rw[h j hj (by omega)] at haj;cases haj
  ·have e0:decide ((b:Int)<0)=false:=decide_eq_false (by omega)
   rw[e0,Bool.false_or,cY hb]
   by_cases hlt:l[i]<l[b]
   ·rw[if_pos (decide_eq_true hlt)]
    refine .inr ⟨i,hi,rfl,by omega,ha,fun j hj hji haj=>?_⟩
    by_cases e:j=i
    ·subst e;exact mH.1 (iU _)
    ·exact za (uF hlt) (h j hj (by omega) haj)
   ·rw[if_neg (by simpa using hlt)]
    refine .inr ⟨b,hb,rfl,by omega,hab,fun j hj hji haj=>?_⟩
    by_cases e:j=i
    ·subst e;exact mH.1 hlt
    ·exact h j hj (by omega) haj
theorem Ob(n:Nat)(l out:List BS)(hl:l.length<1000000)(ho:out.length<1000000):∀(k i:Nat)(v:Int),i<=l.length->l.length-i<k->IQ l out i v->∃r,ki n l out k v (i:Int)=some r/\IQ l out l.length r
 |0,i,v,_,h,_=>by omega
 |k+1,i,v,h1,h2,hb=>by
  rw[ki]
  by_cases h:i<l.length
  ·have hv:v=-1\/∃b:Nat,v=(b:Int)/\b<l.length:=by
    rcases hb with⟨e,_⟩|⟨b,hb,e,_⟩
    ·exact .inl e
    ·exact .inr ⟨b,e,hb⟩
   rw[if_pos (gy h),Rx n l out i v h ho hv,Option.bind_some,aZ i (by omega)]
   exact Ob n l out hl ho k (i+1) _ (by omega) (by omega) (Lc h hb)
  ·have:i=l.length:=by omega
   subst this
   rw[if_neg (by rw[nq];exact Bool.false_ne_true)]
   exact⟨v,rfl,hb⟩
theorem Oq(n:Nat)(l:List BS)(hl:l.length<100000)(hn:100000<=n):∀(k m:Nat),m<=(srt l).length->(srt l).length-m<k->mj n l k ((srt l).take m)=some (srt l)
 |0,m,_,h=>by omega
 |k+1,m,h1,h2=>by
  have hlen:=nV l
  have hA:=yQ l
  have htl:((srt l).take m).length=m:=by rw[List.length_take];omega
  have hab:∀x,kj ((srt l).take m) x=true↔(m=0\/∃h:m-1<(srt l).length,(srt l)[m-1]<x):=by
   intro x
   unfold kj
   rw[htl]
   by_cases h0:m=0
   ·simp[h0]
   ·rw[if_neg h0,List.getElem?_take,if_pos (by omega),List.getElem?_eq_getElem (by omega)]
    simp[h0]
    constructor
    ·exact fun h=>⟨by omega,h⟩
    ·exact fun⟨_,h⟩=>h
  obtain⟨r,hr,hb⟩:=Ob n l ((srt l).take m) (by omega) (by omega) n 0 (-1) (by omega) (by omega) (.inl ⟨rfl,fun j _ h=>by omega⟩)
  have hr:ki n l ((srt l).take m) n (-1) 0=some r:=hr
  rw[mj,hr,Option.bind_some]
  rcases hb with⟨rfl,hb⟩|⟨b,hbl,rfl,_,hcb,hb⟩
  ·have hm:m=(srt l).length:=by
    refine Classical.byContradiction fun hne=>?_
    have hmT:m<(srt l).length:=by omega
    obtain⟨j,hj,e⟩:=List.mem_iff_getElem.1 (qm.1 (List.getElem_mem hmT))
    have:=hb j hj hj
    rw[e] at this
    have h3:kj ((srt l).take m) (srt l)[m]=true:=by
     rw[hab]
     by_cases h0:m=0
     ·exact .inl h0
     ·exact .inr ⟨by omega,List.pairwise_iff_getElem.1 hA (m-1) m (by omega) hmT (by omega)⟩
    rw[this] at h3;cases h3
   rw[if_pos (by decide)]
   subst hm
   rw[List.take_length]
  ·obtain⟨j,hj,e⟩:=List.mem_iff_getElem.1 (qm.2 (List.getElem_mem hbl):l[b]∈srt l)
   have hmj:m<=j:=by
    rcases(hab _).1 hcb with h0|⟨h0,h3⟩
    ·omega
    ·refine Classical.byContradiction fun hne=>?_
     rw[<-e] at h3
     by_cases hq:j=m-1
     ·subst hq;exact iU _ h3
     ·exact iU _ (wC h3 (List.pairwise_iff_getElem.1 hA j (m-1) hj h0 (by omega)))
   have hmT:m<(srt l).length:=by omega
   have hbm:l[b]=(srt l)[m]:=by
    obtain⟨j',hj',e'⟩:=List.mem_iff_getElem.1 (qm.1 (List.getElem_mem hmT))
    have h3:kj ((srt l).take m) (srt l)[m]=true:=by
     rw[hab]
     by_cases h0:m=0
     ·exact .inl h0
     ·exact .inr ⟨by omega,List.pairwise_iff_getElem.1 hA (m-1) m (by omega) hmT (by omega)⟩
    have h4:=hb j' hj' hj' (by rw[e'];exact h3)
    rw[e'] at h4
    refine uO h4 ?_
    rw[<-e]
    by_cases hq:j=m
    ·subst hq;exact mH.1 (iU _)
    ·exact uF (List.pairwise_iff_getElem.1 hA m j hmT hj (by omega))
   have e0:decide ((b:Int)<0)=false:=decide_eq_false (by omega)
   have hc:decide ((List.length ((srt l).take m)+List.length ([l[b]]:List BS))*(16+1)<=limit)=true:=Ix (by rw[htl];simp;omega)
   rw[e0,if_neg Bool.false_ne_true,if_pos (bU hbl),cY hbl,if_pos hc,hbm,<-List.take_succ_eq_append_getElem hmT]
   exact Oq n l hl hn k (m+1) (by omega) (by omega)
theorem ug(n:Nat)(l:List BS)(hl:l.length<10000)(hn:100000<=n):tZ n l=some (srt l):=by
 unfold tZ
 have:=Oq n l (by omega) hn n 0 (by omega) (by have:=nV l;omega)
 rw[List.take_zero] at this
 rw[this];rfl
theorem O1{l m:List BS}{i:Nat}(h1:i<l.length)(h2:i<m.length):(l.drop i=m.drop i)↔l[i]=m[i]/\l.drop (i+1)=m.drop (i+1):=by
 rw[drop_at h1,drop_at h2,List.cons.injEq]
theorem Mc{L:Nat->Int->Option (Sum Unit Bool)}(l m:List BS)(hlm:l.length=m.length)(hl:l.length<10000)
  (hs:∀k i (h:i<l.length) (h':i<m.length),L (k+1) (i:Int)=if(!(l[i]==m[i]))=true then some (.inr false) else L k (IntKind.wrap .i64 ((i:Int)+1)))
  (he:∀k,L (k+1) (l.length:Int)=some (.inl ())):∀k i,i<=l.length->l.length-i<k->L k (i:Int)=some (if l.drop i=m.drop i then .inl () else .inr false)
 |0,i,_,h=>by omega
 |k+1,i,h1,h2=>by
  by_cases h:i<l.length
  ·have h':i<m.length:=by omega
   rw[hs k i h h']
   simp only[O1 h h']
   by_cases e:l[i]=m[i]
   ·simp only[e,beq_self_eq_true,Bool.not_true,Bool.false_eq_true,if_false,true_and]
    rw[aZ i (by omega)]
    exact Mc l m hlm hl hs he k (i+1) (by omega) (by omega)
   ·simp[e]
  ·have:i=l.length:=by omega
   subst this
   rw[he,List.drop_eq_nil_of_le (Nat.le_refl _),List.drop_eq_nil_of_le (by omega),if_pos rfl]
theorem Ec(n:Nat)(l m:List BS)(hl:l.length<10000)(hn:100000<=n):pF n l m=some (decide (l=m)):=by
 unfold pF
 by_cases hlm:l.length=m.length
 ·have e:((List.length l:Int) != (List.length m:Int))=false:=by simp[hlm]
  have:=Mc (L:=jB n l m) l m hlm hl
   (fun k i h h'=>by rw[jB,if_pos (gy h),if_pos (bU h),if_pos (bU h'),cY h,cY h'])
   (fun k=>by rw[jB,nq];rfl) n 0 (by omega) (by omega)
  rw[e,if_neg Bool.false_ne_true,show(0:Int)=((0:Nat):Int) from rfl,this,List.drop_zero,List.drop_zero]
  by_cases h:l=m
  ·rw[if_pos h,decide_eq_true h];rfl
  ·rw[if_neg h,decide_eq_false h];rfl
 ·have e:((List.length l:Int) != (List.length m:Int))=true:=by simpa using fun h=>hlm (by omega)
  rw[e,if_pos rfl,decide_eq_false (fun h=>hlm (congrArg List.length h))]
abbrev Nd:=af
abbrev Z8:Nd:=af.mk 0 [] [] []
def Fit:Nat->Nd->Prop
 |0,_=>False
 |d+1,t=>t.aj.length<=2000/\t.aA.length<=2000/\(t.aF≠1->t.au=[])/\(t.aF≠3->t.aA=[])/\(t.aF=3->t.aA.length=t.aj.length/\t.aA.Nodup)/\(t.aF<2->t.aj=[])/\(0<=t.aF/\t.aF<=3)/\∀x∈t.aj,Fit d x
def sz8:Nat->Nd->Nat
 |0,_=>1
 |d+1,t=>1+(t.aj.map (sz8 d)).sum
theorem pY:∀d t,1<=sz8 d t
 |0,_=>Nat.le_refl 1
 |d+1,t=>by unfold sz8;omega
def Shk(b:Nat):Nat->Nd->Prop
 |0,_=>True
 |d+1,t=>t.au.length<=b/\(∀k∈t.aA,k.length<=b)/\∀x∈t.aj,Shk b d x
theorem Shk.mono{b c:Nat}(hbc:b<=c):∀{d:Nat}{t:Nd},Shk b d t->Shk c d t
 |0,_,_=>trivial
 |d+1,t,⟨h1,h2,h3⟩=>⟨Nat.le_trans h1 hbc,fun k hk=>Nat.le_trans (h2 k hk) hbc,fun x hx=>(h3 x hx).mono hbc⟩
theorem Hr{x:BS}:∀{l:List BS},Asc l->x∈l->(ins x l).length=l.length
 |[],_,h=>by cases h
 |y::l,ha,h=>by
  obtain⟨h1,h2⟩:=List.pairwise_cons.1 ha
  unfold ins
  split
  ·rename_i hx
   rcases List.mem_cons.1 h with e|hm
   ·subst e;exact(iU _ hx).elim
   ·exact(iU _ (wC hx (h1 x hm))).elim
  ·split
   ·rfl
   ·rename_i hx hy
    rcases List.mem_cons.1 h with e|hm
    ·exact(hy e).elim
    ·rw[List.length_cons,Hr h2 hm,List.length_cons]
theorem xN:∀{l:List BS},(srt l).length=l.length->l.Nodup
 |[],_=>.nil
 |x::l,h=>by
  have h0:srt (x::l)=ins x (srt l):=rfl
  have h1:=nV l
  rw[h0,List.length_cons] at h
  by_cases hx:x∈srt l
  ·rw[Hr (yQ l) hx] at h;omega
  ·have h2:=rE x (srt l)
   refine List.nodup_cons.2 ⟨fun hm=>hx (qm.2 hm),xN (by omega)⟩
theorem Dw(R:Nd->Int->Int->Option Int)(n d:Nat)(dep:Int)(t:Nd)(hdep:0<=dep/\dep<100)
  (hR:∀x∈t.aj,∀l:Nat,l<=2000->∃r,R x (dep+1) (l:Int)=some r/\(r=-1\/∃q:Nat,r=(q:Int)/\Fit d x/\q+sz8 d x<=l)) :
  ∀(k l i:Nat),l+1<k->i<=t.aj.length->i+l<=2000 ->
   dN R n dep t k (l:Int) (i:Int)=some (.inr (-1))\/∃q:Nat,dN R n dep t k (l:Int) (i:Int)=some (.inl (q:Int))/\q+((t.aj.drop i).map (sz8 d)).sum<=l/\∀x∈t.aj.drop i,Fit d x
 |0,l,i,h,_,_=>by omega
 |k+1,l,i,hk,hi,hil=>by
  by_cases h:i<t.aj.length
  ·have e1:IntKind.wrap .i64 (dep+1)=dep+1:=iQ _ (by omega) (by omega)
   obtain⟨r,h1,h2⟩:=hR t.aj[i] (List.getElem_mem h) l (by omega)
   have hst:dN R n dep t (k+1) (l:Int) (i:Int)=if(decide (r<0))=true then some (.inr (-1)) else dN R n dep t k r (IntKind.wrap .i64 ((i:Int)+1)):=by
    rw[dN,if_pos (gy h),if_pos (bU h),cY h,e1,h1];rfl
   rw[hst]
   rcases h2 with rfl|⟨q,rfl,hF,hq⟩
   ·exact .inl (if_pos rfl)
   ·have hp:=pY d t.aj[i]
    rw[if_neg (by simp),aZ i (by omega)]
    rcases Dw R n d dep t hdep hR k q (i+1) (by omega) (by omega) (by omega) with h3|⟨q',h3,h4,h5⟩
    ·exact .inl h3
    ·refine .inr ⟨q',h3,?_,?_⟩
     ·rw[drop_at h,List.map_cons,List.sum_cons];omega
     ·rw[drop_at h]
      intro x hx
      rcases List.mem_cons.1 hx with rfl|hx
      ·exact hF
      ·exact h5 x hx
  ·have:i=t.aj.length:=by omega
   subst this
   refine .inr ⟨l,?_,?_,?_⟩
   ·rw[dN,nq];rfl
   ·rw[List.drop_eq_nil_of_le (Nat.le_refl _)];simp
   ·rw[List.drop_eq_nil_of_le (Nat.le_refl _)];intro x hx;cases hx
theorem wY{a b:Bool}:(bif a then true else b)=(a||b):=by cases a<;>rfl
theorem yO{a b:Bool}:(bif a then b else false)=(a&&b):=by cases a<;>rfl
theorem left_eq:∀(d n:Nat)(t:Nd)(dep:Int)(l:Nat),dep+(d:Int)=13->0<=dep->l<=2000->100000+d<n ->
  ∃r,fB n t dep (l:Int)=some r/\(r=-1\/∃q:Nat,r=(q:Int)/\Fit d t/\q+sz8 d t<=l)
 |_,0,_,_,_,_,_,_,h=>by omega
 |0,n+1,t,dep,l,hd,h0,hl,hn=>by
  refine⟨-1,?_,.inl rfl⟩
  show jT (fB n) n t dep (l:Int)=_
  unfold jT
  have:decide (dep>12)=true:=decide_eq_true (by omega)
  simp only[this,aP,wY,Bool.or_true,Bool.true_or,if_true]
 |d+1,n+1,t,dep,l,hd,h0,hl,hn=>by
  show ∃r,jT (fB n) n t dep (l:Int)=some r/\_
  unfold jT
  have e1:IntKind.wrap .i64 ((l:Int)-1)=(l:Int)-1:=iQ _ (by omega) (by omega)
  simp only[aP,e1,wY,yO]
  by_cases c1:(decide ((l:Int)-1<0)||decide (dep>12)||decide (t.aF<0)||decide (t.aF>3))=true
  ·exact⟨-1,if_pos c1,.inl rfl⟩
  rw[if_neg c1]
  by_cases c2:((t.aF != 1&&decide ((List.length t.au:Int)>0))||(t.aF != 3&&decide ((List.length t.aA:Int)>0))||(decide (t.aF<2)&&decide ((List.length t.aj:Int)>0)))=true
  ·exact⟨-1,if_pos c2,.inl rfl⟩
  rw[if_neg c2]
  simp only[Bool.or_eq_true,Bool.and_eq_true,decide_eq_true_eq,bne_iff_ne,ne_eq,not_or,not_and,gt_iff_lt,Int.not_lt] at c1 c2
  obtain⟨⟨⟨a1,a2⟩,a3⟩,a4⟩:=c1
  obtain⟨⟨b1,b2⟩,b3⟩:=c2
  obtain⟨l,rfl⟩:∃l',l=l'+1:=⟨l-1,by omega⟩
  have e2:((l+1:Nat):Int)-1=(l:Int):=by omega
  rw[e2]
  have loop:=Dw (fB n) n d dep t (by omega) (fun x _ l' hl'=>left_eq d n x (dep+1) l' (by omega) (by omega) hl' (by omega)) n l 0 (by omega) (Nat.zero_le _) (by omega)
  have fin:(t.aF=3->t.aA.length=t.aj.length/\t.aA.Nodup)->∃r,((dN (fB n) n dep t n (l:Int) 0).bind fun o5=>(Sum.elim (fun o5=>some o5) (fun o5=>some o5)) o5)=some r/\(r=-1\/∃q:Nat,r=(q:Int)/\Fit (d+1) t/\q+sz8 (d+1) t<=l+1):=by
   intro hk
   rcases loop with h3|⟨q,h3,h4,h5⟩
   ·have h3:dN (fB n) n dep t n (l:Int) 0=_:=h3
    exact⟨-1,by rw[h3];rfl,.inl rfl⟩
   ·have h3:dN (fB n) n dep t n (l:Int) 0=_:=h3
    rw[List.drop_zero] at h4 h5
    have hs:∀(f:Nd->Nat)(m:List Nd),(∀x,1<=f x)->m.length<=(m.map f).sum:=by
     intro f m hf
     induction m with
     |nil=>exact Nat.le_refl 0
     |cons x m ih=>rw[List.map_cons,List.sum_cons,List.length_cons];have:=hf x;omega
    have hkl:=hs (sz8 d) t.aj (pY d)
    refine⟨q,by rw[h3];rfl,.inr ⟨q,rfl,⟨by omega,?_,fun h=>List.eq_nil_of_length_eq_zero (by have:=b1 h;omega),fun h=>List.eq_nil_of_length_eq_zero (by have:=b2 h;omega),hk,fun h=>List.eq_nil_of_length_eq_zero (by have:=b3 h;omega),⟨by omega,by omega⟩,h5⟩,?_⟩⟩
    ·by_cases h:t.aF=3
     ·have:=hk h;omega
     ·have:=b2 h;omega
    ·show q+(1+(t.aj.map (sz8 d)).sum)<=l+1;omega
  by_cases h3:t.aF=3
  ·have e3:(t.aF==3)=true:=by rw[h3];rfl
   rw[e3]
   by_cases c3:((List.length t.aA:Int) != (List.length t.aj:Int)||decide ((List.length t.aj:Int)>(l:Int)))=true
   ·rw[c3]
    exact⟨-1,rfl,.inl rfl⟩
   ·have c3':((List.length t.aA:Int) != (List.length t.aj:Int)||decide ((List.length t.aj:Int)>(l:Int)))=false:=by simpa using c3
    rw[c3']
    simp only[Bool.or_eq_true,bne_iff_ne,ne_eq,decide_eq_true_eq,not_or,Decidable.not_not] at c3
    obtain⟨c4,c5⟩:=c3
    have hso:=ug n t.aA (by omega) (by omega)
    simp only[beq_self_eq_true,Bool.and_self,if_true,hso,Option.bind_some,Bool.false_or,Bool.true_and]
    by_cases c6:((List.length (srt t.aA):Int) != (List.length t.aA:Int))=true
    ·exact⟨-1,if_pos c6,.inl rfl⟩
    ·rw[if_neg c6]
     simp only[bne_iff_ne,ne_eq,Decidable.not_not] at c6
     exact fin fun _=>⟨by omega,xN (by omega)⟩
  ·have e3:(t.aF==3)=false:=by rw[beq_eq_false_iff_ne];exact h3
   rw[e3]
   simp only[Bool.false_and,Bool.and_false,Bool.false_eq_true,if_false,Option.bind_some,show(false==true)=false from rfl]
   exact fin fun h=>(h3 h).elim
theorem Ik{x:BS}:∀{l:List BS},x∉l->(ins x l).length=l.length+1
 |[],_=>rfl
 |y::l,h=>by
  unfold ins
  split
  ·simp
  ·split
   ·rename_i e;subst e;exact(h List.mem_cons_self).elim
   ·rw[List.length_cons,Ik fun hm=>h (List.mem_cons_of_mem _ hm),List.length_cons]
theorem CP:∀{l:List BS},l.Nodup->(srt l).length=l.length
 |[],_=>rfl
 |x::l,h=>by
  obtain⟨h1,h2⟩:=List.nodup_cons.1 h
  show(ins x (srt l)).length=_
  rw[Ik (fun hm=>h1 (qm.1 hm)),CP h2,List.length_cons]
def BJ:Nat->Nd->Prop
 |0,_=>True
 |d+1,t=>t.aj.length<=1000000/\t.aA.length<=1000000/\∀x∈t.aj,BJ d x
theorem Fit.wide:∀{d:Nat}{t:Nd},Fit d t->BJ d t
 |0,_,h=>h.elim
 |d+1,t,⟨h1,h2,_,_,_,_,_,h8⟩=>⟨by omega,by omega,fun x hx=>(h8 x hx).wide⟩
theorem Ai(R:Nd->Int->aJ->Option (Bool×aJ))(n d:Nat)(dep:Int)(kids:List Nd)(hdep:0<=dep/\dep<100)
  (hR:∀x∈kids,∀l:Nat,l<=2000->∃b q,R x (dep+1) (aJ.mk (l:Int))=some (b,q)/\(b=true↔Fit d x/\sz8 d x<=l)/\(b=true->q=aJ.mk ((l-sz8 d x:Nat):Int))) :
  ∀(k l i:Nat),l+1<k->i<=kids.length->i+l<=2000 ->
   (∃q:Nat,bu R n dep kids (List.length kids:Int) k (i:Int) (aJ.mk (l:Int))=some (.inl (aJ.mk (q:Int)))/\q+((kids.drop i).map (sz8 d)).sum=l/\∀x∈kids.drop i,Fit d x) \/
   (∃q,bu R n dep kids (List.length kids:Int) k (i:Int) (aJ.mk (l:Int))=some (.inr (false,q))/\¬((∀x∈kids.drop i,Fit d x)/\((kids.drop i).map (sz8 d)).sum<=l))
 |0,l,i,h,_,_=>by omega
 |k+1,l,i,hk,hi,hil=>by
  by_cases h:i<kids.length
  ·have e1:IntKind.wrap .i64 (dep+1)=dep+1:=iQ _ (by omega) (by omega)
   obtain⟨b,q,h1,h2,h3⟩:=hR kids[i] (List.getElem_mem h) l (by omega)
   have hst:bu R n dep kids (List.length kids:Int) (k+1) (i:Int) (aJ.mk (l:Int))=if(!b)=true then some (.inr (false,q)) else bu R n dep kids (List.length kids:Int) k (IntKind.wrap .i64 ((i:Int)+1)) q:=by
    rw[bu,if_pos (gy h),if_pos (bU h),cY h,e1,h1];rfl
   rw[hst,drop_at h,List.map_cons,List.sum_cons]
   cases b with
   |false =>
    refine .inr ⟨q,rfl,fun hh=>?_⟩
    exact Bool.false_ne_true (h2.2 ⟨hh.1 _ List.mem_cons_self,by omega⟩)
   |true =>
    obtain⟨hF,hs⟩:=h2.1 rfl
    have hq:=h3 rfl
    subst hq
    have hp:=pY d kids[i]
    rw[if_neg (by simp),aZ i (by omega)]
    rcases Ai R n d dep kids hdep hR k (l-sz8 d kids[i]) (i+1) (by omega) (by omega) (by omega) with⟨q',h4,h5,h6⟩|⟨q',h4,h5⟩
    ·refine .inl ⟨q',h4,by omega,fun x hx=>?_⟩
     rcases List.mem_cons.1 hx with rfl|hx
     ·exact hF
     ·exact h6 x hx
    ·exact .inr ⟨q',h4,fun hh=>h5 ⟨fun x hx=>hh.1 x (List.mem_cons_of_mem _ hx),by omega⟩⟩
  ·have:i=kids.length:=by omega
   subst this
   refine .inl ⟨l,?_,?_,?_⟩
   ·rw[bu,nq];rfl
   ·rw[List.drop_eq_nil_of_le (Nat.le_refl _)];simp
   ·rw[List.drop_eq_nil_of_le (Nat.le_refl _)];intro x hx;cases hx
theorem EP{d:Nat}:∀m:List Nd,m.length<=(m.map (sz8 d)).sum
 |[]=>by simp
 |x::m=>by rw[List.map_cons,List.sum_cons,List.length_cons];have:=pY d x;have:=EP (d:=d) m;omega
theorem Oh{a b:Nat}(ha:a<=1000000)(hb:b<=1000000):(IntKind.wrap .i64 ((a:Int)+(b:Int))==0)=decide (a=0/\b=0):=by
 rw[iQ _ (by omega) (by omega),Bool.eq_iff_iff,beq_iff_eq,decide_eq_true_eq];omega
theorem right_eq:∀(d n:Nat)(t:Nd)(dep:Int)(l:Nat),dep+(d:Int)=13->0<=dep->l<=2000->BJ d t->100000+d<n ->
  ∃b q,cO n t dep (aJ.mk (l:Int))=some (b,q)/\(b=true↔Fit d t/\sz8 d t<=l)/\(b=true->q=aJ.mk ((l-sz8 d t:Nat):Int))
 |_,0,_,_,_,_,_,_,_,h=>by omega
 |0,n+1,t,dep,l,hd,h0,hl,hW,hn=>by
  show ∃b q,eE (cO n) n t dep (aJ.mk (l:Int))=some (b,q)/\_
  unfold eE
  have:decide (dep>12)=true:=decide_eq_true (by omega)
  refine⟨false,aJ.mk (IntKind.wrap .i64 ((l:Int)-1)),?_,⟨fun h=>(by cases h),fun h=>h.1.elim⟩,fun h=>(by cases h)⟩
  rw[this,show ∀b:Bool,(bif b then true else true)=true from fun b=>by cases b<;>rfl,if_pos rfl]
 |d+1,n+1,t,dep,l,hd,h0,hl,hW,hn=>by
  show ∃b q,eE (cO n) n t dep (aJ.mk (l:Int))=some (b,q)/\_
  obtain⟨w1,w2,w3⟩:=hW
  unfold eE
  have e1:IntKind.wrap .i64 ((l:Int)-1)=(l:Int)-1:=iQ _ (by omega) (by omega)
  have hdp:decide (dep>12)=false:=decide_eq_false (by omega)
  simp only[e1,hdp]
  cases l with
  |zero =>
   have:decide ((((0:Nat):Int)-1)<0)=true:=rfl
   refine⟨false,_,by rw[this];rfl,⟨fun h=>(by cases h),fun h=>?_⟩,fun h=>by cases h⟩
   have:=h.2
   have:=pY (d+1) t
   omega
  |succ l =>
   have e2:((l+1:Nat):Int)-1=(l:Int):=by omega
   have hlt:decide ((l:Int)<0)=false:=decide_eq_false (by omega)
   have hs:sz8 (d+1) t=1+(t.aj.map (sz8 d)).sum:=rfl
   rw[e2,hlt]
   simp only[cond_false,Bool.false_eq_true,if_false]
   have hsg:=EP (d:=d) t.aj
   have loop:=Ai (cO n) n d dep t.aj (by omega) (fun x hx l' hl'=>right_eq d n x (dep+1) l' (by omega) (by omega) hl' (w3 x hx) (by omega)) n l 0 (by omega) (Nat.zero_le _) (by omega)
   have loop0:∀(hk:(t.aF=2\/t.aF=3)/\t.au=[]/\(t.aF≠3->t.aA=[])/\(t.aF=3->t.aA.length=t.aj.length/\t.aA.Nodup)),
     ∃b q,(bu (cO n) n dep t.aj (List.length t.aj:Int) n 0 (aJ.mk (l:Int))).bind (fun o2=>(Sum.elim (fun o2=>some (true,o2)) (fun o2=>some (o2.1,o2.2)) o2:Option (Bool×aJ)))=some (b,q)/\(b=true↔Fit (d+1) t/\sz8 (d+1) t<=l+1)/\(b=true->q=aJ.mk ((l+1-sz8 (d+1) t:Nat):Int)):=by
    intro ⟨k1,k2,k3,k4⟩
    rw[List.drop_zero] at loop
    rcases loop with⟨q,h4,h5,h6⟩|⟨q,h4,h5⟩
    ·have h4:bu (cO n) n dep t.aj (List.length t.aj:Int) n 0 (aJ.mk (l:Int))=_:=h4
     rw[h4]
     refine⟨true,_,rfl,⟨fun _=>⟨⟨by omega,?_,fun _=>k2,k3,k4,fun h=>?_,⟨by omega,by omega⟩,h6⟩,by omega⟩,fun _=>rfl⟩,fun _=>?_⟩
     ·by_cases h3:t.aF=3
      ·have:=(k4 h3).1;omega
      ·rw[k3 h3];simp
     ·omega
     ·exact congrArg _ (by omega)
    ·have h4:bu (cO n) n dep t.aj (List.length t.aj:Int) n 0 (aJ.mk (l:Int))=_:=h4
     rw[h4]
     refine⟨false,_,rfl,⟨fun h=>(by cases h),fun⟨hF,hz⟩=>(h5 ⟨hF.2.2.2.2.2.2.2,by omega⟩).elim⟩,fun h=>by cases h⟩
   have leaf:∀(c:Bool),(c=true↔Fit (d+1) t/\sz8 (d+1) t<=l+1)->(c=true->t.aj=[])->∃b q,(some (c,aJ.mk (l:Int)):Option (Bool×aJ))=some (b,q)/\(b=true↔Fit (d+1) t/\sz8 (d+1) t<=l+1)/\(b=true->q=aJ.mk ((l+1-sz8 (d+1) t:Nat):Int)):=by
    intro c h1 h2
    refine⟨c,_,rfl,h1,fun hc=>?_⟩
    rw[hs,h2 hc]
    congr 1
   have nil_iff:∀{α:Type}(x:List α),x.length=0↔x=[]:=fun x=>List.length_eq_zero_iff
   unfold iK
   by_cases k0:t.aF=0
   ·rw[if_pos (by rw[k0];rfl),Oh w2 w1]
    refine leaf _ ⟨fun h=>?_,fun⟨hF,_⟩=>?_⟩ fun h=>?_
    ·cases ht:(t.au==[]) with
     |false=>rw[ht] at h;cases h
     |true =>
      rw[ht] at h
      have h:=of_decide_eq_true h
      rw[nil_iff,nil_iff] at h
      refine⟨⟨by rw[h.2];simp,by rw[h.1];simp,fun _=>by simpa using ht,fun _=>h.1,fun h3=>by omega,fun _=>h.2,⟨by omega,by omega⟩,fun x hx=>by rw[h.2] at hx;cases hx⟩,by rw[hs,h.2];simp⟩
    ·obtain⟨_,_,f3,f4,_,f6,_,_⟩:=hF
     rw[f3 (by omega),f4 (by omega),f6 (by omega)];rfl
    ·cases ht:(t.au==[]) with
     |false=>rw[ht] at h;cases h
     |true =>
      rw[ht] at h
      have h:=of_decide_eq_true h
      rw[nil_iff,nil_iff] at h
      exact h.2
   rw[if_neg (by simpa using k0)]
   by_cases k1:t.aF=1
   ·rw[if_pos (by rw[k1];rfl),Oh w2 w1]
    refine leaf _ ⟨fun h=>?_,fun⟨hF,_⟩=>?_⟩ fun h=>?_
    ·have h:=of_decide_eq_true h
     rw[nil_iff,nil_iff] at h
     exact⟨⟨by rw[h.2];simp,by rw[h.1];simp,fun h1=>(h1 k1).elim,fun _=>h.1,fun h3=>by omega,fun _=>h.2,⟨by omega,by omega⟩,fun x hx=>by rw[h.2] at hx;cases hx⟩,by rw[hs,h.2];simp⟩
    ·obtain⟨_,_,f3,f4,_,f6,_,_⟩:=hF
     rw[f4 (by omega),f6 (by omega)];rfl
    ·have h:=of_decide_eq_true h
     rw[nil_iff,nil_iff] at h
     exact h.2
   rw[if_neg (by simpa using k1)]
   by_cases k2:t.aF=2
   ·rw[if_pos (by rw[k2];rfl)]
    by_cases c:(bif (!(t.au==[])) then true else(decide ((List.length t.aA:Int)>0)))=true
    ·rw[if_pos c]
     refine leaf false ⟨fun h=>(by cases h),fun⟨hF,_⟩=>?_⟩ fun h=>by cases h
     obtain⟨_,_,f3,f4,_,f6,_,_⟩:=hF
     rw[f3 (by omega),f4 (by omega)] at c
     exact absurd c (by decide)
    ·rw[if_neg c]
     have c:(bif (!(t.au==[])) then true else(decide ((List.length t.aA:Int)>0)))=false:=by simpa using c
     have ct:t.au=[]:=by
      cases ht:(t.au==[]) with
      |false=>rw[ht] at c;cases c
      |true=>simpa using ht
     rw[ct] at c
     have c:decide ((List.length t.aA:Int)>0)=false:=c
     have c:=of_decide_eq_false c
     have ck:t.aA=[]:=(nil_iff _).1 (by omega)
     exact loop0 ⟨.inl k2,ct,fun _=>ck,fun h=>by omega⟩
   rw[if_neg (by simpa using k2)]
   by_cases k3:t.aF=3
   ·rw[if_pos (by rw[k3];rfl)]
    have hc:∃c,(bif (bif (!(t.au==[])) then true else((List.length t.aA:Int) != (List.length t.aj:Int))) then true else(decide ((List.length t.aA:Int)>(l:Int))))=c:=⟨_,rfl⟩
    obtain⟨c,hc⟩:=hc
    simp only[hc]
    cases c with
    |true =>
     refine leaf false ⟨fun h=>(by cases h),fun⟨hF,hz⟩=>?_⟩ fun h=>by cases h
     obtain⟨_,_,f3,f4,f5,f6,_,_⟩:=hF
     obtain⟨g1,g2⟩:=f5 k3
     rw[f3 (by omega)] at hc
     have e:((List.length t.aA:Int) != (List.length t.aj:Int))=false:=by rw[g1];simp
     have e2:decide ((List.length t.aA:Int)>(l:Int))=false:=decide_eq_false (by omega)
     rw[e,e2] at hc
     exact absurd hc (by decide)
    |false =>
     have ct:t.au=[]:=by
      cases ht:(t.au==[]) with
      |false=>rw[ht] at hc;cases hc
      |true=>simpa using ht
     rw[ct] at hc
     have hc:(bif ((List.length t.aA:Int) != (List.length t.aj:Int)) then true else(decide ((List.length t.aA:Int)>(l:Int))))=false:=hc
     have cl:t.aA.length=t.aj.length:=by
      cases hne:((List.length t.aA:Int) != (List.length t.aj:Int)) with
      |true=>rw[hne] at hc;cases hc
      |false =>
       simp only[bne_eq_false_iff_eq] at hne
       omega
     have e:((List.length t.aA:Int) != (List.length t.aj:Int))=false:=by rw[cl];simp
     rw[e] at hc
     have hc:decide ((List.length t.aA:Int)>(l:Int))=false:=hc
     have hc:=of_decide_eq_false hc
     have hso:=BM n t.aA (by omega)
     simp only[beq_self_eq_true,if_true,hso,Option.bind_some,aP,cond_false]
     by_cases hx:((List.length (srt t.aA):Int) != (List.length t.aA:Int))=true
     ·rw[if_pos hx]
      refine leaf false ⟨fun h=>(by cases h),fun⟨hF,hz⟩=>?_⟩ fun h=>by cases h
      obtain⟨_,_,f3,f4,f5,f6,_,_⟩:=hF
      obtain⟨g1,g2⟩:=f5 k3
      rw[CP g2] at hx
      exact absurd hx (by simp)
     ·rw[if_neg hx]
      simp only[bne_iff_ne,ne_eq,Decidable.not_not] at hx
      exact loop0 ⟨.inr k3,ct,fun h=>(h k3).elim,fun _=>⟨cl,xN (by omega)⟩⟩
   rw[if_neg (by simpa using k3)]
   exact leaf false ⟨fun h=>(by cases h),fun⟨hF,_⟩=>by
    obtain⟨_,_,_,_,_,_,f7,_⟩:=hF
    omega⟩ fun h=>by cases h
theorem od(n:Nat)(t:Nd)(hW:BJ 12 t)(hn:200000<=n):∃b,jK n t=some b/\(b=true↔Fit 12 t/\sz8 12 t<=2000):=by
 obtain⟨b,q,h1,h2,_⟩:=right_eq 12 n t 1 2000 (by decide) (by decide) (by decide) hW (by omega)
 have h1:cO n t 1 (aJ.mk 2000)=some (b,q):=h1
 unfold jK
 rw[h1,Option.bind_some]
 exact⟨b,rfl,h2⟩
theorem qa(n:Nat)(t:Nd)(hF:Fit 12 t)(hz:sz8 12 t<=2000)(hn:200000<=n):jK n t=some true:=by
 obtain⟨b,h1,h2⟩:=od n t hF.wide hn
 rw[h1,h2.2 ⟨hF,hz⟩]
theorem Bv(R:Nd->Int->Int->Option Int)(n d:Nat)(dep:Int)(t:Nd)(hdep:0<=dep/\dep<100)
  (hR:∀x∈t.aj,∀l:Nat,sz8 d x<=l->l<=2000->R x (dep+1) (l:Int)=some ((l-sz8 d x:Nat):Int)) :
  ∀(k l i:Nat),l+1<k->i<=t.aj.length->i+l<=2000->((t.aj.drop i).map (sz8 d)).sum<=l ->
   dN R n dep t k (l:Int) (i:Int)=some (.inl ((l-((t.aj.drop i).map (sz8 d)).sum:Nat):Int))
 |0,l,i,h,_,_,_=>by omega
 |k+1,l,i,hk,hi,hil,hs=>by
  by_cases h:i<t.aj.length
  ·have e1:IntKind.wrap .i64 (dep+1)=dep+1:=iQ _ (by omega) (by omega)
   rw[drop_at h,List.map_cons,List.sum_cons] at hs ⊢
   have hp:=pY d t.aj[i]
   rw[dN,if_pos (gy h),if_pos (bU h),cY h,e1,hR _ (List.getElem_mem h) l (by omega) (by omega),Option.bind_some,if_neg (by simp),aZ i (by omega)]
   rw[Bv R n d dep t hdep hR k (l-sz8 d t.aj[i]) (i+1) (by omega) (by omega) (by omega) (by omega)]
   congr 3
   omega
  ·have:i=t.aj.length:=by omega
   subst this
   rw[dN,nq,List.drop_eq_nil_of_le (Nat.le_refl _)]
   simp
theorem EL:∀(d n:Nat)(t:Nd)(dep:Int)(l:Nat),dep+(d:Int)=13->0<=dep->l<=2000->Fit d t->sz8 d t<=l->100000+d<n->fB n t dep (l:Int)=some ((l-sz8 d t:Nat):Int)
 |_,0,_,_,_,_,_,_,_,_,h=>by omega
 |0,n+1,t,dep,l,_,_,_,h,_,_=>h.elim
 |d+1,n+1,t,dep,l,hd,h0,hl,hF,hz,hn=>by
  show jT (fB n) n t dep (l:Int)=_
  obtain⟨f1,f2,f3,f4,f5,f6,f7,f8⟩:=hF
  have hs:sz8 (d+1) t=1+(t.aj.map (sz8 d)).sum:=rfl
  have hsg:=EP (d:=d) t.aj
  obtain⟨l,rfl⟩:∃l',l=l'+1:=⟨l-1,by omega⟩
  unfold jT
  have e1:IntKind.wrap .i64 (((l+1:Nat):Int)-1)=(l:Int):=by rw[iQ _ (by omega) (by omega)];omega
  simp only[aP,e1,wY,yO]
  have c1:(decide ((l:Int)<0)||decide (dep>12)||decide (t.aF<0)||decide (t.aF>3))=false:=by
   simp only[Bool.or_eq_false_iff,decide_eq_false_iff_not]
   omega
  have c2:((t.aF != 1&&decide ((List.length t.au:Int)>0))||(t.aF != 3&&decide ((List.length t.aA:Int)>0))||(decide (t.aF<2)&&decide ((List.length t.aj:Int)>0)))=false:=by
   have a1:(t.aF != 1&&decide ((List.length t.au:Int)>0))=false:=by
    by_cases h:t.aF=1
    ·rw[h];rfl
    ·rw[f3 h];simp
   have a2:(t.aF != 3&&decide ((List.length t.aA:Int)>0))=false:=by
    by_cases h:t.aF=3
    ·rw[h];rfl
    ·rw[f4 h];simp
   have a3:(decide (t.aF<2)&&decide ((List.length t.aj:Int)>0))=false:=by
    by_cases h:t.aF<2
    ·rw[f6 h];simp
    ·rw[decide_eq_false h];rfl
   rw[a1,a2,a3];rfl
  rw[c1,c2]
  simp only[Bool.false_eq_true,if_false]
  have loop:=Bv (fB n) n d dep t (by omega) (fun x hx l' g1 g2=>EL d n x (dep+1) l' (by omega) (by omega) g2 (f8 x hx) g1 (by omega)) n l 0 (by omega) (Nat.zero_le _) (by omega) (by rw[List.drop_zero];omega)
  have loop:dN (fB n) n dep t n (l:Int) 0=_:=loop
  rw[List.drop_zero] at loop
  have fin:(l-(t.aj.map (sz8 d)).sum:Nat)=l+1-sz8 (d+1) t:=by omega
  rw[loop,fin]
  by_cases h3:t.aF=3
  ·obtain⟨g1,g2⟩:=f5 h3
   have e3:(t.aF==3)=true:=by rw[h3];rfl
   have c3:((List.length t.aA:Int) != (List.length t.aj:Int)||decide ((List.length t.aj:Int)>(l:Int)))=false:=by
    rw[g1,decide_eq_false (by omega)];simp
   have hso:=ug n t.aA (by omega) (by omega)
   rw[e3,c3,hso]
   simp[CP g2]
  ·have e3:(t.aF==3)=false:=by rw[beq_eq_false_iff_ne];exact h3
   rw[e3]
   simp
end Go.Proofs.YtefojkdckfidcaaGreatDoor.M
namespace Go.Proofs.YtefojkdckfidcaaGreatDoor.M
open Go Go.Proofs.YtefojkdckfidcaaGreatDoor.RX Go.Proofs.YtefojkdckfidcaaGreatDoor.PL
set_option maxRecDepth 100000
theorem Oz{a b:Nat}(h:a+b<=1000000000):decide ((a+b)*(1+1)<=limit)=true:=decide_eq_true (by show(a+b)*(1+1)<=140737488355328;omega)
def og(c:UInt8):Option Nat:=if 48<=c.toNat/\c.toNat<=57 then some (c.toNat-48) else if 97<=c.toNat/\c.toNat<=102 then some (c.toNat-87) else if 65<=c.toNat/\c.toNat<=70 then some (c.toNat-55) else none
theorem yv:∀(c:UInt8)(v:Nat),og c=some v->v<16:=by
 intro c v h
 unfold og at h
 repeat' split at h
 all_goals first|(cases h;done)|(cases h;omega)
def hv(c:UInt8):Int:=match og c with|some v=>v|none=>16
def hb(c:UInt8):Int×Bool:=match og c with|some v=>(v,true)|none=>(0,false)
theorem hq:∀c:UInt8,rf (c.toNat:Int)=hb c:=gx (by decide +kernel)
theorem Ry:∀v:Nat,v<16->∀w:Nat,w<16->(IntKind.wrap .u8 ((BitVec.ofInt (IntKind.bits .u8) (IntKind.wrap .u8 ((v:Int)*2 ^ (min (Int.toNat 4) (IntKind.bits .u8)))) ||| BitVec.ofInt (IntKind.bits .u8) (w:Int)).toNat))=(((UInt8.ofNat (v*16+w)).toNat:Nat):Int):=by decide +kernel
def lC:Bs->Option (UInt8×Nat)
 |[]=>none
 |d::r =>
  if d=92\/d=34 then some (d,2) else if d=110 then some (10,2) else if d=116 then some (9,2)
  else if d=120 then(match r with|x::y::_=>(match og x,og y with|some v,some w=>some (UInt8.ofNat (v*16+w),4)|_,_=>none)|_=>none) else none
def CH(o:Option (UInt8×Nat)):Int×Int:=match o with|some (b,l)=>((b.toNat:Int),(l:Int))|none=>(0,0)
theorem KT(n:Nat)(x:UInt8)(t:Bs):mO n (x::t)=some (CH (lC t)):=by
 unfold mO
 cases t with
 |nil=>rfl
 |cons d r =>
  have h2:decide ((List.length (x::d::r):Int)<2)=false:=decide_eq_false (by simp only[List.length_cons];omega)
  have h1:decide (0<=(1:Int)/\(1:Int)<(List.length (x::d::r):Int))=true:=decide_eq_true (by simp only[List.length_cons];omega)
  have g1:((x::d::r)[Int.toNat 1]?.getD 0)=d:=rfl
  rw[h2,if_neg Bool.false_ne_true,if_pos h1,g1]
  unfold l9 l6
  rw[b92,b34,Q7,Re,Rh,h1,g1]
  unfold lC
  by_cases c92:d=92
  ·subst c92;rfl
  ·by_cases c34:d=34
   ·subst c34;rfl
   ·by_cases c110:d=110
    ·subst c110;rfl
    ·by_cases c116:d=116
     ·subst c116;rfl
     ·by_cases c120:d=120
      ·subst c120
       cases r with
       |nil=>rfl
       |cons y r =>
        cases r with
        |nil=>rfl
        |cons z r =>
         have h4:decide ((List.length (x::120::y::z::r):Int)<4)=false:=decide_eq_false (by simp only[List.length_cons];omega)
         have i2:decide (0<=(2:Int)/\(2:Int)<(List.length (x::120::y::z::r):Int))=true:=decide_eq_true (by simp only[List.length_cons];omega)
         have i3:decide (0<=(3:Int)/\(3:Int)<(List.length (x::120::y::z::r):Int))=true:=decide_eq_true (by simp only[List.length_cons];omega)
         have g2:((x::120::y::z::r)[Int.toNat 2]?.getD 0)=y:=rfl
         have g3:((x::120::y::z::r)[Int.toNat 3]?.getD 0)=z:=rfl
         rw[h4,i2,i3,g2,g3]
         simp only[aP,hq,hb]
         cases hy:og y with
         |none=>simp[CH]
         |some v =>
          cases hz:og z with
          |none=>simp[CH]
          |some w =>
           have:=Ry v (yv _ _ hy) w (yv _ _ hz)
           simp only[this]
           simp[CH]
      ·simp[c92,c34,c110,c116,c120,CH]
theorem sQ{t:Bs}{b:UInt8}{l:Nat}(h:lC t=some (b,l)):2<=l/\l<=4/\l<=t.length+1:=by
 cases t with
 |nil=>cases h
 |cons d r =>
  cases r with
  |nil =>
   simp only[lC] at h
   repeat' split at h
   all_goals first|(cases h;done)|(cases h;simp only[List.length_cons];omega)
  |cons y r =>
   cases r with
   |nil =>
    simp only[lC] at h
    repeat' split at h
    all_goals first|(cases h;done)|(cases h;simp only[List.length_cons];omega)
   |cons z r =>
    simp only[lC] at h
    repeat' split at h
    all_goals first|(cases h;done)|(cases h;simp only[List.length_cons];omega)
theorem ID(b:UInt8):decide (0<=(b.toNat:Int)/\(b.toNat:Int)<256)=true/\UInt8.ofNat (Int.toNat (b.toNat:Int))=b:=by
 have:=b.toNat_lt
 refine⟨decide_eq_true (by omega),?_⟩
 simp
theorem q34(n k:Nat)(s acc:Bs)(i:Nat)(hs:s.length<=100000000)(ha:acc.length<=100000000)(h:i<s.length):aS n s 34 (k+1) (i:Int) acc =
  if good s[i]=false then some (.inl ()) else if s[i]=34 then some (.inr (acc,((i+1:Nat):Int),0))
  else if s[i]=92 then(match lC (s.drop (i+1)) with|none=>some (.inr ([],0,3))|some (b,l)=>aS n s 34 k ((i+l:Nat):Int) (acc++[b]))
  else aS n s 34 k ((i+1:Nat):Int) (acc++[s[i]]):=by
 rw[aS]
 have hle:decide (0<=(i:Int)/\(i:Int)<=(List.length s:Int))=true:=decide_eq_true (by omega)
 have hf:∀b:UInt8,decide ((List.length acc+List.length [b])*(1+1)<=limit)=true:=fun b=>Oz (by simp;omega)
 have e39:∀c:UInt8,(bif ((c.toNat:Int)==39) then((34:Int)==(c.toNat:Int)) else false)=false:=gx (by decide +kernel)
 have hdrop:List.drop (Int.toNat (i:Int)) s=s[i]::s.drop (i+1):=drop_at h
 have hesc:=KT n s[i] (s.drop (i+1))
 simp only[bU h,gy h,cY h,yy,e39,aP,hle,hdrop,hesc,b34,b92,aZ i (by omega),hf,Bool.or_true,if_true,cond_true,cond_false,Option.bind_some]
 cases hg:good s[i] with
 |false=>simp
 |true =>
  by_cases c34:s[i]=34
  ·simp[c34]
  ·by_cases c92:s[i]=92
   ·cases hu:lC (s.drop (i+1)) with
    |none=>simp[c92,CH]
    |some p =>
     obtain⟨b,l⟩:=p
     have hl:=sQ hu
     have hw:IntKind.wrap .i64 ((i:Int)+(l:Int))=((i+l:Nat):Int):=PL.wrap_add _ _ (by omega)
     have hl0:((l:Int)==0)=false:=by rw[beq_eq_false_iff_ne];omega
     obtain⟨r1,r2⟩:=ID b
     generalize hJ:((i+l:Nat):Int)=J at hw
     generalize aS n s 34 k=f
     simp only[c92]
     have e2:¬((92:UInt8)=34):=by decide
     have e1:¬(decide ((92:UInt8)=34)=true):=by decide
     have e3:∀q:Bool,((!false==true||q))=true:=fun _=>rfl
     have e4:(bif decide True then(34:Int)==34 else false)=true:=rfl
     have e5:¬(true=false):=by decide
     rw[if_neg e5,if_neg e2,if_pos trivial,if_pos trivial,if_pos (e3 _),if_neg Bool.false_ne_true,if_neg e1,if_pos e4]
     refine(if_neg (show ¬(((l:Int)==0)=true) from by rw[hl0];exact Bool.false_ne_true)).trans ?_
     refine(if_pos r1).trans ?_
     show f (IntKind.wrap .i64 ((i:Int)+(l:Int))) (acc++[UInt8.ofNat (Int.toNat (b.toNat:Int))])=_
     rw[hw,r2,hJ]
   ·simp[c34,c92]
theorem q39(n k:Nat)(s acc:Bs)(i:Nat)(hs:s.length<=100000000)(ha:acc.length<=100000000)(h:i<s.length):aS n s 39 (k+1) (i:Int) acc =
  if good s[i]=false then some (.inl ()) else if s[i]=39 then(if(if h':i+1<s.length then s[i+1]==39 else false)=true then aS n s 39 k ((i+2:Nat):Int) (acc++[39]) else some (.inr (acc,((i+1:Nat):Int),0)))
  else aS n s 39 k ((i+1:Nat):Int) (acc++[s[i]]):=by
 rw[aS]
 have hf:∀b:UInt8,decide ((List.length acc+List.length [b])*(1+1)<=limit)=true:=fun b=>Oz (by simp;omega)
 have e39:∀c:UInt8,(bif ((c.toNat:Int)==39) then((39:Int)==(c.toNat:Int)) else false)=decide (c=39):=gx (by decide +kernel)
 have e92:∀c:UInt8,(bif ((c.toNat:Int)==92) then((39:Int)==34) else false)=false:=gx (by decide +kernel)
 simp only[bU h,gy h,cY h,yy,e39,e92,aP,b39,aZ i (by omega),CY i (by omega),hf,Bool.or_true,if_true,cond_true]
 cases hg:good s[i] with
 |false=>simp
 |true =>
  by_cases c39:s[i]=39
  ·by_cases h':i+1<s.length
   ·have l1:decide (((i+1:Nat):Int)<(s.length:Int))=true:=gy h'
    have i1:=bU h'
    have g1:=cY (d:=(0:UInt8)) h'
    generalize ((i+1:Nat):Int)=J at l1 i1 g1
    cases hx:s[i+1]==39 with
    |true=>simp only[c39,l1,i1,g1,dif_pos h',hx,jN];simp[hx]
    |false=>simp only[c39,l1,i1,g1,dif_pos h',hx,jN];simp[hx]
   ·have l1:decide (((i+1:Nat):Int)<(s.length:Int))=false:=iM (Nat.not_lt.1 h')
    generalize ((i+1:Nat):Int)=J at l1
    simp only[c39,l1,dif_neg h'];simp
  ·simp[c39]
theorem Jt(n k:Nat)(s acc:Bs)(v:Int)(i:Nat)(h:s.length<=i):aS n s v (k+1) (i:Int) acc=some (.inl ()):=by
 rw[aS]
 simp only[iM h]
 simp
def qf(r:Sum Unit (Bs×Int×Int)):Bs×Int×Int:=match r with|.inl _=>([],0,3)|.inr o=>o
theorem DR(n:Nat)(S:Bs)(i:Nat)(hS:S.length<=100000000)(h:i<S.length)(hc:S[i]=34\/S[i]=39):bp n S (i:Int)=(aS n S (S[i].toNat:Int) n ((i+1:Nat):Int) []).bind fun o=>some (qf o):=by
 unfold bp
 have d1:decide ((i:Int)<0)=false:=decide_eq_false (by omega)
 have d2:decide ((i:Int)>=(S.length:Int))=false:=decide_eq_false (by omega)
 have n34:((S[i].toNat:Int) != 34)=!(decide (S[i]=34)):=by rw[<-b34];rfl
 have n39:((S[i].toNat:Int) != 39)=!(decide (S[i]=39)):=by rw[<-b39];rfl
 simp only[d1,d2,bU h,cY h,n34,n39,aP,aZ i (by omega),Bool.or_true,if_true,cond_false]
 have hx:(bif !decide (S[i]=34) then !decide (S[i]=39) else false)=false:=by
  rcases hc with hc|hc<;>rw[hc]<;>decide
 rw[hx,if_neg Bool.false_ne_true]
 congr 1
 funext o
 cases o<;>rfl
theorem drop_cons{S:Bs}{i:Nat}{x:UInt8}{r:Bs}(h:S.drop i=x::r):∃hi:i<S.length,S[i]=x/\S.drop (i+1)=r:=by
 have hi:i<S.length:=by
  rcases Nat.lt_or_ge i S.length with h1|h1
  ·exact h1
  ·rw[List.drop_eq_nil_of_le h1] at h;cases h
 rw[List.drop_eq_getElem_cons hi] at h
 exact⟨hi,(List.cons.inj h).1,(List.cons.inj h).2⟩
theorem oK{S r:Bs}{i:Nat}{p:Bs}(h:S.drop i=p++r):S.drop (i+p.length)=r:=by
 rw[<-List.drop_drop,h,List.drop_left]
theorem DG:∀d,d<16->og (ql d)=some d:=by decide +kernel
theorem EH(n:Nat)(S behind:Bs)(hS:S.length<=100000000):∀(u:Bs)(k i:Nat)(acc:Bs),u.length<k->acc.length+u.length<=100000000->S.drop i=u.flatMap esc++34::behind ->
  aS n S 34 k (i:Int) acc=some (.inr (acc++u,((i+(u.flatMap esc).length+1:Nat):Int),0))
 |[],k,i,acc,hk,ha,hd=>by
  obtain⟨k,rfl⟩:∃k',k=k'+1:=⟨k-1,by omega⟩
  obtain⟨hi,h1,h2⟩:=drop_cons (by simpa using hd:S.drop i=34::behind)
  have hg:good S[i]≠false:=by rw[h1];decide
  rw[q34 n k S acc i hS (by simp at ha;omega) hi,if_neg hg,if_pos h1]
  simp
 |c::u,k,i,acc,hk,ha,hd=>by
  obtain⟨k,rfl⟩:∃k',k=k'+1:=⟨k-1,by omega⟩
  simp only[List.length_cons] at hk ha
  rw[List.flatMap_cons,List.append_assoc] at hd
  have hmore:=oK hd
  have hesc:∀(b:UInt8)(l:Nat)(t:Bs),esc c=92::t->lC (t++(u.flatMap esc++34::behind))=some (c,l)->(esc c).length=l ->
    aS n S 34 (k+1) (i:Int) acc=some (.inr (acc++c::u,((i+((c::u).flatMap esc).length+1:Nat):Int),0)):=by
   intro b l t he hu hl
   rw[he] at hd
   obtain⟨hi,h1,h2⟩:=drop_cons (show S.drop i=92::(t++(u.flatMap esc++34::behind)) from hd)
   have hg:good S[i]≠false:=by rw[h1];decide
   have h34:S[i]≠34:=by rw[h1];decide
   rw[q34 n k S acc i hS (by omega) hi,if_neg hg,if_neg h34,if_pos h1,h2,hu]
   simp only
   rw[hl] at hmore
   rw[EH n S behind hS u k (i+l) (acc++[c]) (by omega) (by simp;omega) hmore]
   have hlen:((c::u).flatMap esc).length=l+(u.flatMap esc).length:=by rw[List.flatMap_cons,List.length_append,hl]
   rw[hlen,List.append_assoc,show i+l+(u.flatMap esc).length+1=i+(l+(u.flatMap esc).length)+1 by omega]
   rfl
  by_cases h1:c=34\/c=92
  ·exact hesc c 2 [c] (by simp[esc,h1]) (by
    rcases h1 with rfl|rfl<;>rfl) (by simp[esc,h1])
  ·by_cases h2:c=10
   ·subst h2;exact hesc 10 2 [110] rfl rfl rfl
   ·by_cases h3:c=9
    ·subst h3;exact hesc 9 2 [116] rfl rfl rfl
    ·by_cases h4:good c=false
     ·have he:esc c=[92,120,ql (c.toNat / 16),ql (c.toNat % 16)]:=by simp[esc,h1,h2,h3,h4]
      have hb:=c.toNat_lt
      refine hesc c 4 [120,ql (c.toNat / 16),ql (c.toNat % 16)] he ?_ (by rw[he];rfl)
      have e1:=DG (c.toNat / 16) (by omega)
      have e2:=DG (c.toNat % 16) (by omega)
      show(match og (ql (c.toNat / 16)),og (ql (c.toNat % 16)) with|some v,some w=>some (UInt8.ofNat (v*16+w),4)|_,_=>none)=some (c,4)
      rw[e1,e2]
      simp only[Nat.div_add_mod',UInt8.ofNat_toNat]
     ·have he:esc c=[c]:=by simp[esc,h1,h2,h3,h4]
      rw[he] at hd
      obtain⟨hi,g1,g2⟩:=drop_cons hd
      have h34:S[i]≠34:=by rw[g1];exact fun e=>h1 (.inl e)
      have h92:S[i]≠92:=by rw[g1];exact fun e=>h1 (.inr e)
      rw[q34 n k S acc i hS (by omega) hi,if_neg (by rw[g1];exact h4),if_neg h34,if_neg h92,g1]
      rw[EH n S behind hS u k (i+1) (acc++[c]) (by omega) (by simp;omega) g2]
      have hlen:((c::u).flatMap esc).length=1+(u.flatMap esc).length:=by rw[List.flatMap_cons,List.length_append,he];rfl
      rw[hlen,List.append_assoc,show i+1+(u.flatMap esc).length+1=i+(1+(u.flatMap esc).length)+1 by omega]
      rfl
theorem hr:∀c:UInt8,nQ (c.toNat:Int)=hv c:=gx (by decide +kernel)
theorem RH:∀v:Nat,v<16->∀w:Nat,w<16->(IntKind.wrap .u8 ((IntKind.wrap .i64 ((IntKind.wrap .i64 ((v:Int)*16))+(w:Int)))))=(((UInt8.ofNat (v*16+w)).toNat:Nat):Int):=by decide +kernel
theorem r34(n k:Nat)(s acc:Bs)(i:Nat)(hs:s.length<=100000)(ha:acc.length<=100000)(h:i<s.length):dT n s (k+1) (i:Int) acc =
  if good s[i]=false then some (.inr ([],0,false)) else if s[i]=34 then some (.inr (acc,((i+1:Nat):Int),true))
  else if s[i]=92 then(match lC (s.drop (i+1)) with|none=>some (.inr ([],0,false))|some (b,l)=>dT n s k ((i+l:Nat):Int) (acc++[b]))
  else dT n s k ((i+1:Nat):Int) (acc++[s[i]]):=by
 rw[dT]
 have hf:∀b:UInt8,decide ((List.length acc+List.length [b])*(1+1)<=limit)=true:=fun b=>fits (by simp;omega)
 have e92:((s[i].toNat:Int) != 92)=!(decide (s[i]=92)):=by rw[<-b92];rfl
 have w3:IntKind.wrap .i64 ((i:Int)+3)=((i+3:Nat):Int):=PL.wrap_add i 3 (by omega)
 have w4:IntKind.wrap .i64 ((i:Int)+4)=((i+4:Nat):Int):=PL.wrap_add i 4 (by omega)
 rw[if_pos (gy h),if_pos (bU h),cY h,uv,b34,e92,hf,hf,aZ i (by omega),CY i (by omega),w3,w4]
 cases hg:good s[i] with
 |false=>simp
 |true =>
  by_cases c34:s[i]=34
  ·simp[c34]
  ·by_cases c92:s[i]=92
   ·simp only[c34,c92,decide_true,decide_false,Bool.not_true,Bool.false_eq_true,if_false,if_true,Bool.true_eq_false]
    by_cases h1:i+1<s.length
    ·have n1:decide (((i+1:Nat):Int)>=(s.length:Int))=false:=decide_eq_false (by omega)
     have i1:=bU h1
     have g1:=cY (d:=(0:UInt8)) h1
     have hd1:=drop_at h1
     rw[n1,i1,g1,hd1]
     generalize s[i+1]=d
     simp only[aP,b92,b34,Q7,Re,Rh,hf]
     unfold lC
     by_cases d92:d=92
     ·subst d92;simp
     ·by_cases d34:d=34
      ·subst d34;simp
      ·by_cases d110:d=110
       ·subst d110;simp
       ·by_cases d116:d=116
        ·subst d116;simp
        ·by_cases d120:d=120
         ·subst d120
          by_cases h3:i+3<s.length
          ·have h2:i+2<s.length:=by omega
           have l3:decide (((i+3:Nat):Int)<(s.length:Int))=true:=gy h3
           have i2:=bU h2
           have i3:=bU h3
           have g2:=cY (d:=(0:UInt8)) h2
           have g3:=cY (d:=(0:UInt8)) h3
           have hd2:=drop_at h2
           have hd3:=drop_at h3
           rw[l3,i2,i3,g2,g3,hd2,hd3]
           generalize s[i+2]=y
           generalize s[i+3]=z
           simp only[hr,hv]
           cases hy:og y with
           |none=>simp
           |some v =>
            have v16:=yv _ _ hy
            have vd:decide ((v:Int)<16)=true:=decide_eq_true (by omega)
            cases hz:og z with
            |none=>simp[vd]
            |some w =>
             have w16:=yv _ _ hz
             have wd:decide ((w:Int)<16)=true:=decide_eq_true (by omega)
             obtain⟨r1,r2⟩:=ID (UInt8.ofNat (v*16+w))
             simp only[vd,wd,RH v v16 w w16,r1,r2,hf]
             simp
          ·have l3:decide (((i+3:Nat):Int)<(s.length:Int))=false:=iM (Nat.not_lt.1 h3)
           rw[l3]
           have hnone:(match s.drop (i+1+1) with|x::y::_=>(match og x,og y with|some v,some w=>some (UInt8.ofNat (v*16+w),4)|_,_=>none)|_=>(none:Option (UInt8×Nat)))=none:=by
            have hl:(s.drop (i+1+1)).length<=1:=by simp;omega
            match s.drop (i+1+1),hl with
            |[],_=>rfl
            |[_],_=>rfl
           simp only[hnone]
           simp
         ·simp[d92,d34,d110,d116,d120]
    ·have n1:decide (((i+1:Nat):Int)>=(s.length:Int))=true:=decide_eq_true (by omega)
     rw[n1,List.drop_eq_nil_of_le (by omega)]
     simp[lC]
   ·simp[c34,c92]
theorem r39(n k:Nat)(s acc:Bs)(i:Nat)(hs:s.length<=100000)(ha:acc.length<=100000)(h:i<s.length):ij n s (k+1) (i:Int) acc =
  if good s[i]=false then some (.inr ([],0,false)) else if s[i]=39 then(if(if h':i+1<s.length then s[i+1]==39 else false)=true then ij n s k ((i+2:Nat):Int) (acc++[39]) else some (.inr (acc,((i+1:Nat):Int),true)))
  else ij n s k ((i+1:Nat):Int) (acc++[s[i]]):=by
 rw[ij]
 have hf:∀b:UInt8,decide ((List.length acc+List.length [b])*(1+1)<=limit)=true:=fun b=>fits (by simp;omega)
 rw[if_pos (gy h),if_pos (bU h),cY h,uv,b39]
 cases hg:good s[i] with
 |false=>simp
 |true =>
  unfold uy
  rw[aZ i (by omega)]
  by_cases c39:s[i]=39
  ·by_cases h':i+1<s.length
   ·have n1:decide (((i+1:Nat):Int)>=(s.length:Int))=false:=decide_eq_false (by omega)
    have i1:=bU h'
    have g1:=cY (d:=(0:UInt8)) h'
    have w2:IntKind.wrap .i64 (((i+1:Nat):Int)+1)=((i+2:Nat):Int):=aZ (i+1) (by omega)
    have e39:((s[i+1].toNat:Int) != 39)=!(s[i+1]==39):=by rw[<-gQ,<-b39];rfl
    generalize ((i+1:Nat):Int)=J at n1 i1 g1 w2
    cases hx:s[i+1]==39 with
    |true =>
     have hx':s[i+1]=39:=by simpa using hx
     have i1p:=of_decide_eq_true i1
     rw[hx'] at g1
     have g1':=g1
     generalize ((i+2:Nat):Int)=J2 at w2 ⊢
     have h39:((39:UInt8).toNat:Int)=39:=rfl
     have hfit:=of_decide_eq_true (hf 39)
     simp only[c39,n1,i1,g1,dif_pos h',hx',aP,w2,hf]
     simp[i1p,g1,w2,h',hx',h]
     have hb:J.toNat<s.length:=by omega
     have:s[J.toNat]=39:=by simpa[hb] using g1
     rw[this]
    |false=>simp only[c39,n1,i1,g1,e39,hx,dif_pos h',aP];simp[h]
   ·have n1:decide (((i+1:Nat):Int)>=(s.length:Int))=true:=decide_eq_true (by omega)
    generalize ((i+1:Nat):Int)=J at n1
    simp only[c39,n1,dif_neg h',aP];simp[h]
  ·have i0:=bU h
   have g0:=cY (d:=(0:UInt8)) h
   have w0:=aZ i (by omega)
   generalize (i:Int)=I at i0 g0 w0
   generalize ((i+1:Nat):Int)=J at w0
   have i0p:=of_decide_eq_true i0
   simp only[c39,i0,g0,w0,hf];simp[i0p,g0,w0]
   have hb:I.toNat<s.length:=by omega
   have:s[I.toNat]=s[i]:=by simpa[hb] using g0
   rw[this]
def Nx(s:Bs)(i:Nat)(o:Bs×Int×Int):Prop:=o.2.2=0->∃j:Nat,o.2.1=(j:Int)/\i<j/\j<=s.length/\(s[j-1]?.getD 0)≠32
theorem Nx.le{s:Bs}{i i':Nat}{o:Bs×Int×Int}(h:Nx s i' o)(hi:i<=i'):Nx s i o:=fun e=>let ⟨j,h1,h2,h3,h4⟩:=h e;⟨j,h1,by omega,h3,h4⟩
def QY(r:Sum Unit (Bs×Int×Bool)):Bs×Int×Int:=match r with|.inl _=>([],0,3)|.inr o=>if o.2.2=false then([],0,3) else(o.1,o.2.1,0)
theorem vm(n:Nat)(s:Bs)(hs:s.length<=10000):∀(k i:Nat)(acc:Bs),s.length<k+i->acc.length<=i->∃r r',aS n s 34 (k+1) (i:Int) acc=some r/\dT n s (k+1) (i:Int) acc=some r'/\qf r=QY r'/\Nx s i (qf r)
 |k,i,acc,h1,h2=>by
  by_cases h:i<s.length
  ·rw[q34 n k s acc i (by omega) (by omega) h,r34 n k s acc i (by omega) (by omega) h]
   obtain⟨k,rfl⟩:∃k',k=k'+1:=⟨k-1,by omega⟩
   cases hg:good s[i] with
   |false=>exact⟨_,_,if_pos rfl,if_pos rfl,rfl,fun e=>by cases e⟩
   |true =>
    simp only[Bool.true_eq_false,if_false]
    by_cases c34:s[i]=34
    ·rw[if_pos c34,if_pos c34];exact⟨_,_,rfl,rfl,rfl,fun _=>⟨i+1,rfl,by omega,by omega,by simp[h,c34]⟩⟩
    ·rw[if_neg c34,if_neg c34]
     by_cases c92:s[i]=92
     ·rw[if_pos c92,if_pos c92]
      cases hu:lC (s.drop (i+1)) with
      |none=>exact⟨_,_,rfl,rfl,rfl,fun e=>by cases e⟩
      |some p =>
       obtain⟨b,l⟩:=p
       have hl:=sQ hu
       obtain⟨r,r',h3,h4,h5,h6⟩:=vm n s hs k (i+l) (acc++[b]) (by omega) (by simp;omega)
       exact⟨r,r',h3,h4,h5,h6.le (by omega)⟩
     ·rw[if_neg c92,if_neg c92]
      obtain⟨r,r',h3,h4,h5,h6⟩:=vm n s hs k (i+1) (acc++[s[i]]) (by omega) (by simp;omega)
      exact⟨r,r',h3,h4,h5,h6.le (by omega)⟩
  ·refine⟨.inl (),.inl (),Jt n k s acc 34 i (by omega),?_,rfl,fun e=>by cases e⟩
   rw[dT]
   simp only[iM (Nat.not_lt.1 h)];simp
 termination_by k=>k
theorem vh(n:Nat)(s:Bs)(hs:s.length<=10000):∀(k i:Nat)(acc:Bs),s.length<k+i->acc.length<=i->∃r r',aS n s 39 (k+1) (i:Int) acc=some r/\ij n s (k+1) (i:Int) acc=some r'/\qf r=QY r'/\Nx s i (qf r)
 |k,i,acc,h1,h2=>by
  by_cases h:i<s.length
  ·rw[q39 n k s acc i (by omega) (by omega) h,r39 n k s acc i (by omega) (by omega) h]
   obtain⟨k,rfl⟩:∃k',k=k'+1:=⟨k-1,by omega⟩
   cases hg:good s[i] with
   |false=>exact⟨_,_,if_pos rfl,if_pos rfl,rfl,fun e=>by cases e⟩
   |true =>
    simp only[Bool.true_eq_false,if_false]
    by_cases c39:s[i]=39
    ·rw[if_pos c39,if_pos c39]
     generalize (if h':i+1<s.length then s[i+1]==39 else false)=bb
     cases bb with
     |true =>
      simp only[if_true]
      obtain⟨r,r',h3,h4,h5,h6⟩:=vh n s hs k (i+2) (acc++[39]) (by omega) (by simp;omega)
      exact⟨r,r',h3,h4,h5,h6.le (by omega)⟩
     |false=>exact⟨_,_,rfl,rfl,rfl,fun _=>⟨i+1,rfl,by omega,by omega,by simp[h,c39]⟩⟩
    ·rw[if_neg c39,if_neg c39]
     obtain⟨r,r',h3,h4,h5,h6⟩:=vh n s hs k (i+1) (acc++[s[i]]) (by omega) (by simp;omega)
     exact⟨r,r',h3,h4,h5,h6.le (by omega)⟩
  ·refine⟨.inl (),.inl (),Jt n k s acc 39 i (by omega),?_,rfl,fun e=>by cases e⟩
   rw[ij]
   simp only[iM (Nat.not_lt.1 h)];simp
 termination_by k=>k
theorem Cc(n:Nat)(s:Bs)(at_:Int)(hs:s.length<=10000)(hn:20000<=n)(hat:IntKind.min .i64<=at_/\at_<=IntKind.max .i64):∃r,bp n s at_=some r/\j6 n s at_=some r/\Nx s at_.toNat r:=by
 obtain⟨n,rfl⟩:∃m,n=m+1:=⟨n-1,by omega⟩
 unfold bp j6
 by_cases hin:0<=at_/\at_<(s.length:Int)
 ·obtain⟨i,rfl⟩:∃i:Nat,at_=(i:Int):=⟨at_.toNat,by omega⟩
  have h:i<s.length:=by omega
  have d1:decide ((i:Int)<0)=false:=decide_eq_false (by omega)
  have d2:decide ((i:Int)>=(s.length:Int))=false:=decide_eq_false (by omega)
  have n34:((s[i].toNat:Int) != 34)=!(decide (s[i]=34)):=by rw[<-b34];rfl
  have n39:((s[i].toNat:Int) != 39)=!(decide (s[i]=39)):=by rw[<-b39];rfl
  simp only[d1,d2,bU h,cY h,n34,n39,aP,aZ i (by omega),Bool.or_true,if_true,cond_false]
  unfold wM yk yd
  simp only[b34,aZ i (by omega)]
  by_cases c34:s[i]=34
  ·obtain⟨r,r',h1,h2,h3,h5⟩:=vm (n+1) s hs n (i+1) [] (by omega) (by simp)
   rw[c34]
   have h1:aS (n+1) s ((34:UInt8).toNat:Int) (n+1) ((i+1:Nat):Int) []=some r:=h1
   simp only[h1,h2,decide_true,Bool.not_true,cond_false,Bool.false_eq_true,if_false,if_true,Option.bind_some]
   refine⟨qf r,?_,?_,h5.le (by simp)⟩
   ·cases r<;>rfl
   ·rw[h3]
    cases r' with
    |inl _=>rfl
    |inr o=>obtain⟨o1,o2,o3⟩:=o;cases o3<;>rfl
  ·by_cases c39:s[i]=39
   ·obtain⟨r,r',h1,h2,h3,h5⟩:=vh (n+1) s hs n (i+1) [] (by omega) (by simp)
    rw[c39]
    have h1:aS (n+1) s ((39:UInt8).toNat:Int) (n+1) ((i+1:Nat):Int) []=some r:=h1
    have e1:decide ((39:UInt8)=34)=false:=by decide
    have e2:decide ((39:UInt8)=39)=true:=by decide
    simp only[h1,h2,e1,e2,Bool.not_true,Bool.not_false,cond_true,Bool.false_eq_true,if_false,Option.bind_some]
    refine⟨qf r,?_,?_,h5.le (by simp)⟩
    ·cases r<;>rfl
    ·rw[h3]
     cases r' with
     |inl _=>rfl
     |inr o=>obtain⟨o1,o2,o3⟩:=o;cases o3<;>rfl
   ·exact⟨([],0,2),by simp[c34,c39],by simp[c34,c39],fun e=>by cases e⟩
 ·have d:(bif (decide (at_<0)) then true else(decide (at_>=(List.length s:Int))))=true:=by
   by_cases h0:at_<0
   ·simp[h0]
   ·have:at_>=(s.length:Int):=by omega
    simp[h0,this]
  exact⟨([],0,2),by simp only[d,aP];simp,by simp only[d,aP];simp,fun e=>by cases e⟩
theorem RF(l:BS):Lib.trimLeftB l 32=l.dropWhile (·==32):=rfl
def ind(l:BS):Nat:=(l.takeWhile (·==32)).length
theorem FT(l:BS):ind l<=l.length:=by
 unfold ind
 have:=List.takeWhile_append_dropWhile (p:=fun c:UInt8=>c==32) (l:=l)
 have h:=congrArg List.length this
 rw[List.length_append] at h;omega
theorem Nj(l:BS):l.drop (ind l)=l.dropWhile (·==32):=by
 have:=List.takeWhile_append_dropWhile (p:=fun c:UInt8=>c==32) (l:=l)
 have h2:(l.takeWhile (·==32)++l.dropWhile (·==32)).drop (ind l)=l.dropWhile (·==32):=List.drop_left
 rwa[this] at h2
theorem FC(l:BS):(Lib.trimLeftB l 32).length=l.length-ind l:=by
 rw[RF,<-Nj,List.length_drop]
theorem zE(c:UInt8)(l:BS):ind (c::l)=if c=32 then ind l+1 else 0:=by
 unfold ind
 by_cases h:c=32
 ·subst h;simp
 ·rw[if_neg h,List.takeWhile_cons];simp[h]
def qH(l:BS):BS:=(l.reverse.dropWhile (·==32)).reverse
theorem lh(l:BS)(c:UInt8):qH (l++[c])=if c=32 then qH l else l++[c]:=by
 unfold qH
 rw[List.reverse_append,List.reverse_singleton,List.singleton_append,List.dropWhile_cons]
 by_cases h:c=32
 ·rw[if_pos h,if_pos (by simp[h])]
 ·rw[if_neg h,if_neg (by simpa using h),List.reverse_cons,List.reverse_reverse]
theorem LV(n:Nat):∀(k:Nat)(s:BS),s.length<k->s.length<=100000->po n k s=some (qH s)
 |0,s,h,_=>by omega
 |k+1,s,h,hs=>by
  rw[po]
  rcases List.eq_nil_or_concat s with rfl|⟨l,c,rfl⟩
  ·rfl
  ·rw[List.concat_eq_append] at h hs ⊢
   have hl:(l++[c]).length=l.length+1:=by simp
   have hw:IntKind.wrap .i64 (((l++[c]).length:Int)-1)=(l.length:Int):=by rw[sW _ (by omega) (by omega),hl];rfl
   have hi:l.length<(l++[c]).length:=by omega
   have hg:decide (((l++[c]).length:Int)>0)=true:=decide_eq_true (by omega)
   have hat:(l++[c])[l.length]=c:=by simp
   rw[hw,bU hi,Bool.or_true,if_pos rfl,hg,cond_true,cY hi,hat,mD (by omega),tn,List.take_left,lh]
   have hb:((c.toNat:Int)==32)=decide (c=32):=ic c 32 (by decide)
   simp only[aP,hb,if_true]
   by_cases hc:c=32
   ·rw[if_pos (decide_eq_true hc),if_pos hc]
    exact LV n k l (by omega) (by omega)
   ·rw[if_neg (by simpa using hc),if_neg hc]
def bef(s:BS)(i:Nat):UInt8:=if 0<i then(s[i-1]?.getD 0) else 32
theorem RN(c:UInt8):((c.toNat:Int)==123)=decide (c=123):=ic c 123 (by decide)
theorem b91(c:UInt8):((c.toNat:Int)==91)=decide (c=91):=ic c 91 (by decide)
theorem b44(c:UInt8):((c.toNat:Int)==44)=decide (c=44):=ic c 44 (by decide)
theorem m34(c:UInt8):((c.toNat:Int) != 34)=!decide (c=34):=by rw[<-b34];rfl
theorem m39(c:UInt8):((c.toNat:Int) != 39)=!decide (c=39):=by rw[<-b39];rfl
def quo(c b:UInt8):Bool:=(decide (c=34)||decide (c=39))&&(decide (b=32)||decide (b=91)||decide (b=123)||decide (b=44))
def rem(c b:UInt8):Bool:=decide (c=35)&&decide (b=32)
theorem qh{s:BS}{i:Nat}(h:i<s.length)(h0:0<i)(hs:s.length<=100000):(decide (0<=(IntKind.wrap .i64 ((i:Int)-1))/\(IntKind.wrap .i64 ((i:Int)-1))<(List.length s:Int)))=true/\(s[Int.toNat (IntKind.wrap .i64 ((i:Int)-1))]?.getD 0)=bef s i:=by
 rw[sW i (by omega) h0]
 refine⟨bU (by omega),?_⟩
 unfold bef;rw[if_pos h0,tn]
theorem MJ(n:Nat)(s:BS)(i:Nat)(h:i<s.length)(hs:s.length<=100000):tC n s (i:Int)=some (if rem s[i] (bef s i)=true then 2 else if quo s[i] (bef s i)=true then 1 else 0):=by
 have h1:oU n s (i:Int) 32 (decide ((i:Int)>0))=some ((bef s i).toNat:Int):=by
  unfold oU
  by_cases h0:0<i
  ·rw[if_pos (decide_eq_true (by omega)),if_pos (qh h h0 hs).1,(qh h h0 hs).2]
  ·rw[if_neg (by simp;omega),bef,if_neg h0];rfl
 unfold tC
 rw[h1,Option.bind_some,bU h,cY h]
 generalize bef s i=b
 generalize s[i]=c
 simp only[Bool.or_true,if_true,aP,b35,b32,b91,RN,b44,m34,m39,rem,quo]
 by_cases c35:c=35
 ·subst c35
  by_cases h32:b=32
  ·simp[h32]
  ·simp[h32]
 ·by_cases c34:c=34
  ·subst c34
   by_cases h32:b=32<;>by_cases h91:b=91<;>by_cases h123:b=123<;>by_cases h44:b=44<;>simp[h32,h91,h123,h44]
  ·by_cases c39:c=39
   ·subst c39
    by_cases h32:b=32<;>by_cases h91:b=91<;>by_cases h123:b=123<;>by_cases h44:b=44<;>simp[h32,h91,h123,h44]
   ·simp[c35,c34,c39]
theorem Nc:∀c:UInt8,(bif (decide ((c.toNat:Int)<32)) then true else((c.toNat:Int)==127))=!good c:=gx (by decide +kernel)
theorem RP(c:UInt8):((c.toNat:Int) != 32)=!decide (c=32):=by rw[<-b32];rfl
theorem ibq:∀b:UInt8,decide ((Lib.indexByte ([91,123,44]:Bs) (Int.toNat (b.toNat:Int)).toUInt8)>=0)=(decide (b=91)||decide (b=123)||decide (b=44)):=gx (by decide +kernel)
theorem Je:∀c:UInt8,(c=34\/c=39\/c=35)->good c=true:=gx (by decide +kernel)
theorem KG(n:Nat)(s:BS)(i e:Nat)(hn:20000<=n)(h:i<s.length)(hs:s.length<=10000)(he:e<=i):∃r,bp n s (i:Int)=some r/\j6 n s (i:Int)=some r/\Nx s i r /\
  nO n s (i:Int) (e:Int) (bif ((i:Int)==0) then true else(((s[Int.toNat (IntKind.wrap .i64 ((i:Int)-1))]?.getD 0).toNat:Int)==32)) (s[i].toNat:Int) =
   some (if rem s[i] (bef s i)=true then .inr (.inr (s.take e,true)) else if quo s[i] (bef s i)=true then(if(r.2.2 != 0)=true then .inr (.inr ([],false)) else .inr (.inl (r.2.1,r.2.1)))
    else if good s[i]=false then .inr (.inr ([],false)) else if s[i]=32 then .inl ((i:Int),(e:Int)) else .inl ((i:Int),((i+1:Nat):Int))):=by
 obtain⟨r,h1,h2,h3⟩:=Cc n s (i:Int) hs hn ⟨by show -9223372036854775808<=(i:Int);omega,by show(i:Int)<=9223372036854775807;omega⟩
 rw[tn] at h3
 refine⟨r,h1,h2,h3,?_⟩
 have hfirst:(bif ((i:Int)==0) then true else(((s[Int.toNat (IntKind.wrap .i64 ((i:Int)-1))]?.getD 0).toNat:Int)==32))=decide (bef s i=32):=by
  by_cases h0:0<i
  ·have:((i:Int)==0)=false:=by rw[beq_eq_false_iff_ne];omega
   rw[this,cond_false,(qh h h0 (by omega)).2,b32]
  ·have:i=0:=by omega
   subst this;rfl
 rw[hfirst,nO]
 have hchk:((!((decide (bef s i=32)==false)&&((bif ((s[i].toNat:Int)==34) then true else((s[i].toNat:Int)==39))==true))||decide (0<=(IntKind.wrap .i64 ((i:Int)-1))/\(IntKind.wrap .i64 ((i:Int)-1))<(List.length s:Int))))=true:=by
  by_cases h0:0<i
  ·rw[(qh h h0 (by omega)).1,Bool.or_true]
  ·have:bef s i=32:=by unfold bef;rw[if_neg h0]
   simp[this]
 have hlast:decide (bef s i=32)=false->decide ((Lib.indexByte ([91,123,44]:Bs) (Int.toNat ((s[Int.toNat (IntKind.wrap .i64 ((i:Int)-1))]?.getD 0).toNat:Int)).toUInt8)>=0)=(decide (bef s i=91)||decide (bef s i=123)||decide (bef s i=44)):=by
  intro hf
  have h0:0<i:=by
   rcases Nat.eq_zero_or_pos i with h0|h0
   ·subst h0;cases hf
   ·exact h0
  rw[(qh h h0 (by omega)).2,ibq]
 simp only[tn] at hlast
 rw[hchk,h1,aZ i (by omega)]
 have hle:decide (0<=(e:Int)/\(e:Int)<=(List.length s:Int))=true:=mD (by omega)
 simp only[b35,b34,b39,Nc,RP,hle,if_true,aP,Option.bind_some,tn]
 generalize hb:bef s i=b at hlast ⊢
 generalize hc:s[i]=c
 unfold rem quo
 by_cases c35:c=35
 ·subst c35
  by_cases h32:b=32
  ·simp[h32]
  ·have hg:good 35=true:=by decide
   simp[h32,hg]
 ·by_cases cq:c=34\/c=39
  ·have hq:(bif decide (c=34) then true else decide (c=39))=true:=by rcases cq with e|e<;>simp[e]
   have hq2:(decide (c=34)||decide (c=39))=true:=by rcases cq with e|e<;>simp[e]
   have hg:good c=true:=Je c (by rcases cq with e|e<;>simp[e])
   have hn32:c≠32:=by rcases cq with e|e<;>rw[e]<;>decide
   rw[decide_eq_false c35,hq,hq2]
   by_cases h32:b=32
   ·simp only[decide_eq_true h32,cond_true,cond_false,Bool.false_and,Bool.false_eq_true,if_false,if_true,Bool.true_or,Bool.true_and]
    cases (r.2.2 != 0)<;>rfl
   ·rw[decide_eq_false h32] at hlast ⊢
    have hlast:=hlast rfl
    simp only[cond_true,cond_false,hlast,Bool.false_and,Bool.false_or,Bool.true_and,Bool.false_eq_true,if_false]
    by_cases hx:(decide (b=91)||decide (b=123)||decide (b=44))=true
    ·rw[hx]
     simp only[if_true]
     cases (r.2.2 != 0)<;>rfl
    ·have hx:(decide (b=91)||decide (b=123)||decide (b=44))=false:=by simpa using hx
     rw[hx]
     simp[hg,hn32]
  ·simp only[not_or] at cq
   have hq:(bif decide (c=34) then true else decide (c=39))=false:=by simp[cq.1,cq.2]
   have hq2:(decide (c=34)||decide (c=39))=false:=by simp[cq.1,cq.2]
   rw[decide_eq_false c35,hq,hq2]
   cases hg:good c
   ·simp
   ·by_cases hc32:c=32
    ·simp[hc32]
    ·simp[hc32]
theorem kW{s:BS}{i:Nat}(h:i<s.length):s.take (i+1)=s.take i++[s[i]]:=List.take_succ_eq_append_getElem h
theorem yq(n:Nat)(s:BS)(hn:20000<=n)(hs:s.length<=10000):∀(k i e:Nat),i<=s.length->s.length-i<k->e<=i->s.take e=qH (s.take i)->∃t,aR n k s (i:Int) (e:Int)=some t/\t.1.length<=s.length/\∃r,kJ n k s (i:Int)=some r /\
  match r with|.inl s'=>t=(qH s',true)/\s'.length<=s.length|.inr r=>t=r
 |0,i,e,_,h,_,_=>by omega
 |k+1,i,e,h1,h2,he,hinv=>by
  rw[aR,kJ]
  have hte:(s.take e).length<=s.length:=by rw[List.length_take];omega
  by_cases h:i<s.length
  ·have hne:((i:Int)==(s.length:Int))=false:=by rw[oy];exact decide_eq_false (by omega)
   obtain⟨r,q1,q2,q3,q4⟩:=KG n s i e hn h hs he
   have hchk:(!(((i:Int)==0)==false)||decide (0<=(IntKind.wrap .i64 ((i:Int)-1))/\(IntKind.wrap .i64 ((i:Int)-1))<(List.length s:Int)))=true:=by
    by_cases h0:0<i
    ·rw[(qh h h0 (by omega)).1,Bool.or_true]
    ·have:i=0:=by omega
     subst this;rfl
   rw[hne,if_neg Bool.false_ne_true,if_pos hchk,if_pos (bU h),cY h,q4,gy h,if_pos rfl,MJ n s i h (by omega),Option.bind_some,Option.bind_some]
   by_cases hr:rem s[i] (bef s i)=true
   ·rw[if_pos hr,if_pos hr,if_pos (by decide:((2:Int)==2)=true),if_pos (mD (by omega)),tn]
    exact⟨_,rfl,hte,_,rfl,by rw[hinv],by rw[List.length_take];omega⟩
   ·rw[if_neg hr,if_neg hr]
    by_cases hq:quo s[i] (bef s i)=true
    ·rw[if_pos hq,if_pos hq,if_neg (by decide:¬((1:Int)==2)=true),if_pos (by decide:((1:Int)==1)=true),q2,Option.bind_some]
     by_cases hz:r.2.2=0
     ·have hz':(r.2.2 != 0)=false:=by rw[hz];rfl
      obtain⟨j,f1,f2,f3,f4⟩:=q3 hz
      rw[hz',if_neg Bool.false_ne_true,if_neg Bool.false_ne_true,f1]
      have hj:j-1<s.length:=by omega
      rw[List.getElem?_eq_getElem hj,Option.getD_some] at f4
      refine yq n s hn hs k j j f3 (by omega) (Nat.le_refl _) ?_
      rw[show j=(j-1)+1 by omega,kW hj,lh,if_neg f4]
     ·have hz':(r.2.2 != 0)=true:=by simpa using hz
      rw[hz',if_pos rfl,if_pos rfl]
      exact⟨_,rfl,by simp,_,rfl,rfl⟩
    ·rw[if_neg hq,if_neg hq,if_neg (by decide:¬((0:Int)==2)=true),if_neg (by decide:¬((0:Int)==1)=true),if_pos (bU h),uv]
     cases hg:good s[i] with
     |false=>exact⟨_,rfl,by simp,_,rfl,rfl⟩
     |true =>
      rw[if_neg (by decide:¬true=false),if_neg (by decide:¬(!true)=true),aZ i (by omega)]
      by_cases hb:s[i]=32
      ·rw[if_pos hb]
       show ∃t,aR n k s (IntKind.wrap .i64 ((i:Int)+1)) (e:Int)=some t/\_
       rw[aZ i (by omega)]
       exact yq n s hn hs k (i+1) e (by omega) (by omega) (by omega) (by rw[kW h,lh,if_pos hb];exact hinv)
      ·rw[if_neg hb]
       show ∃t,aR n k s (IntKind.wrap .i64 ((i:Int)+1)) ((i+1:Nat):Int)=some t/\_
       rw[aZ i (by omega)]
       exact yq n s hn hs k (i+1) (i+1) (by omega) (by omega) (by omega) (by rw[kW h,lh,if_neg hb])
  ·have hi:i=s.length:=by omega
   have heq:((i:Int)==(s.length:Int))=true:=by rw[oy];exact decide_eq_true hi
   rw[heq,if_pos rfl,if_pos (mD (by omega)),iM (Nat.not_lt.1 h),if_neg Bool.false_ne_true,tn]
   exact⟨_,rfl,hte,_,rfl,by rw[hinv,hi,List.take_length],Nat.le_refl _⟩
theorem Bf(n:Nat)(s:BS)(hn:20000<=n)(hs:s.length<=10000):∃t,iE n s=some t/\wZ n s=some t/\t.1.length<=s.length:=by
 obtain⟨t,h1,h2,r,h3,h4⟩:=yq n s hn hs n 0 0 (by omega) (by omega) (by omega) rfl
 refine⟨t,?_,?_,h2⟩
 ·unfold iE
  obtain⟨k,rfl⟩:∃k,n=k+1:=⟨n-1,by omega⟩
  have:jF (k+1) (k+1) s=aR (k+1) (k+1) s 0 0:=by
   rw[jF,aR];rfl
  have h1:aR (k+1) (k+1) s 0 0=some t:=h1
  rw[this,h1];rfl
 ·unfold wZ
  have h3:kJ n n s 0=some r:=h3
  rw[h3,Option.bind_some]
  cases r with
  |inl s' =>
   rw[Sum.elim_inl,LV n n s' (by have:=h4.2;omega) (by have:=h4.2;omega),h4.1];rfl
  |inr r=>rw[h4];rfl
def rowOf(s:BS):BS×BS:=match upto 10 s with|none=>(s,[])|some p=>p
theorem rV(c:UInt8)(s:BS):rowOf (c::s)=if c=10 then([],s) else(c::(rowOf s).1,(rowOf s).2):=by
 unfold rowOf
 rw[upto]
 by_cases h:c=10
 ·rw[if_pos h,if_pos h]
 ·rw[if_neg h,if_neg h]
  cases upto 10 s<;>rfl
theorem kZ(s:BS):(rowOf s).1.length<=s.length/\(s≠[]->(rowOf s).2.length<s.length)/\(rowOf s).2.length<=s.length:=by
 unfold rowOf
 cases h:upto 10 s with
 |none=>exact⟨Nat.le_refl _,fun hs=>List.length_pos_iff.2 hs,Nat.zero_le _⟩
 |some p =>
  obtain⟨p,q⟩:=p
  have:=congrArg List.length (uD h).1
  simp at this
  exact⟨by simp;omega,fun _=>by simp;omega,by simp;omega⟩
theorem J9(s:BS):s.take (rowOf s).1.length=(rowOf s).1/\(if(rowOf s).1.length<s.length then s.drop ((rowOf s).1.length+1) else [])=(rowOf s).2:=by
 unfold rowOf
 cases h:upto 10 s with
 |none=>exact⟨List.take_length,by simp⟩
 |some p =>
  obtain⟨p,q⟩:=p
  have hs:=(uD h).1
  simp only
  rw[hs]
  refine⟨List.take_left,?_⟩
  rw[if_pos (by simp),<-List.drop_drop,List.drop_left];rfl
theorem RU(c:UInt8):((c.toNat:Int) != 10)=!decide (c=10):=by rw[<-b10];rfl
theorem sl2(n:Nat)(s:BS)(out:List av)(no:Int)(hs:s.length<=10000):∀(k i:Nat),i<=s.length->s.length-i<k->kQ n s out no k (i:Int)=some ((i+(rowOf (s.drop i)).1.length:Nat):Int)
 |0,i,_,h=>by omega
 |k+1,i,h1,h2=>by
  rw[kQ]
  by_cases h:i<s.length
  ·rw[if_pos (by rw[bU h,Bool.or_true]),gy h,cond_true,cY h,RU,drop_at h,rV]
   by_cases hc:s[i]=10
   ·rw[if_neg (by simp[hc]),if_pos hc];rfl
   ·rw[if_pos (by simp[hc]),if_neg hc,aZ i (by omega),sl2 n s out no hs k (i+1) (by omega) (by omega)]
    simp only[List.length_cons]
    rw[show i+1+(rowOf (List.drop (i+1) s)).1.length=i+((rowOf (List.drop (i+1) s)).1.length+1) by omega]
  ·rw[if_pos (by rw[iM (Nat.not_lt.1 h)];rfl),iM (Nat.not_lt.1 h),cond_false,if_neg Bool.false_ne_true,List.drop_eq_nil_of_le (by omega)];rfl
theorem sl4(n:Nat)(s:BS)(out:List av)(no:Int)(row:BS)(hs:row.length<=10000):∀(k i:Nat),i<=row.length->row.length-i<k->kV n s out no row k (i:Int)=some ((i+ind (row.drop i):Nat):Int)
 |0,i,_,h=>by omega
 |k+1,i,h1,h2=>by
  rw[kV]
  by_cases h:i<row.length
  ·rw[if_pos (by rw[bU h,Bool.or_true]),gy h,cond_true,cY h,b32,drop_at h,zE]
   by_cases hc:row[i]=32
   ·rw[if_pos (decide_eq_true hc),if_pos hc,aZ i (by omega),sl4 n s out no row hs k (i+1) (by omega) (by omega)]
    rw[show i+1+ind (List.drop (i+1) row)=i+(ind (List.drop (i+1) row)+1) by omega]
   ·rw[if_neg (by simpa using hc),if_neg hc];rfl
  ·rw[if_pos (by rw[iM (Nat.not_lt.1 h)];rfl),iM (Nat.not_lt.1 h),cond_false,if_neg Bool.false_ne_true,List.drop_eq_nil_of_le (by omega)];rfl
theorem I7{a:Nat}(h:a<=1000000):decide ((a+1)*(32+1)<=limit)=true:=decide_eq_true (by show(a+1)*(32+1)<=140737488355328;omega)
theorem B9(n:Nat)(hn:20000<=n):∀(k:Nat)(s:BS)(out:List av)(no:Nat),s.length<k->s.length<=10000->out.length<=no->no+s.length<=10000->∃r,dM n k s out ((no+1:Nat):Int)=some r/\nC n k s out (no:Int)=some r/\(∀o,r=.inl o->o.length<=10000)
 |0,s,out,no,h,_,_,_=>by omega
 |k+1,s,out,no,h1,h2,h3,h4=>by
  rw[dM,nC]
  by_cases hs:s=[]
  ·subst hs
   exact⟨.inl out,rfl,rfl,fun o e=>by cases e;omega⟩
  ·have hpos:0<s.length:=List.length_pos_iff.2 hs
   obtain⟨g1,g2,g3⟩:=kZ s
   have g2:=g2 hs
   obtain⟨g4,g5⟩:=J9 s
   have e1:(s==[])=false:=by simpa using hs
   have e2:decide ((s.length:Int)>0)=true:=decide_eq_true (by omega)
   have hw:=aZ no (by omega)
   have hcut:(Lib.cut s [10]).1=(rowOf s).1/\(Lib.cut s [10]).2.1=(rowOf s).2:=by
    rw[Lj];unfold rowOf
    cases upto 10 s<;>exact⟨rfl,rfl⟩
   have l2:=sl2 n s out ((no+1:Nat):Int) h2 n 0 (by omega) (by omega)
   have l2:kQ n s out ((no+1:Nat):Int) n 0=some (((rowOf s).1.length:Nat):Int):=by rw[show(0:Int)=((0:Nat):Int) from rfl,l2,List.drop_zero,Nat.zero_add]
   rw[e1,e2,if_pos rfl,if_pos (by decide),hw,l2,Option.bind_some,if_pos (mD g1),tn,g4]
   have j3:pV n s out ((no+1:Nat):Int) (((rowOf s).1.length:Nat):Int) (rowOf s).1 (decide ((((rowOf s).1.length:Nat):Int)<(s.length:Int)))=some (rowOf s).2:=by
    rw[pV,aZ _ (by omega)]
    by_cases hl:(rowOf s).1.length<s.length
    ·rw[if_pos hl] at g5
     rw[if_pos (gy hl),if_pos (mD (by omega)),tn,g5]
    ·rw[if_neg hl] at g5
     rw[if_neg (by rw[iM (Nat.not_lt.1 hl)];exact Bool.false_ne_true),<-g5]
   have hil:=FT (rowOf s).1
   have l4:kV n (rowOf s).2 out ((no+1:Nat):Int) (rowOf s).1 n 0=some ((ind (rowOf s).1:Nat):Int):=by
    have:=sl4 n (rowOf s).2 out ((no+1:Nat):Int) (rowOf s).1 (by omega) n 0 (by omega) (by omega)
    rw[show(0:Int)=((0:Nat):Int) from rfl,this,List.drop_zero,Nat.zero_add]
   rw[j3,Option.bind_some,l4,Option.bind_some,if_pos (mD hil),tn]
   obtain⟨t,t1,t2,t3⟩:=Bf n ((rowOf s).1.drop (ind (rowOf s).1)) hn (by rw[List.length_drop];omega)
   rw[List.length_drop] at t3
   have hx:IntKind.wrap .i64 (((rowOf s).1.length:Int)-((Lib.trimLeftB (rowOf s).1 32).length:Int))=((ind (rowOf s).1:Nat):Int):=by rw[FC,iQ _ (by omega) (by omega)];omega
   have j2:jZ n s out ((no+1:Nat):Int)=some (if(bif (!t.2) then true else(bif (((ind (rowOf s).1:Nat):Int)==0) then(bif (t.1==[45,45,45]) then true else(t.1==[46,46,46])) else false))=true then .inr (((no+1:Nat):Int),3)
     else if(!(t.1==[]))=true then .inl ((rowOf s).2,out++[av.mk ((no+1:Nat):Int) ((ind (rowOf s).1:Nat):Int) t.1]) else .inl ((rowOf s).2,out)):=by
    rw[jZ,if_pos (decide_eq_true (by omega)),hcut.1,hcut.2,hx]
    simp only[aP]
    have hcap:decide ((List.length out+List.length ([av.mk ((no+1:Nat):Int) ((ind (rowOf s).1:Nat):Int) t.1]:List av))*(32+1)<=limit)=true:=I7 (by omega)
    rw[if_pos (mD hil),tn,t1,Option.bind_some,if_pos hcap]
    split
    ·rfl
    ·split<;>rfl
   rw[j2,t2,Option.bind_some,Option.bind_some]
   simp only[aP]
   by_cases hbad:(bif (!t.2) then true else(bif (((ind (rowOf s).1:Nat):Int)==0) then(bif (t.1==[45,45,45]) then true else(t.1==[46,46,46])) else false))=true
   ·rw[if_pos hbad,if_pos hbad]
    exact⟨.inr (((no+1:Nat):Int),3),rfl,rfl,fun o e=>by cases e⟩
   ·rw[if_neg hbad,if_neg hbad]
    have hcap:decide ((List.length out+List.length ([av.mk ((no+1:Nat):Int) ((ind (rowOf s).1:Nat):Int) t.1]:List av))*(32+1)<=limit)=true:=I7 (by omega)
    by_cases ht:t.1=[]
    ·have ht1:(t.1==[])=true:=by simpa using ht
     have ht2:decide ((t.1.length:Int)>0)=false:=by rw[ht];rfl
     rw[ht1,ht2,if_neg (by decide),if_neg Bool.false_ne_true,Sum.elim_inl]
     simp only
     rw[aZ (no+1) (by omega)]
     exact B9 n hn k (rowOf s).2 out (no+1) (by omega) (by omega) (by omega) (by omega)
    ·have ht1:(t.1==[])=false:=by simpa using ht
     have ht2:decide ((t.1.length:Int)>0)=true:=decide_eq_true (by have:=List.length_pos_iff.2 ht;omega)
     rw[ht1,ht2,if_pos (by decide),if_pos rfl,if_pos hcap,Sum.elim_inl]
     simp only
     rw[aZ (no+1) (by omega)]
     exact B9 n hn k (rowOf s).2 _ (no+1) (by omega) (by omega) (by simp;omega) (by omega)
theorem wH(n:Nat)(hn:20000<=n)(k:Nat)(s:BS)(out:List av)(no:Nat)(t:BS×Bool)(hs:s≠[])(h2:s.length<=10000)(h3:out.length<=no)(h4:no+s.length<=10000)(ht:iE n ((rowOf s).1.drop (ind (rowOf s).1))=some t) :
  dM n (k+1) s out ((no+1:Nat):Int)=(if(bif (!t.2) then true else(bif (((ind (rowOf s).1:Nat):Int)==0) then(bif (t.1==[45,45,45]) then true else(t.1==[46,46,46])) else false))=true then some (.inr (((no+1:Nat):Int),3))
   else if t.1=[] then dM n k (rowOf s).2 out ((no+1+1:Nat):Int) else dM n k (rowOf s).2 (out++[av.mk ((no+1:Nat):Int) ((ind (rowOf s).1:Nat):Int) t.1]) ((no+1+1:Nat):Int)):=by
 have hpos:=List.length_pos_iff.2 hs
 obtain⟨g1,g2,g3⟩:=kZ s
 have e1:(s==[])=false:=by simpa using hs
 have hw:=aZ no (by omega)
 have hcut:(Lib.cut s [10]).1=(rowOf s).1/\(Lib.cut s [10]).2.1=(rowOf s).2:=by
  rw[Lj];unfold rowOf
  cases upto 10 s<;>exact⟨rfl,rfl⟩
 have hil:=FT (rowOf s).1
 have hx:IntKind.wrap .i64 (((rowOf s).1.length:Int)-((Lib.trimLeftB (rowOf s).1 32).length:Int))=((ind (rowOf s).1:Nat):Int):=by rw[FC,iQ _ (by omega) (by omega)];omega
 have hcap:decide ((List.length out+List.length ([av.mk ((no+1:Nat):Int) ((ind (rowOf s).1:Nat):Int) t.1]:List av))*(32+1)<=limit)=true:=I7 (by omega)
 have j2:jZ n s out ((no+1:Nat):Int)=some (if(bif (!t.2) then true else(bif (((ind (rowOf s).1:Nat):Int)==0) then(bif (t.1==[45,45,45]) then true else(t.1==[46,46,46])) else false))=true then .inr (((no+1:Nat):Int),3)
   else if(!(t.1==[]))=true then .inl ((rowOf s).2,out++[av.mk ((no+1:Nat):Int) ((ind (rowOf s).1:Nat):Int) t.1]) else .inl ((rowOf s).2,out)):=by
  rw[jZ,if_pos (decide_eq_true (by omega)),hcut.1,hcut.2,hx]
  simp only[aP]
  rw[if_pos (mD hil),tn,ht,Option.bind_some,if_pos hcap]
  split
  ·rfl
  ·split<;>rfl
 rw[dM,e1,if_pos (by decide:(!false)=true),j2,Option.bind_some]
 by_cases hbad:(bif (!t.2) then true else(bif (((ind (rowOf s).1:Nat):Int)==0) then(bif (t.1==[45,45,45]) then true else(t.1==[46,46,46])) else false))=true
 ·rw[if_pos hbad,if_pos hbad];rfl
 ·rw[if_neg hbad,if_neg hbad]
  by_cases ht0:t.1=[]
  ·have ht1:(t.1==[])=true:=by simpa using ht0
   rw[ht1,if_neg (by decide),if_pos ht0,Sum.elim_inl]
   simp only
   rw[aZ (no+1) (by omega)]
  ·have ht1:(t.1==[])=false:=by simpa using ht0
   rw[ht1,if_pos (by decide),if_neg ht0,Sum.elim_inl]
   simp only
   rw[aZ (no+1) (by omega)]
theorem FG(i:Nat)(t:BS):(bif (!true) then true else(bif (((i:Nat):Int)==0) then(bif (t==[45,45,45]) then true else(t==[46,46,46])) else false))=decide (i=0/\(t=[45,45,45]\/t=[46,46,46])):=by
 have h1:(((i:Nat):Int)==((0:Nat):Int))=decide (i=0):=oy
 have h1:(((i:Nat):Int)==0)=decide (i=0):=h1
 rw[h1]
 by_cases a:i=0
 ·by_cases b:t=[45,45,45]
  ·simp[a,b]
  ·by_cases c:t=[46,46,46]
   ·simp[a,c]
   ·simp[a,b,c]
 ·simp[a]
inductive Sp(n:Nat):BS->Nat->List av->Prop
 |nil (no:Nat):Sp n [] no []
 |skip (s:BS) (no:Nat) (ls:List av) (hs:s≠[]) (h:iE n ((rowOf s).1.drop (ind (rowOf s).1))=some ([],true)) (hr:Sp n (rowOf s).2 (no+1) ls):Sp n s no ls
 |line (s:BS) (no:Nat) (t:BS) (ls:List av) (hs:s≠[]) (ht:t≠[]) (h:iE n ((rowOf s).1.drop (ind (rowOf s).1))=some (t,true)) (hb:¬(ind (rowOf s).1=0/\(t=[45,45,45]\/t=[46,46,46]))) (hr:Sp n (rowOf s).2 (no+1) ls) :
   Sp n s no (av.mk ((no+1:Nat):Int) ((ind (rowOf s).1:Nat):Int) t::ls)
theorem JE(n:Nat)(hn:20000<=n):∀(k:Nat)(s:BS)(out o:List av)(no:Nat),s.length<k->s.length<=10000->out.length<=no->no+s.length<=10000->dM n k s out ((no+1:Nat):Int)=some (.inl o)->∃ls,o=out++ls/\Sp n s no ls
 |0,s,_,_,_,h,_,_,_,_=>by omega
 |k+1,s,out,o,no,h1,h2,h3,h4,h=>by
  by_cases hs:s=[]
  ·subst hs
   have h:some (Sum.inl out)=some (Sum.inl o:Sum (List av) (Int×Int)):=h
   cases h
   exact⟨[],by simp,.nil no⟩
  ·obtain⟨g1,g2,g3⟩:=kZ s
   have g2:=g2 hs
   obtain⟨t,t1,t2,t3⟩:=Bf n ((rowOf s).1.drop (ind (rowOf s).1)) hn (by rw[List.length_drop];omega)
   rw[wH n hn k s out no t hs h2 h3 h4 t1] at h
   obtain⟨t,b⟩:=t
   cases b with
   |false=>simp only[Bool.not_false,cond_true,if_true] at h;cases h
   |true =>
    rw[FG] at h
    by_cases hb:ind (rowOf s).1=0/\(t=[45,45,45]\/t=[46,46,46])
    ·rw[if_pos (decide_eq_true hb)] at h;cases h
    ·rw[if_neg (by simpa using hb)] at h
     simp only at h
     by_cases ht:t=[]
     ·rw[if_pos ht] at h
      subst ht
      obtain⟨ls,e1,e2⟩:=JE n hn k (rowOf s).2 out o (no+1) (by omega) (by omega) (by omega) (by omega) h
      exact⟨ls,e1,.skip s no ls hs t1 e2⟩
     ·rw[if_neg ht] at h
      obtain⟨ls,e1,e2⟩:=JE n hn k (rowOf s).2 _ o (no+1) (by omega) (by omega) (by simp;omega) (by omega) h
      exact⟨_::ls,by rw[e1];simp,.line s no t ls hs ht t1 hb e2⟩
theorem QH(n:Nat)(hn:20000<=n){s:BS}{no:Nat}{ls:List av}(h:Sp n s no ls):∀(k:Nat)(out:List av),s.length<k->s.length<=10000->out.length<=no->no+s.length<=10000->dM n k s out ((no+1:Nat):Int)=some (.inl (out++ls)):=by
 induction h with
 |nil no =>
  intro k out h1 _ _ _
  obtain⟨k,rfl⟩:∃k',k=k'+1:=⟨k-1,by simp at h1;omega⟩
  rw[List.append_nil];rfl
 |skip s no ls hs h hr ih =>
  intro k out h1 h2 h3 h4
  obtain⟨k,rfl⟩:∃k',k=k'+1:=⟨k-1,by omega⟩
  obtain⟨g1,g2,g3⟩:=kZ s
  have g2:=g2 hs
  rw[wH n hn k s out no _ hs h2 h3 h4 h,FG,if_neg (by simp),if_pos rfl]
  exact ih k out (by omega) (by omega) (by omega) (by omega)
 |line s no t ls hs ht h hb hr ih =>
  intro k out h1 h2 h3 h4
  obtain⟨k,rfl⟩:∃k',k=k'+1:=⟨k-1,by omega⟩
  obtain⟨g1,g2,g3⟩:=kZ s
  have g2:=g2 hs
  rw[wH n hn k s out no _ hs h2 h3 h4 h,FG,if_neg (by simpa using hb)]
  simp only
  rw[if_neg ht,ih k _ (by omega) (by omega) (by simp;omega) (by omega)]
  simp
theorem G4(n:Nat)(hn:20000<=n)(s:BS)(hs:s.length<=8192):(∃ls,Sp n s 0 ls/\iL n s=some (ls,0,0))\/∃no e,e≠0/\iL n s=some ([],no,e):=by
 obtain⟨r,h1,h2,h3⟩:=B9 n hn n s [] 0 (by omega) (by omega) (by simp) (by omega)
 have hu:iL n s=(some r).bind fun o1=>(Sum.elim (fun o1=>some (o1,0,0)) (fun o1=>some ([],o1.1,o1.2))) o1:=by
  unfold iL
  rw[if_neg (by simp;omega)]
  have h1:dM n n s [] 1=some r:=h1
  rw[h1]
 cases r with
 |inl o =>
  obtain⟨ls,e1,e2⟩:=JE n hn n s [] o 0 (by omega) (by omega) (by simp) (by omega) h1
  rw[List.nil_append] at e1
  subst e1
  exact .inl ⟨_,e2,hu⟩
 |inr o =>
  refine .inr ⟨o.1,o.2,?_,hu⟩
  have:∀(k:Nat)(s:BS)(out:List av)(no:Nat),s.length<k->s.length<=10000->out.length<=no->no+s.length<=10000->dM n k s out ((no+1:Nat):Int)=some (.inr o)->o.2≠0:=by
   intro k
   induction k with
   |zero=>intro s _ _ h;omega
   |succ k ih =>
    intro s out no h1 h2 h3 h4 h
    by_cases hs:s=[]
    ·subst hs
     have h:some (Sum.inl out)=some (Sum.inr o:Sum (List av) (Int×Int)):=h
     cases h
    ·obtain⟨g1,g2,g3⟩:=kZ s
     have g2:=g2 hs
     obtain⟨t,t1,t2,t3⟩:=Bf n ((rowOf s).1.drop (ind (rowOf s).1)) hn (by rw[List.length_drop];omega)
     rw[wH n hn k s out no t hs h2 h3 h4 t1] at h
     split at h
     ·cases h;show(3:Int)≠0;decide
     ·split at h
      ·exact ih _ _ (no+1) (by omega) (by omega) (by omega) (by omega) h
      ·exact ih _ _ (no+1) (by omega) (by omega) (by simp;omega) (by omega) h
  exact this n s [] 0 (by omega) (by omega) (by simp) (by omega) h1
theorem Dp(n:Nat)(hn:20000<=n)(s:BS)(hs:s.length<=8192){ls:List av}(h:Sp n s 0 ls):iL n s=some (ls,0,0):=by
 have h1:=QH n hn h n [] (by omega) (by omega) (by simp) (by omega)
 unfold iL
 rw[if_neg (by simp;omega)]
 have h1:dM n n s [] 1=some (.inl ([]++ls)):=h1
 rw[h1];rfl
end Go.Proofs.YtefojkdckfidcaaGreatDoor.M
