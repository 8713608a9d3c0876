import Derived.Test.YtefojkdckfidcaaGreatDoorQPlain
import Derived.Test.YtefojkdckfidcaaGreatDoorQRxIW
import Derived.Lib.CountLaws
import Derived.Test.YtefojkdckfidcaaGreatDoorQM11
set_option linter.all false
namespace Go.Proofs.YtefojkdckfidcaaGreatDoor.PL
open Go Go.Proofs.YtefojkdckfidcaaGreatDoor.RX
theorem drop_at{α:Type}{l:List α}{i:Nat}(h:i<l.length):l.drop i=l[i]::l.drop (i+1):=List.drop_eq_getElem_cons h
def Ik{ρ:Type}:Option ρ->Sum Unit ρ|some r=>.inr r|none=>.inl ()
@[simp] theorem ME{ρ:Type}:Ik (none:Option ρ)=.inl ():=rfl
@[simp] theorem MC{ρ:Type}(r:ρ):Ik (some r)=.inr r:=rfl
theorem FQ{α ρ:Type}{L:Nat->Int->Option (Sum Unit ρ)}(l:List α)(g:α->Option ρ)(i0:Nat)(hN:l.length<1000000000)
  (hs:∀k i (h:i<l.length),i0<=i->L (k+1) (i:Int)=match g l[i] with|some r=>some (.inr r)|none=>L k (IntKind.wrap .i64 ((i:Int)+1)))
  (he:∀k,L (k+1) (l.length:Int)=some (.inl ())):∀(k i:Nat),i0<=i->i<=l.length->l.length-i<k->L k (i:Int)=some (Ik ((l.drop i).findSome? g))
 |0,i,_,_,h=>by omega
 |k+1,i,h0,h1,h2=>by
  by_cases h:i<l.length
  ·rw[hs k i h h0,drop_at h,List.findSome?_cons]
   cases g l[i] with
   |some r=>rfl
   |none =>
    show L k _=_
    rw[jK i (by omega)]
    exact FQ l g i0 hN hs he k (i+1) (by omega) (by omega) (by omega)
  ·have:i=l.length:=by omega
   subst this
   rw[he,List.drop_eq_nil_of_le (Nat.le_refl _)];rfl
theorem ze{n:Nat}:decide ((n:Int)<(n:Int))=false:=by simp
theorem En{a b:Nat}(h:a+b<=1000000000):decide ((a+b)*(16+1)<=limit)=true:=decide_eq_true (by show(a+b)*(16+1)<=140737488355328;omega)
abbrev BS:=Bs
theorem gQ(a:BS):¬a<a:=List.lt_irrefl a
theorem ui{a b c:BS}(h:a<b)(h':b<c):a<c:=List.lt_trans h h'
theorem lX{a b:BS}:¬a<b↔b<=a:=List.not_lt
theorem Au{a b:BS}:¬a<=b↔b<a:=List.not_le
theorem sC{a b:BS}(h:a<=b)(h':b<=a):a=b:=List.le_antisymm h h'
theorem xf{a b c:BS}(h:a<=b)(h':b<=c):a<=c:=List.le_trans h h'
theorem Jg(a b:BS):a<=b\/b<=a:=List.le_total a b
theorem sV{a b:BS}(h:a<b):a<=b:=List.le_of_lt h
theorem mG{a b:BS}(h:a<=b)(hn:a≠b):a<b:=Au.1 fun h'=>hn (sC h h')
theorem xJ:∀x y:BS,Op.bytesLess x y=decide (x<y)
 |[],[]=>by simp[Op.bytesLess]
 |_::_,[]=>by simp[Op.bytesLess]
 |[],_::_=>by simp[Op.bytesLess]
 |a::x,b::y=>by
  rw[Op.bytesLess,xJ x y]
  simp only[List.cons_lt_cons_iff]
  by_cases h1:a<b<;>by_cases h2:a=b<;>by_cases h3:x<y<;>simp[h1,h2,h3]
theorem KR(a b:BS):(Op.bytesLess a b||a==b)=decide (a<=b):=by
 rw[xJ,Bool.eq_iff_iff]
 simp only[Bool.or_eq_true,decide_eq_true_eq,beq_iff_eq]
 constructor
 ·rintro(h|rfl)
  ·exact sV h
  ·exact lX.1 (gQ a)
 ·intro h
  by_cases e:a=b
  ·exact .inr e
  ·exact .inl (mG h e)
abbrev Asc(l:List BS):Prop:=l.Pairwise (·<·)
theorem Asc.ext:∀{l m:List BS},Asc l->Asc m->(∀x,x∈l↔x∈m)->l=m
 |[],[],_,_,_=>rfl
 |[],b::m,_,_,h=>by have:=(h b).2 (by simp);simp at this
 |a::l,[],_,_,h=>by have:=(h a).1 (by simp);simp at this
 |a::l,b::m,hl,hm,h=>by
  obtain⟨h1,h2⟩:=List.pairwise_cons.1 hl
  obtain⟨h3,h4⟩:=List.pairwise_cons.1 hm
  have hab:a=b:=by
   rcases List.mem_cons.1 ((h a).1 (by simp)) with e|e
   ·exact e
   ·rcases List.mem_cons.1 ((h b).2 (by simp)) with e'|e'
    ·exact e'.symm
    ·exact absurd (ui (h1 b e') (h3 a e)) (gQ a)
  subst hab
  congr 1
  refine Asc.ext h2 h4 fun x=>⟨fun hx=>?_,fun hx=>?_⟩
  ·rcases List.mem_cons.1 ((h x).1 (by simp[hx])) with e|e
   ·exact absurd (h1 x hx) (e▸gQ _)
   ·exact e
  ·rcases List.mem_cons.1 ((h x).2 (by simp[hx])) with e|e
   ·exact absurd (h3 x hx) (e▸gQ _)
   ·exact e
def ins(x:BS):List BS->List BS
 |[]=>[x]
 |y::l=>if x<y then x::y::l else if x=y then y::l else y::ins x l
def srt(l:List BS):List BS:=l.foldr ins []
theorem zB{x z:BS}:∀{l:List BS},z∈ins x l↔z=x\/z∈l
 |[]=>by simp[ins]
 |y::l=>by
  unfold ins
  split
  ·simp
  ·split
   ·rename_i h;subst h;simp
   ·simp only[List.mem_cons,zB (l:=l)]
    constructor
    ·rintro(h|h|h)<;>simp[h]
    ·rintro(h|h|h)<;>simp[h]
theorem Ef{x:BS}:∀{l:List BS},Asc l->Asc (ins x l)
 |[],_=>by simp[ins]
 |y::l,h=>by
  obtain⟨h1,h2⟩:=List.pairwise_cons.1 h
  unfold ins
  split
  ·rename_i hx
   refine List.pairwise_cons.2 ⟨fun z hz=>?_,h⟩
   rcases List.mem_cons.1 hz with rfl|hz
   ·exact hx
   ·exact ui hx (h1 z hz)
  ·split
   ·exact h
   ·rename_i hx hy
    refine List.pairwise_cons.2 ⟨fun z hz=>?_,Ef h2⟩
    rcases zB.1 hz with rfl|hz
    ·exact mG (lX.1 hx) (fun e=>hy e.symm)
    ·exact h1 z hz
theorem wK:∀l:List BS,Asc (srt l)
 |[]=>.nil
 |x::l=>Ef (wK l)
theorem oz{z:BS}:∀{l:List BS},z∈srt l↔z∈l
 |[]=>by simp[srt]
 |x::l=>by
  show z∈ins x (srt l)↔_
  rw[zB,oz,List.mem_cons]
theorem qo(x:BS):∀l:List BS,(ins x l).length<=l.length+1
 |[]=>by simp[ins]
 |y::l=>by
  unfold ins
  have:=qo x l
  split
  ·simp
  ·split
   ·simp
   ·simp;omega
theorem mW:∀l:List BS,(srt l).length<=l.length
 |[]=>by simp[srt]
 |x::l=>by
  have:=qo x (srt l);have:=mW l
  show(ins x (srt l)).length<=_
  simp;omega
end Go.Proofs.YtefojkdckfidcaaGreatDoor.PL
namespace Go.Proofs.YtefojkdckfidcaaGreatDoor.PL
open Go Go.Proofs.YtefojkdckfidcaaGreatDoor.RX
def sub(c:UInt8)(new:BS)(b:UInt8):BS:=if b=c then new else [b]
def parts(c:UInt8):BS->List BS
 |[]=>[[]]
 |b::t=>if b=c then []::parts c t else match parts c t with|[]=>[[b]]|x::r=>(b::x)::r
end Go.Proofs.YtefojkdckfidcaaGreatDoor.PL
namespace Go.Proofs.YtefojkdckfidcaaGreatDoor.M
open Go Go.Proofs.YtefojkdckfidcaaGreatDoor.RX Go.Proofs.YtefojkdckfidcaaGreatDoor.PL
set_option maxRecDepth 100000
def good(c:UInt8):Bool:=decide (32<=c.toNat)&&c.toNat != 127
theorem EN:∀c:UInt8,eu (c.toNat:Int)=good c:=oL (by decide +kernel)
theorem AL:∀c:UInt8,jB (c.toNat:Int)=good c:=oL (by decide +kernel)
theorem b34(c:UInt8):((c.toNat:Int)==34)=decide (c=34):=kB c 34 (by decide)
theorem b92(c:UInt8):((c.toNat:Int)==92)=decide (c=92):=kB c 92 (by decide)
theorem b10(c:UInt8):((c.toNat:Int)==10)=decide (c=10):=kB c 10 (by decide)
theorem b9(c:UInt8):((c.toNat:Int)==9)=decide (c=9):=kB c 9 (by decide)
theorem b39(c:UInt8):((c.toNat:Int)==39)=decide (c=39):=kB c 39 (by decide)
theorem b32(c:UInt8):((c.toNat:Int)==32)=decide (c=32):=kB c 32 (by decide)
theorem b45(c:UInt8):((c.toNat:Int)==45)=decide (c=45):=kB c 45 (by decide)
theorem b58(c:UInt8):((c.toNat:Int)==58)=decide (c=58):=kB c 58 (by decide)
theorem b35(c:UInt8):((c.toNat:Int)==35)=decide (c=35):=kB c 35 (by decide)
theorem Hl(c d:UInt8):((c.toNat:Int)==(d.toNat:Int))=(c==d):=by
 rw[Bool.eq_iff_iff,beq_iff_eq,beq_iff_eq,<-UInt8.toNat_inj]
 omega
theorem kQ(c d:UInt8):decide (c=d)=(c==d):=by
 rw[Bool.eq_iff_iff];simp
def Dk:Bs:=vn
theorem MQ:∀c:UInt8,decide ((Lib.indexByte (vn:Bs) (Int.toNat (c.toNat:Int)).toUInt8)>=0)=Dk.contains c:=oL (by decide +kernel)
theorem JA(n:Nat)(c:UInt8)(L:Bs)(hL:L.length<=100000):∀(k i:Nat),i<=L.length->L.length-i<k->jZ n (c.toNat:Int) L k (i:Int)=some (if(L.drop i).contains c=true then .inr true else .inl ())
 |0,i,h1,h2=>by omega
 |k+1,i,h1,h2=>by
  rw[jZ]
  by_cases h:i<L.length
  ·rw[if_pos (oQ h),if_pos (jg h),jj h,Hl,drop_at h,List.contains_cons]
   cases hc:L[i]==c with
   |true =>
    have:(c==L[i])=true:=by rw[beq_iff_eq] at hc ⊢;exact hc.symm
    simp[this]
   |false =>
    have:(c==L[i])=false:=by rw[beq_eq_false_iff_ne] at hc ⊢;exact fun e=>hc e.symm
    rw[this,Bool.false_or,jK i (by omega),JA n c L hL k (i+1) (by omega) (by omega)]
    rfl
  ·rw[if_neg (by rw[rO (Nat.not_lt.1 h)];exact Bool.false_ne_true),List.drop_eq_nil_of_le (by omega)]
   rfl
theorem Lj(n:Nat)(c:UInt8)(L:Bs)(hL:L.length<=100000)(hn:200000<=n):ny n (c.toNat:Int) L=some (L.contains c):=by
 unfold ny
 rw[show((0:Int))=((0:Nat):Int) from rfl,JA n c L hL n 0 (by omega) (by omega),List.drop_zero]
 cases L.contains c<;>rfl
def ig(s:Bs)(j:Nat):Bool:=if h:j<s.length then s[j]==32 else true
theorem bl(n j:Nat)(s:Bs):eY n (j:Int) s=some (ig s j):=by
 unfold eY ig
 have h0:decide ((j:Int)<0)=false:=decide_eq_false (by omega)
 by_cases h:j<s.length
 ·have h1:decide ((j:Int)>=(s.length:Int))=false:=decide_eq_false (by omega)
  rw[h0,h1,jg h,jj h,b32,dif_pos h,kQ]
  rfl
 ·have h1:decide ((j:Int)>=(s.length:Int))=true:=decide_eq_true (by omega)
  rw[h0,h1,dif_neg h]
  rfl
def yl(s:Bs)(i:Nat):Bool:=if h:i<s.length then good s[i]&&!(s[i]==58&&ig s (i+1))&&!(s[i]==35&&ig s (i-1)) else true
def gJ(s:Bs)(i:Nat):Bool:=(List.range' i (s.length-i)).all (yl s)
theorem D1{s:Bs}{i:Nat}(h:i<s.length):gJ s i=(yl s i&&gJ s (i+1)):=by
 unfold gJ
 rw[show s.length-i=(s.length-(i+1))+1 by omega,List.range'_succ,List.all_cons]
theorem ET{s:Bs}{i:Nat}(h:s.length<=i):gJ s i=true:=by
 unfold gJ
 rw[show s.length-i=0 by omega];rfl
theorem Hz{s:Bs}:∀{i j:Nat},gJ s i=true->i<=j->j<s.length->yl s j=true:=by
 intro i j h hij hj
 unfold gJ at h
 rw[List.all_eq_true] at h
 exact h j (List.mem_range'_1.2 ⟨hij,by omega⟩)
def plr(b:Bool):Sum Unit Bool:=if b=true then .inl () else .inr false
theorem LO(n:Nat)(s:Bs)(hs:s.length<=100000)(h0:∀h:0<s.length,s[0]≠35):∀(k i:Nat),i<=s.length->s.length-i<k->ik n s s (s.length:Int) k (i:Int)=some (plr (gJ s i))/\ij n s (s.length:Int) k (i:Int)=some (plr (gJ s i))
 |0,i,h1,h2=>by omega
 |k+1,i,h1,h2=>by
  rw[ik,ij]
  by_cases h:i<s.length
  ·obtain⟨hq,hr⟩:=LO n s hs h0 k (i+1) (by omega) (by omega)
   rw[D1 h]
   generalize gJ s (i+1)=r at hq hr ⊢
   have hok:yl s i=(good s[i]&&!(s[i]==58&&ig s (i+1))&&!(s[i]==35&&ig s (i-1))):=by unfold yl;rw[dif_pos h]
   have hX:∃X,plr (yl s i&&r)=X:=⟨_,rfl⟩
   obtain⟨X,hX⟩:=hX
   rw[hX]
   rw[hok] at hX
   rw[if_pos (oQ h),if_pos (oQ h)]
   simp only[jg h,jj h,bM,b58,b35,EN,AL,if_true,Bool.or_true]
   cases hg:good s[i] with
   |false =>
    rw[hg] at hX
    obtain rfl:X=.inr false:=by rw[<-hX];simp[plr]
    exact⟨by simp,by simp⟩
   |true =>
    rw[hg] at hX
    have hwJ:=jK i (by omega)
    have bJ:=bl n (i+1) s
    have inJ:=fun h':i+1<s.length=>jg h'
    have atJ:=fun h':i+1<s.length=>jj (d:=(0:UInt8)) h'
    generalize ((i+1:Nat):Int)=J at hwJ bJ inJ atJ hq hr
    by_cases h58:s[i]=58
    ·have h35:s[i]≠35:=by rw[h58];decide
     have hlast:((i:Int)==IntKind.wrap .i64 ((s.length:Int)-1))=decide (s.length<=i+1):=by
      rw[zt s.length (by omega) (by omega),Bool.eq_iff_iff,beq_iff_eq,decide_eq_true_eq];omega
     by_cases h':i+1<s.length
     ·have hl:decide (s.length<=i+1)=false:=decide_eq_false (by omega)
      have hb:ig s (i+1)=(s[i+1]==32):=by simp[ig,h']
      cases hx:s[i+1]==32 with
      |true =>
       obtain rfl:X=.inr false:=by rw[<-hX,hb,hx,h58];simp[plr]
       exact⟨by simp[h58,hwJ,bJ,hb,hx],by simp[h58,hlast,hl,hwJ,inJ h',atJ h',b32,kQ,hx]⟩
      |false =>
       obtain rfl:X=plr r:=by rw[<-hX,hb,hx,h58];simp
       exact⟨by simp[h58,hwJ,bJ,hb,hx,hq],by simp[h58,hlast,hl,hwJ,inJ h',atJ h',b32,kQ,hx,hr]⟩
     ·have hl:decide (s.length<=i+1)=true:=decide_eq_true (by omega)
      have hb:ig s (i+1)=true:=by simp[ig,h']
      obtain rfl:X=.inr false:=by rw[<-hX,hb,h58];simp[plr]
      exact⟨by simp[h58,hwJ,bJ,hb],by simp[h58,hlast,hl]⟩
    ·have n58:(s[i]==58)=false:=by simpa using h58
     by_cases h35:s[i]=35
     ·have hi0:0<i:=by
       rcases Nat.eq_zero_or_pos i with rfl|h9
       ·exact absurd h35 (h0 h)
       ·exact h9
      have hp:i-1<s.length:=by omega
      have hwK:=zt i (by omega) hi0
      have bK:=bl n (i-1) s
      have inK:=jg hp
      have atK:=jj (d:=(0:UInt8)) hp
      have hgt:decide ((i:Int)>0)=true:=decide_eq_true (by omega)
      have hb:ig s (i-1)=(s[i-1]==32):=by simp[ig,hp]
      generalize ((i-1:Nat):Int)=K at hwK bK inK atK
      cases hx:s[i-1]==32 with
      |true =>
       obtain rfl:X=.inr false:=by rw[<-hX,hb,hx,n58,h35];simp[plr]
       exact⟨by simp[h58,h35,hwK,bK,hb,hx],by simp only[h58,h35,hgt,hwK,inK,atK,b32,kQ,hx];simp⟩
      |false =>
       obtain rfl:X=plr r:=by rw[<-hX,hb,hx,n58,h35];simp
       exact⟨by simp[h58,h35,hwK,bK,hb,hx,hwJ,hq],by simp only[h58,h35,hgt,hwK,inK,atK,b32,kQ,hx,hwJ,hr];simp⟩
     ·have n35:(s[i]==35)=false:=by simpa using h35
      obtain rfl:X=plr r:=by rw[<-hX,n58,n35];simp
      exact⟨by simp[h58,h35,hwJ,hq],by simp[h58,h35,hwJ,hr]⟩
  ·rw[ET (Nat.not_lt.1 h)]
   exact⟨by rw[if_neg (by rw[rO (Nat.not_lt.1 h)];exact Bool.false_ne_true)];rfl,by rw[if_neg (by rw[rO (Nat.not_lt.1 h)];exact Bool.false_ne_true)];rfl⟩
def jH(s:Bs):Bool :=
 if h:0<s.length then
  !(s==[126])&&!(s==lg)&&!(s[0]==32)&&!(s[s.length-1]==32)&&!(Dk.contains s[0])&&!(s[0]==45&&ig s 1)&&gJ s 0
 else false
theorem CQ(n:Nat)(s:Bs)(hs:s.length<=100000)(hn:200000<=n):iw n s=some (jH s)/\mQ n s=some (jH s):=by
 have hone:=fun c=>Lj n c Dk (by decide) hn
 unfold iw mQ
 by_cases hw:s=[]\/s=[126]\/s=lg
 ·rcases hw with rfl|rfl|rfl<;>exact⟨by simp[bM,jH],by simp[bM,jH]⟩
 ·have hne:s≠[]:=fun e=>hw (.inl e)
  have hlen:0<s.length:=List.length_pos_iff.2 hne
  have e1:(s==[])=false:=by simpa using hne
  have e2:(s==[126])=false:=by simp;exact fun e=>hw (.inr (.inl e))
  have e3:(s==lg)=false:=by simp;exact fun e=>hw (.inr (.inr e))
  have e4:((List.length s:Int)==0)=false:=by simp;exact hne
  have hp:s.length-1<s.length:=by omega
  have z0:decide (0<=(0:Int)/\(0:Int)<(List.length s:Int))=true:=jg hlen
  have z1:(s[Int.toNat 0]?.getD 0)=s[0]:=jj hlen
  have hwK:=zt s.length (by omega) hlen
  have inK:=jg hp
  have atK:=jj (d:=(0:UInt8)) hp
  have hX:∃X,jH s=X:=⟨_,rfl⟩
  obtain⟨X,hX⟩:=hX
  rw[hX]
  unfold jH at hX
  rw[dif_pos hlen,e2,e3] at hX
  generalize ((s.length-1:Nat):Int)=K at hwK inK atK
  simp only[e1,e2,e3,e4,z0,z1,hwK,inK,atK,b32,b45,bM,MQ,Bool.or_true,if_true,cond_false]
  by_cases h32:s[0]=32
  ·obtain rfl:X=false:=by rw[<-hX,h32];simp
   exact⟨by simp[h32],by simp[h32]⟩
  ·have n32:(s[0]==32)=false:=by simpa using h32
   by_cases hl32:s[s.length-1]=32
   ·obtain rfl:X=false:=by rw[<-hX,hl32];simp
    exact⟨by simp[h32,hl32],by simp[h32,hl32]⟩
   ·have m32:(s[s.length-1]==32)=false:=by simpa using hl32
    have hone0:ny n (s[0].toNat:Int) vn=some (Dk.contains s[0]):=hone s[0]
    rw[hone0]
    cases hsp:Dk.contains s[0] with
    |true =>
     obtain rfl:X=false:=by rw[<-hX,hsp];simp
     exact⟨by simp[h32,hl32],by simp[h32,hl32]⟩
    |false =>
     have h35:∀h:0<s.length,s[0]≠35:=by
      intro _ e
      rw[e] at hsp
      exact absurd hsp (by decide)
     obtain⟨hq,hr⟩:=LO n s hs h35 n 0 (by omega) (by omega)
     have hq:ik n s s (s.length:Int) n 0=some (plr (gJ s 0)):=hq
     have hr:ij n s (s.length:Int) n 0=some (plr (gJ s 0)):=hr
     have hb:(Sum.elim (fun _=>some true) (fun o4=>some o4):Sum Unit Bool->Option Bool) (plr (gJ s 0))=some (gJ s 0):=by cases gJ s 0<;>rfl
     generalize plr (gJ s 0)=r at hq hr hb
     rw[n32,m32,hsp] at hX
     have b1:=bl n 1 s
     have b1:eY n 1 s=some (ig s 1):=b1
     by_cases h45:s[0]=45
     ·by_cases h1:1<s.length
      ·have en:((List.length s:Int)==1)=false:=by rw[beq_eq_false_iff_ne];omega
       have y0:decide (0<=(1:Int)/\(1:Int)<(List.length s:Int))=true:=jg h1
       have y1:(s[Int.toNat 1]?.getD 0)=s[1]:=jj h1
       have hbl:ig s 1=(s[1]==32):=by simp[ig,h1]
       cases hx:s[1]==32 with
       |true =>
        obtain rfl:X=false:=by rw[<-hX,hbl,hx,h45];simp
        exact⟨by simp[h45,hl32,b1,hbl,hx],by simp only[h45,hl32,en,y0,y1,kQ,hx,b32];simp⟩
       |false =>
        obtain rfl:X=gJ s 0:=by rw[<-hX,hbl,hx];simp
        exact⟨by simp only[h45,hl32,b1,hbl,hx,hq,kQ];simpa using hb,by simp only[h45,hl32,en,y0,y1,kQ,hx,hr,b32];simpa using hb⟩
      ·have en:((List.length s:Int)==1)=true:=by rw[beq_iff_eq];omega
       have hbl:ig s 1=true:=by simp[ig,h1]
       obtain rfl:X=false:=by rw[<-hX,hbl,h45];simp
       exact⟨by simp[h45,hl32,b1,hbl],by simp only[h45,hl32,en];simp⟩
     ·have n45:(s[0]==45)=false:=by simpa using h45
      obtain rfl:X=gJ s 0:=by rw[<-hX,n45];simp
      exact⟨by simp only[h32,hl32,h45,hq];simpa using hb,by simp only[h32,hl32,h45,hr];simpa using hb⟩
def rY(d:Nat):UInt8:=if d<10 then UInt8.ofNat (48+d) else UInt8.ofNat (87+d)
def esc(c:UInt8):Bs :=
 if c=34\/c=92 then [92,c] else if c=10 then [92,110] else if c=9 then [92,116] else if good c=false then [92,120,rY (c.toNat / 16),rY (c.toNat % 16)] else [c]
theorem Aa(c:UInt8):(esc c).length<=4:=by
 unfold esc;repeat' split
 all_goals simp
theorem ML:∀c:UInt8,(decide (0<=(Int.fdiv (c.toNat:Int) (2 ^ (min (Int.toNat 4) (IntKind.bits .u8))))/\(Int.fdiv (c.toNat:Int) (2 ^ (min (Int.toNat 4) (IntKind.bits .u8))))<(List.length ([48,49,50,51,52,53,54,55,56,57,97,98,99,100,101,102]:Bs):Int)))=true /\
  (decide (0<=(IntKind.wrap .u8 ((BitVec.ofInt (IntKind.bits .u8) (c.toNat:Int) &&& BitVec.ofInt (IntKind.bits .u8) 15).toNat))/\(IntKind.wrap .u8 ((BitVec.ofInt (IntKind.bits .u8) (c.toNat:Int) &&& BitVec.ofInt (IntKind.bits .u8) 15).toNat))<(List.length ([48,49,50,51,52,53,54,55,56,57,97,98,99,100,101,102]:Bs):Int)))=true /\
  ((([48,49,50,51,52,53,54,55,56,57,97,98,99,100,101,102]:Bs))[Int.toNat (Int.fdiv (c.toNat:Int) (2 ^ (min (Int.toNat 4) (IntKind.bits .u8))))]?.getD 0)=rY (c.toNat / 16) /\
  ((([48,49,50,51,52,53,54,55,56,57,97,98,99,100,101,102]:Bs))[Int.toNat (IntKind.wrap .u8 ((BitVec.ofInt (IntKind.bits .u8) (c.toNat:Int) &&& BitVec.ofInt (IntKind.bits .u8) 15).toNat))]?.getD 0)=rY (c.toNat % 16):=oL (by decide +kernel)
theorem dq(n:Nat)(v0 v3:Bs)(v13:Int)(i:Nat)(h:i<v0.length)(hb:v3.length<=1000000):jC n v0 v3 v13 (i:Int)=some (v3++esc v0[i]):=by
 unfold jC
 simp only[jg h,jj h,if_true,bM]
 generalize v0[i]=c
 obtain⟨h1,h2,h3,h4⟩:=ML c
 have hs:∀l:Bs,l.length<=4->decide ((List.length v3+List.length l)*(1+1)<=limit)=true:=fun l hl=>fits (by omega)
 simp only[b34,b92,b10,b9,EN,h1,h2,h3,h4,hs _ (by simp:[92,c].length<=4),hs _ (by simp:[(92:UInt8),110].length<=4),hs _ (by simp:[(92:UInt8),116].length<=4),hs _ (by simp:[c].length<=4),hs _ (by simp:[92,120,rY (c.toNat / 16),rY (c.toNat % 16)].length<=4),if_true]
 unfold esc
 by_cases c34:c=34
 ·simp[c34]
 ·by_cases c92:c=92
  ·simp[c92]
  ·by_cases c10:c=10
   ·simp[c10]
   ·by_cases c9:c=9
    ·simp[c9]
    ·cases hg:good c<;>simp[c34,c92,c10,c9]
theorem LM(n:Nat)(s:Bs)(hs:s.length<=100000):∀(k i:Nat)(acc:Bs),i<=s.length->s.length-i<k->acc.length+4*(s.length-i)<=1000000->iH n s (s.length:Int) k acc (i:Int)=some (acc++(s.drop i).flatMap esc)
 |0,i,acc,h1,h2,h3=>by omega
 |k+1,i,acc,h1,h2,h3=>by
  rw[iH]
  by_cases h:i<s.length
  ·rw[if_pos (oQ h),dq n s acc _ i h (by omega),Option.bind_some,jK i (by omega)]
   have:=Aa s[i]
   rw[LM n s hs k (i+1) _ (by omega) (by omega) (by simp;omega),drop_at h,List.flatMap_cons,List.append_assoc]
  ·rw[if_neg (by rw[rO (Nat.not_lt.1 h)];exact Bool.false_ne_true),List.drop_eq_nil_of_le (by omega)]
   simp
def qk(s:Bs):Bs:=[34]++s.flatMap esc++[34]
theorem jQ:∀s:Bs,(s.flatMap esc).length<=4*s.length
 |[]=>by simp
 |c::s=>by
  have:=Aa c;have:=jQ s
  simp only[List.flatMap_cons,List.length_append,List.length_cons];omega
theorem wq(n:Nat)(s:Bs)(hs:s.length<=100000)(hn:200000<=n):iG n s=some (qk s):=by
 have hl:=jQ s
 have hw:IntKind.wrap .i64 ((List.length s:Int)+2)=((s.length+2:Nat):Int):=Et _ (by omega)
 have e0:(List.drop 0 s)=s:=rfl
 have hd:decide ((List.length ([34]++s.flatMap esc)+List.length ([34]:Bs))*(1+1)<=limit)=true:=fits (by rw[List.length_append];simp only[List.length_cons,List.length_nil];omega)
 unfold iG
 have h1:decide ((0:Int)<=0/\(0:Int)<=((s.length+2:Nat):Int))=true:=by simp;omega
 have h2:decide (((s.length+2:Nat):Int)*((1+1:Nat):Int)<=(limit:Int))=true:=decide_eq_true (by show((s.length+2:Nat):Int)*((1+1:Nat):Int)<=((140737488355328:Nat):Int);omega)
 have h3:decide ((List.length ([]:Bs)+List.length ([34]:Bs))*(1+1)<=limit)=true:=by decide
 have:=LM n s hs n 0 ([]++[34]) (by omega) (by omega) (by simp;omega)
 rw[hw,if_pos h1,if_pos h2,if_pos h3,show((0:Int))=((0:Nat):Int) from rfl,this,Option.bind_some,List.drop_zero,List.nil_append,if_pos hd]
 rfl
theorem MV:∀c:UInt8,(decide (0<=fY (IntKind.wrap .u8 (Int.tdiv (c.toNat:Int) 16))/\fY (IntKind.wrap .u8 (Int.tdiv (c.toNat:Int) 16))<256))=true/\(decide (0<=fY (Int.tmod (c.toNat:Int) 16)/\fY (Int.tmod (c.toNat:Int) 16)<256))=true /\
  UInt8.ofNat (Int.toNat (fY (IntKind.wrap .u8 (Int.tdiv (c.toNat:Int) 16))))=rY (c.toNat / 16)/\UInt8.ofNat (Int.toNat (fY (Int.tmod (c.toNat:Int) 16)))=rY (c.toNat % 16):=oL (by decide +kernel)
theorem dr(n:Nat)(v0 v3:Bs)(i:Nat)(h:i<v0.length)(hb:v3.length<=1000000):jG n v0 v3 (i:Int)=some (v3++esc v0[i]):=by
 unfold jG
 simp only[jg h,jj h,if_true,bM]
 generalize v0[i]=c
 obtain⟨h1,h2,h3,h4⟩:=MV c
 have hs:∀l:Bs,l.length<=4->decide ((List.length v3+List.length l)*(1+1)<=limit)=true:=fun l hl=>fits (by omega)
 have h16:((16:Int) != 0)=true:=rfl
 simp only[b34,b92,b10,b9,AL,h1,h2,h3,h4,h16,hs _ (by simp:[92,c].length<=4),hs _ (by simp:[(92:UInt8),110].length<=4),hs _ (by simp:[(92:UInt8),116].length<=4),hs _ (by simp:[c].length<=4),hs _ (by simp:[92,120,rY (c.toNat / 16),rY (c.toNat % 16)].length<=4),if_true]
 unfold esc
 by_cases c34:c=34
 ·simp[c34]
 ·by_cases c92:c=92
  ·simp[c92]
  ·by_cases c10:c=10
   ·simp[c10]
   ·by_cases c9:c=9
    ·simp[c9]
    ·cases hg:good c<;>simp[c34,c92,c10,c9]
theorem KW(n:Nat)(s:Bs)(hs:s.length<=100000):∀(k i:Nat)(acc:Bs),i<=s.length->s.length-i<k->acc.length+4*(s.length-i)<=1000000->iI n s k acc (i:Int)=some (acc++(s.drop i).flatMap esc)
 |0,i,acc,h1,h2,h3=>by omega
 |k+1,i,acc,h1,h2,h3=>by
  rw[iI]
  by_cases h:i<s.length
  ·rw[if_pos (oQ h),dr n s acc i h (by omega),Option.bind_some,jK i (by omega)]
   have:=Aa s[i]
   rw[KW n s hs k (i+1) _ (by omega) (by omega) (by simp;omega),drop_at h,List.flatMap_cons,List.append_assoc]
  ·rw[if_neg (by rw[rO (Nat.not_lt.1 h)];exact Bool.false_ne_true),List.drop_eq_nil_of_le (by omega)]
   simp
theorem J4(n:Nat)(s:Bs)(hs:s.length<=100000)(hn:200000<=n):lK n s=some (qk s):=by
 have hl:=jQ s
 have hw:IntKind.wrap .i64 ((List.length s:Int)+2)=((s.length+2:Nat):Int):=Et _ (by omega)
 have e0:(List.drop 0 s)=s:=rfl
 have hd:decide ((List.length ([34]++s.flatMap esc)+List.length ([34]:Bs))*(1+1)<=limit)=true:=fits (by rw[List.length_append];simp only[List.length_cons,List.length_nil];omega)
 unfold lK
 have:=KW n s hs n 0 [34] (by omega) (by omega) (by simp;omega)
 rw[show((0:Int))=((0:Nat):Int) from rfl,this,Option.bind_some,List.drop_zero,if_pos hd]
 rfl
theorem zy(l:List BS):(iY l).Pairwise (·<=·):=by
 have:=List.pairwise_mergeSort (le:=fun x y:BS=>decide (x<=y)) (fun a b c h1 h2=>by simp only[decide_eq_true_eq] at *;exact xf h1 h2) (fun a b=>by simpa using Jg a b) l
 exact this.imp fun h=>by simpa using h
theorem yD(zs:List BS)(hz:zs.Pairwise (·<=·)):∀m,m<=zs.length->Asc (Lib.compactUpTo zs.toArray m)/\∀x,x∈Lib.compactUpTo zs.toArray m↔x∈zs.take m
 |0,_=>by simp[Lib.compactUpTo]
 |m+1,hm=>by
  obtain⟨h1,h2⟩:=yD zs hz m (by omega)
  have hg:∀j (h:j<zs.length),zs.toArray[j]! = zs[j]:=fun j h=>by simp[h]
  have hle:∀j (h:j<zs.length),j<m->zs[j]<=zs[m]:=fun j h hj=>List.pairwise_iff_getElem.1 hz j m h (by omega) hj
  rw[Lib.compactUpTo_succ,List.take_succ_eq_append_getElem (by omega:m<zs.length)]
  by_cases hk:Lib.keeps zs.toArray m=true
  ·rw[if_pos hk,hg m (by omega)]
   refine⟨List.pairwise_append.2 ⟨h1,by simp,fun x hx y hy=>?_⟩,fun x=>by rw[List.mem_append,List.mem_append,h2]⟩
   rw[List.mem_singleton.1 hy]
   obtain⟨j,hj,rfl⟩:=List.mem_take_iff_getElem.1 ((h2 x).1 hx)
   have hjm:j<m:=by omega
   refine mG (hle j (by omega) hjm) fun e=>?_
   have hk':m=0\/zs.toArray[m]!≠zs.toArray[m-1]!:=by simpa[Lib.keeps] using hk
   rcases hk' with h0|h0
   ·omega
   ·rw[hg m (by omega),hg (m-1) (by omega)] at h0
    have a1:zs[j]<=zs[m-1]:=by
     by_cases hq:j=m-1
     ·subst hq;exact lX.1 (gQ _)
     ·exact List.pairwise_iff_getElem.1 hz j (m-1) (by omega) (by omega) (by omega)
    have a2:zs[m-1]<=zs[m]:=hle (m-1) (by omega) (by omega)
    exact h0 (sC (e▸a1) a2)
  ·rw[if_neg hk,List.append_nil]
   refine⟨h1,fun x=>?_⟩
   have hk':¬(m=0\/zs.toArray[m]!≠zs.toArray[m-1]!):=by simpa[Lib.keeps] using hk
   have hm0:m≠0:=fun e=>hk' (.inl e)
   have he:zs[m]=zs[m-1]:=by
    have:zs.toArray[m]! = zs.toArray[m-1]!:=Classical.byContradiction fun h=>hk' (.inr h)
    rwa[hg m (by omega),hg (m-1) (by omega)] at this
   rw[h2,List.mem_append,List.mem_singleton]
   constructor
   ·exact fun h=>.inl h
   ·rintro(h|h)
    ·exact h
    ·rw[h,he]
     exact List.mem_take_iff_getElem.2 ⟨m-1,by omega,rfl⟩
theorem D2(l:List BS):Lib.compact (iY l)=srt l:=by
 obtain⟨h1,h2⟩:=yD (iY l) (zy l) _ (Nat.le_refl _)
 refine Asc.ext h1 (wK l) fun x=>?_
 rw[oz]
 have:=h2 x
 rw[List.take_length] at this
 rw[show Lib.compact (iY l)=Lib.compactUpTo (iY l).toArray (iY l).length from rfl,this]
 exact List.mem_mergeSort
theorem JB{a:Nat}(h:a<=1000000):decide (a*17<=limit)=true:=decide_eq_true (by show a*17<=140737488355328;omega)
theorem Ae(n:Nat)(l:List BS)(h:l.length<=1000000):mO n l=some (srt l):=by
 unfold mO
 have h1:decide ((List.length ([]:List BS)+List.length l)*(16+1)<=limit)=true:=En (by simp;omega)
 have h3:(Sh.sort l).length=l.length:=List.length_mergeSort l
 rw[if_pos h1,List.nil_append,if_pos (JB h),if_pos (JB (by omega))]
 exact congrArg some (D2 l)
def jJ(out:List BS)(x:BS):Bool:=if out.length=0 then true else decide ((out[out.length-1]?.getD [])<x)
def E9(l out:List BS)(i:Nat)(v:Int):Prop :=
 (v=-1/\∀j (h:j<l.length),j<i->jJ out l[j]=false)\/∃(b:Nat)(h:b<l.length),v=(b:Int)/\b<i/\jJ out l[b]=true/\∀j (h:j<l.length),j<i->jJ out l[j]=true->l[b]<=l[j]
theorem last_at{out:List BS}(h0:out.length≠0)(ho:out.length<1000000):(decide (0<=(IntKind.wrap .i64 ((List.length out:Int)-1))/\(IntKind.wrap .i64 ((List.length out:Int)-1))<(List.length out:Int)))=true/\(out[Int.toNat (IntKind.wrap .i64 ((List.length out:Int)-1))]?.getD [])=(out[out.length-1]?.getD []):=by
 rw[zt out.length (by omega) (by omega)]
 exact⟨jg (by omega),rfl⟩
theorem Mc(n:Nat)(l out:List BS)(i:Nat)(v:Int)(hi:i<l.length)(ho:out.length<1000000)(hv:v=-1\/∃b:Nat,v=(b:Int)/\b<l.length) :
  jA n l out v (i:Int)=some (if(jJ out l[i]&&(decide (v<0)||decide (l[i]<(l[Int.toNat v]?.getD []))))=true then(i:Int) else v):=by
 have hA:(bif ((List.length out:Int)==0) then true else(!(Op.bytesLess (l[Int.toNat (i:Int)]?.getD []) (out[Int.toNat (IntKind.wrap .i64 ((List.length out:Int)-1))]?.getD [])||(l[Int.toNat (i:Int)]?.getD [])==(out[Int.toNat (IntKind.wrap .i64 ((List.length out:Int)-1))]?.getD []))))=jJ out l[i]:=by
  unfold jJ
  rw[KR,jj hi]
  by_cases h0:out.length=0
  ·simp[h0]
  ·have e:((List.length out:Int)==0)=false:=by rw[beq_eq_false_iff_ne];omega
   rw[e,if_neg h0,(last_at h0 ho).2,cond_false,Bool.eq_iff_iff]
   simp[Au]
 unfold jA
 rw[hA]
 have c2:(!(((List.length out:Int)==0)==false)||decide (0<=(IntKind.wrap .i64 ((List.length out:Int)-1))/\(IntKind.wrap .i64 ((List.length out:Int)-1))<(List.length out:Int)))=true:=by
  by_cases h0:out.length=0
  ·simp[h0]
  ·rw[(last_at h0 ho).1,Bool.or_true]
 have c4:(!(((decide (v<0))==false)&&(jJ out l[i]==true))||decide (0<=v/\v<(List.length l:Int)))=true:=by
  rcases hv with rfl|⟨b,rfl,hb⟩
  ·simp
  ·rw[jg hb,Bool.or_true]
 simp only[jg hi,Bool.or_true,if_true,c2,c4,bM,xJ,jj hi]
 cases jJ out l[i]<;>cases decide (v<0)<;>simp
 split<;>rfl
theorem H8{l out:List BS}{i:Nat}{v:Int}(hi:i<l.length)(h:E9 l out i v):E9 l out (i+1) (if(jJ out l[i]&&(decide (v<0)||decide (l[i]<(l[Int.toNat v]?.getD []))))=true then(i:Int) else v):=by
 cases ha:jJ out l[i] with
 |false =>
  rw[Bool.false_and,if_neg Bool.false_ne_true]
  rcases h with⟨rfl,h⟩|⟨b,hb,rfl,hbi,hab,h⟩
  ·refine .inl ⟨rfl,fun j hj hji=>?_⟩
   by_cases e:j=i
   ·subst e;exact ha
   ·exact h j hj (by omega)
  ·refine .inr ⟨b,hb,rfl,by omega,hab,fun j hj hji haj=>?_⟩
   by_cases e:j=i
   ·subst e;rw[ha] at haj;cases haj
   ·exact h j hj (by omega) haj
 |true =>
  rw[Bool.true_and]
  rcases h with⟨rfl,h⟩|⟨b,hb,rfl,hbi,hab,h⟩
  ·rw[if_pos (by simp)]
   refine .inr ⟨i,hi,rfl,by omega,ha,fun j hj hji haj=>?_⟩
   by_cases e:j=i
   ·subst e;exact lX.1 (gQ _)
   ·rw[h j hj (by omega)] at haj;cases haj
  ·have e0:decide ((b:Int)<0)=false:=decide_eq_false (by omega)
   rw[e0,Bool.false_or,jj hb]
   by_cases hlt:l[i]<l[b]
   ·rw[if_pos (decide_eq_true hlt)]
    refine .inr ⟨i,hi,rfl,by omega,ha,fun j hj hji haj=>?_⟩
    by_cases e:j=i
    ·subst e;exact lX.1 (gQ _)
    ·exact xf (sV hlt) (h j hj (by omega) haj)
   ·rw[if_neg (by simpa using hlt)]
    refine .inr ⟨b,hb,rfl,by omega,hab,fun j hj hji haj=>?_⟩
    by_cases e:j=i
    ·subst e;exact lX.1 hlt
    ·exact h j hj (by omega) haj
theorem JC(n:Nat)(l out:List BS)(hl:l.length<1000000)(ho:out.length<1000000):∀(k i:Nat)(v:Int),i<=l.length->l.length-i<k->E9 l out i v->∃r,gq n l out k v (i:Int)=some r/\E9 l out l.length r
 |0,i,v,_,h,_=>by omega
 |k+1,i,v,h1,h2,hb=>by
  rw[gq]
  by_cases h:i<l.length
  ·have hv:v=-1\/∃b:Nat,v=(b:Int)/\b<l.length:=by
    rcases hb with⟨e,_⟩|⟨b,hb,e,_⟩
    ·exact .inl e
    ·exact .inr ⟨b,e,hb⟩
   rw[if_pos (oQ h),Mc n l out i v h ho hv,Option.bind_some,jK i (by omega)]
   exact JC n l out hl ho k (i+1) _ (by omega) (by omega) (H8 h hb)
  ·have:i=l.length:=by omega
   subst this
   rw[if_neg (by rw[ze];exact Bool.false_ne_true)]
   exact⟨v,rfl,hb⟩
theorem Jm(n:Nat)(l:List BS)(hl:l.length<100000)(hn:100000<=n):∀(k m:Nat),m<=(srt l).length->(srt l).length-m<k->iL n l k ((srt l).take m)=some (srt l)
 |0,m,_,h=>by omega
 |k+1,m,h1,h2=>by
  have hlen:=mW l
  have hA:=wK l
  have htl:((srt l).take m).length=m:=by rw[List.length_take];omega
  have hab:∀x,jJ ((srt l).take m) x=true↔(m=0\/∃h:m-1<(srt l).length,(srt l)[m-1]<x):=by
   intro x
   unfold jJ
   rw[htl]
   by_cases h0:m=0
   ·simp[h0]
   ·rw[if_neg h0,List.getElem?_take,if_pos (by omega),List.getElem?_eq_getElem (by omega)]
    simp[h0]
    constructor
    ·exact fun h=>⟨by omega,h⟩
    ·exact fun⟨_,h⟩=>h
  obtain⟨r,hr,hb⟩:=JC n l ((srt l).take m) (by omega) (by omega) n 0 (-1) (by omega) (by omega) (.inl ⟨rfl,fun j _ h=>by omega⟩)
  have hr:gq n l ((srt l).take m) n (-1) 0=some r:=hr
  rw[iL,hr,Option.bind_some]
  rcases hb with⟨rfl,hb⟩|⟨b,hbl,rfl,_,hcb,hb⟩
  ·have hm:m=(srt l).length:=by
    refine Classical.byContradiction fun hne=>?_
    have hmT:m<(srt l).length:=by omega
    obtain⟨j,hj,e⟩:=List.mem_iff_getElem.1 (oz.1 (List.getElem_mem hmT))
    have:=hb j hj hj
    rw[e] at this
    have h3:jJ ((srt l).take m) (srt l)[m]=true:=by
     rw[hab]
     by_cases h0:m=0
     ·exact .inl h0
     ·exact .inr ⟨by omega,List.pairwise_iff_getElem.1 hA (m-1) m (by omega) hmT (by omega)⟩
    rw[this] at h3;cases h3
   rw[if_pos (by decide)]
   subst hm
   rw[List.take_length]
  ·obtain⟨j,hj,e⟩:=List.mem_iff_getElem.1 (oz.2 (List.getElem_mem hbl):l[b]∈srt l)
   have hmj:m<=j:=by
    rcases(hab _).1 hcb with h0|⟨h0,h3⟩
    ·omega
    ·refine Classical.byContradiction fun hne=>?_
     rw[<-e] at h3
     by_cases hq:j=m-1
     ·subst hq;exact gQ _ h3
     ·exact gQ _ (ui h3 (List.pairwise_iff_getElem.1 hA j (m-1) hj h0 (by omega)))
   have hmT:m<(srt l).length:=by omega
   have hbm:l[b]=(srt l)[m]:=by
    obtain⟨j',hj',e'⟩:=List.mem_iff_getElem.1 (oz.1 (List.getElem_mem hmT))
    have h3:jJ ((srt l).take m) (srt l)[m]=true:=by
     rw[hab]
     by_cases h0:m=0
     ·exact .inl h0
     ·exact .inr ⟨by omega,List.pairwise_iff_getElem.1 hA (m-1) m (by omega) hmT (by omega)⟩
    have h4:=hb j' hj' hj' (by rw[e'];exact h3)
    rw[e'] at h4
    refine sC h4 ?_
    rw[<-e]
    by_cases hq:j=m
    ·subst hq;exact lX.1 (gQ _)
    ·exact sV (List.pairwise_iff_getElem.1 hA m j hmT hj (by omega))
   have e0:decide ((b:Int)<0)=false:=decide_eq_false (by omega)
   have hc:decide ((List.length ((srt l).take m)+List.length ([l[b]]:List BS))*(16+1)<=limit)=true:=En (by rw[htl];simp;omega)
   rw[e0,if_neg Bool.false_ne_true,if_pos (jg hbl),jj hbl,if_pos hc,hbm,<-List.take_succ_eq_append_getElem hmT]
   exact Jm n l hl hn k (m+1) (by omega) (by omega)
theorem yI(n:Nat)(l:List BS)(hl:l.length<10000)(hn:100000<=n):lS n l=some (srt l):=by
 unfold lS
 have:=Jm n l (by omega) hn n 0 (by omega) (by have:=mW l;omega)
 rw[List.take_zero] at this
 rw[this];rfl
abbrev Nd:=af
def Fit:Nat->Nd->Prop
 |0,_=>False
 |d+1,t=>t.ai.length<=2000/\t.av.length<=2000/\(t.aD≠1->t.aI=[])/\(t.aD≠3->t.av=[])/\(t.aD=3->t.av.length=t.ai.length/\t.av.Nodup)/\(t.aD<2->t.ai=[])/\(0<=t.aD/\t.aD<=3)/\∀x∈t.ai,Fit d x
def sz8:Nat->Nd->Nat
 |0,_=>1
 |d+1,t=>1+(t.ai.map (sz8 d)).sum
theorem oR:∀d t,1<=sz8 d t
 |0,_=>Nat.le_refl 1
 |d+1,t=>by unfold sz8;omega
def Shk(b:Nat):Nat->Nd->Prop
 |0,_=>True
 |d+1,t=>t.aI.length<=b/\(∀k∈t.av,k.length<=b)/\∀x∈t.ai,Shk b d x
theorem Shk.mono{b c:Nat}(hbc:b<=c):∀{d:Nat}{t:Nd},Shk b d t->Shk c d t
 |0,_,_=>trivial
 |d+1,t,⟨h1,h2,h3⟩=>⟨Nat.le_trans h1 hbc,fun k hk=>Nat.le_trans (h2 k hk) hbc,fun x hx=>(h3 x hx).mono hbc⟩
theorem EF{x:BS}:∀{l:List BS},Asc l->x∈l->(ins x l).length=l.length
 |[],_,h=>by cases h
 |y::l,ha,h=>by
  obtain⟨h1,h2⟩:=List.pairwise_cons.1 ha
  unfold ins
  split
  ·rename_i hx
   rcases List.mem_cons.1 h with e|hm
   ·subst e;exact(gQ _ hx).elim
   ·exact(gQ _ (ui hx (h1 x hm))).elim
  ·split
   ·rfl
   ·rename_i hx hy
    rcases List.mem_cons.1 h with e|hm
    ·exact(hy e).elim
    ·rw[List.length_cons,EF h2 hm,List.length_cons]
theorem vT:∀{l:List BS},(srt l).length=l.length->l.Nodup
 |[],_=>.nil
 |x::l,h=>by
  have h0:srt (x::l)=ins x (srt l):=rfl
  have h1:=mW l
  rw[h0,List.length_cons] at h
  by_cases hx:x∈srt l
  ·rw[EF (wK l) hx] at h;omega
  ·have h2:=qo x (srt l)
   refine List.nodup_cons.2 ⟨fun hm=>hx (oz.2 hm),vT (by omega)⟩
theorem AP(R:Nd->Int->Int->Option Int)(n d:Nat)(dep:Int)(t:Nd)(hdep:0<=dep/\dep<100)
  (hR:∀x∈t.ai,∀l:Nat,l<=2000->∃r,R x (dep+1) (l:Int)=some r/\(r=-1\/∃q:Nat,r=(q:Int)/\Fit d x/\q+sz8 d x<=l)) :
  ∀(k l i:Nat),l+1<k->i<=t.ai.length->i+l<=2000 ->
   dB R n dep t k (l:Int) (i:Int)=some (.inr (-1))\/∃q:Nat,dB R n dep t k (l:Int) (i:Int)=some (.inl (q:Int))/\q+((t.ai.drop i).map (sz8 d)).sum<=l/\∀x∈t.ai.drop i,Fit d x
 |0,l,i,h,_,_=>by omega
 |k+1,l,i,hk,hi,hil=>by
  by_cases h:i<t.ai.length
  ·have e1:IntKind.wrap .i64 (dep+1)=dep+1:=mo _ (by omega) (by omega)
   obtain⟨r,h1,h2⟩:=hR t.ai[i] (List.getElem_mem h) l (by omega)
   have hst:dB R n dep t (k+1) (l:Int) (i:Int)=if(decide (r<0))=true then some (.inr (-1)) else dB R n dep t k r (IntKind.wrap .i64 ((i:Int)+1)):=by
    rw[dB,if_pos (oQ h),if_pos (jg h),jj h,e1,h1];rfl
   rw[hst]
   rcases h2 with rfl|⟨q,rfl,hF,hq⟩
   ·exact .inl (if_pos rfl)
   ·have hp:=oR d t.ai[i]
    rw[if_neg (by simp),jK i (by omega)]
    rcases AP R n d dep t hdep hR k q (i+1) (by omega) (by omega) (by omega) with h3|⟨q',h3,h4,h5⟩
    ·exact .inl h3
    ·refine .inr ⟨q',h3,?_,?_⟩
     ·rw[drop_at h,List.map_cons,List.sum_cons];omega
     ·rw[drop_at h]
      intro x hx
      rcases List.mem_cons.1 hx with rfl|hx
      ·exact hF
      ·exact h5 x hx
  ·have:i=t.ai.length:=by omega
   subst this
   refine .inr ⟨l,?_,?_,?_⟩
   ·rw[dB,ze];rfl
   ·rw[List.drop_eq_nil_of_le (Nat.le_refl _)];simp
   ·rw[List.drop_eq_nil_of_le (Nat.le_refl _)];intro x hx;cases hx
theorem BP{a b:Bool}:(bif a then true else b)=(a||b):=by cases a<;>rfl
theorem ED{a b:Bool}:(bif a then b else false)=(a&&b):=by cases a<;>rfl
theorem left_eq:∀(d n:Nat)(t:Nd)(dep:Int)(l:Nat),dep+(d:Int)=13->0<=dep->l<=2000->100000+d<n ->
  ∃r,gB n t dep (l:Int)=some r/\(r=-1\/∃q:Nat,r=(q:Int)/\Fit d t/\q+sz8 d t<=l)
 |_,0,_,_,_,_,_,_,h=>by omega
 |0,n+1,t,dep,l,hd,h0,hl,hn=>by
  refine⟨-1,?_,.inl rfl⟩
  show i6 (gB n) n t dep (l:Int)=_
  unfold i6
  have:decide (dep>12)=true:=decide_eq_true (by omega)
  simp only[this,bM,BP,Bool.or_true,Bool.true_or,if_true]
 |d+1,n+1,t,dep,l,hd,h0,hl,hn=>by
  show ∃r,i6 (gB n) n t dep (l:Int)=some r/\_
  unfold i6
  have e1:IntKind.wrap .i64 ((l:Int)-1)=(l:Int)-1:=mo _ (by omega) (by omega)
  simp only[bM,e1,BP,ED]
  by_cases c1:(decide ((l:Int)-1<0)||decide (dep>12)||decide (t.aD<0)||decide (t.aD>3))=true
  ·exact⟨-1,if_pos c1,.inl rfl⟩
  rw[if_neg c1]
  by_cases c2:((t.aD != 1&&decide ((List.length t.aI:Int)>0))||(t.aD != 3&&decide ((List.length t.av:Int)>0))||(decide (t.aD<2)&&decide ((List.length t.ai:Int)>0)))=true
  ·exact⟨-1,if_pos c2,.inl rfl⟩
  rw[if_neg c2]
  simp only[Bool.or_eq_true,Bool.and_eq_true,decide_eq_true_eq,bne_iff_ne,ne_eq,not_or,not_and,gt_iff_lt,Int.not_lt] at c1 c2
  obtain⟨⟨⟨a1,a2⟩,a3⟩,a4⟩:=c1
  obtain⟨⟨b1,b2⟩,b3⟩:=c2
  obtain⟨l,rfl⟩:∃l',l=l'+1:=⟨l-1,by omega⟩
  have e2:((l+1:Nat):Int)-1=(l:Int):=by omega
  rw[e2]
  have loop:=AP (gB n) n d dep t (by omega) (fun x _ l' hl'=>left_eq d n x (dep+1) l' (by omega) (by omega) hl' (by omega)) n l 0 (by omega) (Nat.zero_le _) (by omega)
  have fin:(t.aD=3->t.av.length=t.ai.length/\t.av.Nodup)->∃r,((dB (gB n) n dep t n (l:Int) 0).bind fun o5=>(Sum.elim (fun o5=>some o5) (fun o5=>some o5)) o5)=some r/\(r=-1\/∃q:Nat,r=(q:Int)/\Fit (d+1) t/\q+sz8 (d+1) t<=l+1):=by
   intro hk
   rcases loop with h3|⟨q,h3,h4,h5⟩
   ·have h3:dB (gB n) n dep t n (l:Int) 0=_:=h3
    exact⟨-1,by rw[h3];rfl,.inl rfl⟩
   ·have h3:dB (gB n) n dep t n (l:Int) 0=_:=h3
    rw[List.drop_zero] at h4 h5
    have hs:∀(f:Nd->Nat)(m:List Nd),(∀x,1<=f x)->m.length<=(m.map f).sum:=by
     intro f m hf
     induction m with
     |nil=>exact Nat.le_refl 0
     |cons x m ih=>rw[List.map_cons,List.sum_cons,List.length_cons];have:=hf x;omega
    have hkl:=hs (sz8 d) t.ai (oR d)
    refine⟨q,by rw[h3];rfl,.inr ⟨q,rfl,⟨by omega,?_,fun h=>List.eq_nil_of_length_eq_zero (by have:=b1 h;omega),fun h=>List.eq_nil_of_length_eq_zero (by have:=b2 h;omega),hk,fun h=>List.eq_nil_of_length_eq_zero (by have:=b3 h;omega),⟨by omega,by omega⟩,h5⟩,?_⟩⟩
    ·by_cases h:t.aD=3
     ·have:=hk h;omega
     ·have:=b2 h;omega
    ·show q+(1+(t.ai.map (sz8 d)).sum)<=l+1;omega
  by_cases h3:t.aD=3
  ·have e3:(t.aD==3)=true:=by rw[h3];rfl
   rw[e3]
   by_cases c3:((List.length t.av:Int) != (List.length t.ai:Int)||decide ((List.length t.ai:Int)>(l:Int)))=true
   ·rw[c3]
    exact⟨-1,rfl,.inl rfl⟩
   ·have c3':((List.length t.av:Int) != (List.length t.ai:Int)||decide ((List.length t.ai:Int)>(l:Int)))=false:=by simpa using c3
    rw[c3']
    simp only[Bool.or_eq_true,bne_iff_ne,ne_eq,decide_eq_true_eq,not_or,Decidable.not_not] at c3
    obtain⟨c4,c5⟩:=c3
    have hso:=yI n t.av (by omega) (by omega)
    simp only[beq_self_eq_true,Bool.and_self,if_true,hso,Option.bind_some,Bool.false_or,Bool.true_and]
    by_cases c6:((List.length (srt t.av):Int) != (List.length t.av:Int))=true
    ·exact⟨-1,if_pos c6,.inl rfl⟩
    ·rw[if_neg c6]
     simp only[bne_iff_ne,ne_eq,Decidable.not_not] at c6
     exact fin fun _=>⟨by omega,vT (by omega)⟩
  ·have e3:(t.aD==3)=false:=by rw[beq_eq_false_iff_ne];exact h3
   rw[e3]
   simp only[Bool.false_and,Bool.and_false,Bool.false_eq_true,if_false,Option.bind_some,show(false==true)=false from rfl]
   exact fin fun h=>(h3 h).elim
theorem BV:∀(d n:Nat)(t:Nd),Fit d t->100000+d<n->∃b,dD n t=some b/\(b=true->Shk 200 d t)
 |_,0,_,_,h=>by omega
 |0,n+1,t,h,_=>h.elim
 |d+1,n+1,t,hF,hn=>by
  obtain⟨f1,f2,_,_,_,_,_,f8⟩:=hF
  show ∃b,kK (dD n) n t=some b/\_
  unfold kK
  by_cases c:(List.length t.aI:Int)>200
  ·exact⟨false,by rw[if_pos (decide_eq_true c)],fun h=>by cases h⟩
  rw[if_neg (show ¬decide ((List.length t.aI:Int)>200)=true by simpa using c)]
  have l1:=FQ (L:=fN (dD n) n t) t.av (fun x=>if decide ((x.length:Int)>200)=true then some false else none) 0 (by omega)
   (fun k i h _=>by
    rw[fN,if_pos (oQ h),if_pos (jg h),jj h]
    cases decide ((t.av[i].length:Int)>200)<;>rfl)
   (fun k=>by rw[fN,ze];rfl) n 0 (by omega) (by omega) (by omega)
  have l1:fN (dD n) n t n 0=_:=l1
  rw[l1]
  rw[List.drop_zero]
  cases ho1:List.findSome? (fun x:BS=>if decide ((x.length:Int)>200)=true then some false else none) t.av with
  |some r =>
   refine⟨r,rfl,fun hr=>?_⟩
   obtain⟨x,_,h2⟩:=List.exists_of_findSome?_eq_some ho1
   by_cases hb:decide ((x.length:Int)>200)=true
   ·rw[if_pos hb] at h2;cases h2;cases hr
   ·rw[if_neg hb] at h2;cases h2
  |none =>
   have hx:∀x∈t.ai,∃b,dD n x=some b/\(b=true->Shk 200 d x):=fun x hx=>BV d n x (f8 x hx) (by omega)
   have l2:=FQ (L:=fu (dD n) n t) t.ai (fun x=>if(!((dD n x).getD false))=true then some false else none) 0 (by omega)
    (fun k i h _=>by
     obtain⟨b,h1,_⟩:=hx t.ai[i] (List.getElem_mem h)
     rw[fu,if_pos (oQ h),if_pos (jg h),jj h,h1]
     cases b<;>rfl)
    (fun k=>by rw[fu,ze];rfl) n 0 (by omega) (by omega) (by omega)
   have l2:fu (dD n) n t n 0=_:=l2
   show ∃b,((fu (dD n) n t n 0).bind fun o2=>(Sum.elim (fun _=>some true) (fun o2=>some o2)) o2)=some b/\_
   rw[l2,List.drop_zero]
   cases ho:List.findSome? (fun x=>if(!((dD n x).getD false))=true then some false else none) t.ai with
   |some r =>
    refine⟨r,rfl,fun hr=>?_⟩
    obtain⟨x,_,h2⟩:=List.exists_of_findSome?_eq_some ho
    by_cases hb:(!((dD n x).getD false))=true
    ·rw[if_pos hb] at h2;cases h2;cases hr
    ·rw[if_neg hb] at h2;cases h2
   |none =>
    refine⟨true,rfl,fun _=>⟨by omega,fun y hy=>?_,fun x hxm=>?_⟩⟩
    ·have h2:=List.findSome?_eq_none_iff.1 ho1 y hy
     by_cases hb:decide ((y.length:Int)>200)=true
     ·rw[if_pos hb] at h2;cases h2
     ·have:¬((y.length:Int)>200):=by simpa using hb
      omega
    have h2:=List.findSome?_eq_none_iff.1 ho x hxm
    obtain⟨b,h1,h3⟩:=hx x hxm
    rw[h1] at h2
    cases b with
    |true=>exact h3 rfl
    |false=>cases h2
theorem IR(n:Nat)(t:Nd)(m:Nat)(hm:m<=2000)(hn:200000<=n):∃b,kR n t (m:Int)=some b/\(b=true->Fit 12 t/\sz8 12 t<=m/\Shk 200 12 t):=by
 obtain⟨r,h1,h2⟩:=left_eq 12 n t 1 m rfl (by decide) hm (by omega)
 unfold kR
 rw[h1,Option.bind_some]
 rcases h2 with rfl|⟨q,rfl,hF,hq⟩
 ·exact⟨false,rfl,fun h=>by cases h⟩
 ·obtain⟨b,h3,h4⟩:=BV 12 n t hF (by omega)
  have e:decide ((q:Int)>=0)=true:=decide_eq_true (by omega)
  rw[e,if_pos (by rfl),h3]
  exact⟨b,by cases b<;>rfl,fun hb=>⟨hF,by omega,h4 hb⟩⟩
theorem Ej{x:BS}:∀{l:List BS},x∉l->(ins x l).length=l.length+1
 |[],_=>rfl
 |y::l,h=>by
  unfold ins
  split
  ·simp
  ·split
   ·rename_i e;subst e;exact(h List.mem_cons_self).elim
   ·rw[List.length_cons,Ej fun hm=>h (List.mem_cons_of_mem _ hm),List.length_cons]
theorem Eh:∀{l:List BS},l.Nodup->(srt l).length=l.length
 |[],_=>rfl
 |x::l,h=>by
  obtain⟨h1,h2⟩:=List.nodup_cons.1 h
  show(ins x (srt l)).length=_
  rw[Ej (fun hm=>h1 (oz.1 hm)),Eh h2,List.length_cons]
def Gk:Nat->Nd->Prop
 |0,_=>True
 |d+1,t=>t.ai.length<=1000000/\t.av.length<=1000000/\∀x∈t.ai,Gk d x
theorem Fit.wide:∀{d:Nat}{t:Nd},Fit d t->Gk d t
 |0,_,h=>h.elim
 |d+1,t,⟨h1,h2,_,_,_,_,_,h8⟩=>⟨by omega,by omega,fun x hx=>(h8 x hx).wide⟩
theorem yG(R:Nd->Int->aJ->Option (Bool×aJ))(n d:Nat)(dep:Int)(kids:List Nd)(hdep:0<=dep/\dep<100)
  (hR:∀x∈kids,∀l:Nat,l<=2000->∃b q,R x (dep+1) (aJ.mk (l:Int))=some (b,q)/\(b=true↔Fit d x/\sz8 d x<=l)/\(b=true->q=aJ.mk ((l-sz8 d x:Nat):Int))) :
  ∀(k l i:Nat),l+1<k->i<=kids.length->i+l<=2000 ->
   (∃q:Nat,bn R n dep kids (List.length kids:Int) k (i:Int) (aJ.mk (l:Int))=some (.inl (aJ.mk (q:Int)))/\q+((kids.drop i).map (sz8 d)).sum=l/\∀x∈kids.drop i,Fit d x) \/
   (∃q,bn R n dep kids (List.length kids:Int) k (i:Int) (aJ.mk (l:Int))=some (.inr (false,q))/\¬((∀x∈kids.drop i,Fit d x)/\((kids.drop i).map (sz8 d)).sum<=l))
 |0,l,i,h,_,_=>by omega
 |k+1,l,i,hk,hi,hil=>by
  by_cases h:i<kids.length
  ·have e1:IntKind.wrap .i64 (dep+1)=dep+1:=mo _ (by omega) (by omega)
   obtain⟨b,q,h1,h2,h3⟩:=hR kids[i] (List.getElem_mem h) l (by omega)
   have hst:bn R n dep kids (List.length kids:Int) (k+1) (i:Int) (aJ.mk (l:Int))=if(!b)=true then some (.inr (false,q)) else bn R n dep kids (List.length kids:Int) k (IntKind.wrap .i64 ((i:Int)+1)) q:=by
    rw[bn,if_pos (oQ h),if_pos (jg h),jj h,e1,h1];rfl
   rw[hst,drop_at h,List.map_cons,List.sum_cons]
   cases b with
   |false =>
    refine .inr ⟨q,rfl,fun hh=>?_⟩
    exact Bool.false_ne_true (h2.2 ⟨hh.1 _ List.mem_cons_self,by omega⟩)
   |true =>
    obtain⟨hF,hs⟩:=h2.1 rfl
    have hq:=h3 rfl
    subst hq
    have hp:=oR d kids[i]
    rw[if_neg (by simp),jK i (by omega)]
    rcases yG R n d dep kids hdep hR k (l-sz8 d kids[i]) (i+1) (by omega) (by omega) (by omega) with⟨q',h4,h5,h6⟩|⟨q',h4,h5⟩
    ·refine .inl ⟨q',h4,by omega,fun x hx=>?_⟩
     rcases List.mem_cons.1 hx with rfl|hx
     ·exact hF
     ·exact h6 x hx
    ·exact .inr ⟨q',h4,fun hh=>h5 ⟨fun x hx=>hh.1 x (List.mem_cons_of_mem _ hx),by omega⟩⟩
  ·have:i=kids.length:=by omega
   subst this
   refine .inl ⟨l,?_,?_,?_⟩
   ·rw[bn,ze];rfl
   ·rw[List.drop_eq_nil_of_le (Nat.le_refl _)];simp
   ·rw[List.drop_eq_nil_of_le (Nat.le_refl _)];intro x hx;cases hx
theorem GV{d:Nat}:∀m:List Nd,m.length<=(m.map (sz8 d)).sum
 |[]=>by simp
 |x::m=>by rw[List.map_cons,List.sum_cons,List.length_cons];have:=oR d x;have:=GV (d:=d) m;omega
theorem Jv{a b:Nat}(ha:a<=1000000)(hb:b<=1000000):(IntKind.wrap .i64 ((a:Int)+(b:Int))==0)=decide (a=0/\b=0):=by
 rw[mo _ (by omega) (by omega),Bool.eq_iff_iff,beq_iff_eq,decide_eq_true_eq];omega
theorem right_eq:∀(d n:Nat)(t:Nd)(dep:Int)(l:Nat),dep+(d:Int)=13->0<=dep->l<=2000->Gk d t->100000+d<n ->
  ∃b q,bT n t dep (aJ.mk (l:Int))=some (b,q)/\(b=true↔Fit d t/\sz8 d t<=l)/\(b=true->q=aJ.mk ((l-sz8 d t:Nat):Int))
 |_,0,_,_,_,_,_,_,_,h=>by omega
 |0,n+1,t,dep,l,hd,h0,hl,hW,hn=>by
  show ∃b q,dA (bT n) n t dep (aJ.mk (l:Int))=some (b,q)/\_
  unfold dA
  have:decide (dep>12)=true:=decide_eq_true (by omega)
  refine⟨false,aJ.mk (IntKind.wrap .i64 ((l:Int)-1)),?_,⟨fun h=>(by cases h),fun h=>h.1.elim⟩,fun h=>(by cases h)⟩
  rw[this,show ∀b:Bool,(bif b then true else true)=true from fun b=>by cases b<;>rfl,if_pos rfl]
 |d+1,n+1,t,dep,l,hd,h0,hl,hW,hn=>by
  show ∃b q,dA (bT n) n t dep (aJ.mk (l:Int))=some (b,q)/\_
  obtain⟨w1,w2,w3⟩:=hW
  unfold dA
  have e1:IntKind.wrap .i64 ((l:Int)-1)=(l:Int)-1:=mo _ (by omega) (by omega)
  have hdp:decide (dep>12)=false:=decide_eq_false (by omega)
  simp only[e1,hdp]
  cases l with
  |zero =>
   have:decide ((((0:Nat):Int)-1)<0)=true:=rfl
   refine⟨false,_,by rw[this];rfl,⟨fun h=>(by cases h),fun h=>?_⟩,fun h=>by cases h⟩
   have:=h.2
   have:=oR (d+1) t
   omega
  |succ l =>
   have e2:((l+1:Nat):Int)-1=(l:Int):=by omega
   have hlt:decide ((l:Int)<0)=false:=decide_eq_false (by omega)
   have hs:sz8 (d+1) t=1+(t.ai.map (sz8 d)).sum:=rfl
   rw[e2,hlt]
   simp only[cond_false,Bool.false_eq_true,if_false]
   have hsg:=GV (d:=d) t.ai
   have loop:=yG (bT n) n d dep t.ai (by omega) (fun x hx l' hl'=>right_eq d n x (dep+1) l' (by omega) (by omega) hl' (w3 x hx) (by omega)) n l 0 (by omega) (Nat.zero_le _) (by omega)
   have loop0:∀(hk:(t.aD=2\/t.aD=3)/\t.aI=[]/\(t.aD≠3->t.av=[])/\(t.aD=3->t.av.length=t.ai.length/\t.av.Nodup)),
     ∃b q,(bn (bT n) n dep t.ai (List.length t.ai:Int) n 0 (aJ.mk (l:Int))).bind (fun o2=>(Sum.elim (fun o2=>some (true,o2)) (fun o2=>some (o2.1,o2.2)) o2:Option (Bool×aJ)))=some (b,q)/\(b=true↔Fit (d+1) t/\sz8 (d+1) t<=l+1)/\(b=true->q=aJ.mk ((l+1-sz8 (d+1) t:Nat):Int)):=by
    intro ⟨k1,k2,k3,k4⟩
    rw[List.drop_zero] at loop
    rcases loop with⟨q,h4,h5,h6⟩|⟨q,h4,h5⟩
    ·have h4:bn (bT n) n dep t.ai (List.length t.ai:Int) n 0 (aJ.mk (l:Int))=_:=h4
     rw[h4]
     refine⟨true,_,rfl,⟨fun _=>⟨⟨by omega,?_,fun _=>k2,k3,k4,fun h=>?_,⟨by omega,by omega⟩,h6⟩,by omega⟩,fun _=>rfl⟩,fun _=>?_⟩
     ·by_cases h3:t.aD=3
      ·have:=(k4 h3).1;omega
      ·rw[k3 h3];simp
     ·omega
     ·exact congrArg _ (by omega)
    ·have h4:bn (bT n) n dep t.ai (List.length t.ai:Int) n 0 (aJ.mk (l:Int))=_:=h4
     rw[h4]
     refine⟨false,_,rfl,⟨fun h=>(by cases h),fun⟨hF,hz⟩=>(h5 ⟨hF.2.2.2.2.2.2.2,by omega⟩).elim⟩,fun h=>by cases h⟩
   have leaf:∀(c:Bool),(c=true↔Fit (d+1) t/\sz8 (d+1) t<=l+1)->(c=true->t.ai=[])->∃b q,(some (c,aJ.mk (l:Int)):Option (Bool×aJ))=some (b,q)/\(b=true↔Fit (d+1) t/\sz8 (d+1) t<=l+1)/\(b=true->q=aJ.mk ((l+1-sz8 (d+1) t:Nat):Int)):=by
    intro c h1 h2
    refine⟨c,_,rfl,h1,fun hc=>?_⟩
    rw[hs,h2 hc]
    congr 1
   have nil_iff:∀{α:Type}(x:List α),x.length=0↔x=[]:=fun x=>List.length_eq_zero_iff
   unfold gy
   by_cases k0:t.aD=0
   ·rw[if_pos (by rw[k0];rfl),Jv w2 w1]
    refine leaf _ ⟨fun h=>?_,fun⟨hF,_⟩=>?_⟩ fun h=>?_
    ·cases ht:(t.aI==[]) with
     |false=>rw[ht] at h;cases h
     |true =>
      rw[ht] at h
      have h:=of_decide_eq_true h
      rw[nil_iff,nil_iff] at h
      refine⟨⟨by rw[h.2];simp,by rw[h.1];simp,fun _=>by simpa using ht,fun _=>h.1,fun h3=>by omega,fun _=>h.2,⟨by omega,by omega⟩,fun x hx=>by rw[h.2] at hx;cases hx⟩,by rw[hs,h.2];simp⟩
    ·obtain⟨_,_,f3,f4,_,f6,_,_⟩:=hF
     rw[f3 (by omega),f4 (by omega),f6 (by omega)];rfl
    ·cases ht:(t.aI==[]) with
     |false=>rw[ht] at h;cases h
     |true =>
      rw[ht] at h
      have h:=of_decide_eq_true h
      rw[nil_iff,nil_iff] at h
      exact h.2
   rw[if_neg (by simpa using k0)]
   by_cases k1:t.aD=1
   ·rw[if_pos (by rw[k1];rfl),Jv w2 w1]
    refine leaf _ ⟨fun h=>?_,fun⟨hF,_⟩=>?_⟩ fun h=>?_
    ·have h:=of_decide_eq_true h
     rw[nil_iff,nil_iff] at h
     exact⟨⟨by rw[h.2];simp,by rw[h.1];simp,fun h1=>(h1 k1).elim,fun _=>h.1,fun h3=>by omega,fun _=>h.2,⟨by omega,by omega⟩,fun x hx=>by rw[h.2] at hx;cases hx⟩,by rw[hs,h.2];simp⟩
    ·obtain⟨_,_,f3,f4,_,f6,_,_⟩:=hF
     rw[f4 (by omega),f6 (by omega)];rfl
    ·have h:=of_decide_eq_true h
     rw[nil_iff,nil_iff] at h
     exact h.2
   rw[if_neg (by simpa using k1)]
   by_cases k2:t.aD=2
   ·rw[if_pos (by rw[k2];rfl)]
    by_cases c:(bif (!(t.aI==[])) then true else(decide ((List.length t.av:Int)>0)))=true
    ·rw[if_pos c]
     refine leaf false ⟨fun h=>(by cases h),fun⟨hF,_⟩=>?_⟩ fun h=>by cases h
     obtain⟨_,_,f3,f4,_,f6,_,_⟩:=hF
     rw[f3 (by omega),f4 (by omega)] at c
     exact absurd c (by decide)
    ·rw[if_neg c]
     have c:(bif (!(t.aI==[])) then true else(decide ((List.length t.av:Int)>0)))=false:=by simpa using c
     have ct:t.aI=[]:=by
      cases ht:(t.aI==[]) with
      |false=>rw[ht] at c;cases c
      |true=>simpa using ht
     rw[ct] at c
     have c:decide ((List.length t.av:Int)>0)=false:=c
     have c:=of_decide_eq_false c
     have ck:t.av=[]:=(nil_iff _).1 (by omega)
     exact loop0 ⟨.inl k2,ct,fun _=>ck,fun h=>by omega⟩
   rw[if_neg (by simpa using k2)]
   by_cases k3:t.aD=3
   ·rw[if_pos (by rw[k3];rfl)]
    have hc:∃c,(bif (bif (!(t.aI==[])) then true else((List.length t.av:Int) != (List.length t.ai:Int))) then true else(decide ((List.length t.av:Int)>(l:Int))))=c:=⟨_,rfl⟩
    obtain⟨c,hc⟩:=hc
    simp only[hc]
    cases c with
    |true =>
     refine leaf false ⟨fun h=>(by cases h),fun⟨hF,hz⟩=>?_⟩ fun h=>by cases h
     obtain⟨_,_,f3,f4,f5,f6,_,_⟩:=hF
     obtain⟨g1,g2⟩:=f5 k3
     rw[f3 (by omega)] at hc
     have e:((List.length t.av:Int) != (List.length t.ai:Int))=false:=by rw[g1];simp
     have e2:decide ((List.length t.av:Int)>(l:Int))=false:=decide_eq_false (by omega)
     rw[e,e2] at hc
     exact absurd hc (by decide)
    |false =>
     have ct:t.aI=[]:=by
      cases ht:(t.aI==[]) with
      |false=>rw[ht] at hc;cases hc
      |true=>simpa using ht
     rw[ct] at hc
     have hc:(bif ((List.length t.av:Int) != (List.length t.ai:Int)) then true else(decide ((List.length t.av:Int)>(l:Int))))=false:=hc
     have cl:t.av.length=t.ai.length:=by
      cases hne:((List.length t.av:Int) != (List.length t.ai:Int)) with
      |true=>rw[hne] at hc;cases hc
      |false =>
       simp only[bne_eq_false_iff_eq] at hne
       omega
     have e:((List.length t.av:Int) != (List.length t.ai:Int))=false:=by rw[cl];simp
     rw[e] at hc
     have hc:decide ((List.length t.av:Int)>(l:Int))=false:=hc
     have hc:=of_decide_eq_false hc
     have hso:=Ae n t.av (by omega)
     simp only[beq_self_eq_true,if_true,hso,Option.bind_some,bM,cond_false]
     by_cases hx:((List.length (srt t.av):Int) != (List.length t.av:Int))=true
     ·rw[if_pos hx]
      refine leaf false ⟨fun h=>(by cases h),fun⟨hF,hz⟩=>?_⟩ fun h=>by cases h
      obtain⟨_,_,f3,f4,f5,f6,_,_⟩:=hF
      obtain⟨g1,g2⟩:=f5 k3
      rw[Eh g2] at hx
      exact absurd hx (by simp)
     ·rw[if_neg hx]
      simp only[bne_iff_ne,ne_eq,Decidable.not_not] at hx
      exact loop0 ⟨.inr k3,ct,fun h=>(h k3).elim,fun _=>⟨cl,vT (by omega)⟩⟩
   rw[if_neg (by simpa using k3)]
   exact leaf false ⟨fun h=>(by cases h),fun⟨hF,_⟩=>by
    obtain⟨_,_,_,_,_,_,f7,_⟩:=hF
    omega⟩ fun h=>by cases h
theorem Bi(n:Nat)(t:Nd)(hW:Gk 12 t)(hn:200000<=n):∃b,ku n t=some b/\(b=true↔Fit 12 t/\sz8 12 t<=2000):=by
 obtain⟨b,q,h1,h2,_⟩:=right_eq 12 n t 1 2000 (by decide) (by decide) (by decide) hW (by omega)
 have h1:bT n t 1 (aJ.mk 2000)=some (b,q):=h1
 unfold ku
 rw[h1,Option.bind_some]
 exact⟨b,rfl,h2⟩
theorem tu(n:Nat)(t:Nd)(hF:Fit 12 t)(hz:sz8 12 t<=2000)(hn:200000<=n):ku n t=some true:=by
 obtain⟨b,h1,h2⟩:=Bi n t hF.wide hn
 rw[h1,h2.2 ⟨hF,hz⟩]
def Jc:Nat->Nd->Bool
 |0,_=>false
 |d+1,t=>decide (t.ai.length<=2000)&&decide (t.av.length<=2000)&&decide (t.aD≠1->t.aI=[])&&decide (t.aD≠3->t.av=[])&&decide (t.aD=3->t.av.length=t.ai.length/\t.av.Nodup)&&(decide (t.aD>=2)||t.ai.isEmpty)&&decide (0<=t.aD/\t.aD<=3)&&t.ai.all (Jc d)
theorem xK:∀(d:Nat)(t:Nd),Jc d t=true->Fit d t
 |0,_,h=>by cases h
 |d+1,t,h=>by
  unfold Jc at h
  simp only[Bool.and_eq_true,decide_eq_true_eq,List.all_eq_true,Bool.or_eq_true,List.isEmpty_iff] at h
  obtain⟨⟨⟨⟨⟨⟨⟨h1,h2⟩,h3⟩,h4⟩,h5⟩,h6⟩,h7⟩,h8⟩:=h
  exact⟨h1,h2,h3,h4,h5,fun h=>h6.resolve_left (by omega),h7,fun x hx=>xK d x (h8 x hx)⟩
end Go.Proofs.YtefojkdckfidcaaGreatDoor.M
namespace Go.Proofs.YtefojkdckfidcaaGreatDoor.M
open Go Go.Proofs.YtefojkdckfidcaaGreatDoor.RX Go.Proofs.YtefojkdckfidcaaGreatDoor.PL
set_option maxRecDepth 100000
def mT(c:UInt8):Bool:=c==34||c==39
theorem Aj:∀s:BS,Lib.containsAny s [34,39]=s.any mT
 |[]=>rfl
 |c::s=>by
  have ih:=Aj s
  have g:=Lib.indexAny_ge [34,39] s
  unfold Lib.containsAny at ih ⊢
  have e:([34,39]:BS).contains c=mT c:=by unfold mT;simp[kQ]
  rw[Lib.indexAny,List.any_cons,e]
  cases mT c with
  |true=>rfl
  |false =>
   rw[Bool.false_or,<-ih,if_neg Bool.false_ne_true]
   by_cases h:Lib.indexAny s [34,39]=-1
   ·rw[h];rfl
   ·have h2:((Lib.indexAny s [34,39])==-1)=false:=by simpa using h
    rw[h2,if_neg Bool.false_ne_true,Bool.eq_iff_iff,decide_eq_true_eq,decide_eq_true_eq]
    omega
def scS(s:BS):BS:=if(jH s&&!s.any mT)=true then s else qk s
theorem oJ(n:Nat)(s:BS)(hs:s.length<=100000)(hn:200000<=n):jO n s=some (scS s):=by
 unfold jO scS
 rw[if_pos (decide_eq_true (by omega)),Aj]
 cases s.any mT with
 |true=>rw[if_pos rfl,wq n s hs hn];simp
 |false =>
  rw[if_neg Bool.false_ne_true]
  unfold oZ
  rw[(CQ n s hs hn).1,wq n s hs hn]
  cases jH s<;>rfl
theorem Ek(n:Nat)(s:BS)(hs:s.length<=100000):∀(k i:Nat)(b:Bool),i<=s.length->s.length-i<k->gp n s k b (i:Int)=some (b&&!(s.drop i).any mT)
 |0,i,b,h1,h2=>by omega
 |k+1,i,b,h1,h2=>by
  rw[gp]
  by_cases h:i<s.length
  ·have hj:jI n s b (i:Int)=some (b&&!mT s[i]):=by
    unfold jI
    simp only[jg h,jj h,if_true,bM,b34,b39,kQ,Bool.or_true]
    unfold mT
    cases s[i]==34<;>cases s[i]==39<;>cases b<;>rfl
   rw[if_pos (oQ h),hj,Option.bind_some,jK i (by omega),Ek n s hs k (i+1) _ (by omega) (by omega),drop_at h,List.any_cons]
   cases b<;>cases mT s[i]<;>simp
  ·rw[if_neg (by rw[rO (Nat.not_lt.1 h)];exact Bool.false_ne_true),List.drop_eq_nil_of_le (by omega)]
   simp
theorem nX(n:Nat)(s:BS)(hs:s.length<=100000)(hn:200000<=n):jb n s=some (scS s):=by
 unfold jb scS
 have h:=Ek n s hs n 0 (jH s) (by omega) (by omega)
 have h:gp n s n (jH s) 0=some (jH s&&!(s.drop 0).any mT):=h
 rw[(CQ n s hs hn).2,Option.bind_some,h,Option.bind_some,List.drop_zero,J4 n s hs hn]
 cases (jH s&&!s.any mT)<;>rfl
theorem Eo(s:BS):(scS s).length<=4*s.length+2:=by
 have:=jQ s
 unfold scS qk
 split
 ·omega
 ·simp only[List.length_append,List.length_cons,List.length_nil];omega
theorem Im{c:UInt8}(h:good c=true):c≠10:=by
 intro e;subst e;exact absurd h (by decide)
theorem JO:∀c:UInt8,(esc c).contains 10=false:=oL (by decide +kernel)
theorem yx(s:BS):(10:UInt8)∉qk s:=by
 unfold qk
 simp only[List.mem_append,List.mem_singleton,List.mem_flatMap,not_or,not_exists,not_and]
 refine⟨⟨by decide,fun c _ h=>?_⟩,by decide⟩
 have:=JO c
 rw[<-List.contains_iff_mem,this] at h
 cases h
theorem Fv{s:BS}(h:jH s=true):∀c∈s,good c=true:=by
 unfold jH at h
 split at h
 ·simp only[Bool.and_eq_true] at h
  intro c hc
  obtain⟨j,hj,rfl⟩:=List.mem_iff_getElem.1 hc
  have:=Hz h.2 (Nat.zero_le j) hj
  unfold yl at this
  rw[dif_pos hj,Bool.and_eq_true,Bool.and_eq_true] at this
  exact this.1.1
 ·cases h
theorem EH(s:BS):(10:UInt8)∉scS s:=by
 unfold scS
 split
 ·rename_i h
  intro h2
  exact Im (Fv (Bool.and_eq_true _ _▸h).1 _ h2) rfl
 ·exact yx s
def keyS(s:BS):BS:=if s=[60,60] then qk s else scS s
theorem D8(n:Nat)(s:BS)(hs:s.length<=100000)(hn:200000<=n):ru n s=some (keyS s):=by
 unfold ru keyS
 by_cases h:s=[60,60]
 ·rw[if_pos (by rw[h];rfl),if_pos h,wq n s hs hn];rfl
 ·rw[if_neg (by simpa using h),if_neg h,oJ n s hs hn];rfl
theorem AV{s:BS}:scS s=[60,60]↔s=[60,60]:=by
 constructor
 ·intro h
  unfold scS at h
  split at h
  ·exact h
  ·unfold qk at h;simp at h
 ·rintro rfl;decide
theorem IW(s:BS):(if(scS s==[60,60])=true then([34,60,60,34]:BS) else scS s)=keyS s:=by
 unfold keyS
 by_cases h:s=[60,60]
 ·rw[if_pos (by rw[AV.2 h];rfl),if_pos h,h];decide
 ·rw[if_neg (by simpa[AV] using h),if_neg h]
theorem yd(s:BS):(keyS s).length<=4*s.length+2:=by
 have:=jQ s
 unfold keyS
 split
 ·unfold qk
  simp only[List.length_append,List.length_cons,List.length_nil];omega
 ·exact Eo s
theorem IU(s:BS):(10:UInt8)∉keyS s:=by
 unfold keyS
 split
 ·exact yx s
 ·exact EH s
def isS(t:Nd):Bool:=decide (t.aD<2)||t.ai.isEmpty
def shS(t:Nd):BS:=if t.aD=0 then lg else if t.aD=1 then scS t.aI else if t.aD=2 then [91,93] else [123,125]
theorem sW(t:Nd)(h:t.aI.length<=200):(shS t).length<=802:=by
 have:=Eo t.aI
 unfold shS
 repeat' split
 ·decide
 ·omega
 ·decide
 ·decide
theorem Ey(t:Nd):(10:UInt8)∉shS t:=by
 unfold shS
 repeat' split
 ·decide
 ·exact EH _
 ·decide
 ·decide
theorem uM{d:Nat}(n:Nat)(t:Nd)(hF:Fit (d+1) t)(hs:t.aI.length<=200)(hn:200000<=n):l7 n t=some (if isS t=true then(shS t,true) else([],false)):=by
 obtain⟨_,_,_,_,_,f6,f7,_⟩:=hF
 unfold l7 isS shS
 by_cases h0:t.aD=0
 ·simp[h0]
 rw[if_neg (by simpa using h0),if_neg h0]
 by_cases h1:t.aD=1
 ·rw[if_pos (by rw[h1];rfl),if_pos h1,h1,oJ n _ (by omega) hn];rfl
 rw[if_neg (by simpa using h1),if_neg h1]
 have h2:decide (t.aD<2)=false:=decide_eq_false (by omega)
 rw[h2,Bool.false_or]
 cases hk:t.ai with
 |cons x l =>
  rw[if_pos (decide_eq_true (by rw[List.length_cons];omega))]
  rfl
 |nil =>
  rw[if_neg (by decide)]
  by_cases h3:t.aD=2
  ·rw[if_pos (by rw[h3];rfl),if_pos h3];rfl
  ·rw[if_neg (by simpa using h3),if_neg h3];rfl
theorem Cm(t:Nd):iU t=isS t:=by
 unfold iU isS
 cases decide (t.aD<2) with
 |true=>rfl
 |false =>
  cases t.ai with
  |nil=>rfl
  |cons x l =>
   have h:¬((l.length:Int)+1=0):=by omega
   simpa using h
theorem vh(n:Nat)(t:Nd)(hs:t.aI.length<=200)(hn:200000<=n):jh n t=some (shS t):=by
 unfold jh shS
 by_cases h0:t.aD=0
 ·simp[h0]
 rw[if_neg (by simpa using h0),if_neg h0]
 by_cases h1:t.aD=1
 ·rw[if_pos (by rw[h1];rfl),if_pos h1,nX n _ (by omega) hn];rfl
 rw[if_neg (by simpa using h1),if_neg h1]
 by_cases h3:t.aD=2
 ·rw[if_pos (by rw[h3];rfl),if_pos h3]
 ·rw[if_neg (by simpa using h3),if_neg h3]
def qh(h:BS):List BS->List BS
 |[]=>[]
 |r::t=>(h++r)::qh [32,32] t
def jT(R:Nd->List BS)(b:Bool)(p:BS×Nd):List BS :=
 if b=true then(if isS p.2=true then [((keyS p.1++[58])++[32])++shS p.2] else(keyS p.1++[58])::qh [32,32] (R p.2))
 else(if isS p.2=true then [[45,32]++shS p.2] else qh [45,32] (R p.2))
def prs(t:Nd):List (BS×Nd):=if t.aD=3 then t.av.zip t.ai else t.ai.map fun k=>([],k)
def dQ:Nat->Nd->List BS
 |0,_=>[]
 |d+1,t=>if isS t=true then [shS t] else(prs t).flatMap (jT (dQ d) (t.aD==3))
theorem uw(h:BS):∀l:List BS,(qh h l).length=l.length
 |[]=>rfl
 |r::t=>by rw[qh,List.length_cons,uw _ t,List.length_cons]
theorem xR{h:BS}{m:Nat}(hm:h.length<=2)(h10:(10:UInt8)∉h):∀{l:List BS},(∀r∈l,r.length<=m/\10∉r)->∀r∈qh h l,r.length<=m+2/\10∉r
 |[],_,r,hr=>by cases hr
 |x::l,hl,r,hr=>by
  rw[qh] at hr
  rcases List.mem_cons.1 hr with rfl|hr
  ·obtain⟨h1,h2⟩:=hl x List.mem_cons_self
   refine⟨by rw[List.length_append];omega,fun hc=>?_⟩
   rcases List.mem_append.1 hc with hc|hc
   ·exact h10 hc
   ·exact h2 hc
  ·exact xR (h:=[32,32]) (by decide) (by decide) (fun r hr=>hl r (List.mem_cons_of_mem _ hr)) r hr
theorem nC{d:Nat}{t:Nd}(hF:Fit (d+1) t):(prs t).length=t.ai.length:=by
 unfold prs
 split
 ·rename_i h
  rw[List.length_zip,(hF.2.2.2.2.1 h).1,Nat.min_self]
 ·rw[List.length_map]
theorem Es{d:Nat}{t:Nd}(hF:Fit (d+1) t){i:Nat}(h:i<(prs t).length):(prs t)[i].2=t.ai[i]'(nC hF▸h):=by
 unfold prs at h ⊢
 by_cases h3:t.aD=3
 ·simp only[h3,if_true] at h ⊢
  rw[List.getElem_zip]
 ·simp only[h3,if_false] at h ⊢
  rw[List.getElem_map]
theorem EB{d:Nat}{t:Nd}(hF:Fit (d+1) t)(hS:Shk 200 (d+1) t){p:BS×Nd}(h:p∈prs t):p.2∈t.ai/\p.1.length<=200:=by
 unfold prs at h
 split at h
 ·obtain⟨h1,h2⟩:=List.of_mem_zip h
  exact⟨h2,hS.2.1 _ h1⟩
 ·obtain⟨k,hk,rfl⟩:=List.mem_map.1 h
  exact⟨hk,Nat.zero_le _⟩
theorem Eu{R:Nd->List BS}{m z:Nat}(b:Bool)(p:BS×Nd)(hz:1<=z)(hk:p.1.length<=200)(ht:p.2.aI.length<=200)(hm:1700<=m)
  (hR:(isS p.2=false->(R p.2).length+1<=z)/\R p.2≠[]/\∀r∈R p.2,r.length<=m/\10∉r):(jT R b p).length<=z/\jT R b p≠[]/\∀r∈jT R b p,r.length<=m+2/\10∉r:=by
 obtain⟨h1,h2,h3⟩:=hR
 have k1:=yd p.1
 have k2:=IU p.1
 have s1:=sW p.2 ht
 have s2:=Ey p.2
 have hpad:∀h:BS,h.length<=2->(10:UInt8)∉h->qh h (R p.2)≠[]:=fun h _ _ e=>h2 (by
  have:=uw h (R p.2)
  rw[e] at this
  exact List.eq_nil_of_length_eq_zero this.symm)
 unfold jT
 cases b with
 |true =>
  rw[if_pos rfl]
  cases hs:isS p.2 with
  |true =>
   rw[if_pos rfl]
   refine⟨hz,List.cons_ne_nil _ _,fun r hr=>?_⟩
   rw[List.mem_singleton] at hr;subst hr
   refine⟨by simp only[List.length_append,List.length_cons,List.length_nil];omega,?_⟩
   simp only[List.mem_append,List.mem_singleton,not_or]
   exact⟨⟨⟨k2,by decide⟩,by decide⟩,s2⟩
  |false =>
   rw[if_neg Bool.false_ne_true]
   refine⟨by rw[List.length_cons,uw];exact h1 hs,List.cons_ne_nil _ _,fun r hr=>?_⟩
   rcases List.mem_cons.1 hr with rfl|hr
   ·refine⟨by simp only[List.length_append,List.length_cons,List.length_nil];omega,?_⟩
    simp only[List.mem_append,List.mem_singleton,not_or]
    exact⟨k2,by decide⟩
   ·exact xR (by decide) (by decide) h3 r hr
 |false =>
  rw[if_neg Bool.false_ne_true]
  cases hs:isS p.2 with
  |true =>
   rw[if_pos rfl]
   refine⟨hz,List.cons_ne_nil _ _,fun r hr=>?_⟩
   rw[List.mem_singleton] at hr;subst hr
   refine⟨by simp only[List.length_append,List.length_cons,List.length_nil];omega,?_⟩
   simp only[List.mem_append,List.mem_cons,List.not_mem_nil,or_false,not_or]
   exact⟨⟨by decide,by decide⟩,s2⟩
  |false =>
   rw[if_neg Bool.false_ne_true]
   have:=h1 hs
   refine⟨by rw[uw];omega,hpad _ (by decide) (by decide),fun r hr=>xR (by decide) (by decide) h3 r hr⟩
theorem Dh{α:Type}{f:α->List BS}{g:α->Nat}:∀{l:List α},(∀x∈l,(f x).length<=g x)->(l.flatMap f).length<=(l.map g).sum
 |[],_=>Nat.le_refl 0
 |x::l,h=>by
  have h1:=h x List.mem_cons_self
  have h2:=Dh (l:=l) fun y hy=>h y (List.mem_cons_of_mem _ hy)
  rw[List.flatMap_cons,List.length_append,List.map_cons,List.sum_cons];omega
theorem KE{d:Nat}{t:Nd}(hF:Fit (d+1) t):((prs t).map fun p=>sz8 d p.2).sum=(t.ai.map (sz8 d)).sum:=by
 have:(prs t).map (fun p=>sz8 d p.2)=t.ai.map (sz8 d):=by
  refine List.ext_getElem (by rw[List.length_map,List.length_map,nC hF]) fun i h1 h2=>?_
  rw[List.getElem_map,List.getElem_map,Es hF]
 rw[this]
theorem mh:∀(d:Nat)(t:Nd),Fit d t->Shk 200 d t->(isS t=false->(dQ d t).length+1<=sz8 d t)/\dQ d t≠[]/\∀r∈dQ d t,r.length<=1700+2*d/\10∉r
 |0,t,h,_=>h.elim
 |d+1,t,hF,hS=>by
  have f8:=hF.2.2.2.2.2.2.2
  obtain⟨s1,s2,s3⟩:=id hS
  have hs:sz8 (d+1) t=1+(t.ai.map (sz8 d)).sum:=rfl
  have ihE:∀p∈prs t,(jT (dQ d) (t.aD==3) p).length<=sz8 d p.2/\jT (dQ d) (t.aD==3) p≠[]/\∀r∈jT (dQ d) (t.aD==3) p,r.length<=1700+2*d+2/\10∉r:=by
   intro p hp
   obtain⟨h1,h2⟩:=EB hF hS hp
   have ht:p.2.aI.length<=200:=by
    have:=s3 p.2 h1
    have hf:=f8 p.2 h1
    cases d with
    |zero=>exact hf.elim
    |succ d=>exact this.1
   exact Eu _ p (oR _ _) h2 ht (by omega) (mh d p.2 (f8 _ h1) (s3 _ h1))
  unfold dQ
  cases hi:isS t with
  |true =>
   rw[if_pos rfl]
   refine⟨fun h=>(by cases h),List.cons_ne_nil _ _,fun r hr=>?_⟩
   rw[List.mem_singleton] at hr;subst hr
   have:=sW t s1
   exact⟨by omega,Ey t⟩
  |false =>
   rw[if_neg Bool.false_ne_true]
   refine⟨fun _=>?_,fun e=>?_,fun r hr=>?_⟩
   ·have h1:=Dh (l:=prs t) fun p hp=>(ihE p hp).1
    rw[KE hF] at h1
    omega
   ·have hne:0<(prs t).length:=by
     rw[nC hF]
     unfold isS at hi
     rw[Bool.or_eq_false_iff] at hi
     cases hk:t.ai with
     |nil=>rw[hk] at hi;exact absurd hi.2 (by decide)
     |cons x l=>exact Nat.succ_pos _
    have h1:=(ihE _ (List.getElem_mem hne)).2.1
    exact h1 (List.flatMap_eq_nil_iff.1 e _ (List.getElem_mem hne))
   ·obtain⟨p,hp,hr⟩:=List.mem_flatMap.1 hr
    have:=(ihE p hp).2.2 r hr
    exact⟨by omega,this.2⟩
theorem gw{a:Nat}(h:a<=1000000000):decide ((a:Int)<=9223372036854775807)=true:=decide_eq_true (by omega)
theorem Jq{a:Nat}(h:a<=1000000000):decide (a*(1+1)<=limit)=true:=decide_eq_true (by show a*(1+1)<=140737488355328;omega)
theorem EI:∀(l:List BS)(h:BS),h.length<=2->(∀r∈l,r.length<=100000)->yk h l=some (qh h l)
 |[],_,_,_=>rfl
 |r::t,h,hh,hl=>by
  have h1:=hl r List.mem_cons_self
  rw[yk,if_pos (gw (by omega)),EI t [32,32] (by decide) fun x hx=>hl x (List.mem_cons_of_mem _ hx)]
  rfl
theorem IL(R:Nd->Option (List BS))(S:Nd->List BS)(k:Nd)(h:BS)(hh:h.length<=900)(hk:(shS k).length<=900)(h2:isS k=false->h.length<=2)(hR:isS k=false->R k=some (S k)/\∀r∈S k,r.length<=100000) :
  tX R k (if isS k=true then(shS k,true) else([],false)) h=some (if isS k=true then [h++shS k] else qh h (S k)):=by
 unfold tX
 cases hs:isS k with
 |true=>rw[if_pos rfl,if_pos rfl,if_pos rfl,if_pos (gw (by show h.length+(shS k).length<=_;omega))]
 |false =>
  obtain⟨h1,h3⟩:=hR hs
  rw[if_neg Bool.false_ne_true,if_neg Bool.false_ne_true,if_neg Bool.false_ne_true,h1,Option.bind_some,EI _ _ (h2 hs) h3]
theorem G9{d:Nat}{t:Nd}(hF:Fit (d+1) t){i:Nat}(h:i<t.ai.length):∃h':i<(prs t).length,(prs t)[i].2=t.ai[i]/\(t.aD=3->∃h2:i<t.av.length,(prs t)[i].1=t.av[i]):=by
 have h':i<(prs t).length:=by rw[nC hF];exact h
 refine⟨h',Es hF h',fun h3=>?_⟩
 have hk:=(hF.2.2.2.2.1 h3).1
 refine⟨by omega,?_⟩
 unfold prs at h' ⊢
 simp only[h3,if_true] at h' ⊢
 rw[List.getElem_zip]
theorem Ks{d:Nat}(n:Nat)(R:Nd->Option (List BS))(S:Nd->List BS)(t:Nd)(hn:200000<=n)(hF:Fit (d+1) t)(hS:Shk 200 (d+1) t)(i:Nat)(h:i<t.ai.length)(h':i<(prs t).length)
  (hR:isS t.ai[i]=false->R t.ai[i]=some (S t.ai[i])/\∀r∈S t.ai[i],r.length<=100000):BW n R t t.ai[i] (i:Int)=some (jT S (t.aD==3) (prs t)[i]):=by
 obtain⟨_,p1,p2⟩:=G9 hF h
 have hkF:=hF.2.2.2.2.2.2.2 _ (List.getElem_mem h)
 have hkS:=hS.2.2 _ (List.getElem_mem h)
 have hk2:=hS.2.1
 obtain⟨d,rfl⟩:∃e,d=e+1:=by
  cases d with
  |zero=>exact hkF.elim
  |succ d=>exact⟨d,rfl⟩
 have ht:=hkS.1
 have hsl:=sW _ ht
 unfold BW
 rw[uM n _ hkF ht hn,Option.bind_some]
 generalize hp:(prs t)[i]=p at p1 p2 ⊢
 obtain⟨key,k⟩:=p
 have p1:k=t.ai[i]:=p1
 subst p1
 have tl:∀h:BS,h.length<=900->(isS t.ai[i]=false->h.length<=2)->_:=fun h a b=>IL R S t.ai[i] h a (by omega) b hR
 unfold jT
 by_cases h3:t.aD=3
 ·obtain⟨hki,e⟩:=p2 h3
  have e:key=t.av[i]:=e
  subst e
  have kl:=hk2 _ (List.getElem_mem hki)
  have kl2:=yd t.av[i]
  have e3:(t.aD==3)=true:=by rw[h3];rfl
  rw[e3,if_pos rfl,if_pos rfl,if_pos (jg hki),jj hki,D8 n _ (by omega) hn,Option.bind_some,if_pos (gw (by simp only[List.length_cons,List.length_nil];omega))]
  cases hs:isS t.ai[i] with
  |true =>
   have:=tl ((keyS t.av[i]++[58])++[32]) (by simp only[List.length_append,List.length_cons,List.length_nil];omega) (fun e=>by rw[hs] at e;cases e)
   rw[hs,if_pos rfl,if_pos rfl] at this
   simp only[if_true]
   rw[if_pos (gw (by simp only[List.length_append,List.length_cons,List.length_nil];omega)),this]
  |false =>
   have:=tl [32,32] (by decide) (fun _=>by decide)
   rw[hs,if_neg Bool.false_ne_true,if_neg Bool.false_ne_true] at this
   simp only[Bool.false_eq_true,if_false]
   rw[this];rfl
 ·have e3:(t.aD==3)=false:=by simpa using h3
  rw[e3,if_neg Bool.false_ne_true,if_neg Bool.false_ne_true]
  exact tl [45,32] (by decide) (fun _=>by decide)
theorem CW{d:Nat}(n:Nat)(R:Nd->Option (List BS))(S:Nd->List BS)(t:Nd)(hn:200000<=n)(hF:Fit (d+1) t)(hS:Shk 200 (d+1) t)
  (hR:∀k∈t.ai,isS k=false->R k=some (S k)/\∀r∈S k,r.length<=100000):∀(m i:Nat),t.ai.length-i=m->rM n R t (t.ai.drop i) i=some (((prs t).drop i).flatMap (jT S (t.aD==3)))
 |0,i,hm=>by
  rw[List.drop_eq_nil_of_le (by omega),List.drop_eq_nil_of_le (by rw[nC hF];omega)];rfl
 |m+1,i,hm=>by
  have h:i<t.ai.length:=by omega
  have h':i<(prs t).length:=by rw[nC hF];exact h
  rw[drop_at h,drop_at h',rM,Ks n R S t hn hF hS i h h' (hR _ (List.getElem_mem h)),Option.bind_some,CW n R S t hn hF hS hR m (i+1) (by omega)]
  rfl
theorem xX(n:Nat)(hn:200000<=n):∀(d D:Nat)(t:Nd),Fit d t->Shk 200 d t->d<=1000->d<=D->pG n D t=some (dQ d t)
 |0,_,t,h,_,_,_=>h.elim
 |d+1,0,_,_,_,_,h=>by omega
 |d+1,D+1,t,hF,hS,hd,hD=>by
  rw[pG,dQ]
  unfold E8
  rw[uM n t hF hS.1 hn,Option.bind_some]
  cases hs:isS t with
  |true=>rfl
  |false =>
   rw[if_neg Bool.false_ne_true,if_neg Bool.false_ne_true]
   have f1:=hF.1
   have:rM n (pG n D) t (t.ai.drop 0) 0=_:=CW n (pG n D) (dQ d) t hn hF hS (fun k hk _=>⟨xX n hn d D k (hF.2.2.2.2.2.2.2 k hk) (hS.2.2 k hk) (by omega) (by omega),fun r hr=>by
    have:=((mh d k (hF.2.2.2.2.2.2.2 k hk) (hS.2.2 k hk)).2.2 r hr).1
    omega⟩) _ 0 rfl
   rw[List.drop_zero,List.drop_zero] at this
   simp only[Bool.false_eq_true,if_false]
   rw[if_pos (decide_eq_true (by show t.ai.length<=140737488355328;omega)),this]
def dI(f p:BS):List BS->BS
 |[]=>[]
 |r::t=>((f++r)++[10])++dI p p t
theorem A6{p:BS}:∀{f:BS}{a b:List BS},a≠[]->dI f p (a++b)=dI f p a++dI p p b
 |_,[],_,h=>(h rfl).elim
 |f,[r],b,_=>by simp[dI]
 |f,r::x::a,b,_=>by
  rw[List.cons_append,dI,dI,A6 (f:=p) (a:=x::a) (List.cons_ne_nil _ _),<-List.append_assoc]
theorem vG{p:BS}:∀{f h:BS}{l:List BS},dI f p (qh h l)=dI (f++h) (p++[32,32]) l
 |_,_,[]=>rfl
 |f,h,r::t=>by rw[qh,dI,dI,vG,List.append_assoc f h r]
theorem DN{f g p:BS}:∀{l:List BS},l≠[]->dI (f++g) p l=f++dI g p l
 |[],h=>(h rfl).elim
 |r::t,_=>by simp[dI]
theorem rP{p:BS}{m:Nat}(hp:p.length<=100):∀{f:BS}{l:List BS},f.length<=100->(∀r∈l,r.length<=m)->(dI f p l).length<=l.length*(m+101)
 |_,[],_,_=>Nat.zero_le _
 |f,r::t,hf,hl=>by
  have h1:=hl r List.mem_cons_self
  have h2:=rP hp (f:=p) hp fun x hx=>hl x (List.mem_cons_of_mem _ hx)
  rw[dI,List.length_cons,Nat.add_mul]
  simp only[List.length_append,List.length_cons,List.length_nil]
  omega
theorem Ci(n:Nat)(m:Nat)(hm:m<=100000):∀(l:List BS)(acc:BS),(∀r∈l,r.length<=m)->acc.length+l.length*(m+1)<=1000000000->ff n l acc=some (acc++dI [] [] l)
 |[],acc,_,_=>by rw[ff,dI,List.append_nil]
 |r::t,acc,hl,hb=>by
  have h1:=hl r List.mem_cons_self
  rw[List.length_cons,Nat.add_mul] at hb
  rw[ff,if_pos (Jq (by omega)),if_pos (Jq (by rw[List.length_append];omega)),Ci n m hm t _ (fun x hx=>hl x (List.mem_cons_of_mem _ hx)) (by simp only[List.length_append,List.length_cons,List.length_nil];omega),dI]
  simp
theorem BX(n:Nat):∀(l:List BS)(c:Nat),c+l.length<=1000000000->fl n l (c:Int)=some ((c+l.length:Nat):Int)
 |[],c,_=>rfl
 |r::t,c,hb=>by
  rw[List.length_cons] at hb
  rw[fl,jK c (by omega),BX n t (c+1) (by omega),List.length_cons]
  congr 2;omega
theorem Ax:∀{l:List BS},(∀r∈l,(10:UInt8)∉r)->(dI [] [] l).count 10=l.length
 |[],_=>rfl
 |r::t,hl=>by
  rw[dI,List.count_append,List.count_append,List.nil_append,List.count_eq_zero.2 (hl r List.mem_cons_self),Ax fun x hx=>hl x (List.mem_cons_of_mem _ hx),List.length_cons]
  show 0+1+_=_
  omega
theorem BZ(n:Nat)(v1 s:BS)(b2:Nd)(hs:s.length<=100000000):∀(k i c:Nat),i<=s.length->s.length-i<k->c<=i->eF n v1 s b2 k (c:Int) (i:Int)=some ((c+(s.drop i).count 10:Nat):Int)
 |0,i,c,h1,h2,_=>by omega
 |k+1,i,c,h1,h2,h3=>by
  rw[eF]
  by_cases h:i<s.length
  ·rw[if_pos (oQ h)]
   unfold jo
   rw[if_pos (jg h),jj h,b10,drop_at h,List.count_cons]
   by_cases e:s[i]=10
   ·rw[if_pos (decide_eq_true e),Option.bind_some,jK c (by omega),jK i (by omega),BZ n v1 s b2 hs k (i+1) (c+1) (by omega) (by omega) (by omega),e]
    congr 2
    simp
    omega
   ·rw[if_neg (by simpa using e),Option.bind_some,jK i (by omega),BZ n v1 s b2 hs k (i+1) c (by omega) (by omega) (by omega),if_neg (by simpa using e)]
    rfl
  ·rw[if_neg (by rw[rO (Nat.not_lt.1 h)];exact Bool.false_ne_true),List.drop_eq_nil_of_le (by omega)]
   rfl
theorem Jy{l:List Nd}{d:Nat}{x:Nd}(h:x∈l):sz8 d x<=(l.map (sz8 d)).sum:=by
 induction l with
 |nil=>cases h
 |cons y l ih =>
  rw[List.map_cons,List.sum_cons]
  rcases List.mem_cons.1 h with rfl|h
  ·omega
  ·have:=ih h;omega
theorem Kq(R:Nd->BS->BS->Option BS)(n:Nat)(f p acc:BS)(i:Nat)(t k:Nd)(hf:f.length<=100)(hp:p.length<=100)(hb:acc.length<=500000000):kH R n f p acc (i:Int) ((i:Int)==0) t k=some (acc++(if i=0 then f else p)):=by
 unfold kH
 by_cases h:i=0
 ·rw[if_pos (by rw[h];rfl),if_pos h,if_pos (gw (by omega))]
 ·have hi:¬((i:Int)=0):=by omega
  rw[if_neg (by simpa using hi),if_neg h,if_pos (gw (by omega))]
theorem KG{d:Nat}(R:Nd->BS->BS->Option BS)(n:Nat)(f p acc:BS)(t:Nd)(i:Nat)(h:i<t.ai.length)(h':i<(prs t).length)(hi:isS t=false)(hn:200000<=n)(hF:Fit (d+1) t)(hS:Shk 200 (d+1) t)(hd:d<=20)
  (hf:f.length<=100) (hp:p.length<=90) (hb:acc.length<=500000000) (hz:sz8 d t.ai[i]<=2000)
  (hR:isS t.ai[i]=false->∀f',f'.length<=100->R t.ai[i] f' (p++[32,32])=some (dI f' (p++[32,32]) (dQ d t.ai[i]))) :
  kM R n f p acc (i:Int) t=some (acc++dI (if i=0 then f else p) p (jT (dQ d) (t.aD==3) (prs t)[i])):=by
 obtain⟨_,p1,p2⟩:=G9 hF h
 have hkF:=hF.2.2.2.2.2.2.2 _ (List.getElem_mem h)
 have hkS:=hS.2.2 _ (List.getElem_mem h)
 have hk2:=hS.2.1
 have ok:=mh d _ hkF hkS
 have hlen:isS t.ai[i]=false->∀f':BS,f'.length<=100->(dI f' (p++[32,32]) (dQ d t.ai[i])).length<=100000000:=fun hs f' hf'=>by
  have h1:=ok.1 hs
  have h2:=rP (p:=p++[32,32]) (f:=f') (l:=dQ d t.ai[i]) (m:=1800) (by rw[List.length_append];simp only[List.length_cons,List.length_nil];omega) hf' (fun r hr=>by have:=(ok.2.2 r hr).1;omega)
  have h3:(dQ d t.ai[i]).length*(1800+101)<=2000*(1800+101):=Nat.mul_le_mul_right _ (by omega)
  omega
 have ht:t.ai[i].aI.length<=200:=by
  cases d with
  |zero=>exact hkF.elim
  |succ d=>exact hkS.1
 have hsl:=sW _ ht
 unfold kM
 rw[if_pos (jg h),jj h,Kq R n f p acc i t _ hf (by omega) hb,Option.bind_some]
 have hgl:(if i=0 then f else p).length<=100:=by split<;>omega
 generalize (if i=0 then f else p)=g at hgl ⊢
 generalize hpe:(prs t)[i]=pe at p1 p2 ⊢
 obtain⟨key,k⟩:=pe
 have p1:k=t.ai[i]:=p1
 subst p1
 generalize hk:t.ai[i]=k at *
 unfold jT
 simp only[bM,Cm]
 have L1:(acc++g).length<=600000000:=by rw[List.length_append];omega
 by_cases h3:t.aD=3
 ·obtain⟨hki,e⟩:=p2 h3
  have e:key=t.av[i]:=e
  subst e
  have kl:=hk2 _ (List.getElem_mem hki)
  have kl2:=yd t.av[i]
  have e3:(t.aD==3)=true:=by rw[h3];rfl
  have e2:(t.aD==2)=false:=by rw[h3];rfl
  have hj5:∀o,kJ R n f p o (i:Int) (scS t.av[i]) (scS t.av[i]==[60,60]) t k=some (keyS t.av[i]):=fun o=>by
   rw[<-IW]
   unfold kJ
   split<;>rfl
  have L2:((acc++g)++keyS t.av[i]).length<=700000000:=by rw[List.length_append];omega
  rw[e3,e2,if_neg Bool.false_ne_true,if_pos (jg hki),jj hki,nX n _ (by omega) hn,Option.bind_some,hj5,Option.bind_some,if_pos rfl]
  have b1:∀q:BS,q.length<=2->(((acc++g)++keyS t.av[i])++q).length<=700000002:=fun q hq=>by rw[List.length_append];omega
  have c1:(acc++g).length+(keyS t.av[i]).length<=1000000000:=by omega
  generalize keyS t.av[i]=K at *
  cases hs:isS k with
  |true =>
   have b2:=b1 [58,32] (by decide)
   rw[if_pos rfl,if_pos (gw c1),if_pos (gw (by simp only[List.length_cons,List.length_nil];omega)),vh n k ht hn,Option.bind_some,if_pos (gw (by omega)),if_pos (gw (by rw[List.length_append];simp only[List.length_cons,List.length_nil] at b2 ⊢;omega)),if_pos rfl]
   simp[dI]
  |false =>
   have b2:=b1 [58,10] (by decide)
   have l1:=hlen hs (p++[32,32]) (by rw[List.length_append];simp only[List.length_cons,List.length_nil];omega)
   rw[if_neg Bool.false_ne_true,if_pos (gw c1),if_pos (gw (by simp only[List.length_cons,List.length_nil];omega)),if_pos (gw (by simp only[List.length_cons,List.length_nil];omega)),hR hs _ (by rw[List.length_append];simp only[List.length_cons,List.length_nil];omega),Option.bind_some,if_pos (gw (by omega)),if_neg Bool.false_ne_true,dI,vG]
   simp
 ·have e3:(t.aD==3)=false:=by simpa using h3
  have e2:(t.aD==2)=true:=by
   have f7:=hF.2.2.2.2.2.2.1
   unfold isS at hi
   rw[Bool.or_eq_false_iff,decide_eq_false_iff_not] at hi
   have:t.aD=2:=by omega
   rw[this];rfl
  rw[e3,e2,if_pos rfl,if_neg Bool.false_ne_true]
  unfold mX
  cases hs:isS k with
  |true =>
   have b2:((acc++g)++[45,32]).length<=600000002:=by rw[List.length_append];simp only[List.length_cons,List.length_nil];omega
   rw[if_pos rfl,if_pos (gw (by simp only[List.length_cons,List.length_nil];omega)),vh n k ht hn,Option.bind_some,if_pos (gw (by omega)),if_pos (gw (by rw[List.length_append];simp only[List.length_cons,List.length_nil] at b2 ⊢;omega)),if_pos rfl]
   simp[dI]
  |false =>
   have l1:=hlen hs [45,32] (by decide)
   rw[if_neg Bool.false_ne_true,if_pos (gw (by simp only[List.length_cons,List.length_nil];omega)),hR hs _ (by decide),Option.bind_some,if_pos (gw (by omega)),if_neg Bool.false_ne_true,vG,DN ok.2.1]
   simp
theorem Eg{d:Nat}(R:Nd->BS->BS->Option BS)(n:Nat)(f p:BS)(t:Nd)(hi:isS t=false)(hn:200000<=n)(hF:Fit (d+1) t)(hS:Shk 200 (d+1) t)(hd:d<=20)
  (hf:f.length<=100) (hp:p.length<=90) (hz:sz8 (d+1) t<=2000)
  (hR:∀x∈t.ai,isS x=false->∀f',f'.length<=100->R x f' (p++[32,32])=some (dI f' (p++[32,32]) (dQ d x))) :
  ∀(k i:Nat)(acc:BS),i<=t.ai.length->t.ai.length-i<k->acc.length+(((prs t).drop i).flatMap (jT (dQ d) (t.aD==3))).length*2000<=500000000 ->
   iO R n f p t k acc (i:Int)=some (acc++dI (if i=0 then f else p) p (((prs t).drop i).flatMap (jT (dQ d) (t.aD==3))))
 |0,i,acc,_,h,_=>by omega
 |k+1,i,acc,h1,h2,hb=>by
  rw[iO]
  by_cases h:i<t.ai.length
  ·have h':i<(prs t).length:=by rw[nC hF];exact h
   have hsz:sz8 d t.ai[i]<=2000:=by
    have hs:sz8 (d+1) t=1+(t.ai.map (sz8 d)).sum:=rfl
    have:=Jy (d:=d) (List.getElem_mem h)
    omega
   have ok:jT (dQ d) (t.aD==3) (prs t)[i]≠[]/\∀r∈jT (dQ d) (t.aD==3) (prs t)[i],r.length<=1800:=by
    obtain⟨q1,q2⟩:=EB hF hS (List.getElem_mem h')
    have f8:=hF.2.2.2.2.2.2.2 _ q1
    have s3:=hS.2.2 _ q1
    have ht:(prs t)[i].2.aI.length<=200:=by
     cases d with
     |zero=>exact f8.elim
     |succ d=>exact s3.1
    have:=Eu (t.aD==3) (prs t)[i] (oR d _) q2 ht (show 1700<=1700+2*d by omega) (mh d _ f8 s3)
    exact⟨this.2.1,fun r hr=>by have:=(this.2.2 r hr).1;omega⟩
   rw[if_pos (oQ h),KG R n f p acc t i h h' hi hn hF hS hd hf hp (by omega) hsz (hR _ (List.getElem_mem h)),Option.bind_some,jK i (by have:=hF.1;omega)]
   rw[drop_at h',List.flatMap_cons] at hb ⊢
   rw[List.length_append,Nat.add_mul] at hb
   have jl:=rP (p:=p) (f:=if i=0 then f else p) (l:=jT (dQ d) (t.aD==3) (prs t)[i]) (m:=1800) (by omega) (by split<;>omega) ok.2
   have jm:(jT (dQ d) (t.aD==3) (prs t)[i]).length*(1800+101)<=(jT (dQ d) (t.aD==3) (prs t)[i]).length*2000:=Nat.mul_le_mul_left _ (by decide)
   rw[Eg R n f p t hi hn hF hS hd hf hp hz hR k (i+1) _ (by omega) (by omega) (by rw[List.length_append];omega),if_neg (Nat.succ_ne_zero i),A6 ok.1,List.append_assoc]
  ·rw[if_neg (by rw[rO (Nat.not_lt.1 h)];exact Bool.false_ne_true),List.drop_eq_nil_of_le (by rw[nC hF];omega)]
   simp[dI]
theorem CJ:∀(d n:Nat)(t:Nd)(f p:BS),isS t=false->Fit d t->Shk 200 d t->d<=20->sz8 d t<=2000->f.length<=100->p.length+2*d<=90->200000+d<n->jF n t f p=some (dI f p (dQ d t))
 |0,_,t,_,_,_,h,_,_,_,_,_,_=>h.elim
 |_,0,_,_,_,_,_,_,_,_,_,_,h=>by omega
 |d+1,n+1,t,f,p,hi,hF,hS,hd,hz,hf,hp,hn=>by
  show lQ (jF n) n t f p=_
  unfold lQ
  have hs:sz8 (d+1) t=1+(t.ai.map (sz8 d)).sum:=rfl
  have hlen:=(mh (d+1) t hF hS).1 hi
  have e:dQ (d+1) t=(prs t).flatMap (jT (dQ d) (t.aD==3)):=by rw[dQ,hi,if_neg Bool.false_ne_true]
  have f1:=hF.1
  rw[e] at hlen ⊢
  have:=Eg (jF n) n f p t hi (by omega) hF hS (by omega) hf (by omega) hz (fun x hx hsx f' hf'=>CJ d n x f' (p++[32,32]) hsx (hF.2.2.2.2.2.2.2 x hx) (hS.2.2 x hx) (by omega) (by have:=Jy (d:=d) hx;omega) hf' (by rw[List.length_append];simp only[List.length_cons,List.length_nil];omega) (by omega)) n 0 [] (Nat.zero_le _) (by omega) (by rw[List.drop_zero,List.length_nil];omega)
  rw[List.drop_zero,if_pos rfl,List.nil_append] at this
  have this:iO (jF n) n f p t n [] 0=_:=this
  rw[this];rfl
end Go.Proofs.YtefojkdckfidcaaGreatDoor.M
namespace Go.Proofs.YtefojkdckfidcaaGreatDoor.M
open Go Go.Proofs.YtefojkdckfidcaaGreatDoor.RX Go.Proofs.YtefojkdckfidcaaGreatDoor.PL
set_option maxRecDepth 100000
def wrS(t:Nd):BS:=if t.aD=0 then [] else if t.aD=1/\(t.aI=sU\/t.aI=sQ) then qk t.aI++[10] else dI [] [] (dQ 12 t)
theorem rL(t:Nd):((bif (t.aD==1) then(bif (t.aI==sU) then true else(t.aI==sQ)) else false)=true)↔(t.aD=1/\(t.aI=sU\/t.aI=sQ)):=by
 rw[ED,BP];simp
theorem CP{t:Nd}(hF:Fit 12 t)(hS:Shk 200 12 t)(hz:sz8 12 t<=2000):(dQ 12 t).length<=2000:=by
 cases hi:isS t with
 |true=>unfold dQ;rw[hi,if_pos rfl];exact Nat.le_add_left 1 1999
 |false=>have:=(mh 12 t hF hS).1 hi;omega
theorem BA(n:Nat)(t:Nd)(hF:Fit 12 t)(hS:Shk 200 12 t)(hz:sz8 12 t<=2000)(hn:300000<=n):kD n t=some (wrS t):=by
 have hl:=CP hF hS hz
 have hm:=(mh 12 t hF hS).2.2
 unfold kD wrS
 by_cases h0:t.aD=0
 ·rw[if_pos (by rw[h0];rfl),if_pos h0]
 rw[if_neg (by simpa using h0),if_neg h0]
 by_cases h1:t.aD=1/\(t.aI=sU\/t.aI=sQ)
 ·have ht:=hS.1
  have:=jQ t.aI
  rw[if_pos ((rL t).2 h1),if_pos h1,wq n _ (by omega) (by omega),Option.bind_some,if_pos (gw (by unfold qk;simp only[List.length_append,List.length_cons,List.length_nil];omega))]
 ·rw[if_neg (fun h=>h1 ((rL t).1 h)),if_neg h1]
  unfold pZ
  rw[xX n (by omega) 12 n t hF hS (by omega) (by omega),Option.bind_some,Ci n 1800 (by omega) _ _ (fun r hr=>by have:=(hm r hr).1;omega) (by simp only[List.length_nil];omega)]
  rfl
theorem BB(n:Nat)(t:Nd)(hF:Fit 12 t)(hS:Shk 200 12 t)(hz:sz8 12 t<=2000)(hn:300000<=n):kj n t=some (((if t.aD=0 then 0 else(dQ 12 t).length:Nat):Nat):Int):=by
 have hl:=CP hF hS hz
 unfold kj
 by_cases h0:t.aD=0
 ·rw[if_pos (by rw[h0];rfl),if_pos h0];rfl
 rw[if_neg (by simpa using h0),if_neg h0]
 unfold pZ
 have h:=BX n (dQ 12 t) 0 (by omega)
 have h:fl n (dQ 12 t) 0=_:=h
 rw[xX n (by omega) 12 n t hF hS (by omega) (by omega),Option.bind_some,h,Option.bind_some,Nat.zero_add]
theorem Ko{t:Nd}(hF:Fit 12 t)(hS:Shk 200 12 t):(wrS t).count 10=if t.aD=0 then 0 else(dQ 12 t).length:=by
 have hm:=(mh 12 t hF hS).2.2
 unfold wrS
 split
 ·rfl
 ·split
  ·rename_i h0 h
   have:isS t=true:=by unfold isS;rw[h.1];rfl
   unfold dQ
   rw[this,if_pos rfl,List.count_append,List.count_eq_zero.2 (yx _)]
   rfl
  ·exact Ax fun r hr=>(hm r hr).2
theorem Ku{t:Nd}(hF:Fit 12 t)(hS:Shk 200 12 t)(hz:sz8 12 t<=2000):(wrS t).length<=10000000:=by
 have hl:=CP hF hS hz
 have hm:=(mh 12 t hF hS).2.2
 have ht:=hS.1
 have he:=jQ t.aI
 unfold wrS
 split
 ·exact Nat.zero_le _
 ·split
  ·unfold qk;simp only[List.length_append,List.length_cons,List.length_nil];omega
  ·have h1:=rP (p:=[]) (f:=[]) (l:=dQ 12 t) (m:=1800) (by simp) (by simp) (fun r hr=>by have:=(hm r hr).1;omega)
   have h2:(dQ 12 t).length*(1800+101)<=2000*(1800+101):=Nat.mul_le_mul_right _ hl
   omega
theorem zT(n:Nat)(t:Nd)(hF:Fit 12 t)(hS:Shk 200 12 t)(hz:sz8 12 t<=2000)(hn:300000<=n):mM n t=some (wrS t):=by
 have ht:=hS.1
 unfold mM wrS
 by_cases h0:t.aD=0
 ·rw[if_pos (by rw[h0];rfl),if_pos h0]
 rw[if_neg (by simpa using h0),if_neg h0]
 by_cases h1:t.aD=1/\(t.aI=sU\/t.aI=sQ)
 ·rw[if_pos ((rL t).2 h1),if_pos h1,if_pos (gw (by simp only[List.length_cons,List.length_nil];omega)),if_pos (gw (by simp only[List.length_append,List.length_cons,List.length_nil];omega))]
  rcases h1.2 with e|e<;>rw[e]<;>decide
 rw[if_neg (fun h=>h1 ((rL t).1 h)),if_neg h1,Cm]
 cases hi:isS t with
 |true =>
  have hsl:=sW t ht
  rw[if_pos rfl,vh n t ht (by omega),Option.bind_some,if_pos (gw (by simp only[List.length_cons,List.length_nil];omega))]
  unfold dQ
  rw[hi,if_pos rfl]
  simp[dI]
 |false =>
  rw[if_neg Bool.false_ne_true,CJ 12 n t [] [] hi hF hS (by omega) hz (by simp) (by simp) (by omega)]
  rfl
def zV:Nd:=af.mk 2 [] [] [af.mk 1 [120] [] [],af.mk 3 [] [[98],[99]] [af.mk 1 [121] [] [],af.mk 0 [] [] []]]
def n11:Nd:=af.mk 3 [] [[97]] [zV]
def t11:BS:=[91,120,44,32,123,98,58,32,121,44,32,99,58,32,110,117,108,108,125,93]
def l11:aG:=aG.mk 1 0 ([97,58,32]++t11)
theorem J9(m:Nat)(hn:600000<=m)(rd:au):dE (m+60) 1 t11 rd=some (zV,rd):=by
 have v1:fM (m+60) (ak.mk t11 0 false)=some (zV,true,ak.mk t11 20 false):=by clear hn;kernel_rfl
 have p1:nV (m+60) t11=some (zV,0):=by
  unfold nV
  rw[v1,Option.bind_some]
  have x1:dR (m+60) (ak.mk t11 20 false)=some (0,ak.mk t11 20 false):=by clear hn v1;kernel_rfl
  rw[tu (m+60) zV (xK _ _ (by decide)) (by decide) (by omega)]
  simp only[x1]
  rfl
 have s1:∃r,mP (m+60) t11 false=some r:=by
  clear hn v1 p1
  have h1:iw (m+60) t11=some false:=by kernel_rfl
  exact⟨(af.mk 0 [] [] [],3),by kernel_rfl⟩
 obtain⟨r,s1⟩:=s1
 unfold dE
 rw[s1,Option.bind_some,if_pos (by decide),if_pos (by decide)]
 unfold fU
 rw[p1]
 rfl
theorem JK(n:Nat)(hn:700000<=n):kT n=some true:=by
 obtain⟨m,rfl⟩:∃m,n=m+61:=⟨n-61,by omega⟩
 have hv:=fun rd=>J9 m (by omega) rd
 have e1:jN (m+60) ([97,58,32]++t11)=some ([97],t11,1):=by clear hn hv;kernel_rfl
 have b1:cO (m+61) (au.mk [l11] 0 0 0)=some (n11,au.mk [l11] 1 0 0):=by
  show dO (cO (m+60)) (m+60) _=_
  generalize cO (m+60)=R
  have hj:dF R (m+60) 0 [97] t11 true (af.mk 0 [] [] []) (af.mk 3 [] [] []) l11 (af.mk 0 [] [] []) (au.mk [l11] 1 0 0)=some (zV,au.mk [l11] 1 0 0):=by
   unfold dF
   rw[if_pos rfl]
   change (dE (m+60) 1 t11 _).bind _=_
   rw[hv];rfl
  have hl:cy R (m+60) 0 (m+60) (af.mk 0 [] [] []) (af.mk 3 [] [] []) (au.mk [l11] 0 0 0)=some (.inl (af.mk 0 [] [] [],n11,au.mk [l11] 1 0 0)):=by
   rw[cy,if_pos (by decide),if_pos (by decide)]
   change (jN (m+60) ([97,58,32]++t11)).bind _=_
   rw[e1,Option.bind_some,if_pos (by decide)]
   change (ta (m+60) [] [97]).bind _=_
   have e2:ta (m+60) [] [97]=some false:=by clear hn hv e1 hj;kernel_rfl
   rw[e2,Option.bind_some]
   dsimp only[bM]
   rw[if_neg (by decide),if_neg (by decide)]
   change (dF R (m+60) 0 [97] t11 true (af.mk 0 [] [] []) (af.mk 3 [] [] []) l11 (af.mk 0 [] [] []) (au.mk [l11] 1 0 0)).bind _=_
   rw[hj,Option.bind_some,if_pos (by decide),if_pos (by decide)]
   rfl
  unfold dO
  rw[if_pos (by decide)]
  change (jN (m+60) ([97,58,32]++t11)).bind _=_
  rw[e1,Option.bind_some]
  unfold fA
  rw[if_neg (by decide),if_pos (by decide)]
  unfold iy
  change ((((cy R (m+60) 0 (m+60) (af.mk 0 [] [] []) (af.mk 3 [] [] []) (au.mk [l11] 0 0 0)).bind _).bind _).bind _)=_
  rw[hl]
  simp only[Option.bind_some,Sum.elim_inl]
 have s1:nI (m+61) ([97,58,32]++t11)=some ([l11],0,0):=by clear hn hv e1 b1;kernel_rfl
 have v1:kU (m+61) ([97,58,32]++t11)=some (n11,0,0):=by
  unfold kU
  rw[s1,Option.bind_some,if_neg (by decide),if_neg (by decide)]
  simp only
  rw[b1,Option.bind_some]
  simp only
  rw[tu (m+61) n11 (xK _ _ (by decide)) (by decide) (by omega)]
  rfl
 have w1:kD (m+61) n11=some C5:=by clear hn hv e1 b1 s1 v1;kernel_rfl
 have w2:kj (m+61) n11=some 4:=by clear hn hv e1 b1 s1 v1 w1;kernel_rfl
 have v1:kU (m+61) Il=some (n11,0,0):=v1
 unfold kT
 rw[v1,Option.bind_some]
 simp only[w1,w2]
 rfl
theorem tJ(a0:Nd)(_:nM a0)(a1:BS)(_:List.length a1<=maxLen):∃n,kF n a0 a1=some true:=by
 obtain⟨n,hn⟩:∃n,n=60000000:=⟨_,rfl⟩
 refine⟨n,?_⟩
 have haw:=JK n (by omega)
 unfold kF
 obtain⟨b,h1,h2⟩:=IR n a0 200 (by omega) (by omega)
 have h1:kR n a0 200=some b:=h1
 rw[h1,Option.bind_some]
 by_cases c:(bif (!b) then true else(decide ((List.length a1:Int)>2000)))=true
 ·rw[if_pos c,haw];rfl
 rw[if_neg c]
 cases b with
 |false=>exact absurd rfl c
 |true =>
  have c:decide ((List.length a1:Int)>2000)≠true:=c
  have hl:a1.length<=2000:=by
   have:¬((List.length a1:Int)>2000):=by simpa using c
   omega
  obtain⟨hF,hz,hS⟩:=h2 rfl
  have hlen:=Ku hF hS (by omega)
  have ht:=BZ n a1 (wrS a0) a0 (by omega) n 0 0 (Nat.zero_le _) (by omega) (Nat.le_refl 0)
  have ht:eF n a1 (wrS a0) a0 n 0 0=_:=ht
  rw[List.drop_zero,Nat.zero_add,Ko hF hS] at ht
  rw[BA n a0 hF hS (by omega) (by omega),Option.bind_some,ht,Option.bind_some,zT n a0 hF hS (by omega) (by omega),Option.bind_some,BB n a0 hF hS (by omega) (by omega),oJ n a1 (by omega) (by omega),nX n a1 (by omega) (by omega),haw]
  simp
end Go.Proofs.YtefojkdckfidcaaGreatDoor.M
