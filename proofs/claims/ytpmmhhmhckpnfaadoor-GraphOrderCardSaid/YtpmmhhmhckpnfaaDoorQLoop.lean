import Derived.Test.YtpmmhhmhckpnfaaDoorQPlain
import Derived.Test.YtpmmhhmhckpnfaaDoorQRxOrd
import Derived.Lib.CountLaws
import Derived.Test.YtpmmhhmhckpnfaaDoorQM24
set_option linter.all false
namespace Go.Proofs.YtpmmhhmhckpnfaaDoor.PL
open Go Go.Proofs.YtpmmhhmhckpnfaaDoor.RX
theorem drop_at{α:Type}{l:List α}{i:Nat}(h:i<l.length):l.drop i=l[i]::l.drop (i+1):=List.drop_eq_getElem_cons h
def AX{ρ:Type}:Option ρ->Sum Unit ρ|some r=>.inr r|none=>.inl ()
@[simp] theorem GZ{ρ:Type}:AX (none:Option ρ)=.inl ():=rfl
@[simp] theorem GY{ρ:Type}(r:ρ):AX (some r)=.inr r:=rfl
theorem EG{α ρ:Type}{L:Nat->Int->Option (Sum Unit ρ)}(l:List α)(g:α->Option ρ)(i0:Nat)(hN:l.length<1000000000)
  (hs:∀k i (h:i<l.length),i0<=i->L (k+1) (i:Int)=match g l[i] with|some r=>some (.inr r)|none=>L k (IntKind.wrap .i64 ((i:Int)+1)))
  (he:∀k,L (k+1) (l.length:Int)=some (.inl ())):∀(k i:Nat),i0<=i->i<=l.length->l.length-i<k->L k (i:Int)=some (AX ((l.drop i).findSome? g))
 |0,i,_,_,h=>by omega
 |k+1,i,h0,h1,h2=>by
  by_cases h:i<l.length
  ·rw[hs k i h h0,drop_at h,List.findSome?_cons]
   cases g l[i] with
   |some r=>rfl
   |none =>
    show L k _=_
    rw[oY i (by omega)]
    exact EG l g i0 hN hs he k (i+1) (by omega) (by omega) (by omega)
  ·have:i=l.length:=by omega
   subst this
   rw[he,List.drop_eq_nil_of_le (Nat.le_refl _)];rfl
def nh{α ρ:Type}(g:Nat->α->Option ρ):Nat->List α->Option ρ
 |_,[]=>none
 |i,x::xs=>match g i x with|some r=>some r|none=>nh g (i+1) xs
theorem AO{α ρ:Type}{L:Nat->Int->Option (Sum Unit ρ)}(l:List α)(g:Nat->α->Option ρ)(i0:Nat)(hN:l.length<1000000000)
  (hs:∀k i (h:i<l.length),i0<=i->L (k+1) (i:Int)=match g i l[i] with|some r=>some (.inr r)|none=>L k (IntKind.wrap .i64 ((i:Int)+1)))
  (he:∀k,L (k+1) (l.length:Int)=some (.inl ())):∀(k i:Nat),i0<=i->i<=l.length->l.length-i<k->L k (i:Int)=some (AX (nh g i (l.drop i)))
 |0,i,_,_,h=>by omega
 |k+1,i,h0,h1,h2=>by
  by_cases h:i<l.length
  ·rw[hs k i h h0,drop_at h,nh]
   cases g i l[i] with
   |some r=>rfl
   |none =>
    show L k _=_
    rw[oY i (by omega)]
    exact AO l g i0 hN hs he k (i+1) (by omega) (by omega) (by omega)
  ·have:i=l.length:=by omega
   subst this
   rw[he,List.drop_eq_nil_of_le (Nat.le_refl _)];rfl
theorem fl{n:Nat}:decide ((n:Int)<(n:Int))=false:=by simp
theorem mB{a b:Nat}(h:a+b<=1000000000):decide ((a+b)*(16+1)<=limit)=true:=decide_eq_true (by show(a+b)*(16+1)<=140737488355328;omega)
abbrev BS:=Bs
theorem od(a:BS):¬a<a:=List.lt_irrefl a
theorem yA{a b c:BS}(h:a<b)(h':b<c):a<c:=List.lt_trans h h'
theorem xG{a b:BS}:¬a<b↔b<=a:=List.not_lt
theorem BI{a b:BS}:¬a<=b↔b<a:=List.not_le
theorem ux{a b:BS}(h:a<=b)(h':b<=a):a=b:=List.le_antisymm h h'
theorem zA{a b c:BS}(h:a<=b)(h':b<=c):a<=c:=List.le_trans h h'
theorem D2(a b:BS):a<=b\/b<=a:=List.le_total a b
theorem oD{a b:BS}(h:a<=b)(hn:a≠b):a<b:=BI.1 fun h'=>hn (ux h h')
theorem zx{a b:BS}(h:a<b):a≠b:=fun e=>od b (e▸h)
abbrev Asc(l:List BS):Prop:=l.Pairwise (·<·)
theorem Asc.nodup{l:List BS}(h:Asc l):l.Nodup:=h.imp fun h=>zx h
theorem Asc.ext:∀{l m:List BS},Asc l->Asc m->(∀x,x∈l↔x∈m)->l=m
 |[],[],_,_,_=>rfl
 |[],b::m,_,_,h=>by have:=(h b).2 (by simp);simp at this
 |a::l,[],_,_,h=>by have:=(h a).1 (by simp);simp at this
 |a::l,b::m,hl,hm,h=>by
  obtain⟨h1,h2⟩:=List.pairwise_cons.1 hl
  obtain⟨h3,h4⟩:=List.pairwise_cons.1 hm
  have hab:a=b:=by
   rcases List.mem_cons.1 ((h a).1 (by simp)) with e|e
   ·exact e
   ·rcases List.mem_cons.1 ((h b).2 (by simp)) with e'|e'
    ·exact e'.symm
    ·exact absurd (yA (h1 b e') (h3 a e)) (od a)
  subst hab
  congr 1
  refine Asc.ext h2 h4 fun x=>⟨fun hx=>?_,fun hx=>?_⟩
  ·rcases List.mem_cons.1 ((h x).1 (by simp[hx])) with e|e
   ·exact absurd (h1 x hx) (e▸od _)
   ·exact e
  ·rcases List.mem_cons.1 ((h x).2 (by simp[hx])) with e|e
   ·exact absurd (h3 x hx) (e▸od _)
   ·exact e
def ins(x:BS):List BS->List BS
 |[]=>[x]
 |y::l=>if x<y then x::y::l else if x=y then y::l else y::ins x l
def srt(l:List BS):List BS:=l.foldr ins []
theorem xm{x z:BS}:∀{l:List BS},z∈ins x l↔z=x\/z∈l
 |[]=>by simp[ins]
 |y::l=>by
  unfold ins
  split
  ·simp
  ·split
   ·rename_i h;subst h;simp
   ·simp only[List.mem_cons,xm (l:=l)]
    constructor
    ·rintro(h|h|h)<;>simp[h]
    ·rintro(h|h|h)<;>simp[h]
theorem Am{x:BS}:∀{l:List BS},Asc l->Asc (ins x l)
 |[],_=>by simp[ins]
 |y::l,h=>by
  obtain⟨h1,h2⟩:=List.pairwise_cons.1 h
  unfold ins
  split
  ·rename_i hx
   refine List.pairwise_cons.2 ⟨fun z hz=>?_,h⟩
   rcases List.mem_cons.1 hz with rfl|hz
   ·exact hx
   ·exact yA hx (h1 z hz)
  ·split
   ·exact h
   ·rename_i hx hy
    refine List.pairwise_cons.2 ⟨fun z hz=>?_,Am h2⟩
    rcases xm.1 hz with rfl|hz
    ·exact oD (xG.1 hx) (fun e=>hy e.symm)
    ·exact h1 z hz
theorem sS:∀l:List BS,Asc (srt l)
 |[]=>.nil
 |x::l=>Am (sS l)
theorem tC{z:BS}:∀{l:List BS},z∈srt l↔z∈l
 |[]=>by simp[srt]
 |x::l=>by
  show z∈ins x (srt l)↔_
  rw[xm,tC,List.mem_cons]
theorem rC(x:BS):∀l:List BS,(ins x l).length<=l.length+1
 |[]=>by simp[ins]
 |y::l=>by
  unfold ins
  have:=rC x l
  split
  ·simp
  ·split
   ·simp
   ·simp;omega
theorem lX:∀l:List BS,(srt l).length<=l.length
 |[]=>by simp[srt]
 |x::l=>by
  have:=rC x (srt l);have:=lX l
  show(ins x (srt l)).length<=_
  simp;omega
end Go.Proofs.YtpmmhhmhckpnfaaDoor.PL
namespace Go.Proofs.YtpmmhhmhckpnfaaDoor.PL
open Go Go.Proofs.YtpmmhhmhckpnfaaDoor.RX
theorem Gz{i n:Nat}(h:i<=n):decide (0<=(i:Int)/\(i:Int)<=(n:Int))=true:=decide_eq_true (by omega)
theorem tn(i:Nat):Int.toNat (i:Int)=i:=Int.toNat_natCast i
def upto(c:UInt8):BS->Option (BS×BS)
 |[]=>none
 |b::l=>if b=c then some ([],l) else(upto c l).map fun p=>(b::p.1,p.2)
theorem xZ{c:UInt8}:∀{l p q:BS},upto c l=some (p,q)->l=p++c::q/\c∉p
 |[],p,q,h=>by cases h
 |b::l,p,q,h=>by
  unfold upto at h
  by_cases hb:b=c
  ·rw[if_pos hb] at h;cases h;exact⟨by rw[hb];rfl,by simp⟩
  ·rw[if_neg hb] at h
   obtain⟨⟨p',q'⟩,hp,he⟩:=Option.map_eq_some_iff.1 h
   cases he
   obtain⟨h1,h2⟩:=xZ hp
   refine⟨by rw[h1];rfl,?_⟩
   simp only[List.mem_cons,not_or]
   exact⟨fun e=>hb e.symm,h2⟩
theorem EP(c:UInt8):∀l:BS,Lib.indexByte l c=match upto c l with|none=>-1|some p=>(p.1.length:Int)
 |[]=>rfl
 |b::l=>by
  unfold Lib.indexByte upto
  by_cases h:b=c
  ·subst h;simp
  ·have h':(b==c)=false:=by simpa using h
   rw[h',if_neg h,EP c l]
   cases upto c l with
   |none=>rfl
   |some p =>
    have:((p.1.length:Int)==-1)=false:=by rw[beq_eq_false_iff_ne];omega
    simp[this]
theorem Ez(c:UInt8):∀l:BS,Lib.index l [c]=Lib.indexByte l c
 |[]=>rfl
 |b::l=>by
  unfold Lib.index Lib.indexByte
  rw[Ez c l]
  have:[c].isPrefixOf (b::l)=(b==c):=by
   rw[List.isPrefixOf,List.isPrefixOf,Bool.and_true,Bool.eq_iff_iff,beq_iff_eq,beq_iff_eq]
   exact eq_comm
  rw[this]
def sub(c:UInt8)(new:BS)(b:UInt8):BS:=if b=c then new else [b]
def parts(c:UInt8):BS->List BS
 |[]=>[[]]
 |b::t=>if b=c then []::parts c t else match parts c t with|[]=>[[b]]|x::r=>(b::x)::r
end Go.Proofs.YtpmmhhmhckpnfaaDoor.PL
namespace Go.Proofs.YtpmmhhmhckpnfaaDoor.PL
open Go
theorem kX{σ ρ:Type}{L:Nat->σ->Int->Option ρ}(N:Nat)(I:Nat->σ->Prop)(P:ρ->Prop)(hN:N<1000000000)
  (hs:∀k s i,i<N->I i s->(∃r,L (k+1) s (i:Int)=some r/\P r)\/∃s',I (i+1) s'/\L (k+1) s (i:Int)=L k s' (IntKind.wrap .i64 ((i:Int)+1)))
  (he:∀k s,I N s->∃r,L (k+1) s (N:Int)=some r/\P r):∀(k i:Nat)(s:σ),i<=N->N-i<k->I i s->∃r,L k s (i:Int)=some r/\P r
 |0,i,_,_,h,_=>by omega
 |k+1,i,s,h1,h2,h3=>by
  by_cases h:i<N
  ·rcases hs k s i h h3 with h4|⟨s',h4,h5⟩
   ·exact h4
   ·rw[h5,oY i (by omega)]
    exact kX N I P hN hs he k (i+1) s' (by omega) (by omega) h4
  ·have:i=N:=by omega
   subst this
   exact he k s h3
theorem mY{ρ:Type}{L:Nat->Int->Option ρ}(N:Nat)(P:ρ->Prop)(hN:N<1000000000)
  (hs:∀k i,i<N->(∃r,L (k+1) (i:Int)=some r/\P r)\/L (k+1) (i:Int)=L k (IntKind.wrap .i64 ((i:Int)+1)))
  (he:∀k,∃r,L (k+1) (N:Int)=some r/\P r) (k i:Nat) (h1:i<=N) (h2:N-i<k):∃r,L k (i:Int)=some r/\P r :=
 kX (L:=fun k (_:Unit) i=>L k i) N (fun _ _=>True) P hN (fun k _ i h _=>(hs k i h).imp id fun h=>⟨(),trivial,h⟩) (fun k _ _=>he k) k i () h1 h2 trivial
end Go.Proofs.YtpmmhhmhckpnfaaDoor.PL
namespace Go.Proofs.YtpmmhhmhckpnfaaDoor.M
open Go Go.Proofs.YtpmmhhmhckpnfaaDoor.RX Go.Proofs.YtpmmhhmhckpnfaaDoor.PL
set_option maxRecDepth 100000
theorem qV{α:Type}(x y:MK)(v:α):∀l:List (MK×α),bn (eU l x v) y=if x=y then some v else bn l y
 |[]=>by unfold eU bn;simp[bn]
 |p::r=>by
  unfold eU
  by_cases h1:p.1=x
  ·rw[if_pos h1]
   unfold bn
   by_cases h2:x=y
   ·rw[if_pos h2,if_pos h2]
   ·rw[if_neg h2,if_neg h2,if_neg (by rw[h1];exact h2)]
  ·rw[if_neg h1]
   unfold bn
   rw[qV x y v r]
   by_cases h2:p.1=y
   ·rw[if_pos h2,if_pos h2,if_neg (fun e=>h1 (by rw[h2,e]))]
   ·rw[if_neg h2,if_neg h2]
abbrev Wb:=aC
def cnt(m:Mi)(t:BS):Int:=(bn m (.inl t)).getD 0
def on(m:Mi)(t:BS):Bool:=decide (cnt m t>0)
def miss(N:List BS)(m:Mi):Nat:=(N.filter fun t=>!on m t).length
inductive Rch(w:Wb):BS->BS->Prop
 |one {s t:BS} (h:t∈iL w s):Rch w s t
 |step {s t u:BS} (h:t∈iL w s) (h2:Rch w t u):Rch w s u
structure Web(w:Wb):Prop where
 nd:w.ai.Nodup
 len:w.ai.length<=1000
 tnd:∀s,(iL w s).Nodup
 tin:∀s,∀t∈iL w s,t∈w.ai
theorem tu{a b:BS}:((Sum.inl a:MK)=.inl b)↔a=b:=⟨fun h=>by cases h;rfl,fun h=>by rw[h]⟩
theorem qD(m:Mi)(t x:BS)(v:Int):cnt (eU m (.inl t) v) x=if t=x then v else cnt m x:=by
 unfold cnt
 rw[qV]
 by_cases h:t=x
 ·rw[if_pos (tu.2 h),if_pos h];rfl
 ·rw[if_neg (fun e=>h (tu.1 e)),if_neg h]
theorem En(m:Mi)(t x:BS)(h:0<=cnt m t/\cnt m t<=1000000):cnt (bump m t) x=if t=x then cnt m t+1 else cnt m x:=by
 unfold bump
 rw[qD]
 show(if t=x then IntKind.wrap .i64 (cnt m t+1) else cnt m x)=_
 rw[oS _ (by omega) (by omega)]
theorem filter_le{α:Type}{p q:α->Bool}:∀{l:List α},(∀x∈l,p x=true->q x=true)->(l.filter p).length<=(l.filter q).length
 |[],_=>Nat.le_refl _
 |x::l,h=>by
  have ih:=filter_le (l:=l) fun y hy=>h y (List.mem_cons_of_mem _ hy)
  rw[List.filter_cons,List.filter_cons]
  cases hp:p x with
  |true=>rw[h x List.mem_cons_self hp];simp;exact ih
  |false=>cases q x<;>simp<;>omega
theorem filter_lt{α:Type}{p q:α->Bool}:∀{l:List α},(∀x∈l,p x=true->q x=true)->(∃x∈l,q x=true/\p x=false)->(l.filter p).length<(l.filter q).length
 |[],_,⟨x,h,_⟩=>by cases h
 |x::l,h,⟨y,hy,h1,h2⟩=>by
  have hl:=filter_le (l:=l) fun z hz=>h z (List.mem_cons_of_mem _ hz)
  rw[List.filter_cons,List.filter_cons]
  rcases List.mem_cons.1 hy with rfl|hy
  ·rw[h1,h2];simp;omega
  ·have ih:=filter_lt (l:=l) (fun z hz=>h z (List.mem_cons_of_mem _ hz)) ⟨y,hy,h1,h2⟩
   cases hp:p x with
   |true=>rw[h x List.mem_cons_self hp];simp;exact ih
   |false=>cases q x<;>simp<;>omega
theorem Ag{N:List BS}{m o:Mi}(h:∀t,cnt m t<=cnt o t):miss N o<=miss N m:=by
 unfold miss
 refine filter_le fun x _ hx=>?_
 have:=h x
 simp only[on,Bool.not_eq_true',decide_eq_false_iff_not] at hx ⊢
 omega
theorem Fq{N:List BS}{m o:Mi}{t:BS}(h:∀t,cnt m t<=cnt o t)(ht:t∈N)(h1:¬cnt m t>0)(h2:cnt o t>0):miss N o<miss N m:=by
 unfold miss
 refine filter_lt (fun x _ hx=>?_) ⟨t,ht,?_,?_⟩
 ·have:=h x
  simp only[on,Bool.not_eq_true',decide_eq_false_iff_not] at hx ⊢
  omega
 ·simp only[on,Bool.not_eq_true',decide_eq_false_iff_not];exact h1
 ·simp only[on,Bool.not_eq_false',decide_eq_true_eq];exact h2
structure EB(w:Wb)(l:List BS)(m o:Mi):Prop where
 mono:∀t,cnt m t<=cnt o t
 uY:∀t,cnt o t+(miss w.ai o:Int)<=cnt m t+(miss w.ai m:Int)+1
 Bt:∀t,t∉l->cnt o t+(miss w.ai o:Int)<=cnt m t+(miss w.ai m:Int)
 cov:∀t∈l,cnt o t>0
 new:∀t,cnt o t>0->cnt m t>0\/∃x∈l,t=x\/Rch w x t
 clo:∀t,cnt o t>0->¬cnt m t>0->∀u∈iL w t,cnt o u>0
def EF(w:Wb)(R:BS->Mi->Option Mi)(k:Nat):Prop:=∀s m (B:Int),B<=900000->(∀t,0<=cnt m t/\cnt m t+(miss w.ai m:Int)<=B)->miss w.ai m<k->∃o,R s m=some o/\EB w (iL w s) m o
theorem xf(w:Wb)(R:BS->Mi->Option Mi)(k:Nat)(hR:EF w R k):∀(l:List BS)(m:Mi)(B:Int),B<=900000->l.Nodup->(∀t∈l,t∈w.ai) ->
  (∀t,0<=cnt m t/\cnt m t+(miss w.ai m:Int)<=B+1)->(∀t∈l,cnt m t+(miss w.ai m:Int)<=B)->miss w.ai m<=k->∃o,sO R l m=some o/\EB w l m o
 |[],m,B,_,_,_,_,_,_=>⟨m,rfl,fun _=>Int.le_refl _,fun _=>by omega,fun _ _=>Int.le_refl _,fun _ h=>(by cases h),fun _ h=>.inl h,fun _ h h'=>absurd h h'⟩
 |t::r,m,B,hB,hnd,hin,hg,hl,hk=>by
  obtain⟨n1,n2⟩:=List.nodup_cons.1 hnd
  have htN:=hin t List.mem_cons_self
  have htB:=hl t List.mem_cons_self
  have hb:=fun x=>En m t x ⟨(hg t).1,by have:=(hg t).2;omega⟩
  have hbm:∀x,cnt m x<=cnt (bump m t) x:=fun x=>by
   rw[hb]
   split
   ·rename_i h;subst h;omega
   ·exact Int.le_refl _
  have hbt:cnt (bump m t) t=cnt m t+1:=by rw[hb,if_pos rfl]
  have hbn:∀x,x≠t->cnt (bump m t) x=cnt m x:=fun x hx=>by rw[hb,if_neg (fun e=>hx e.symm)]
  have hml:=Ag (N:=w.ai) hbm
  have ec:(((bn (bump m t) (Sum.inl t:MK)).getD 0)==1)=decide (cnt m t=0):=by
   show(cnt (bump m t) t==1)=_
   rw[hbt,Bool.eq_iff_iff,beq_iff_eq,decide_eq_true_eq];omega
  rw[sO,ec]
  by_cases hz:cnt m t=0
  ·rw[if_pos (decide_eq_true hz)]
   have hlt:=Fq (N:=w.ai) hbm htN (by omega) (by rw[hbt];omega)
   have hg1:∀x,0<=cnt (bump m t) x/\cnt (bump m t) x+(miss w.ai (bump m t):Int)<=B:=fun x=>by
    by_cases hx:x=t
    ·subst hx;rw[hbt];have:=hg x;exact⟨by omega,by omega⟩
    ·rw[hbn x hx];have:=hg x;exact⟨by omega,by omega⟩
   obtain⟨m1,h1,p1⟩:=hR t (bump m t) B hB hg1 (by omega)
   have q1:∀x,0<=cnt m1 x/\cnt m1 x+(miss w.ai m1:Int)<=B+1:=fun x=>by
    have:=p1.uY x;have:=p1.mono x;have:=hg1 x;exact⟨by omega,by omega⟩
   have q2:∀x∈r,cnt m1 x+(miss w.ai m1:Int)<=B:=fun x hx=>by
    have hne:x≠t:=fun e=>n1 (e▸hx)
    have:=p1.uY x;have:=hbn x hne;have:=hl x (List.mem_cons_of_mem _ hx);omega
   have hm1:=Ag (N:=w.ai) p1.mono
   obtain⟨o,h2,p2⟩:=xf w R k hR r m1 B hB n2 (fun x hx=>hin x (List.mem_cons_of_mem _ hx)) q1 q2 (by omega)
   refine⟨o,by rw[h1];exact h2,fun x=>Int.le_trans (hbm x) (Int.le_trans (p1.mono x) (p2.mono x)),fun x=>?_,fun x hx=>?_,fun x hx=>?_,fun x hx=>?_,fun x hx hnx=>?_⟩
   ·by_cases hxt:x=t
    ·subst hxt;have:=p2.Bt x n1;have:=p1.uY x;omega
    ·have:=p2.uY x;have:=p1.uY x;have:=hbn x hxt;omega
   ·have hxt:x≠t:=fun e=>hx (e▸List.mem_cons_self)
    have:=p2.Bt x (fun h=>hx (List.mem_cons_of_mem _ h));have:=p1.uY x;have:=hbn x hxt;omega
   ·rcases List.mem_cons.1 hx with rfl|hx
    ·have:=p1.mono x;have:=p2.mono x;omega
    ·exact p2.cov x hx
   ·rcases p2.new x hx with h|⟨y,hy,h⟩
    ·rcases p1.new x h with h|⟨y,hy,h⟩
     ·by_cases hxt:x=t
      ·exact .inr ⟨t,List.mem_cons_self,.inl hxt⟩
      ·rw[hbn x hxt] at h;exact .inl h
     ·refine .inr ⟨t,List.mem_cons_self,.inr ?_⟩
      rcases h with rfl|h
      ·exact .one hy
      ·exact .step hy h
    ·exact .inr ⟨y,List.mem_cons_of_mem _ hy,h⟩
   ·intro u hu
    by_cases h1x:cnt m1 x>0
    ·have:cnt m1 u>0:=by
      by_cases hxb:cnt (bump m t) x>0
      ·have hxt:x=t:=by
        by_cases h:x=t
        ·exact h
        ·rw[hbn x h] at hxb;exact absurd hxb hnx
       subst hxt
       exact p1.cov u hu
      ·exact p1.clo x h1x hxb u hu
     have:=p2.mono u;omega
    ·exact p2.clo x hx h1x u hu
  ·rw[if_neg (by simp[hz])]
   have hpos:cnt m t>0:=by have:=(hg t).1;omega
   have q1:∀x,0<=cnt (bump m t) x/\cnt (bump m t) x+(miss w.ai (bump m t):Int)<=B+1:=fun x=>by
    by_cases hx:x=t
    ·subst hx;rw[hbt];have:=hg x;exact⟨by omega,by omega⟩
    ·rw[hbn x hx];have:=hg x;exact⟨by omega,by omega⟩
   have q2:∀x∈r,cnt (bump m t) x+(miss w.ai (bump m t):Int)<=B:=fun x hx=>by
    have hne:x≠t:=fun e=>n1 (e▸hx)
    have:=hbn x hne;have:=hl x (List.mem_cons_of_mem _ hx);omega
   obtain⟨o,h2,p2⟩:=xf w R k hR r (bump m t) B hB n2 (fun x hx=>hin x (List.mem_cons_of_mem _ hx)) q1 q2 (by omega)
   refine⟨o,h2,fun x=>Int.le_trans (hbm x) (p2.mono x),fun x=>?_,fun x hx=>?_,fun x hx=>?_,fun x hx=>?_,fun x hx hnx=>?_⟩
   ·by_cases hxt:x=t
    ·subst hxt;have:=p2.Bt x n1;omega
    ·have:=p2.uY x;have:=hbn x hxt;omega
   ·have hxt:x≠t:=fun e=>hx (e▸List.mem_cons_self)
    have:=p2.Bt x (fun h=>hx (List.mem_cons_of_mem _ h));have:=hbn x hxt;omega
   ·rcases List.mem_cons.1 hx with rfl|hx
    ·have:=p2.mono x;omega
    ·exact p2.cov x hx
   ·rcases p2.new x hx with h|⟨y,hy,h⟩
    ·by_cases hxt:x=t
     ·exact .inr ⟨t,List.mem_cons_self,.inl hxt⟩
     ·rw[hbn x hxt] at h;exact .inl h
    ·exact .inr ⟨y,List.mem_cons_of_mem _ hy,h⟩
   ·refine p2.clo x hx fun h=>hnx ?_
    by_cases hxt:x=t
    ·subst hxt;exact hpos
    ·rw[hbn x hxt] at h;exact h
theorem ot{α:Type}[DecidableEq α]:∀{l m:List α},l.Nodup->(∀x∈l,x∈m)->l.length<=m.length
 |[],_,_,_=>Nat.zero_le _
 |x::l,m,h,hm=>by
  obtain⟨h1,h2⟩:=List.nodup_cons.1 h
  have hx:=hm x List.mem_cons_self
  have:=ot (l:=l) (m:=m.erase x) h2 fun y hy=>(List.mem_erase_of_ne (fun e=>h1 (by rw[<-e];exact hy))).2 (hm y (List.mem_cons_of_mem _ hy))
  rw[List.length_erase_of_mem hx] at this
  have:=List.length_pos_of_mem hx
  rw[List.length_cons];omega
theorem uO{w:Wb}(hw:Web w)(s:BS):(iL w s).length<=1000:=Nat.le_trans (ot (hw.tnd s) (hw.tin s)) hw.len
theorem yy(w:Wb)(hw:Web w):∀k:Nat,EF w (ou w k) k
 |0=>fun s m B _ _ h=>by omega
 |k+1=>fun s m B hB hg hk=>by
  rw[ou,if_pos (decide_eq_true (by have:=uO hw s;show _<=140737488355328;omega))]
  exact xf w (ou w k) k (yy w hw k) (iL w s) m B hB (hw.tnd s) (hw.tin s) (fun t=>⟨(hg t).1,by have:=(hg t).2;omega⟩) (fun t _=>(hg t).2) (by omega)
theorem Rch.mem{w:Wb}(hw:Web w){s t:BS}(h:Rch w s t):t∈w.ai:=by
 induction h with
 |one h=>exact hw.tin _ _ h
 |step _ _ ih=>exact ih
theorem Rch.trans{w:Wb}{s t u:BS}(h:Rch w s t)(h2:Rch w t u):Rch w s u:=by
 induction h with
 |one h=>exact .step h h2
 |step h _ ih=>exact .step h (ih h2)
theorem xg(m:Mi):∀(l out:List BS),out.length+l.length<=2000->oK m out l=some (out++l.filter (on m))
 |[],out,_=>by rw[oK];simp
 |t::r,out,h=>by
  rw[List.length_cons] at h
  rw[oK]
  have e:decide (((bn m (.inl t)).getD 0)>0)=on m t:=rfl
  rw[e,List.filter_cons]
  cases on m t with
  |true =>
   rw[if_pos rfl,if_pos (mB (by simp;omega)),xg m r _ (by simp;omega)];simp
  |false=>rw[if_neg Bool.false_ne_true,xg m r _ (by omega)];simp
theorem qS(n:Nat)(w:Wb)(hw:Web w)(s:BS)(hn:10000<=n):∃l,eY n w s=some l/\l.length<=w.ai.length/\∀t,t∈l↔Rch w s t:=by
 have hlen:=hw.len
 have h0:∀t,cnt ([]:Mi) t=0:=fun _=>rfl
 have hmz:miss w.ai []<=w.ai.length:=List.length_filter_le _ _
 obtain⟨o,h1,p⟩:=yy w hw n s [] 2000 (by omega) (fun t=>by rw[h0];exact⟨by omega,by omega⟩) (by omega)
 refine⟨w.ai.filter (on o),?_,List.length_filter_le _ _,fun t=>?_⟩
 ·unfold eY
  rw[if_pos (decide_eq_true (by show _<=140737488355328;omega)),h1,Option.bind_some,xg o _ _ (by simp;omega)];simp
 ·have up:∀{x y:BS},Rch w x y->cnt o x>0->cnt o y>0:=by
   intro x y h
   induction h with
   |one h=>intro hx;exact p.clo _ hx (by rw[h0];omega) _ h
   |step h _ ih=>intro hx;exact ih (p.clo _ hx (by rw[h0];omega) _ h)
  rw[List.mem_filter]
  constructor
  ·rintro⟨_,h⟩
   have h:cnt o t>0:=of_decide_eq_true h
   rcases p.new t h with h|⟨x,hx,rfl|h⟩
   ·rw[h0] at h;omega
   ·exact .one hx
   ·exact .step hx h
  ·intro h
   refine⟨h.mem hw,decide_eq_true ?_⟩
   cases h with
   |one h=>exact p.cov _ h
   |step h h2=>exact up h2 (p.cov _ h)
end Go.Proofs.YtpmmhhmhckpnfaaDoor.M
namespace Go.Proofs.YtpmmhhmhckpnfaaDoor.M
open Go Go.Proofs.YtpmmhhmhckpnfaaDoor.RX Go.Proofs.YtpmmhhmhckpnfaaDoor.PL
set_option maxRecDepth 100000
theorem EA{α ρ:Type}{L:Nat->Int->Option ρ}(l:List α)(g:α->Option ρ)(e:ρ)(hN:l.length<1000000000)
  (hs:∀k i (h:i<l.length),L (k+1) (i:Int)=match g l[i] with|some r=>some r|none=>L k (IntKind.wrap .i64 ((i:Int)+1)))
  (he:∀k,L (k+1) (l.length:Int)=some e):∀(k i:Nat),i<=l.length->l.length-i<k->L k (i:Int)=some (((l.drop i).findSome? g).getD e)
 |0,i,_,h=>by omega
 |k+1,i,h1,h2=>by
  by_cases h:i<l.length
  ·rw[hs k i h,drop_at h,List.findSome?_cons]
   cases g l[i] with
   |some r=>rfl
   |none =>
    show L k _=_
    rw[oY i (by omega)]
    exact EA l g e hN hs he k (i+1) (by omega) (by omega)
  ·have:i=l.length:=by omega
   subst this
   rw[he,List.drop_eq_nil_of_le (Nat.le_refl _)];rfl
theorem yH(s:BS):∀(l:List BS)(i:Nat),(l.contains s=true->∃r,nh (fun i x=>if(s==x)=true then some (i:Int) else none) i l=some r/\0<=r)/\(l.contains s=false->nh (fun i x=>if(s==x)=true then some (i:Int) else none) i l=none)
 |[],i=>⟨fun h=>(by cases h),fun _=>rfl⟩
 |x::l,i=>by
  obtain⟨h1,h2⟩:=yH s l (i+1)
  rw[List.contains_cons,nh]
  cases h:s==x with
  |true=>exact⟨fun _=>⟨(i:Int),rfl,by omega⟩,fun h=>by cases h⟩
  |false=>exact⟨fun h=>h1 h,fun h=>h2 h⟩
theorem gJ(n:Nat)(l:List BS)(s:BS)(hl:l.length<10000)(hn:100000<=n):iy n l s=some (l.contains s):=by
 unfold iy fh fN
 have:=AO (L:=ck n l s (List.length l:Int)) l (fun i x=>if(s==x)=true then some (i:Int) else none) 0 (by omega)
  (fun k i h _=>by
   rw[ck,if_pos (ic h),if_pos (fe h),iP h]
   cases s==l[i]<;>rfl)
  (fun k=>by rw[ck,fl];rfl) n 0 (by omega) (by omega) (by omega)
 rw[show(0:Int)=((0:Nat):Int) from rfl,this,List.drop_zero]
 obtain⟨h1,h2⟩:=yH s l 0
 cases hc:l.contains s with
 |true =>
  obtain⟨r,h3,h4⟩:=h1 hc
  rw[h3]
  show some (decide (r>=((0:Nat):Int)))=some true
  rw[decide_eq_true (by omega)]
 |false =>
  rw[h2 hc]
  rfl
theorem uw{ρ:Type}(g:Nat->BS->Option ρ):∀(a:List BS)(i:Nat)(x:BS)(b:List BS),(∀j y,y∈a->g j y=none)->nh g i (a++x::b)=(match g (i+a.length) x with|some r=>some r|none=>nh g (i+a.length+1) b)
 |[],i,x,b,_=>by rw[List.nil_append,nh];rfl
 |y::a,i,x,b,h=>by
  rw[List.cons_append,nh,h i y List.mem_cons_self,uw g a (i+1) x b fun j z hz=>h j z (List.mem_cons_of_mem _ hz),List.length_cons,show i+1+a.length=i+(a.length+1) by omega]
theorem zq(n:Nat)(l:List BS)(hnd:l.Nodup)(hl:l.length<10000)(hn:100000<=n)(j:Nat)(hj:j<l.length):pq n l l[j]=some (j:Int):=by
 unfold pq
 have:=AO (L:=jo n l l[j]) l (fun i x=>if(x==l[j])=true then some (i:Int) else none) 0 (by omega)
  (fun k i h _=>by
   rw[jo,if_pos (ic h),if_pos (fe h),iP h]
   cases l[i]==l[j]<;>rfl)
  (fun k=>by rw[jo,fl];rfl) n 0 (by omega) (by omega) (by omega)
 have hsp:l=l.take j++l[j]::l.drop (j+1):=by rw[<-drop_at hj,List.take_append_drop]
 have hnot:∀y∈l.take j,(y==l[j])=false:=by
  intro y hy
  rw[beq_eq_false_iff_ne]
  rintro rfl
  rw[hsp] at hnd
  exact(List.nodup_append.1 hnd).2.2 _ hy _ List.mem_cons_self rfl
 have hf:nh (fun i x=>if(x==l[j])=true then some (i:Int) else none) 0 l=some (j:Int):=by
  generalize hx:l[j]=x at hsp hnot
  rw[hsp,uw _ _ _ _ _ fun i y hy=>by rw[hnot y hy];rfl]
  simp[Nat.min_eq_left (Nat.le_of_lt hj)]
 rw[show(0:Int)=((0:Nat):Int) from rfl,this,List.drop_zero,hf]
 rfl
theorem kx{l:List BS}{x:BS}:l.contains x=true↔x∈l:=List.contains_iff_mem
def rdy(w:Wb)(out:List BS)(s:BS):Bool:=!out.contains s&&(iL w s).all fun t=>out.contains t
structure Ord(w:Wb)(o:List BS):Prop where
 nd:o.Nodup
 sub:∀x∈o,x∈w.ai
 ah:∀i (h:i<o.length),∀t∈iL w o[i],t∈o.take i
theorem Dz(n:Nat)(out:List BS)(b:Bool)(s:BS)(v14:List BS)(v15 v16:Int)(E:List BS)(w:Wb)(hE:E.length<=1000)(ho:out.length<=1000)(hn:100000<=n) :
  fV n out b s v14 v15 v16 E (List.length E:Int) w n 0=some (if(E.all fun t=>out.contains t)=true then .inr () else .inl ()):=by
 have:=EA (L:=fV n out b s v14 v15 v16 E (List.length E:Int) w) E (fun t=>if(!out.contains t)=true then some (Sum.inl ():Sum Unit Unit) else none) (.inr ()) (by omega)
  (fun k i h=>by
   rw[fV,if_pos (ic h),if_pos (fe h),iP h,gJ n out _ (by omega) hn,Option.bind_some]
   cases out.contains E[i]<;>rfl)
  (fun k=>by rw[fV,fl];rfl) n 0 (by omega) (by omega)
 rw[show(0:Int)=((0:Nat):Int) from rfl,this,List.drop_zero]
 congr 1
 induction E with
 |nil=>rfl
 |cons x E ih =>
  clear this ih
  have key:∀l:List BS,(l.findSome? fun t=>if(!out.contains t)=true then some (Sum.inl ():Sum Unit Unit) else none).getD (.inr ())=if(l.all fun t=>out.contains t)=true then .inr () else .inl ():=by
   intro l
   induction l with
   |nil=>rfl
   |cons y l ih =>
    rw[List.findSome?_cons,List.all_cons]
    cases out.contains y with
    |true=>simpa using ih
    |false=>simp
  exact key _
theorem Eb(n:Nat)(w:Wb)(hw:Web w)(out:List BS)(b:Bool)(ho:out.length<=1000)(hn:100000<=n)(i:Nat)(hi:i<w.ai.length) :
  jH n out b w.ai (List.length w.ai:Int) (i:Int) w=some (if rdy w out w.ai[i]=true then .inr (out++[w.ai[i]],true) else .inl (out,b)):=by
 unfold jH
 rw[if_pos (fe hi),iP hi,gJ n out _ (by omega) hn,Option.bind_some]
 unfold rdy
 cases out.contains w.ai[i] with
 |true=>simp
 |false =>
  rw[if_neg Bool.false_ne_true]
  have hE:=uO hw w.ai[i]
  have:=Dz n out b w.ai[i] w.ai (List.length w.ai:Int) (i:Int) (iL w w.ai[i]) w hE ho hn
  unfold iL at this ⊢
  rw[this,Option.bind_some]
  cases (((bn w.aH (Sum.inl w.ai[i])).getD { f_l:=[] }).f_l.all fun t=>out.contains t) with
  |true =>
   rw[if_pos rfl]
   show(if decide _=true then _ else _)=_
   rw[if_pos (mB (by simp;omega))];rfl
  |false=>rfl
theorem u6(n:Nat)(w:Wb)(hw:Web w)(out:List BS)(ho:out.length<=1000)(hn:100000<=n)(b:Bool):∀(k i:Nat),i<=w.ai.length->w.ai.length-i<k ->
  eH n w.ai (List.length w.ai:Int) w k out b (i:Int)=some (match (w.ai.drop i).find? (rdy w out) with|some s=>(out++[s],true)|none=>(out,b))
 |0,i,_,h=>by omega
 |k+1,i,h1,h2=>by
  have hlen:=hw.len
  by_cases h:i<w.ai.length
  ·rw[eH,if_pos (ic h),Eb n w hw out b ho hn i h,Option.bind_some,drop_at h,List.find?_cons]
   cases rdy w out w.ai[i] with
   |true=>rfl
   |false =>
    rw[if_neg Bool.false_ne_true]
    show eH n w.ai (List.length w.ai:Int) w k out b (IntKind.wrap .i64 ((i:Int)+1))=_
    rw[oY i (by omega)]
    exact u6 n w hw out ho hn b k (i+1) (by omega) (by omega)
  ·have:i=w.ai.length:=by omega
   subst this
   rw[eH,fl,List.drop_eq_nil_of_le (Nat.le_refl _)];rfl
theorem Ord.len{w:Wb}(hw:Web w){o:List BS}(h:Ord w o):o.length<=w.ai.length:=ot h.nd h.sub
theorem Ord.snoc{w:Wb}{o:List BS}(h:Ord w o){s:BS}(hs:s∈w.ai)(hr:rdy w o s=true):Ord w (o++[s]):=by
 unfold rdy at hr
 rw[Bool.and_eq_true,Bool.not_eq_true'] at hr
 obtain⟨h1,h2⟩:=hr
 have hn:s∉o:=fun hm=>by rw[kx.2 hm] at h1;cases h1
 refine⟨List.nodup_append.2 ⟨h.nd,(by simp),fun a ha b hb=>?_⟩,fun x hx=>?_,fun i hi t ht=>?_⟩
 ·rw[List.mem_singleton.1 hb];exact fun e=>hn (e▸ha)
 ·rcases List.mem_append.1 hx with hx|hx
  ·exact h.sub x hx
  ·rw[List.mem_singleton.1 hx];exact hs
 ·by_cases hlt:i<o.length
  ·rw[List.getElem_append_left hlt] at ht
   rw[List.take_append_of_le_length (Nat.le_of_lt hlt)]
   exact h.ah i hlt t ht
  ·have hi':i=o.length:=by simp at hi;omega
   subst hi'
   rw[List.getElem_append_right (Nat.le_refl _)] at ht
   simp at ht
   rw[List.take_left' rfl]
   exact kx.1 (List.all_eq_true.1 h2 t ht)
theorem D5(n:Nat)(w:Wb)(hw:Web w)(hn:100000<=n):∀(q:Nat)(out:List BS),w.ai.length-out.length=q->Ord w out->∀k,q+2<=k->∃o,eO n w k out true=some o/\Ord w o/\w.ai.find? (rdy w o)=none:=by
 intro q
 induction q with
 |zero =>
  intro out hq ho k hk
  obtain⟨k,rfl⟩:∃j,k=j+2:=⟨k-2,by omega⟩
  have hlen:=ho.len hw
  have hl2:=u6 n w hw out (by have:=hw.len;omega) hn false n 0 (Nat.zero_le _) (by have:=hw.len;omega)
  have hl2:eH n w.ai (List.length w.ai:Int) w n out false 0=_:=hl2
  rw[eO,if_pos rfl,hl2,Option.bind_some,List.drop_zero]
  cases hf:w.ai.find? (rdy w out) with
  |none=>exact⟨out,by rw[eO];rfl,ho,hf⟩
  |some s =>
   have h2:=(ho.snoc (List.mem_of_find?_eq_some hf) (List.find?_some hf)).len hw
   simp at h2;omega
 |succ q ih =>
  intro out hq ho k hk
  obtain⟨k,rfl⟩:∃j,k=j+2:=⟨k-2,by omega⟩
  have hlen:=ho.len hw
  have hl2:=u6 n w hw out (by have:=hw.len;omega) hn false n 0 (Nat.zero_le _) (by have:=hw.len;omega)
  have hl2:eH n w.ai (List.length w.ai:Int) w n out false 0=_:=hl2
  rw[eO,if_pos rfl,hl2,Option.bind_some,List.drop_zero]
  cases hf:w.ai.find? (rdy w out) with
  |none=>exact⟨out,by rw[eO];rfl,ho,hf⟩
  |some s=>exact ih (out++[s]) (by simp;omega) (ho.snoc (List.mem_of_find?_eq_some hf) (List.find?_some hf)) (k+1) (by omega)
theorem all_in{w:Wb}(hw:Web w){o:List BS}(hf:w.ai.find? (rdy w o)=none)(hac:∀x∈w.ai,¬Rch w x x):∀x∈w.ai,x∈o:=by
 classical
 have key:∀(q:Nat)(x:BS),x∈w.ai->(w.ai.filter fun t=>decide (Rch w x t)).length=q->x∈o:=by
  intro q
  induction q using Nat.strongRecOn with
  |_ q ih =>
   intro x hx hq
   by_cases ho:x∈o
   ·exact ho
   ·exfalso
    have h1:=List.find?_eq_none.1 hf x hx
    refine h1 ?_
    unfold rdy
    rw[Bool.and_eq_true,Bool.not_eq_true']
    refine⟨by rw[<-Bool.not_eq_true];exact fun h=>ho (kx.1 h),List.all_eq_true.2 fun t ht=>kx.2 ?_⟩
    have htN:=hw.tin x t ht
    refine ih _ ?_ t htN rfl
    rw[<-hq]
    refine filter_lt (fun y _ hy=>?_) ⟨t,htN,?_,?_⟩
    ·exact decide_eq_true (.step ht (of_decide_eq_true hy))
    ·exact decide_eq_true (.one ht)
    ·exact decide_eq_false (hac t htN)
 exact fun x hx=>key _ x hx rfl
theorem C7(x:Int)(h1:-1000000<=x)(h2:x<=1000000):IntKind.wrap .i64 x=x:=oS _ (by omega) (by omega)
theorem D1(n:Nat)(v1 t:BS)(v15:List BS)(v16 v17:Int)(E:List BS)(w:Wb)(m:Mi)(B:Int)(hE:E.length<=1000)(htE:t∉E)(hb:∀x,0<=cnt m x/\cnt m x<=B)(hn:100000<=n) :
  ∃o,df n v1 t v15 v16 v17 E (List.length E:Int) w n 0 m=some o/\(∀x,x≠t->cnt o x=cnt m x)/\(0<=cnt o t/\cnt o t<=B)/\∀u∈E,cnt m u<=cnt o t:=by
 have:=kX (L:=fun k s i=>df n v1 t v15 v16 v17 E (List.length E:Int) w k i s) E.length
  (fun i s=>(∀x,x≠t->cnt s x=cnt m x)/\(0<=cnt s t/\cnt s t<=B)/\∀u∈E.take i,cnt m u<=cnt s t)
  (fun o=>(∀x,x≠t->cnt o x=cnt m x)/\(0<=cnt o t/\cnt o t<=B)/\∀u∈E,cnt m u<=cnt o t) (by omega)
  (fun k s i h hI=>by
   obtain⟨i1,i2,i3⟩:=hI
   have hne:E[i]≠t:=fun e=>htE (e▸List.getElem_mem h)
   refine .inr ⟨_,?_,by
    show df n v1 t v15 v16 v17 E (List.length E:Int) w (k+1) (i:Int) s=_
    rw[df,if_pos (ic h),if_pos (fe h),iP h]⟩
   have hu:=i1 _ hne
   have hbu:=hb E[i]
   have ev:(if((bn s (Sum.inl E[i]:MK)).getD 0)>((bn s (Sum.inl t:MK)).getD 0) then((bn s (Sum.inl E[i]:MK)).getD 0) else((bn s (Sum.inl t:MK)).getD 0))=if cnt s E[i]>cnt s t then cnt s E[i] else cnt s t:=rfl
   rw[ev]
   refine⟨fun x hx=>by rw[qD,if_neg (fun e=>hx e.symm)];exact i1 x hx,?_,fun u hm=>?_⟩
   ·rw[qD,if_pos rfl];split<;>omega
   ·rw[qD,if_pos rfl]
    rw[List.take_succ_eq_append_getElem h] at hm
    rcases List.mem_append.1 hm with hm|hm
    ·have:=i3 u hm;split<;>omega
    ·rw[List.mem_singleton.1 hm];split<;>omega)
  (fun k s hI=>⟨s,by
   show df n v1 t v15 v16 v17 E (List.length E:Int) w (k+1) (List.length E:Int) s=_
   rw[df,fl];rfl,by rw[List.take_length] at hI;exact hI⟩) n 0 m (Nat.zero_le _) (by omega) ⟨fun _ _=>rfl,hb t,fun u hu=>by simp at hu⟩
 exact this
structure Dep(w:Wb)(o:List BS)(i:Nat)(m:Mi):Prop where
 z:∀x,x∉o.take i->cnt m x=0
 lt:∀j (h:j<o.length),j<i->1<=cnt m o[j]/\∀u∈iL w o[j],cnt m u<cnt m o[j]
 b:∀x,0<=cnt m x/\cnt m x<=(i:Int)
theorem Eg(n:Nat)(v1:BS)(w:Wb)(hw:Web w)(o:List BS)(ho:Ord w o)(hn:100000<=n):∃m,cO n v1 o (List.length o:Int) w n 0 []=some m/\Dep w o o.length m:=by
 have hol:=ho.len hw
 have hlen:=hw.len
 have:=kX (L:=fun k s i=>cO n v1 o (List.length o:Int) w k i s) o.length (fun i s=>Dep w o i s) (fun m=>Dep w o o.length m) (by omega)
  (fun k s i h hI=>by
   have ht0:o[i]∉o.take i:=fun hm=>by
    have hsp:o=o.take i++o[i]::o.drop (i+1):=by rw[<-drop_at h,List.take_append_drop]
    have hnd:=ho.nd
    generalize hx:o[i]=x at hsp hm
    rw[hsp] at hnd
    exact(List.nodup_append.1 hnd).2.2 _ hm _ List.mem_cons_self rfl
   have htE:o[i]∉iL w o[i]:=fun hm=>ht0 (ho.ah i h _ hm)
   obtain⟨m',h1,h2,h3,h4⟩:=D1 n v1 o[i] o (List.length o:Int) (i:Int) (iL w o[i]) w s (i:Int) (uO hw _) htE hI.b hn
   refine .inr ⟨eU m' (.inl o[i]) (IntKind.wrap .i64 (cnt m' o[i]+1)),?_,by
    show cO n v1 o (List.length o:Int) w (k+1) (i:Int) s=_
    rw[cO,if_pos (ic h),if_pos (fe h),iP h]
    unfold iL at h1
    rw[h1];rfl⟩
   rw[C7 _ (by omega) (by omega)]
   have hc:∀x,cnt (eU m' (.inl o[i]) (cnt m' o[i]+1)) x=if o[i]=x then cnt m' o[i]+1 else cnt s x:=fun x=>by
    rw[qD]
    by_cases e:o[i]=x
    ·rw[if_pos e,if_pos e]
    ·rw[if_neg e,if_neg e];exact h2 x fun e'=>e e'.symm
   refine⟨fun x hx=>?_,fun j hj hji=>?_,fun x=>?_⟩
   ·rw[List.take_succ_eq_append_getElem h,List.mem_append,List.mem_singleton,not_or] at hx
    rw[hc,if_neg (fun e=>hx.2 e.symm)];exact hI.z x hx.1
   ·by_cases e:j=i
    ·subst e
     refine⟨by rw[hc,if_pos rfl];omega,fun u hu=>?_⟩
     have hne:o[j]≠u:=fun e=>htE (e▸hu)
     rw[hc,hc,if_pos rfl,if_neg hne]
     have:=h4 u hu;omega
    ·obtain⟨q1,q2⟩:=hI.lt j hj (by omega)
     have hne:o[i]≠o[j]:=fun e'=>e ((List.getElem_inj ho.nd).1 e').symm
     refine⟨by rw[hc,if_neg hne];exact q1,fun u hu=>?_⟩
     have hu':o[i]≠u:=fun e'=>ht0 (by
      have h5:=ho.ah j hj u hu
      rw[<-e'] at h5
      exact List.Sublist.subset (List.take_sublist_take_left (by omega)) h5)
     rw[hc,hc,if_neg hne,if_neg hu']
     exact q2 u hu
   ·rw[hc]
    have:=hI.b x
    split
    ·exact⟨by omega,by omega⟩
    ·exact⟨by omega,by omega⟩)
  (fun k s hI=>⟨s,by
   show cO n v1 o (List.length o:Int) w (k+1) (List.length o:Int) s=_
   rw[cO,fl];rfl,hI⟩) n 0 [] (Nat.zero_le _) (by omega) ⟨fun _ _=>rfl,fun j _ h=>by omega,fun x=>⟨Int.le_refl _,by show(0:Int)<=_;omega⟩⟩
 exact this
end Go.Proofs.YtpmmhhmhckpnfaaDoor.M
namespace Go.Proofs.YtpmmhhmhckpnfaaDoor.M
open Go Go.Proofs.YtpmmhhmhckpnfaaDoor.RX Go.Proofs.YtpmmhhmhckpnfaaDoor.PL
set_option maxRecDepth 100000
theorem wU(l:List BS):(iT l).Pairwise (·<=·):=by
 have:=List.pairwise_mergeSort (le:=fun x y:BS=>decide (x<=y)) (fun a b c h1 h2=>by simp only[decide_eq_true_eq] at *;exact zA h1 h2) (fun a b=>by simpa using D2 a b) l
 exact this.imp fun h=>by simpa using h
theorem vq(zs:List BS)(hz:zs.Pairwise (·<=·)):∀m,m<=zs.length->Asc (Lib.compactUpTo zs.toArray m)/\∀x,x∈Lib.compactUpTo zs.toArray m↔x∈zs.take m
 |0,_=>by simp[Lib.compactUpTo]
 |m+1,hm=>by
  obtain⟨h1,h2⟩:=vq zs hz m (by omega)
  have hg:∀j (h:j<zs.length),zs.toArray[j]! = zs[j]:=fun j h=>by simp[h]
  have hle:∀j (h:j<zs.length),j<m->zs[j]<=zs[m]:=fun j h hj=>List.pairwise_iff_getElem.1 hz j m h (by omega) hj
  rw[Lib.compactUpTo_succ,List.take_succ_eq_append_getElem (by omega:m<zs.length)]
  by_cases hk:Lib.keeps zs.toArray m=true
  ·rw[if_pos hk,hg m (by omega)]
   refine⟨List.pairwise_append.2 ⟨h1,by simp,fun x hx y hy=>?_⟩,fun x=>by rw[List.mem_append,List.mem_append,h2]⟩
   rw[List.mem_singleton.1 hy]
   obtain⟨j,hj,rfl⟩:=List.mem_take_iff_getElem.1 ((h2 x).1 hx)
   have hjm:j<m:=by omega
   refine oD (hle j (by omega) hjm) fun e=>?_
   have hk':m=0\/zs.toArray[m]!≠zs.toArray[m-1]!:=by simpa[Lib.keeps] using hk
   rcases hk' with h0|h0
   ·omega
   ·rw[hg m (by omega),hg (m-1) (by omega)] at h0
    have a1:zs[j]<=zs[m-1]:=by
     by_cases hq:j=m-1
     ·subst hq;exact xG.1 (od _)
     ·exact List.pairwise_iff_getElem.1 hz j (m-1) (by omega) (by omega) (by omega)
    have a2:zs[m-1]<=zs[m]:=hle (m-1) (by omega) (by omega)
    exact h0 (ux (e▸a1) a2)
  ·rw[if_neg hk,List.append_nil]
   refine⟨h1,fun x=>?_⟩
   have hk':¬(m=0\/zs.toArray[m]!≠zs.toArray[m-1]!):=by simpa[Lib.keeps] using hk
   have hm0:m≠0:=fun e=>hk' (.inl e)
   have he:zs[m]=zs[m-1]:=by
    have:zs.toArray[m]! = zs.toArray[m-1]!:=Classical.byContradiction fun h=>hk' (.inr h)
    rwa[hg m (by omega),hg (m-1) (by omega)] at this
   rw[h2,List.mem_append,List.mem_singleton]
   constructor
   ·exact fun h=>.inl h
   ·rintro(h|h)
    ·exact h
    ·rw[h,he]
     exact List.mem_take_iff_getElem.2 ⟨m-1,by omega,rfl⟩
theorem zN(l:List BS):Lib.compact (iT l)=srt l:=by
 obtain⟨h1,h2⟩:=vq (iT l) (wU l) _ (Nat.le_refl _)
 refine Asc.ext h1 (sS l) fun x=>?_
 rw[tC]
 have:=h2 x
 rw[List.take_length] at this
 rw[show Lib.compact (iT l)=Lib.compactUpTo (iT l).toArray (iT l).length from rfl,this]
 exact List.mem_mergeSort
theorem EI{a:Nat}(h:a<=1000000):decide (a*17<=limit)=true:=decide_eq_true (by show a*17<=140737488355328;omega)
theorem fQ(n:Nat)(l:List BS)(h:l.length<=1000000):fy n l=some (srt l):=by
 unfold fy
 have h1:decide ((List.length ([]:List BS)+List.length l)*(16+1)<=limit)=true:=mB (by simp;omega)
 have h3:(Sh.sort l).length=l.length:=List.length_mergeSort l
 rw[if_pos h1,List.nil_append,if_pos (EI h),if_pos (EI (by omega))]
 exact congrArg some (zN l)
theorem DX(a b:Bool):(bif a then true else b)=(a||b):=by cases a<;>rfl
theorem yU(n:Nat)(s:BS)(hs:s.length<=10000)(hn:100000<=n):∃b,kV n s=some b/\(b=true->s≠[]):=by
 obtain⟨r,h1,h2⟩:=mY (L:=gY n s (List.length s:Int)) s.length (fun r=>∀b,r=.inr b->b=false) (by omega)
  (fun k i h=>by
   rw[gY,if_pos (ic h),if_pos (fe h)]
   simp only[kE]
   split
   ·exact .inl ⟨_,rfl,fun b hb=>by cases hb;rfl⟩
   ·exact .inr rfl)
  (fun k=>⟨_,by rw[gY,fl];rfl,fun b hb=>by cases hb⟩) n 0 (Nat.zero_le _) (by omega)
 have h1:gY n s (List.length s:Int) n 0=some r:=h1
 unfold kV
 rw[h1,Option.bind_some]
 cases r with
 |inl u =>
  refine⟨_,rfl,fun h=>?_⟩
  rintro rfl
  cases h
 |inr b=>exact⟨b,rfl,fun h=>by rw[h2 b rfl] at h;cases h⟩
theorem xX:∀(k:Nat)(s:BS),s.length<k->s.length<=10000->∃xs,pK k s=some xs
 |0,s,h,_=>by omega
 |k+1,s,h,hs=>by
  rw[pK,if_pos (decide_eq_true (by omega)),Ez,EP]
  cases hu:upto 47 s with
  |none=>exact⟨_,by rw[if_pos (decide_eq_true (by simp))]⟩
  |some p =>
   obtain⟨p,q⟩:=p
   obtain⟨e,_⟩:=xZ hu
   have hl:s.length=p.length+1+q.length:=by rw[e];simp;omega
   simp only
   rw[if_neg (by rw[decide_eq_false (by omega)];decide),Int.add_zero,oS _ (by omega) (by omega),oY _ (by omega),if_pos (Gz (by omega)),if_pos (Gz (by omega))]
   obtain⟨xs,h1⟩:=xX k (List.drop (Int.toNat ((p.length+1:Nat):Int)) s) (by rw[tn,List.length_drop];omega) (by rw[tn,List.length_drop];omega)
   rw[h1]
   exact⟨_,rfl⟩
theorem xE{s:BS}(h:s≠[]):decide (0<=(0:Int)/\(0:Int)<(List.length s:Int))=true:=decide_eq_true ⟨Int.le_refl _,by have:=List.length_pos_iff.2 h;omega⟩
theorem Aw(n:Nat)(s:BS)(hs:s.length<=1000)(hn:100000<=n):∃b,kS n s=some b:=by
 obtain⟨r,h1,h2⟩:=yU n s (by omega) hn
 unfold kS
 rw[h1,Option.bind_some]
 cases r with
 |false=>exact⟨_,by rw[if_pos (by rfl)];rfl⟩
 |true =>
  have hne:=h2 rfl
  rw[if_pos (by rw[xE hne];rfl)]
  split
  ·exact⟨_,rfl⟩
  ·split
   ·exact⟨_,rfl⟩
   ·obtain⟨xs,h3⟩:=xX n (List.drop (Int.toNat 1) s) (by rw[List.length_drop];omega) (by rw[List.length_drop];omega)
    rw[if_pos (decide_eq_true ⟨by decide,by have:=List.length_pos_iff.2 hne;omega⟩),h3]
    exact⟨_,rfl⟩
theorem zB(n:Nat)(s:BS)(hs:s.length<=10000)(hn:100000<=n):∃b,kK n s=some b:=by
 unfold kK dn
 have hc:(!((bif (decide ((List.length s:Int)<1)) then true else(decide ((List.length s:Int)>24)))==false)||decide (0<=(0:Int)/\(0:Int)<(List.length s:Int)))=true:=by
  by_cases h:(List.length s:Int)<1
  ·rw[decide_eq_true h];rfl
  ·rw[decide_eq_true (show 0<=(0:Int)/\(0:Int)<(List.length s:Int) by omega),Bool.or_true]
 rw[if_pos hc]
 simp only[kE]
 split
 ·exact⟨_,rfl⟩
 ·by_cases hz:s.length=0
  ·obtain⟨k,rfl⟩:∃k,n=k+1:=⟨n-1,by omega⟩
   rw[aU,if_neg (by rw[hz];decide)]
   exact⟨_,rfl⟩
  ·obtain⟨r,h1,_⟩:=mY (L:=aU n s) s.length (fun _=>True) (by omega)
    (fun k i h=>by
     rw[aU,if_pos (ic h),if_pos (fe h)]
     split
     ·exact .inl ⟨_,rfl,trivial⟩
     ·exact .inr rfl)
    (fun k=>⟨_,by rw[aU,fl];rfl,trivial⟩) n 1 (by omega) (by omega)
   have h1:aU n s n 1=some r:=h1
   rw[h1]
   cases r<;>exact⟨_,rfl⟩
theorem wC(n:Nat)(s:BS)(hs:s.length<=10000)(hn:100000<=n):∃b,jD n s=some b:=by
 obtain⟨b,h⟩:=zB n s hs hn
 unfold jD
 rw[h]
 exact⟨b,rfl⟩
theorem A6(n:Nat)(m:aT)(h1:m.aQ.length<=1000)(h2:m.dZ.length<=1000)(hn:100000<=n):∃b,lG n m=some b:=by
 obtain⟨r1,e1⟩:=Aw n m.dZ h2 hn
 obtain⟨v,ev⟩:=wC n m.aQ (by omega) hn
 obtain⟨p,ep,hp⟩:=yU n m.aQ (by omega) hn
 unfold lG
 rw[e1,Option.bind_some,ev,ep]
 obtain⟨r2,e2⟩:∃r2,(if(((m.aQ==[])==false)&&(r1==true))=true then some v else some false)=some r2:=by split<;>exact⟨_,rfl⟩
 rw[e2,Option.bind_some]
 obtain⟨r3,e3,h3⟩:∃r3,(if(((bif (m.aQ==[]) then true else r2)==false)&&(r1==true))=true then some p else some false)=some r3/\(r3=true->m.aQ≠[]):=by
  split
  ·exact⟨_,rfl,hp⟩
  ·exact⟨_,rfl,fun h=>by cases h⟩
 rw[e3,Option.bind_some]
 cases r3 with
 |false=>exact⟨_,by rw[if_pos (by rfl),if_pos (by rw[show((false==true)&&(((bif (m.aQ==[]) then true else r2)==false)&&(r1==true)))=false from rfl,Bool.and_false];rfl)];rfl⟩
 |true=>exact⟨_,by rw[if_pos (by rw[xE (h3 rfl),Bool.or_true]),if_pos (by rw[xE (h3 rfl),Bool.or_true])];rfl⟩
theorem CM(n:Nat)(m:aT)(h1:m.aQ.length<=1000)(h2:m.dZ.length<=1000)(hn:100000<=n):∃b,lI n m=some b:=by
 obtain⟨r1,e1⟩:=A6 n m h1 h2 hn
 obtain⟨v,ev⟩:=wC n m.aQ (by omega) hn
 unfold lI
 rw[e1,Option.bind_some,ev]
 cases r1<;>exact⟨_,rfl⟩
theorem zt(n:Nat)(l:List aT)(hl:l.length<=1000)(hm:∀m∈l,m.aQ.length<=1000/\m.dZ.length<=1000)(hn:100000<=n):∃r,j4 n l=some r/\r.length<=1000:=by
 obtain⟨r,h1,h2⟩:=kX (L:=fun k (s:List BS) i=>dF n l (List.length l:Int) k s i) l.length (fun i s=>s.length<=i) (fun r=>r.length<=1000) (by omega)
  (fun k s i h hI=>by
   obtain⟨a,b⟩:=hm l[i] (List.getElem_mem h)
   obtain⟨v,ev⟩:=CM n l[i] a b hn
   have hj:iW n s l (List.length l:Int) (i:Int)=some (if v=true then s++[l[i].aQ] else s):=by
    unfold iW
    rw[if_pos (fe h),iP h,ev,Option.bind_some]
    cases v with
    |true=>rw[if_pos rfl,if_pos (mB (by simp;omega))];rfl
    |false=>rfl
   refine .inr ⟨if v=true then s++[l[i].aQ] else s,?_,?_⟩
   ·split
    ·simp;omega
    ·omega
   ·show dF n l (List.length l:Int) (k+1) s (i:Int)=_
    rw[dF,if_pos (ic h),hj];rfl)
  (fun k s hI=>⟨s,by
   show dF n l (List.length l:Int) (k+1) s (List.length l:Int)=_
   rw[dF,fl];rfl,by omega⟩) n 0 [] (Nat.zero_le _) (by omega) (Nat.zero_le _)
 have h1:dF n l (List.length l:Int) n [] 0=some r:=h1
 unfold j4
 rw[h1,Option.bind_some,fQ n r (by omega)]
 exact⟨_,rfl,by have:=lX r;omega⟩
theorem uv(n:Nat)(a b:List BS)(ha:a.length<=1000)(hb:b.length<=1000)(hn:100000<=n):∃r,jI n a b=some r:=by
 have hs:=lX a
 obtain⟨r,h1,_⟩:=kX (L:=fun k (s:List BS) i=>dV n b (srt a) (List.length (srt a):Int) k s i) (srt a).length (fun i s=>s.length<=i) (fun _=>True) (by omega)
  (fun k s i h hI=>by
   have hj:jg n b s (srt a) (List.length (srt a):Int) (i:Int)=some (if(!b.contains (srt a)[i])=true then s++[(srt a)[i]] else s):=by
    unfold jg
    rw[if_pos (fe h),iP h,gJ n b _ (by omega) hn,Option.bind_some]
    cases b.contains (srt a)[i] with
    |true=>rfl
    |false=>rw[if_pos (by decide),if_pos (mB (by simp;omega))];rfl
   refine .inr ⟨if(!b.contains (srt a)[i])=true then s++[(srt a)[i]] else s,?_,?_⟩
   ·split
    ·simp;omega
    ·omega
   ·show dV n b (srt a) (List.length (srt a):Int) (k+1) s (i:Int)=_
    rw[dV,if_pos (ic h),hj];rfl)
  (fun k s hI=>⟨s,by
   show dV n b (srt a) (List.length (srt a):Int) (k+1) s (List.length (srt a):Int)=_
   rw[dV,fl];rfl,trivial⟩) n 0 [] (Nat.zero_le _) (by omega) (Nat.zero_le _)
 have h1:dV n b (srt a) (List.length (srt a):Int) n [] 0=some r:=h1
 unfold jI
 rw[fQ n a (by omega),Option.bind_some,h1]
 exact⟨r,rfl⟩
structure Au(s:Sv):Prop where
 Gh:s.bG.length<=40
 Eh:s.bZ.length<=40
 deps:s.aV.length<=40
 texts:∀m∈s.bG,m.aQ.length<=100/\m.dZ.length<=100
structure yS(p:aD):Prop where
 sv:p.av.length<=20
 Eh:p.bZ.length<=40
 G6:p.j6.length<=40
 each:∀s∈p.av,Au s
theorem EM(n:Nat)(S:List Sv)(p:aD)(hS:S.length<=1000):∀(k i:Nat)(b:Wb),i<=S.length->S.length-i<k->b.ai.length<=i->iG n S (List.length S:Int) p k (i:Int) b=some (aC.mk (b.ai++(S.drop i).map (·.aS)) b.aH)
 |0,i,_,_,h,_=>by omega
 |k+1,i,b,h1,h2,h3=>by
  by_cases h:i<S.length
  ·rw[iG,if_pos (ic h),if_pos (fe h),iP h,if_pos (mB (by simp;omega)),oY i (by omega),EM n S p hS k (i+1) _ (by omega) (by omega) (by simp;omega),drop_at h,List.map_cons,List.append_assoc]
   rfl
  ·have:i=S.length:=by omega
   subst this
   rw[iG,fl,List.drop_eq_nil_of_le (Nat.le_refl _)]
   obtain⟨a,c⟩:=b
   simp
theorem GV(n:Nat)(D:List aL)(s:Sv)(w:Wb)(hD:D.length<=1000)(hw:w.ai.length<=1000)(hn:100000<=n):∃r,eQ n D (List.length D:Int) s w n [] 0=some r/\r.length<=1000/\∀x∈r,x∈w.ai:=by
 have:=kX (L:=fun k (v:List BS) i=>eQ n D (List.length D:Int) s w k v i) D.length (fun i v=>v.length<=i/\∀x∈v,x∈w.ai) (fun r=>r.length<=1000/\∀x∈r,x∈w.ai) (by omega)
  (fun k v i h hI=>by
   have hj:lS n v D (List.length D:Int) (i:Int) s w=some (if w.ai.contains D[i].bC=true then v++[D[i].bC] else v):=by
    unfold lS
    rw[if_pos (fe h),iP h,gJ n w.ai _ (by omega) hn,Option.bind_some]
    cases w.ai.contains D[i].bC with
    |true=>rw[if_pos rfl,if_pos (mB (by simp;omega))];rfl
    |false=>rfl
   refine .inr ⟨if w.ai.contains D[i].bC=true then v++[D[i].bC] else v,?_,?_⟩
   ·split
    ·rename_i hc
     refine⟨by simp;omega,fun x hx=>?_⟩
     rcases List.mem_append.1 hx with hx|hx
     ·exact hI.2 x hx
     ·rw[List.mem_singleton.1 hx];exact kx.1 hc
    ·exact⟨by omega,hI.2⟩
   ·show eQ n D (List.length D:Int) s w (k+1) v (i:Int)=_
    rw[eQ,if_pos (ic h),hj];rfl)
  (fun k v hI=>⟨v,by
   show eQ n D (List.length D:Int) s w (k+1) v (List.length D:Int)=_
   rw[eQ,fl];rfl,by omega,hI.2⟩) n 0 [] (Nat.zero_le _) (by omega) ⟨Nat.zero_le _,fun x hx=>by cases hx⟩
 exact this
theorem zn(w:Wb)(t s:BS)(l:List BS):iL (aC.mk w.ai (eU w.aH (.inl t) (af.mk l))) s=if t=s then l else iL w s:=by
 unfold iL
 rw[qV]
 by_cases h:t=s
 ·rw[if_pos (tu.2 h),if_pos h];rfl
 ·rw[if_neg (fun e=>h (tu.1 e)),if_neg h]
theorem ED(n:Nat)(hn:100000<=n):∀(xs:List (Int×Sv))(w:Wb),(∀x∈xs,x.2.aV.length<=1000)->Web w->∃w',eP n xs w=some w'/\w'.ai=w.ai/\Web w'
 |[],w,_,hw=>⟨w,rfl,rfl,hw⟩
 |x::xs,w,hx,hw=>by
  obtain⟨r,h1,h2,h3⟩:=GV n x.2.aV x.2 w (hx x List.mem_cons_self) hw.len hn
  rw[eP,h1,Option.bind_some,fQ n r (by omega),Option.bind_some]
  have hw':Web (aC.mk w.ai (eU w.aH (.inl x.2.aS) (af.mk (srt r)))):=by
   refine⟨hw.nd,hw.len,fun s=>?_,fun s t ht=>?_⟩
   ·rw[zn];split
    ·exact(sS r).nodup
    ·exact hw.tnd s
   ·rw[zn] at ht;split at ht
    ·exact h3 t (tC.1 ht)
    ·exact hw.tin s t ht
  obtain⟨w',q1,q2,q3⟩:=ED n hn xs _ (fun y hy=>hx y (List.mem_cons_of_mem _ hy)) hw'
  exact⟨w',q1,q2,q3⟩
theorem back_mem(S:List Sv):∀i,i<=S.length->∀x∈oH S i,x.2∈S
 |0,_,x,h=>by cases h
 |i+1,hi,x,h=>by
  have hlt:i<S.length:=by omega
  rcases List.mem_cons.1 h with rfl|h
  ·show S[i]?.getD aP∈S
   rw[List.getElem?_eq_getElem hlt];exact List.getElem_mem hlt
  ·exact back_mem S i (by omega) x h
theorem Gs(n:Nat)(p:aD)(hp:yS p)(hn:100000<=n):∃w,dQ n p=some w/\Web w/\w.ai=srt (p.av.map (·.aS)):=by
 have hS:=hp.sv
 have h1:=EM n p.av p (by omega) n 0 (aC.mk [] []) (Nat.zero_le _) (by omega) (Nat.zero_le _)
 rw[List.drop_zero] at h1
 have h1:iG n p.av (List.length p.av:Int) p n 0 (aC.mk [] ([]:List (MK×af)))=some (aC.mk ([]++p.av.map (·.aS)) []):=h1
 have hl:=lX (p.av.map (·.aS))
 rw[List.length_map] at hl
 unfold dQ oq
 rw[h1,Option.bind_some,List.nil_append,fQ n _ (by simp;omega),Option.bind_some,if_pos (decide_eq_true (by show _<=140737488355328;omega)),Option.bind_some]
 obtain⟨w',q1,q2,q3⟩:=ED n hn (oH p.av p.av.length) (aC.mk (srt (p.av.map (·.aS))) []) (fun x hx=>by have:=(hp.each _ (back_mem _ _ (Nat.le_refl _) x hx)).deps;omega)
  ⟨(sS _).nodup,by show(srt _).length<=1000;omega,fun s=>List.nodup_nil,fun s t ht=>by cases ht⟩
 rw[q1]
 exact⟨w',rfl,q3,q2⟩
end Go.Proofs.YtpmmhhmhckpnfaaDoor.M
namespace Go.Proofs.YtpmmhhmhckpnfaaDoor.M
open Go Go.Proofs.YtpmmhhmhckpnfaaDoor.RX Go.Proofs.YtpmmhhmhckpnfaaDoor.PL
set_option maxRecDepth 100000
theorem zS(n:Nat)(D:List aL)(w:Wb)(off:List BS)(hw:w.ai.length<=1000)(ho:off.length<=1000)(hD:D.length<=1000)(hn:100000<=n):∃b,iV n w { aS:=[],iR:=[],du:=[],kY:=[],iz:=[],dG:=[],bG:=[],bZ:=[],aV:=D,fM:=0,bK:=gx.mk [] 0 0 0,dX:=0,ja:=0,kh:=0,lY:=0 } off=some b:=by
 have hd:∀d:aL,∃b,fK n d w off=some b:=fun d=>by
  unfold fK
  rw[gJ n w.ai _ (by omega) hn,gJ n off _ (by omega) hn]
  obtain⟨a,ha⟩:∃a,(if(d.fL==true)=true then some (w.ai.contains d.bC) else some false)=some a:=by split<;>exact⟨_,rfl⟩
  rw[ha,Option.bind_some]
  obtain⟨c,hc⟩:∃c,(if((bif d.fL then(!a) else false)==true)=true then some (off.contains d.bC) else some false)=some c:=by split<;>exact⟨_,rfl⟩
  rw[hc,Option.bind_some]
  exact⟨_,rfl⟩
 obtain⟨r,h1,_⟩:=mY (L:=aN n D w off (List.length D:Int)) D.length (fun _=>True) (by omega)
  (fun k i h=>by
   obtain⟨b,hb⟩:=hd D[i]
   rw[aN,if_pos (ic h),if_pos (fe h),iP h,hb,Option.bind_some]
   cases b with
   |true=>exact .inl ⟨_,rfl,trivial⟩
   |false=>exact .inr rfl)
  (fun k=>⟨_,by rw[aN,fl];rfl,trivial⟩) n 0 (Nat.zero_le _) (by omega)
 have h1:aN n D w off (List.length D:Int) n 0=some r:=h1
 unfold iV bI bQ
 rw[h1]
 cases r<;>exact⟨_,rfl⟩
theorem y8(n:Nat)(s:Sv)(w:Wb)(off:List BS)(hw:w.ai.length<=1000)(ho:off.length<=1000)(hD:s.aV.length<=1000)(hn:100000<=n):∃b,iV n w s off=some b:=zS n s.aV w off hw ho hD hn
theorem zF(n:Nat)(p:aD)(w:Wb)(s:Sv)(off:List BS)(hp:yS p)(hs:Au s)(hw:w.ai.length<=1000)(ho:off.length<=1000)(hn:100000<=n):∃b,ki n p w s off=some b:=by
 have hd:=hs.deps
 have hm:=hs.Gh
 have hnt:=hs.Eh
 obtain⟨r,h1,_⟩:=mY (L:=fq n off s.aV (List.length s.aV:Int) p w s) s.aV.length (fun _=>True) (by omega)
  (fun k i h=>by
   rw[fq,if_pos (ic h),if_pos (fe h),iP h,gJ n w.ai _ (by omega) hn,Option.bind_some,gJ n off _ (by omega) hn]
   obtain⟨a,ha⟩:∃a,(if((!w.ai.contains s.aV[i].bC)==true)=true then some (off.contains s.aV[i].bC) else some false)=some a:=by split<;>exact⟨_,rfl⟩
   rw[ha,Option.bind_some]
   split
   ·exact .inl ⟨_,rfl,trivial⟩
   ·exact .inr rfl)
  (fun k=>⟨_,by rw[fq,fl];rfl,trivial⟩) n 0 (Nat.zero_le _) (by omega)
 have h1:fq n off s.aV (List.length s.aV:Int) p w s n 0=some r:=h1
 unfold ki
 rw[h1,Option.bind_some]
 cases r with
 |inr b=>exact⟨b,rfl⟩
 |inl u =>
  have hpn:=hp.Eh
  have hpv:=hp.G6
  obtain⟨r2,e2⟩:=uv n s.bZ p.bZ (by omega) (by omega) hn
  obtain⟨r3,e3,l3⟩:=zt n s.bG (by omega) (fun m hm=>by have:=hs.texts m hm;omega) hn
  simp only[Sum.elim_inl,e2,Option.bind_some,e3]
  obtain⟨q3,f3,m3⟩:∃q3,(if((decide ((List.length r2:Int)>0))==false)=true then some r3 else some [])=some q3/\q3.length<=1000:=by
   split
   ·exact⟨_,rfl,l3⟩
   ·exact⟨_,rfl,Nat.zero_le _⟩
  rw[f3,Option.bind_some]
  obtain⟨r4,e4⟩:=uv n q3 p.j6 m3 (by omega) hn
  rw[e4]
  obtain⟨q4,f4⟩:∃q4,(if((decide ((List.length r2:Int)>0))==false)=true then some r4 else some [])=some q4:=by split<;>exact⟨_,rfl⟩
  rw[f4]
  exact⟨_,rfl⟩
theorem BM(n:Nat)(p:aD)(hp:yS p)(w:Wb)(hg:dQ n p=some w)(hw:Web w)(hn:100000<=n):∃r,lM n p []=some r/\(r.2=0->∀s∈p.av,¬Rch w s.aS s.aS):=by
 have hS:=hp.sv
 have hlen:=hw.len
 unfold lM
 rw[hg,Option.bind_some]
 obtain⟨r1,h1,q1⟩:=mY (L:=fU n [] p.av (List.length p.av:Int) p w) p.av.length (fun r=>∀x,r=.inr x->x.2=7) (by omega)
  (fun k i h=>by
   obtain⟨b,hb⟩:=zF n p w p.av[i] [] hp (hp.each _ (List.getElem_mem h)) (by omega) (Nat.zero_le _) hn
   rw[fU,if_pos (ic h),if_pos (fe h),iP h,hb,Option.bind_some]
   cases b with
   |true=>exact .inl ⟨_,rfl,fun x hx=>by cases hx;rfl⟩
   |false=>exact .inr rfl)
  (fun k=>⟨_,by rw[fU,fl];rfl,fun x hx=>by cases hx⟩) n 0 (Nat.zero_le _) (by omega)
 have h1:fU n [] p.av (List.length p.av:Int) p w n 0=some r1:=h1
 rw[h1,Option.bind_some]
 cases r1 with
 |inr x=>exact⟨_,rfl,fun h=>by have:=q1 x rfl;simp only[Sum.elim_inr] at h;omega⟩
 |inl u =>
  obtain⟨r2,h2,q2⟩:=mY (L:=gq n [] p.av (List.length p.av:Int) p w) p.av.length (fun r=>∀x,r=.inr x->x.2=8) (by omega)
   (fun k i h=>by
    obtain⟨b,hb⟩:=y8 n p.av[i] w [] (by omega) (Nat.zero_le _) (by have:=(hp.each _ (List.getElem_mem h)).deps;omega) hn
    rw[gq,if_pos (ic h),if_pos (fe h),iP h,hb,Option.bind_some]
    cases b with
    |true=>exact .inl ⟨_,rfl,fun x hx=>by cases hx;rfl⟩
    |false=>exact .inr rfl)
   (fun k=>⟨_,by rw[gq,fl];rfl,fun x hx=>by cases hx⟩) n 0 (Nat.zero_le _) (by omega)
  have h2:gq n [] p.av (List.length p.av:Int) p w n 0=some r2:=h2
  simp only[Sum.elim_inl]
  rw[h2,Option.bind_some]
  cases r2 with
  |inr x=>exact⟨_,rfl,fun h=>by have:=q2 x rfl;simp only[Sum.elim_inr] at h;omega⟩
  |inl u =>
   obtain⟨r3,h3,q3⟩:=kX (L:=fun k (_:Unit) i=>dS n p.av (List.length p.av:Int) w k i) p.av.length (fun i _=>∀s∈p.av.take i,¬Rch w s.aS s.aS) (fun r=>(∃x,r=.inr x/\x.2=6)\/(r=.inl ()/\∀s∈p.av,¬Rch w s.aS s.aS)) (by omega)
    (fun k s i h hI=>by
     obtain⟨l,e1,e2,e3⟩:=qS n w hw p.av[i].aS (by omega)
     show(∃r,dS n p.av (List.length p.av:Int) w (k+1) (i:Int)=some r/\_)\/∃s',_/\dS n p.av (List.length p.av:Int) w (k+1) (i:Int)=_
     rw[dS,if_pos (ic h),if_pos (fe h),iP h,e1,Option.bind_some,gJ n l _ (by omega) hn,Option.bind_some]
     cases hc:l.contains p.av[i].aS with
     |true=>exact .inl ⟨_,rfl,.inl ⟨_,rfl,rfl⟩⟩
     |false =>
      refine .inr ⟨(),fun s hs=>?_,rfl⟩
      rw[List.take_succ_eq_append_getElem h] at hs
      rcases List.mem_append.1 hs with hs|hs
      ·exact hI s hs
      ·rw[List.mem_singleton.1 hs]
       intro hr
       rw[kx.2 ((e3 _).2 hr)] at hc;cases hc)
    (fun k s hI=>⟨.inl (),by
     show dS n p.av (List.length p.av:Int) w (k+1) (List.length p.av:Int)=_
     rw[dS,fl];rfl,.inr ⟨rfl,by rw[List.take_length] at hI;exact hI⟩⟩) n 0 () (Nat.zero_le _) (by omega) (fun s hs=>by simp at hs)
   have h3:dS n p.av (List.length p.av:Int) w n 0=some r3:=h3
   simp only[Sum.elim_inl]
   rw[h3,Option.bind_some]
   rcases q3 with⟨x,rfl,hx⟩|⟨rfl,hq⟩
   ·exact⟨_,rfl,fun h=>by simp only[Sum.elim_inr] at h;omega⟩
   ·exact⟨_,rfl,fun _=>hq⟩
theorem Df(n:Nat)(p:aD)(w:Wb)(hg:dQ n p=some w)(hw:Web w)(hn:100000<=n):∃o,dT n p=some o/\Ord w o/\w.ai.find? (rdy w o)=none:=by
 have hlen:=hw.len
 obtain⟨o,h1,h2,h3⟩:=D5 n w hw hn (w.ai.length-0) [] rfl ⟨List.nodup_nil,fun x hx=>(by cases hx),fun i hi=>by simp at hi⟩ n (by omega)
 unfold dT
 rw[hg,Option.bind_some,h1]
 exact⟨o,rfl,h2,h3⟩
theorem Dn(n:Nat)(p:aD)(w:Wb)(hg:dQ n p=some w)(hw:Web w)(s:BS)(hn:100000<=n):∃l,iF n p s=some l/\l.length<=w.ai.length/\∀t,t∈l↔Rch w s t:=by
 obtain⟨l,h1,h2,h3⟩:=qS n w hw s (by omega)
 unfold iF
 rw[hg,Option.bind_some,h1]
 exact⟨l,rfl,h2,h3⟩
theorem D8(n:Nat)(p:aD)(w:Wb)(hg:dQ n p=some w)(hw:Web w)(s:BS)(hn:100000<=n):∃b,np n p s=some b/\(b=true↔Rch w s s):=by
 obtain⟨l,h1,h2,h3⟩:=qS n w hw s (by omega)
 have hlen:=hw.len
 unfold np
 rw[hg,Option.bind_some,h1,Option.bind_some,gJ n l s (by omega) hn]
 exact⟨_,rfl,by rw[kx,h3]⟩
theorem Ci(n:Nat)(p:aD)(w:Wb)(hg:dQ n p=some w)(hw:Web w)(s:BS)(hn:100000<=n):∃l,lQ n p s=some l/\l.length<=w.ai.length/\∀t,t∈l↔t∈w.ai/\Rch w t s:=by
 have hlen:=hw.len
 have:=kX (L:=fun k (v:List BS) i=>eG n s w.ai (List.length w.ai:Int) w k v i) w.ai.length (fun i v=>v.length<=i/\∀t,t∈v↔t∈w.ai.take i/\Rch w t s) (fun r=>r.length<=w.ai.length/\∀t,t∈r↔t∈w.ai/\Rch w t s) (by omega)
  (fun k v i h hI=>by
   obtain⟨l,e1,e2,e3⟩:=qS n w hw w.ai[i] (by omega)
   have hj:jF n s v w.ai (List.length w.ai:Int) (i:Int) w=some (if l.contains s=true then v++[w.ai[i]] else v):=by
    unfold jF
    rw[if_pos (fe h),iP h,e1,Option.bind_some,gJ n l s (by omega) hn,Option.bind_some]
    cases l.contains s with
    |true=>rw[if_pos rfl,if_pos (mB (by simp;omega))];rfl
    |false=>rfl
   refine .inr ⟨if l.contains s=true then v++[w.ai[i]] else v,?_,?_⟩
   ·split
    ·rename_i hc
     refine⟨by simp;omega,fun t=>?_⟩
     rw[List.mem_append,hI.2,List.take_succ_eq_append_getElem h,List.mem_append,List.mem_singleton]
     constructor
     ·rintro(⟨a,b⟩|rfl)
      ·exact⟨.inl a,b⟩
      ·exact⟨.inr rfl,(e3 s).1 (kx.1 hc)⟩
     ·rintro⟨a|a,b⟩
      ·exact .inl ⟨a,b⟩
      ·exact .inr a
    ·rename_i hc
     refine⟨by omega,fun t=>?_⟩
     rw[hI.2,List.take_succ_eq_append_getElem h,List.mem_append,List.mem_singleton]
     constructor
     ·rintro⟨a,b⟩;exact⟨.inl a,b⟩
     ·rintro⟨a|rfl,b⟩
      ·exact⟨a,b⟩
      ·exact(hc (kx.2 ((e3 s).2 b))).elim
   ·show eG n s w.ai (List.length w.ai:Int) w (k+1) v (i:Int)=_
    rw[eG,if_pos (ic h),hj];rfl)
  (fun k v hI=>⟨v,by
   show eG n s w.ai (List.length w.ai:Int) w (k+1) v (List.length w.ai:Int)=_
   rw[eG,fl];rfl,hI.1,by have:=hI.2;rw[List.take_length] at this;exact this⟩) n 0 [] (Nat.zero_le _) (by omega) ⟨Nat.zero_le _,fun t=>by simp⟩
 obtain⟨l,h1,h2,h3⟩:=this
 have h1:eG n s w.ai (List.length w.ai:Int) w n [] 0=some l:=h1
 unfold lQ
 rw[hg,Option.bind_some,h1]
 exact⟨l,rfl,h2,h3⟩
theorem Dw(n:Nat)(p:aD)(w:Wb)(hg:dQ n p=some w)(hw:Web w)(o:List BS)(hord:dT n p=some o)(ho:Ord w o)(hn:100000<=n):∃m,Dep w o o.length m/\∀s,fu n p s=some (cnt m s-1):=by
 have hlen:=hw.len
 have hol:=ho.len hw
 obtain⟨m,h1,h2⟩:=Eg n [] w hw o ho hn
 refine⟨m,h2,fun s=>?_⟩
 have hv:∀(v v':BS)(k:Nat)(i:Int)(b:Mi),cO n v o (List.length o:Int) w k i b=cO n v' o (List.length o:Int) w k i b:=by
  have h2:∀(v v' t:BS)(a:List BS)(c d:Int)(E:List BS)(e:Int)(k:Nat)(i:Int)(b:Mi),df n v t a c d E e w k i b=df n v' t a c d E e w k i b:=by
   intro v v' t a c d E e k
   induction k with
   |zero=>intro i b;rfl
   |succ k ih=>intro i b;rw[df,df,ih]
  intro v v' k
  induction k with
  |zero=>intro i b;rfl
  |succ k ih =>
   intro i b
   rw[cO,cO,h2 v v']
   congr 2
   congr 1
   funext o3
   exact ih _ _
 unfold fu
 rw[hg,Option.bind_some,hord,Option.bind_some,hv s [],h1,Option.bind_some]
 show some (IntKind.wrap .i64 (cnt m s-1))=_
 have:=h2.b s
 rw[C7 _ (by omega) (by omega)]
end Go.Proofs.YtpmmhhmhckpnfaaDoor.M
namespace Go.Proofs.YtpmmhhmhckpnfaaDoor.M
open Go Go.Proofs.YtpmmhhmhckpnfaaDoor.RX Go.Proofs.YtpmmhhmhckpnfaaDoor.PL
set_option maxRecDepth 100000
theorem sF{α:Type}(p:α->Bool):∀l:List α,l.findSome? (fun x=>if p x=true then some true else none)=if l.any p=true then some true else none
 |[]=>rfl
 |x::l=>by rw[List.findSome?_cons,List.any_cons,sF p l];cases p x<;>simp
theorem any_beq(s:BS):∀l:List BS,l.any (fun x=>x==s)=l.contains s
 |[]=>rfl
 |x::l=>by
  rw[List.any_cons,List.contains_cons,any_beq s l]
  congr 1
  rw[Bool.eq_iff_iff,beq_iff_eq,beq_iff_eq];exact eq_comm
theorem zT(n:Nat)(l:List BS)(s:BS)(hl:l.length<10000)(hn:100000<=n):nH n l s=some (l.contains s):=by
 unfold nH
 have:=EG (L:=jr n l s) l (fun x=>if(x==s)=true then some true else none) 0 (by omega)
  (fun k i h _=>by
   rw[jr,if_pos (ic h),if_pos (fe h),iP h]
   cases l[i]==s<;>rfl)
  (fun k=>by rw[jr,fl];rfl) n 0 (by omega) (by omega) (by omega)
 rw[show(0:Int)=((0:Nat):Int) from rfl,this,List.drop_zero,sF,any_beq]
 cases l.contains s<;>rfl
theorem BU(n:Nat)(s:Sv)(h1:s.du.length<=40)(h2:s.bZ.length<=40)(h3:s.bG.length<=40)(h4:s.dG.length<=40)(hn:100000<=n):∃b,lN n s=some b/\(b=true->∀m∈s.bG,m.aQ.length<=100/\m.dZ.length<=100):=by
 obtain⟨r1,e1,q1⟩:=mY (L:=fY n s) s.du.length (fun r=>r=.inr false\/r=.inl ()) (by omega)
  (fun k i h=>by
   rw[fY,if_pos (ic h),if_pos (fe h)]
   split
   ·exact .inl ⟨_,rfl,.inl rfl⟩
   ·exact .inr rfl)
  (fun k=>⟨_,by rw[fY,fl];rfl,.inr rfl⟩) n 0 (Nat.zero_le _) (by omega)
 have e1:fY n s n 0=some r1:=e1
 obtain⟨r2,e2,q2⟩:=mY (L:=gi n s) s.bZ.length (fun r=>r=.inr false\/r=.inl ()) (by omega)
  (fun k i h=>by
   rw[gi,if_pos (ic h),if_pos (fe h)]
   split
   ·exact .inl ⟨_,rfl,.inl rfl⟩
   ·exact .inr rfl)
  (fun k=>⟨_,by rw[gi,fl];rfl,.inr rfl⟩) n 0 (Nat.zero_le _) (by omega)
 have e2:gi n s n 0=some r2:=e2
 obtain⟨r3,e3,q3⟩:=kX (L:=fun k (_:Unit) i=>dR n s k i) s.bG.length (fun i _=>∀m∈s.bG.take i,m.aQ.length<=100/\m.dZ.length<=100) (fun r=>r=.inr false\/(r=.inl ()/\∀m∈s.bG,m.aQ.length<=100/\m.dZ.length<=100)) (by omega)
  (fun k _ i h hI=>by
   show(∃r,dR n s (k+1) (i:Int)=some r/\_)\/∃s',_/\dR n s (k+1) (i:Int)=_
   rw[dR,if_pos (ic h),if_pos (fe h),if_pos (by rw[fe h,Bool.or_true]),iP h]
   simp only[kE,DX]
   cases hc:(decide ((List.length s.bG[i].aQ:Int)>100)||decide ((List.length s.bG[i].dZ:Int)>100)) with
   |true=>exact .inl ⟨_,rfl,.inl rfl⟩
   |false =>
    rw[Bool.or_eq_false_iff,decide_eq_false_iff_not,decide_eq_false_iff_not] at hc
    refine .inr ⟨(),fun m hm=>?_,rfl⟩
    rw[List.take_succ_eq_append_getElem h] at hm
    rcases List.mem_append.1 hm with hm|hm
    ·exact hI m hm
    ·rw[List.mem_singleton.1 hm];omega)
  (fun k _ hI=>⟨.inl (),by
   show dR n s (k+1) (List.length s.bG:Int)=_
   rw[dR,fl];rfl,.inr ⟨rfl,by rw[List.take_length] at hI;exact hI⟩⟩) n 0 () (Nat.zero_le _) (by omega) (fun m hm=>by simp at hm)
 have e3:dR n s n 0=some r3:=e3
 obtain⟨r4,e4,q4⟩:=mY (L:=fZ n s) s.dG.length (fun r=>r=.inr false\/r=.inl ()) (by omega)
  (fun k i h=>by
   rw[fZ,if_pos (ic h),if_pos (fe h),if_pos (by rw[fe h,Bool.or_true])]
   simp only[kE]
   split
   ·exact .inl ⟨_,rfl,.inl rfl⟩
   ·exact .inr rfl)
  (fun k=>⟨_,by rw[fZ,fl];rfl,.inr rfl⟩) n 0 (Nat.zero_le _) (by omega)
 have e4:fZ n s n 0=some r4:=e4
 unfold lN
 rw[e1,Option.bind_some]
 rcases q1 with rfl|rfl
 ·exact⟨false,rfl,fun h=>by cases h⟩
 simp only[Sum.elim_inl]
 rw[e2,Option.bind_some]
 rcases q2 with rfl|rfl
 ·exact⟨false,rfl,fun h=>by cases h⟩
 simp only[Sum.elim_inl]
 rw[e3,Option.bind_some]
 rcases q3 with rfl|⟨rfl,q3⟩
 ·exact⟨false,rfl,fun h=>by cases h⟩
 simp only[Sum.elim_inl]
 rw[e4,Option.bind_some]
 rcases q4 with rfl|rfl
 ·exact⟨false,rfl,fun h=>by cases h⟩
 exact⟨true,rfl,fun _=>q3⟩
theorem BP(n:Nat)(p:aD)(hn:100000<=n):∃b,lH n p=some b/\(b=true->yS p/\p.av.length<=8):=by
 have key:∃b,lF n p=some b/\(b=true->yS p):=by
  unfold lF
  simp only[kE,DX]
  cases hx:(((decide ((List.length p.av:Int)>20)||decide ((List.length p.bZ:Int)>40))||decide ((List.length p.j6:Int)>40))||decide ((List.length p.aS:Int)>100)) with
  |true=>exact⟨false,rfl,fun h=>by cases h⟩
  |false =>
   simp only[Bool.or_eq_false_iff,decide_eq_false_iff_not] at hx
   obtain⟨⟨⟨x1,x2⟩,x3⟩,_⟩:=hx
   rw[if_neg Bool.false_ne_true]
   obtain⟨r,e,q⟩:=kX (L:=fun k (_:Unit) i=>dO n p k i) p.av.length (fun i _=>∀s∈p.av.take i,Au s) (fun r=>r=.inr false\/(r=.inl ()/\∀s∈p.av,Au s)) (by omega)
    (fun k _ i h hI=>by
     show(∃r,dO n p (k+1) (i:Int)=some r/\_)\/∃s',_/\dO n p (k+1) (i:Int)=_
     rw[dO,if_pos (ic h),if_pos (fe h),iP h]
     simp only[kE,DX]
     generalize hs:p.av[i]=s at *
     split
     ·exact .inl ⟨_,rfl,.inl rfl⟩
     ·rename_i hc
      simp only[Bool.not_eq_true,Bool.or_eq_false_iff,decide_eq_false_iff_not] at hc
      obtain⟨⟨⟨⟨⟨⟨⟨⟨⟨c1,c2⟩,c3⟩,c4⟩,c5⟩,c6⟩,c7⟩,c8⟩,c9⟩,c10⟩:=hc
      obtain⟨b,e1,q1⟩:=BU n s (by omega) (by omega) (by omega) (by omega) hn
      rw[e1,Option.bind_some]
      cases b with
      |false=>exact .inl ⟨_,rfl,.inl rfl⟩
      |true =>
       refine .inr ⟨(),fun y hy=>?_,rfl⟩
       rw[List.take_succ_eq_append_getElem h] at hy
       rcases List.mem_append.1 hy with hy|hy
       ·exact hI y hy
       ·rw[List.mem_singleton.1 hy,hs]
        exact⟨by omega,by omega,by omega,q1 rfl⟩)
    (fun k _ hI=>⟨.inl (),by
     show dO n p (k+1) (List.length p.av:Int)=_
     rw[dO,fl];rfl,.inr ⟨rfl,by rw[List.take_length] at hI;exact hI⟩⟩) n 0 () (Nat.zero_le _) (by omega) (fun m hm=>by simp at hm)
   have e:dO n p n 0=some r:=e
   rw[e,Option.bind_some]
   rcases q with rfl|⟨rfl,q⟩
   ·exact⟨false,rfl,fun h=>by cases h⟩
   ·exact⟨true,rfl,fun _=>⟨by omega,by omega,by omega,q⟩⟩
 obtain⟨b,h1,h2⟩:=key
 unfold lH
 rw[h1,Option.bind_some]
 cases b with
 |false=>exact⟨false,rfl,fun h=>by cases h⟩
 |true =>
  refine⟨_,rfl,fun h=>⟨h2 rfl,?_⟩⟩
  have h:decide ((List.length p.av:Int)<=8)=true:=h
  have:=of_decide_eq_true h
  omega
theorem D4(n:Nat)(p:aD)(haw:gy n=some true)(hS:p.av.length<=100)(i:Nat)(hi:i<p.av.length)(hn:100000<=n) :
  ∃r,cy n (i:Int) p n 0=some r/\(r=.inr true\/(r=.inl ()/\∀s∈p.av.take i,p.av[i].aS≠s.aS)):=by
 have:=kX (L:=fun k (_:Unit) j=>cy n (i:Int) p k j) i (fun j _=>∀s∈p.av.take j,p.av[i].aS≠s.aS) (fun r=>r=.inr true\/(r=.inl ()/\∀s∈p.av.take i,p.av[i].aS≠s.aS)) (by omega)
  (fun k _ j h hI=>by
   have hj:j<p.av.length:=by omega
   show(∃r,cy n (i:Int) p (k+1) (j:Int)=some r/\_)\/∃s',_/\cy n (i:Int) p (k+1) (j:Int)=_
   rw[cy,if_pos (ic h),if_pos (fe hi),if_pos (fe hj),iP hi,iP hj,haw]
   simp only[kE,Option.bind_some]
   by_cases he:p.av[i].aS=p.av[j].aS
   ·rw[if_pos (by simpa using he)]
    exact .inl ⟨_,rfl,.inl rfl⟩
   ·rw[if_neg (by simpa using he)]
    refine .inr ⟨(),fun s hs=>?_,rfl⟩
    rw[List.take_succ_eq_append_getElem hj] at hs
    rcases List.mem_append.1 hs with hs|hs
    ·exact hI s hs
    ·rw[List.mem_singleton.1 hs];exact he)
  (fun k _ hI=>⟨.inl (),by
   show cy n (i:Int) p (k+1) (i:Int)=_
   rw[cy,fl];rfl,.inr ⟨rfl,hI⟩⟩) n 0 () (Nat.zero_le _) (by omega) (fun m hm=>by simp at hm)
 exact this
theorem DK(n:Nat)(p:aD)(haw:gy n=some true)(hS:p.av.length<=100)(hn:100000<=n) :
  ∃r,cv n p n 0=some r/\(r=.inr true\/(r=.inl ()/\(p.av.map (·.aS)).Nodup)):=by
 have:=kX (L:=fun k (_:Unit) j=>cv n p k j) p.av.length (fun j _=>((p.av.take j).map (·.aS)).Nodup) (fun r=>r=.inr true\/(r=.inl ()/\(p.av.map (·.aS)).Nodup)) (by omega)
  (fun k _ j h hI=>by
   obtain⟨r,e,q⟩:=D4 n p haw hS j h hn
   show(∃r,cv n p (k+1) (j:Int)=some r/\_)\/∃s',_/\cv n p (k+1) (j:Int)=_
   rw[cv,if_pos (ic h),e,Option.bind_some]
   rcases q with rfl|⟨rfl,q⟩
   ·exact .inl ⟨_,rfl,.inl rfl⟩
   ·refine .inr ⟨(),?_,rfl⟩
    rw[List.take_succ_eq_append_getElem h,List.map_append]
    refine List.nodup_append.2 ⟨hI,by simp,fun a ha b hb=>?_⟩
    simp only[List.map_cons,List.map_nil,List.mem_singleton] at hb
    obtain⟨s,hs,rfl⟩:=List.mem_map.1 ha
    rw[hb]
    exact(q s hs).symm)
  (fun k _ hI=>⟨.inl (),by
   show cv n p (k+1) (List.length p.av:Int)=_
   rw[cv,fl];rfl,.inr ⟨rfl,by rw[List.take_length] at hI;exact hI⟩⟩) n 0 () (Nat.zero_le _) (by omega) (by simp)
 exact this
theorem Dep.rch{w:Wb}{o:List BS}{m:Mi}(ho:Ord w o)(hD:Dep w o o.length m){s t:BS}(h:Rch w s t):s∈o->t∈o/\cnt m t<cnt m s:=by
 have one:∀{s t:BS},t∈iL w s->s∈o->t∈o/\cnt m t<cnt m s:=by
  intro s t h hs
  obtain⟨j,hj,rfl⟩:=List.getElem_of_mem hs
  exact⟨List.mem_of_mem_take (ho.ah j hj t h),(hD.lt j hj hj).2 t h⟩
 induction h with
 |one h=>exact one h
 |step h _ ih =>
  intro hs
  obtain⟨a,b⟩:=one h hs
  obtain⟨c,d⟩:=ih a
  exact⟨c,by omega⟩
theorem Ord.ahead{w:Wb}{o:List BS}(ho:Ord w o){s t:BS}(h:Rch w s t):∀i (hi:i<o.length),o[i]=s->t∈o.take i:=by
 induction h with
 |one h=>intro i hi e;subst e;exact ho.ah i hi _ h
 |step h _ ih =>
  intro i hi e
  subst e
  have h1:=ho.ah i hi _ h
  obtain⟨j,hj,e⟩:=List.getElem_of_mem h1
  rw[List.length_take] at hj
  rw[List.getElem_take] at e
  exact List.Sublist.subset (List.take_sublist_take_left (by omega)) (ih j (by omega) e)
theorem F5(n:Nat)(p:aD)(w:Wb)(hg:dQ n p=some w)(hw:Web w)(o:List BS)(hord:dT n p=some o)(ho:Ord w o)(m:Mi)(hD:Dep w o o.length m)(hdp:∀s,fu n p s=some (cnt m s-1))(i:Nat)(hi:i<o.length)(l:List BS)(hl:l.length<=1000)(hll:∀t,t∈l->Rch w o[i] t)(hn:100000<=n) :
  dK n o (i:Int) l p n 0=some (.inl ()):=by
 have hlen:=hw.len
 have hol:=ho.len hw
 have:=mY (L:=dK n o (i:Int) l p) l.length (fun r=>r=.inl ()) (by omega)
  (fun k j h=>by
   have hr:=hll l[j] (List.getElem_mem h)
   have ha:=ho.ahead hr i hi rfl
   obtain⟨q,hq,e⟩:=List.getElem_of_mem ha
   rw[List.length_take] at hq
   rw[List.getElem_take] at e
   have hqo:q<o.length:=by omega
   have hat:=zq n o ho.nd (by omega) hn q hqo
   rw[e] at hat
   obtain⟨_,hlt⟩:=Dep.rch ho hD hr (List.getElem_mem hi)
   obtain⟨la,a1,a2,a3⟩:=Ci n p w hg hw l[j] hn
   have hin:la.contains o[i]=true:=kx.2 ((a3 _).2 ⟨ho.sub _ (List.getElem_mem hi),hr⟩)
   have hIn:nH n la o[i]=some true:=by rw[zT n la o[i] (by omega) hn,hin]
   have hc:(bif (decide ((q:Int)<0)) then true else(decide ((q:Int)>=(i:Int))))=false:=by
    rw[decide_eq_false (by omega),decide_eq_false (by omega)];rfl
   have hd:decide (cnt m l[j]-1>=cnt m o[i]-1)=false:=decide_eq_false (by omega)
   refine .inr ?_
   rw[dK,if_pos (ic h),if_pos (fe h),iP h,hat,Option.bind_some]
   simp only[hc]
   rw[if_pos (by rw[fe h];rfl),if_pos (by rfl),hdp,Option.bind_some,if_pos (by rw[fe hi];rfl),if_pos (by rfl),iP hi,hdp,Option.bind_some]
   simp only[hd,cond_false]
   rw[if_pos (by rw[fe h];rfl),if_pos (by rfl),a1,Option.bind_some,if_pos (by rw[fe hi];rfl),if_pos (by rfl),hIn,Option.bind_some]
   rfl)
  (fun k=>⟨_,by rw[dK,fl];rfl,rfl⟩) n 0 (Nat.zero_le _) (by omega)
 obtain⟨r,h1,rfl⟩:=this
 exact h1
theorem FR(n:Nat)(p:aD)(w:Wb)(hg:dQ n p=some w)(hw:Web w)(o:List BS)(hord:dT n p=some o)(ho:Ord w o)(hac:∀x∈w.ai,¬Rch w x x)(hn:100000<=n) :
  dJ n o p n 0=some (.inl ()):=by
 have hlen:=hw.len
 have hol:=ho.len hw
 obtain⟨m,hD,hdp⟩:=Dw n p w hg hw o hord ho hn
 have:=mY (L:=dJ n o p) o.length (fun r=>r=.inl ()) (by omega)
  (fun k i h=>by
   obtain⟨l,b1,b2,b3⟩:=Dn n p w hg hw o[i] hn
   have h4:=F5 n p w hg hw o hord ho m hD hdp i h l (by omega) (fun t ht=>(b3 t).1 ht) hn
   obtain⟨b,r1,r2⟩:=D8 n p w hg hw o[i] hn
   have hb:b=false:=by
    cases b with
    |false=>rfl
    |true=>exact(hac _ (ho.sub _ (List.getElem_mem h)) (r2.1 rfl)).elim
   subst hb
   have hd1:=(hD.lt i h h).1
   refine .inr ?_
   rw[dJ,if_pos (ic h),if_pos (fe h),iP h,b1,Option.bind_some,h4,Option.bind_some]
   simp only[Sum.elim_inl]
   rw[if_pos (fe h),r1,Option.bind_some,if_pos (by rw[fe h];rfl),if_pos (by rfl),hdp,Option.bind_some]
   have:decide (cnt m o[i]-1<0)=false:=decide_eq_false (by omega)
   simp only[this,cond_false]
   rfl)
  (fun k=>⟨_,by rw[dJ,fl];rfl,rfl⟩) n 0 (Nat.zero_le _) (by omega)
 obtain⟨r,h1,rfl⟩:=this
 exact h1
def iw(s:BS)(d:List BS):Sv:=aF.mk s [] [] [] [] [] [] [] (d.map fun x=>aL.mk x 1 false true) 0 (gx.mk [] 0 0 0) 0 0 0 0
abbrev bE:BS:=l5
abbrev cu:BS:=[100,98]
abbrev dU:BS:=mq
def p24:aD:=aD.mk [] [iw bE [cu],iw cu [],iw dU [bE,cu]] [] []
def w24:Wb:=aC.mk [bE,cu,dU] [(.inl dU,af.mk [bE,cu]),(.inl cu,af.mk []),(.inl bE,af.mk [cu])]
theorem DL(m:Nat):dQ (m+40) p24=some w24:=by
 have e1:iG (m+40) p24.av (List.length p24.av:Int) p24 (m+40) 0 (aC.mk [] ([]:List (MK×af)))=some (aC.mk [bE,cu,dU] []):=by kernel_rfl
 have s1:fy (m+40) [bE,cu,dU]=some [bE,cu,dU]:=by rw[fQ _ _ (by decide)];decide +kernel
 have s2:fy (m+40) [bE,cu]=some [bE,cu]:=by rw[fQ _ _ (by decide)];decide +kernel
 have s3:fy (m+40) []=some []:=by rw[fQ _ _ (by decide)];decide +kernel
 have s4:fy (m+40) [cu]=some [cu]:=by rw[fQ _ _ (by decide)];decide +kernel
 have d1:∀t,eQ (m+40) (iw dU [bE,cu]).aV (List.length (iw dU [bE,cu]).aV:Int) (iw dU [bE,cu]) (aC.mk [bE,cu,dU] t) (m+40) ([]:Ls) 0=some [bE,cu]:=fun t=>by kernel_rfl
 have d2:∀t,eQ (m+40) (iw cu []).aV (List.length (iw cu []).aV:Int) (iw cu []) (aC.mk [bE,cu,dU] t) (m+40) ([]:Ls) 0=some []:=fun t=>by kernel_rfl
 have d3:∀t,eQ (m+40) (iw bE [cu]).aV (List.length (iw bE [cu]).aV:Int) (iw bE [cu]) (aC.mk [bE,cu,dU] t) (m+40) ([]:Ls) 0=some [cu]:=fun t=>by kernel_rfl
 have b1:oq (m+40) p24.av=some [((2:Int),iw dU [bE,cu]),(1,iw cu []),(0,iw bE [cu])]:=by kernel_rfl
 unfold dQ
 rw[e1,Option.bind_some]
 simp only
 rw[s1,Option.bind_some,b1,Option.bind_some,eP]
 simp only
 rw[d1,Option.bind_some,s2,Option.bind_some,eP]
 simp only
 rw[d2,Option.bind_some,s3,Option.bind_some,eP]
 simp only
 rw[d3,Option.bind_some,s4,Option.bind_some,eP]
 rfl
theorem FK(n:Nat)(hn:100000<=n):gy n=some true:=by
 obtain⟨m,rfl⟩:∃m,n=m+40:=⟨n-40,by omega⟩
 have a1:gX (m+40) bE [cu]=some (iw bE [cu]):=by kernel_rfl
 have a2:gX (m+40) cu []=some (iw cu []):=by kernel_rfl
 have a3:gX (m+40) dU [bE,cu]=some (iw dU [bE,cu]):=by kernel_rfl
 have o1:dT (m+40) p24=some [cu,bE,dU]:=by
  have e:eO (m+40) w24 (m+40) ([]:Ls) true=some [cu,bE,dU]:=by kernel_rfl
  unfold dT
  rw[DL,Option.bind_some,e];rfl
 have d1:fu (m+40) p24 dU=some 2:=by
  have e:cO (m+40) dU [cu,bE,dU] (List.length [cu,bE,dU]:Int) w24 (m+40) 0 ([]:List (MK×Int))=some [(.inl cu,1),(.inl bE,2),(.inl dU,3)]:=by kernel_rfl
  unfold fu
  rw[DL,Option.bind_some,o1,Option.bind_some,e];rfl
 have b1:iF (m+40) p24 dU=some [bE,cu]:=by
  have e:eY (m+40) w24 dU=some [bE,cu]:=by kernel_rfl
  unfold iF
  rw[DL,Option.bind_some,e];rfl
 have s1:oN (m+40) [cu,bE,dU] [cu,bE,dU]=some true:=by kernel_rfl
 have o1:dT (m+40) (aD.mk [] [iw bE [cu],iw cu [],iw dU [bE,cu]] [] [])=some [cu,bE,dU]:=o1
 have d1:fu (m+40) (aD.mk [] [iw bE [cu],iw cu [],iw dU [bE,cu]] [] []) dU=some 2:=d1
 have b1:iF (m+40) (aD.mk [] [iw bE [cu],iw cu [],iw dU [bE,cu]] [] []) dU=some [bE,cu]:=b1
 unfold gy
 rw[a1,Option.bind_some,a2,Option.bind_some,a3,Option.bind_some,o1,Option.bind_some,s1,Option.bind_some,d1,b1]
 rfl
theorem qI(a0:aD)(_:oz a0):∃n,jU n a0=some true:=by
 obtain⟨n,hn⟩:∃n,n=200000:=⟨_,rfl⟩
 refine⟨n,?_⟩
 have hn:100000<=n:=by omega
 have haw:=FK n hn
 obtain⟨b,s1,s2⟩:=BP n a0 hn
 unfold jU
 rw[s1,Option.bind_some]
 cases b with
 |false=>rw[if_pos (by decide),haw];rfl
 |true =>
  obtain⟨hp,h8⟩:=s2 rfl
  rw[if_neg (by decide)]
  obtain⟨r,n1,n2⟩:=DK n a0 haw (by omega) hn
  rw[n1,Option.bind_some]
  rcases n2 with rfl|⟨rfl,hnd⟩
  ·rfl
  ·simp only[Sum.elim_inl]
   obtain⟨w,hg,hw,hN⟩:=Gs n a0 hp hn
   obtain⟨c,c1,c2⟩:=BM n a0 hp w hg hw hn
   obtain⟨o,o1,o2,o3⟩:=Df n a0 w hg hw hn
   have hmem:∀x,x∈w.ai↔x∈a0.av.map (·.aS):=fun x=>by rw[hN,tC]
   have hNl:w.ai.length<=a0.av.length:=by
    have:=ot hw.nd fun x hx=>(hmem x).1 hx
    rwa[List.length_map] at this
   have hol:=o2.len hw
   rw[c1,Option.bind_some]
   by_cases hc:c.2=0
   ·rw[if_neg (by simp[hc]),o1,Option.bind_some]
    have hac:∀x∈w.ai,¬Rch w x x:=fun x hx=>by
     obtain⟨s,hs,rfl⟩:=List.mem_map.1 ((hmem x).1 hx)
     exact c2 hc s hs
    have hall:=all_in hw o3 hac
    have hlen:o.length=a0.av.length:=by
     have h1:=ot hnd fun x hx=>hall x ((hmem x).2 hx)
     rw[List.length_map] at h1
     omega
    rw[if_neg (by rw[hlen];simp),FR n a0 w hg hw o o1 o2 hac hn,Option.bind_some,haw]
    rfl
   ·rw[if_pos (by simpa using hc),o1,Option.bind_some,haw]
    have:decide ((List.length o:Int)<=(List.length a0.av:Int))=true:=decide_eq_true (by omega)
    rw[this]
    rfl
end Go.Proofs.YtpmmhhmhckpnfaaDoor.M
