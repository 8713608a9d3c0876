import Derived.Test.YtpmmhhmhckpnfaaGreatQPlain
import Derived.Test.YtpmmhhmhckpnfaaGreatQRxOrd
import Derived.Lib.CountLaws
import Derived.Test.YtpmmhhmhckpnfaaGreatQM23
set_option linter.all false
namespace Go.Proofs.YtpmmhhmhckpnfaaGreat.PL
open Go Go.Proofs.YtpmmhhmhckpnfaaGreat.RX
theorem drop_at{α:Type}{l:List α}{i:Nat}(h:i<l.length):l.drop i=l[i]::l.drop (i+1):=List.drop_eq_getElem_cons h
def Aw{ρ:Type}:Option ρ->Sum Unit ρ|some r=>.inr r|none=>.inl ()
@[simp] theorem UW{ρ:Type}:Aw (none:Option ρ)=.inl ():=rfl
@[simp] theorem UX{ρ:Type}(r:ρ):Aw (some r)=.inr r:=rfl
theorem yp{α ρ:Type}{L:Nat->Int->Option (Sum Unit ρ)}(l:List α)(g:α->Option ρ)(i0:Nat)(hN:l.length<1000000000)
  (hs:∀k i (h:i<l.length),i0<=i->L (k+1) (i:Int)=match g l[i] with|some r=>some (.inr r)|none=>L k (IntKind.wrap .i64 ((i:Int)+1)))
  (he:∀k,L (k+1) (l.length:Int)=some (.inl ())):∀(k i:Nat),i0<=i->i<=l.length->l.length-i<k->L k (i:Int)=some (Aw ((l.drop i).findSome? g))
 |0,i,_,_,h=>by omega
 |k+1,i,h0,h1,h2=>by
  by_cases h:i<l.length
  ·rw[hs k i h h0,drop_at h,List.findSome?_cons]
   cases g l[i] with
   |some r=>rfl
   |none =>
    show L k _=_
    rw[dO i (by omega)]
    exact yp l g i0 hN hs he k (i+1) (by omega) (by omega) (by omega)
  ·have:i=l.length:=by omega
   subst this
   rw[he,List.drop_eq_nil_of_le (Nat.le_refl _)];rfl
def vC{α ρ:Type}(g:Nat->α->Option ρ):Nat->List α->Option ρ
 |_,[]=>none
 |i,x::xs=>match g i x with|some r=>some r|none=>vC g (i+1) xs
theorem JL{α ρ:Type}{L:Nat->Int->Option (Sum Unit ρ)}(l:List α)(g:Nat->α->Option ρ)(i0:Nat)(hN:l.length<1000000000)
  (hs:∀k i (h:i<l.length),i0<=i->L (k+1) (i:Int)=match g i l[i] with|some r=>some (.inr r)|none=>L k (IntKind.wrap .i64 ((i:Int)+1)))
  (he:∀k,L (k+1) (l.length:Int)=some (.inl ())):∀(k i:Nat),i0<=i->i<=l.length->l.length-i<k->L k (i:Int)=some (Aw (vC g i (l.drop i)))
 |0,i,_,_,h=>by omega
 |k+1,i,h0,h1,h2=>by
  by_cases h:i<l.length
  ·rw[hs k i h h0,drop_at h,vC]
   cases g i l[i] with
   |some r=>rfl
   |none =>
    show L k _=_
    rw[dO i (by omega)]
    exact JL l g i0 hN hs he k (i+1) (by omega) (by omega) (by omega)
  ·have:i=l.length:=by omega
   subst this
   rw[he,List.drop_eq_nil_of_le (Nat.le_refl _)];rfl
theorem gather{α σ ρ:Type}{L:Nat->σ->Int->Option ρ}(l:List α)(f:σ->α->σ)(fin:σ->ρ)(I:Nat->σ->Prop)(hN:l.length<1000000000)
  (hs:∀k s i (h:i<l.length),I i s->L (k+1) s (i:Int)=L k (f s l[i]) (IntKind.wrap .i64 ((i:Int)+1)))
  (hI:∀s i (h:i<l.length),I i s->I (i+1) (f s l[i]))
  (he:∀k s,I l.length s->L (k+1) s (l.length:Int)=some (fin s)):∀(k i:Nat)(s:σ),i<=l.length->l.length-i<k->I i s->L k s (i:Int)=some (fin ((l.drop i).foldl f s))/\I l.length ((l.drop i).foldl f s)
 |0,i,s,_,h,_=>by omega
 |k+1,i,s,h1,h2,hi=>by
  by_cases h:i<l.length
  ·rw[hs k s i h hi,drop_at h,List.foldl_cons,dO i (by omega)]
   exact gather l f fin I hN hs hI he k (i+1) _ (by omega) (by omega) (hI s i h hi)
  ·have:i=l.length:=by omega
   subst this
   rw[he _ _ hi,List.drop_eq_nil_of_le (Nat.le_refl _)]
   exact⟨rfl,hi⟩
theorem AP{α β:Type}(f:α->List β):∀(l:List α)(acc:List β),l.foldl (fun acc x=>acc++f x) acc=acc++l.flatMap f
 |[],acc=>by simp
 |x::l,acc=>by rw[List.foldl_cons,AP f l,List.flatMap_cons,List.append_assoc]
theorem bV{n:Nat}:decide ((n:Int)<(n:Int))=false:=by simp
theorem gX{a b:Nat}(h:a+b<=1000000000):decide ((a+b)*(16+1)<=limit)=true:=decide_eq_true (by show(a+b)*(16+1)<=140737488355328;omega)
abbrev BS:=Bs
theorem jh(a:BS):¬a<a:=List.lt_irrefl a
theorem yX{a b c:BS}(h:a<b)(h':b<c):a<c:=List.lt_trans h h'
theorem pP{a b:BS}:¬a<b↔b<=a:=List.not_lt
theorem II{a b:BS}:¬a<=b↔b<a:=List.not_le
theorem xF{a b:BS}(h:a<=b)(h':b<=a):a=b:=List.le_antisymm h h'
theorem Dq{a b c:BS}(h:a<=b)(h':b<=c):a<=c:=List.le_trans h h'
theorem Rb(a b:BS):a<=b\/b<=a:=List.le_total a b
theorem xq{a b:BS}(h:a<b):a<=b:=List.le_of_lt h
theorem qo{a b:BS}(h:a<=b)(hn:a≠b):a<b:=II.1 fun h'=>hn (xF h h')
theorem MJ{a b:BS}(h:a<b):a≠b:=fun e=>jh b (e▸h)
theorem D6:∀x y:BS,Op.bytesLess x y=decide (x<y)
 |[],[]=>by simp[Op.bytesLess]
 |_::_,[]=>by simp[Op.bytesLess]
 |[],_::_=>by simp[Op.bytesLess]
 |a::x,b::y=>by
  rw[Op.bytesLess,D6 x y]
  simp only[List.cons_lt_cons_iff]
  by_cases h1:a<b<;>by_cases h2:a=b<;>by_cases h3:x<y<;>simp[h1,h2,h3]
theorem TF(a b:BS):(Op.bytesLess a b||a==b)=decide (a<=b):=by
 rw[D6,Bool.eq_iff_iff]
 simp only[Bool.or_eq_true,decide_eq_true_eq,beq_iff_eq]
 constructor
 ·rintro(h|rfl)
  ·exact xq h
  ·exact pP.1 (jh a)
 ·intro h
  by_cases e:a=b
  ·exact .inr e
  ·exact .inl (qo h e)
abbrev Asc(l:List BS):Prop:=l.Pairwise (·<·)
theorem Asc.nodup{l:List BS}(h:Asc l):l.Nodup:=h.imp fun h=>MJ h
theorem Asc.ext:∀{l m:List BS},Asc l->Asc m->(∀x,x∈l↔x∈m)->l=m
 |[],[],_,_,_=>rfl
 |[],b::m,_,_,h=>by have:=(h b).2 (by simp);simp at this
 |a::l,[],_,_,h=>by have:=(h a).1 (by simp);simp at this
 |a::l,b::m,hl,hm,h=>by
  obtain⟨h1,h2⟩:=List.pairwise_cons.1 hl
  obtain⟨h3,h4⟩:=List.pairwise_cons.1 hm
  have hab:a=b:=by
   rcases List.mem_cons.1 ((h a).1 (by simp)) with e|e
   ·exact e
   ·rcases List.mem_cons.1 ((h b).2 (by simp)) with e'|e'
    ·exact e'.symm
    ·exact absurd (yX (h1 b e') (h3 a e)) (jh a)
  subst hab
  congr 1
  refine Asc.ext h2 h4 fun x=>⟨fun hx=>?_,fun hx=>?_⟩
  ·rcases List.mem_cons.1 ((h x).1 (by simp[hx])) with e|e
   ·exact absurd (h1 x hx) (e▸jh _)
   ·exact e
  ·rcases List.mem_cons.1 ((h x).2 (by simp[hx])) with e|e
   ·exact absurd (h3 x hx) (e▸jh _)
   ·exact e
def ins(x:BS):List BS->List BS
 |[]=>[x]
 |y::l=>if x<y then x::y::l else if x=y then y::l else y::ins x l
def srt(l:List BS):List BS:=l.foldr ins []
theorem Ij{x z:BS}:∀{l:List BS},z∈ins x l↔z=x\/z∈l
 |[]=>by simp[ins]
 |y::l=>by
  unfold ins
  split
  ·simp
  ·split
   ·rename_i h;subst h;simp
   ·simp only[List.mem_cons,Ij (l:=l)]
    constructor
    ·rintro(h|h|h)<;>simp[h]
    ·rintro(h|h|h)<;>simp[h]
theorem Nu{x:BS}:∀{l:List BS},Asc l->Asc (ins x l)
 |[],_=>by simp[ins]
 |y::l,h=>by
  obtain⟨h1,h2⟩:=List.pairwise_cons.1 h
  unfold ins
  split
  ·rename_i hx
   refine List.pairwise_cons.2 ⟨fun z hz=>?_,h⟩
   rcases List.mem_cons.1 hz with rfl|hz
   ·exact hx
   ·exact yX hx (h1 z hz)
  ·split
   ·exact h
   ·rename_i hx hy
    refine List.pairwise_cons.2 ⟨fun z hz=>?_,Nu h2⟩
    rcases Ij.1 hz with rfl|hz
    ·exact qo (pP.1 hx) (fun e=>hy e.symm)
    ·exact h1 z hz
theorem vO:∀l:List BS,Asc (srt l)
 |[]=>.nil
 |x::l=>Nu (vO l)
theorem iz{z:BS}:∀{l:List BS},z∈srt l↔z∈l
 |[]=>by simp[srt]
 |x::l=>by
  show z∈ins x (srt l)↔_
  rw[Ij,iz,List.mem_cons]
theorem NR{l:List BS}(h:Asc l):srt l=l:=Asc.ext (vO l) h fun _=>iz
theorem vk(x:BS):∀l:List BS,(ins x l).length<=l.length+1
 |[]=>by simp[ins]
 |y::l=>by
  unfold ins
  have:=vk x l
  split
  ·simp
  ·split
   ·simp
   ·simp;omega
theorem fB:∀l:List BS,(srt l).length<=l.length
 |[]=>by simp[srt]
 |x::l=>by
  have:=vk x (srt l);have:=fB l
  show(ins x (srt l)).length<=_
  simp;omega
end Go.Proofs.YtpmmhhmhckpnfaaGreat.PL
namespace Go.Proofs.YtpmmhhmhckpnfaaGreat.PL
open Go Go.Proofs.YtpmmhhmhckpnfaaGreat.RX
theorem pM{i n:Nat}(h:i<=n):decide (0<=(i:Int)/\(i:Int)<=(n:Int))=true:=decide_eq_true (by omega)
theorem wQ{i j:Nat}(h:i<=j):decide (0<=(i:Int)/\(i:Int)<=(j:Int))=true:=decide_eq_true (by omega)
theorem dq{a b:Nat}(h:a+b<=1000000000):decide (((a+b:Nat):Int)<=9223372036854775807)=true:=decide_eq_true (by omega)
theorem tn(i:Nat):Int.toNat (i:Int)=i:=Int.toNat_natCast i
def upto(c:UInt8):BS->Option (BS×BS)
 |[]=>none
 |b::l=>if b=c then some ([],l) else(upto c l).map fun p=>(b::p.1,p.2)
theorem Je{c:UInt8}:∀{l:BS},upto c l=none↔c∉l
 |[]=>by simp[upto]
 |b::l=>by
  unfold upto
  by_cases h:b=c
  ·subst h;simp
  ·rw[if_neg h,Option.map_eq_none_iff,Je]
   simp only[List.mem_cons,not_or]
   exact⟨fun h'=>⟨fun e=>h e.symm,h'⟩,fun h'=>h'.2⟩
theorem xd{c:UInt8}:∀{l p q:BS},upto c l=some (p,q)->l=p++c::q/\c∉p
 |[],p,q,h=>by cases h
 |b::l,p,q,h=>by
  unfold upto at h
  by_cases hb:b=c
  ·rw[if_pos hb] at h;cases h;exact⟨by rw[hb];rfl,by simp⟩
  ·rw[if_neg hb] at h
   obtain⟨⟨p',q'⟩,hp,he⟩:=Option.map_eq_some_iff.1 h
   cases he
   obtain⟨h1,h2⟩:=xd hp
   refine⟨by rw[h1];rfl,?_⟩
   simp only[List.mem_cons,not_or]
   exact⟨fun e=>hb e.symm,h2⟩
theorem D3{c:UInt8}:∀{p q:BS},c∉p->upto c (p++c::q)=some (p,q)
 |[],q,_=>by simp[upto]
 |b::p,q,h=>by
  simp only[List.mem_cons,not_or] at h
  rw[List.cons_append,upto,if_neg (fun e=>h.1 e.symm),D3 h.2];rfl
def sub(c:UInt8)(new:BS)(b:UInt8):BS:=if b=c then new else [b]
def parts(c:UInt8):BS->List BS
 |[]=>[[]]
 |b::t=>if b=c then []::parts c t else match parts c t with|[]=>[[b]]|x::r=>(b::x)::r
theorem QV(c:UInt8):∀l:BS,parts c l≠[]
 |[]=>by simp[parts]
 |b::t=>by
  unfold parts
  split
  ·simp
  ·split<;>simp
theorem Fh{c:UInt8}:∀{l:BS},c∉l->parts c l=[l]
 |[],_=>rfl
 |b::t,h=>by
  simp only[List.mem_cons,not_or] at h
  rw[parts,if_neg (fun e=>h.1 e.symm),Fh h.2]
theorem Jc{c:UInt8}:∀{p:BS}(q:BS),c∉p->parts c (p++c::q)=p::parts c q
 |[],q,_=>by simp[parts]
 |b::p,q,h=>by
  simp only[List.mem_cons,not_or] at h
  rw[List.cons_append,parts,if_neg (fun e=>h.1 e.symm),Jc q h.2]
theorem I4(c:UInt8):∀l:BS,(parts c l).length<=l.length+1
 |[]=>by simp[parts]
 |b::t=>by
  have:=I4 c t
  unfold parts
  split
  ·simp;omega
  ·split
   ·simp
   ·rename_i x r hp;rw[hp] at this;simp at this ⊢;omega
theorem Ah{c b:UInt8}(hb:b≠c):∀{l:BS},b∈l->∃x∈parts c l,b∈x
 |[],h=>by simp at h
 |a::t,h=>by
  unfold parts
  rcases List.mem_cons.1 h with rfl|h
  ·rw[if_neg hb]
   split
   ·exact⟨_,List.mem_singleton.2 rfl,by simp⟩
   ·exact⟨_,List.mem_cons_self,by simp⟩
  ·obtain⟨x,hx,hbx⟩:=Ah hb h
   split
   ·exact⟨x,List.mem_cons_of_mem _ hx,hbx⟩
   ·split
    ·rename_i hp;rw[hp] at hx;simp at hx
    ·rename_i y r hp
     rw[hp] at hx
     rcases List.mem_cons.1 hx with rfl|hx
     ·exact⟨_,List.mem_cons_self,List.mem_cons_of_mem _ hbx⟩
     ·exact⟨x,List.mem_cons_of_mem _ hx,hbx⟩
theorem pX(c:UInt8):∀(l:BS)(x:BS),x∈parts c l->x.length<=l.length
 |[],x,h=>by simp[parts] at h;subst h;simp
 |b::t,x,h=>by
  have ih:=pX c t
  unfold parts at h
  split at h
  ·rcases List.mem_cons.1 h with rfl|h
   ·simp
   ·have:=ih x h;simp;omega
  ·split at h
   ·rcases List.mem_cons.1 h with rfl|h
    ·simp
    ·simp at h
   ·rename_i y r hp
    rw[hp] at ih
    rcases List.mem_cons.1 h with rfl|h
    ·have:=ih y List.mem_cons_self;simp;omega
    ·have:=ih x (List.mem_cons_of_mem _ h);simp;omega
end Go.Proofs.YtpmmhhmhckpnfaaGreat.PL
namespace Go.Proofs.YtpmmhhmhckpnfaaGreat.PL
open Go
theorem ji{σ ρ:Type}{L:Nat->σ->Int->Option ρ}(N:Nat)(I:Nat->σ->Prop)(P:ρ->Prop)(hN:N<1000000000)
  (hs:∀k s i,i<N->I i s->(∃r,L (k+1) s (i:Int)=some r/\P r)\/∃s',I (i+1) s'/\L (k+1) s (i:Int)=L k s' (IntKind.wrap .i64 ((i:Int)+1)))
  (he:∀k s,I N s->∃r,L (k+1) s (N:Int)=some r/\P r):∀(k i:Nat)(s:σ),i<=N->N-i<k->I i s->∃r,L k s (i:Int)=some r/\P r
 |0,i,_,_,h,_=>by omega
 |k+1,i,s,h1,h2,h3=>by
  by_cases h:i<N
  ·rcases hs k s i h h3 with h4|⟨s',h4,h5⟩
   ·exact h4
   ·rw[h5,dO i (by omega)]
    exact ji N I P hN hs he k (i+1) s' (by omega) (by omega) h4
  ·have:i=N:=by omega
   subst this
   exact he k s h3
theorem oP{ρ:Type}{L:Nat->Int->Option ρ}(N:Nat)(P:ρ->Prop)(hN:N<1000000000)
  (hs:∀k i,i<N->(∃r,L (k+1) (i:Int)=some r/\P r)\/L (k+1) (i:Int)=L k (IntKind.wrap .i64 ((i:Int)+1)))
  (he:∀k,∃r,L (k+1) (N:Int)=some r/\P r) (k i:Nat) (h1:i<=N) (h2:N-i<k):∃r,L k (i:Int)=some r/\P r :=
 ji (L:=fun k (_:Unit) i=>L k i) N (fun _ _=>True) P hN (fun k _ i h _=>(hs k i h).imp id fun h=>⟨(),trivial,h⟩) (fun k _ _=>he k) k i () h1 h2 trivial
end Go.Proofs.YtpmmhhmhckpnfaaGreat.PL
namespace Go.Proofs.YtpmmhhmhckpnfaaGreat.M
open Go Go.Proofs.YtpmmhhmhckpnfaaGreat.RX Go.Proofs.YtpmmhhmhckpnfaaGreat.PL
set_option maxRecDepth 100000
theorem uD(s:BS)(i:Nat):((!((decide ((i:Int)<(List.length s:Int)))==true)||decide (0<=(i:Int)/\(i:Int)<(List.length s:Int))))=true:=by
 by_cases h:i<s.length
 ·rw[aO h,Bool.or_true]
 ·rw[show decide ((i:Int)<(List.length s:Int))=false from JO (Nat.not_lt.1 h)];rfl
theorem wR(n:Nat)(s:BS)(hs:s.length<=100000)(hn:200000<=n):∃b,fO n s=some b:=by
 unfold fO
 have hl:=oP (L:=eG n s) s.length (fun _=>True) (by omega) (fun k i h=>by
  rw[eG,if_pos (bZ h),if_pos (aO h),aO h,Bool.or_true,if_pos rfl]
  simp only[aQ]
  split
  ·exact .inl ⟨_,rfl,trivial⟩
  ·exact .inr rfl) (fun k=>⟨.inl (),by rw[eG,bV];rfl,trivial⟩) n 0 (Nat.zero_le _) (by omega)
 obtain⟨r,hr,_⟩:=hl
 have hr:eG n s n 0=some r:=hr
 have hc:(!(((decide ((List.length s:Int)>1))==true)&&(((List.length s:Int)==0)==false))||decide (0<=(0:Int)/\(0:Int)<(List.length s:Int)))=true:=by
  cases s with
  |nil=>rfl
  |cons c t=>rw[decide_eq_true (show 0<=(0:Int)/\(0:Int)<(List.length (c::t):Int) from⟨by omega,by simp⟩),Bool.or_true]
 rw[if_pos hc,hr]
 simp only[aQ,Option.bind_some]
 split
 ·exact⟨_,rfl⟩
 ·cases r<;>exact⟨_,rfl⟩
theorem zx(n:Nat)(s:BS)(m:Int)(hs:s.length<=100000)(hn:200000<=n):∃r,fL n s m=some r:=by
 obtain⟨b,hb⟩:=wR n s hs hn
 have hl:=ji (L:=fJ n s m) s.length (fun _ _=>True) (fun _=>True) (by omega) (fun k a i h _=>by
  rw[fJ,if_pos (bZ h),if_pos (aO h)]
  exact .inr ⟨_,trivial,rfl⟩) (fun k a _=>⟨a,by rw[fJ,bV];rfl,trivial⟩) n 0 0 (Nat.zero_le _) (by omega) trivial
 obtain⟨r,hr,_⟩:=hl
 have hr:fJ n s m n 0 0=some r:=hr
 unfold fL
 rw[hb,hr]
 simp only[Option.bind_some]
 repeat' split
 all_goals exact⟨_,rfl⟩
theorem wY(n:Nat)(s:BS)(hs:s.length<=100000)(hn:200000<=n):∃r,ik n s=some r:=by
 have hl:=ji (L:=ja n s) s.length (fun _ _=>True) (fun _=>True) (by omega) (fun k a i h _=>by
  rw[ja,if_pos (bZ h),if_pos (aO h)]
  simp only[aQ]
  split
  ·exact .inl ⟨_,rfl,trivial⟩
  ·exact .inr ⟨_,trivial,rfl⟩) (fun k a _=>⟨.inl a,by rw[ja,bV];rfl,trivial⟩) n 0 0 (Nat.zero_le _) (by omega) trivial
 obtain⟨r,hr,_⟩:=hl
 have hr:ja n s n 0 0=some r:=hr
 unfold ik
 rw[hr]
 cases r<;>exact⟨_,rfl⟩
theorem QG(n:Nat)(s:BS)(hs:s.length<=100000)(hn:200000<=n):∃r,qN n s=some r:=by
 unfold qN
 by_cases h:11<s.length
 ·have h1:decide (0<=(11:Int)/\(11:Int)<=(List.length s:Int))=true:=decide_eq_true ⟨by omega,by omega⟩
  obtain⟨r,hr⟩:=zx n (List.drop (Int.toNat 11) s) 10 (by simp;omega) hn
  rw[h1,Bool.or_true,if_pos rfl,hr]
  simp only[aQ,if_true,Option.bind_some]
  split<;>exact⟨_,rfl⟩
 ·have h1:decide ((List.length s:Int)>11)=false:=decide_eq_false (by omega)
  rw[h1]
  simp only[aQ,cond_false,Bool.false_eq_true,if_false]
  exact⟨_,rfl⟩
theorem Lj(n:Nat)(s:BS)(hs:s.length<=100000)(hn:200000<=n):∃r:Nat,jb n s n 0=some (r:Int)/\r<=s.length:=by
 have hl:=oP (L:=jb n s) s.length (fun r=>∃m:Nat,r=(m:Int)/\m<=s.length) (by omega) (fun k i h=>by
  rw[jb,if_pos (uD s i)]
  split
  ·exact .inr rfl
  ·exact .inl ⟨_,rfl,i,rfl,by omega⟩) (fun k=>⟨(s.length:Int),by rw[jb,if_pos (uD s s.length),bV];rfl,s.length,rfl,Nat.le_refl _⟩) n 0 (Nat.zero_le _) (by omega)
 obtain⟨r,hr,m,rfl,hm⟩:=hl
 exact⟨m,hr,hm⟩
theorem La(n:Nat)(s:BS)(a:Int)(t:BS)(hs:t.length<=100000)(hn:200000<=n):∃r,iy n s a t n 0=some r:=by
 have hl:=oP (L:=iy n s a t) t.length (fun _=>True) (by omega) (fun k i h=>by
  rw[iy,if_pos (bZ h),if_pos (aO h),aO h,Bool.or_true,if_pos rfl]
  simp only[aQ]
  split
  ·exact .inl ⟨_,rfl,trivial⟩
  ·exact .inr rfl) (fun k=>⟨.inl (),by rw[iy,bV];rfl,trivial⟩) n 0 (Nat.zero_le _) (by omega)
 obtain⟨r,hr,_⟩:=hl
 exact⟨r,hr⟩
theorem wE(n:Nat)(s:BS)(a:Int):∀(k:Nat)(t:BS),3-t.length<k->∃r,iG n s a k t=some r/\r.length<=t.length+3
 |0,t,h=>by omega
 |k+1,t,h=>by
  rw[iG]
  by_cases h3:t.length<3
  ·rw[if_pos (decide_eq_true (by omega)),if_pos (dq (by simp;omega))]
   by_cases h4:t.length=0
   ·obtain⟨r,h1,h2⟩:=wE n s a k (t++[48]) (by simp;omega)
    have:r.length<=3:=by
     have hlen:=milli_l4_len n s a k (t++[48]) r (by simp;omega) h1
     exact hlen
    exact⟨r,h1,by omega⟩
   ·obtain⟨r,h1,h2⟩:=wE n s a k (t++[48]) (by simp;omega)
    have:r.length<=3:=milli_l4_len n s a k (t++[48]) r (by simp;omega) h1
    exact⟨r,h1,by omega⟩
  ·rw[if_neg (by simpa using(by omega:3<=(t.length:Int)))]
   exact⟨t,rfl,by omega⟩
 where
 milli_l4_len (n:Nat) (s:BS) (a:Int):∀(k:Nat)(t r:BS),t.length<=3->iG n s a k t=some r->r.length<=3
 |0,t,r,h,h1=>by cases h1
 |k+1,t,r,h,h1=>by
  rw[iG] at h1
  split at h1
  ·rename_i hd
   have hd:=of_decide_eq_true hd
   split at h1
   ·exact milli_l4_len n s a k _ r (by simp;omega) h1
   ·cases h1
  ·cases h1;exact h
theorem PQ(n:Nat)(s:BS)(hs:s.length<=10000)(hn:200000<=n):∃r,qQ n s=some r:=by
 obtain⟨o,ho,hol⟩:=Lj n s (by omega) hn
 unfold qQ
 rw[ho,Option.bind_some]
 have hle:decide (0<=(o:Int)/\(o:Int)<=(List.length s:Int))=true:=pM hol
 have hrest:∀t:BS,t.length<=10000->∃r,(if(decide (0<=(o:Int)/\(o:Int)<=(List.length s:Int)))=true then((fO n (List.take (Int.toNat (o:Int)) s)).bind fun r3 =>
   if(!r3)=true then(some (0,3))
   else((iy n s (o:Int) t n 0).bind fun o4 =>
   (Sum.elim (fun o4=>(iG n s (o:Int) n t).bind fun o5 =>
   if(decide (0<=(o:Int)/\(o:Int)<=(List.length s:Int)))=true then((ik n (List.take (Int.toNat (o:Int)) s)).bind fun r6 =>
   ((if((decide (r6>9007199254740))==false)=true then ik n o5 else some 0)).bind fun r7 =>
   aQ ((bif (decide (r6>9007199254740)) then true else(decide ((IntKind.wrap .i64 ((IntKind.wrap .i64 (r6*1000))+r7))>9007199254740992))):Bool) fun x8 =>
   if x8=true then(some (0,9))
   else((ik n o5).bind fun r9 =>
   some ((IntKind.wrap .i64 ((IntKind.wrap .i64 (r6*1000))+r9)),0))) else none) (fun o4=>some (o4.1,o4.2))) o4)) else none:Option (Int×Int))=some r:=by
  intro t ht
  obtain⟨b,hb⟩:=wR n (List.take (Int.toNat (o:Int)) s) (by simp;omega) hn
  obtain⟨o4,h4⟩:=La n s (o:Int) t (by omega) hn
  obtain⟨o5,h5,h6⟩:=wE n s (o:Int) n t (by omega)
  obtain⟨r6,h7⟩:=wY n (List.take (Int.toNat (o:Int)) s) (by simp;omega) hn
  obtain⟨r9,h8⟩:=wY n o5 (by omega) hn
  rw[if_pos hle,hb,h4,h5,h7]
  simp only[Option.bind_some,if_pos hle,h8]
  split
  ·exact⟨_,rfl⟩
  ·cases o4 with
   |inr x=>exact⟨_,rfl⟩
   |inl x =>
    simp only[Sum.elim_inl,Option.bind_some,aQ]
    by_cases hc:(decide (r6>9007199254740)==false)=true
    ·rw[if_pos hc,Option.bind_some];split<;>exact⟨_,rfl⟩
    ·rw[if_neg hc,Option.bind_some];split<;>exact⟨_,rfl⟩
 unfold pV
 by_cases hlt:o<s.length
 ·have hd:decide ((o:Int)<(List.length s:Int))=true:=bZ hlt
  have hw:IntKind.wrap .i64 ((o:Int)+1)=((o+1:Nat):Int):=dO o (by omega)
  rw[hd,if_pos rfl,hw,if_pos (pM (by omega))]
  obtain⟨t,ht⟩:∃t,t=List.drop (Int.toNat ((o+1:Nat):Int)) s:=⟨_,rfl⟩
  have htl:t.length<=10000:=by rw[ht];simp;omega
  rw[<-ht]
  have hchk:((!((bif (decide ((List.length t:Int)<1)) then true else(decide ((List.length t:Int)>3)))==false)||decide (0<=(IntKind.wrap .i64 ((List.length t:Int)-1))/\(IntKind.wrap .i64 ((List.length t:Int)-1))<(List.length t:Int))))=true:=by
   by_cases h0:t.length=0
   ·rw[decide_eq_true (show(List.length t:Int)<1 by omega)];rfl
   ·rw[fC _ (by omega) (by omega),decide_eq_true (show 0<=(List.length t:Int)-1/\(List.length t:Int)-1<(List.length t:Int) from⟨by omega,by omega⟩),Bool.or_true]
  rw[if_pos hchk]
  simp only[aQ]
  split
  ·rw[Option.bind_some];exact⟨_,rfl⟩
  ·rw[Option.bind_some]
   have:=hrest t htl
   simpa only[aQ,hle,if_true,Sum.elim_inl] using this
 ·have hd:decide ((o:Int)<(List.length s:Int))=false:=JO (by omega)
  rw[hd,if_neg (by decide),Option.bind_some]
  exact hrest [] (by simp)
theorem Hz(n:Nat)(s:BS)(hs:s.length<=100000)(hn:200000<=n):∃r:Nat,i6 n s n 0=some (r:Int)/\r<=s.length:=by
 have hl:=oP (L:=i6 n s) s.length (fun r=>∃m:Nat,r=(m:Int)/\m<=s.length) (by omega) (fun k i h=>by
  rw[i6,if_pos (uD s i),aO h,Bool.or_true,if_pos rfl]
  simp only[aQ]
  split
  ·exact .inr rfl
  ·exact .inl ⟨_,rfl,i,rfl,by omega⟩) (fun k=>⟨(s.length:Int),by rw[i6,if_pos (uD s s.length),bV];rfl,s.length,rfl,Nat.le_refl _⟩) n 0 (Nat.zero_le _) (by omega)
 obtain⟨r,hr,m,rfl,hm⟩:=hl
 exact⟨m,hr,hm⟩
theorem MR(n:Nat)(s:BS)(hs:s.length<=10000)(hn:200000<=n):∃r,qL n s=some r:=by
 obtain⟨o,ho,hol⟩:=Hz n s (by omega) hn
 have hle:decide (0<=(o:Int)/\(o:Int)<=(List.length s:Int))=true:=pM hol
 obtain⟨b,hb⟩:=wR n (List.take (Int.toNat (o:Int)) s) (by simp;omega) hn
 obtain⟨v,hv⟩:=wY n (List.take (Int.toNat (o:Int)) s) (by simp;omega) hn
 unfold qL
 rw[ho,Option.bind_some,if_pos hle,hle,Bool.or_true,if_pos rfl,hb,hv]
 by_cases hz:(dG (List.drop (Int.toNat (o:Int)) s)==0)=true
 ·rw[hz];exact⟨_,rfl⟩
 ·have hz:(dG (List.drop (Int.toNat (o:Int)) s)==0)=false:=by simpa using hz
  have hz2:(dG (List.drop (Int.toNat (o:Int)) s) != 0)=true:=by simpa using hz
  rw[hz,hz2]
  simp only[Option.bind_some,if_true,beq_self_eq_true,cond_false]
  split
  ·exact⟨_,rfl⟩
  ·split<;>exact⟨_,rfl⟩
theorem KN(n:Nat)(s:BS)(hs:s.length<=100000)(hn:200000<=n):∃r:Nat,jd n s n 0=some (r:Int)/\r<=s.length:=by
 have hl:=oP (L:=jd n s) s.length (fun r=>∃m:Nat,r=(m:Int)/\m<=s.length) (by omega) (fun k i h=>by
  rw[jd,if_pos (uD s i),aO h,Bool.or_true,if_pos rfl]
  simp only[aQ]
  split
  ·exact .inr rfl
  ·exact .inl ⟨_,rfl,i,rfl,by omega⟩) (fun k=>⟨(s.length:Int),by rw[jd,if_pos (uD s s.length),bV];rfl,s.length,rfl,Nat.le_refl _⟩) n 0 (Nat.zero_le _) (by omega)
 obtain⟨r,hr,m,rfl,hm⟩:=hl
 exact⟨m,hr,hm⟩
theorem Gt(t:BS)(a b:Int)(h:b<a)(h0:0<=b):((!((decide ((List.length t:Int)>=a))==true)||decide (0<=b/\b<(List.length t:Int))))=true:=by
 by_cases h1:(List.length t:Int)>=a
 ·rw[decide_eq_true (show 0<=b/\b<(List.length t:Int) from⟨h0,by omega⟩),Bool.or_true]
 ·rw[decide_eq_false h1];rfl
theorem SG(t:BS)(c:Bool):((!((bif (decide ((List.length t:Int)>=2)) then c else false)==true)||decide (0<=(1:Int)/\(1:Int)<(List.length t:Int))))=true:=by
 by_cases h1:(List.length t:Int)>=2
 ·rw[decide_eq_true (show 0<=(1:Int)/\(1:Int)<(List.length t:Int) from⟨by omega,by omega⟩),Bool.or_true]
 ·rw[decide_eq_false h1];rfl
theorem xR{t:BS}{a:Int}{c:Bool}(h:(bif (decide ((List.length t:Int)>=a)) then c else false)=true):(List.length t:Int)>=a:=by
 by_cases h1:(List.length t:Int)>=a
 ·exact h1
 ·rw[decide_eq_false h1] at h;cases h
theorem QO{t:BS}{a:Int}{c d:Bool}(h:(bif (bif (decide ((List.length t:Int)>=a)) then c else false) then d else false)=true):(List.length t:Int)>=a:=by
 apply xR (c:=c)
 cases hx:(bif (decide ((List.length t:Int)>=a)) then c else false) with
 |true=>rfl
 |false=>rw[hx] at h;cases h
theorem QF(n:Nat)(s:BS)(hs:s.length<=10000)(hn:200000<=n):∃r,qB n s=some r/\(r.2.2.2=true->r.1.length<=s.length/\r.2.2.1.length<s.length/\0<=r.2.1/\r.2.1<4):=by
 obtain⟨o,ho,hol⟩:=KN n s (by omega) hn
 have hle:decide (0<=(o:Int)/\(o:Int)<=(List.length s:Int))=true:=pM hol
 obtain⟨b,hb⟩:=wR n (List.take (Int.toNat (o:Int)) s) (by simp;omega) hn
 unfold qB
 rw[ho,Option.bind_some,if_pos hle]
 obtain⟨t,ht⟩:∃t,t=List.drop (Int.toNat (o:Int)) s:=⟨_,rfl⟩
 have htl:t.length<=s.length:=by rw[ht];simp
 have htk:(List.take (Int.toNat (o:Int)) s).length<=s.length:=by simp;omega
 rw[<-ht,hb,if_pos (Gt t 2 0 (by omega) (by omega)),if_pos (SG t _)]
 simp only[aQ,Option.bind_some]
 split
 ·rename_i h
  have h2:=QO h
  rw[if_pos (decide_eq_true (show 0<=(2:Int)/\(2:Int)<=(List.length t:Int) from⟨by omega,h2⟩))]
  refine⟨_,rfl,fun _=>⟨htk,?_,by show(0:Int)<=3;omega,by show(3:Int)<4;omega⟩⟩
  show(List.drop 2 t).length<s.length
  rw[List.length_drop];omega
 ·rw[if_pos (Gt t 1 0 (by omega) (by omega))]
  split
  ·rename_i h
   have h2:=xR h
   rw[if_pos (decide_eq_true (show 0<=(1:Int)/\(1:Int)<=(List.length t:Int) from⟨by omega,h2⟩))]
   refine⟨_,rfl,fun _=>⟨htk,?_,by show(0:Int)<=0;omega,by show(0:Int)<4;omega⟩⟩
   show(List.drop 1 t).length<s.length
   rw[List.length_drop];omega
  ·rw[if_pos (Gt t 1 0 (by omega) (by omega))]
   split
   ·rename_i h
    have h2:=xR h
    rw[if_pos (decide_eq_true (show 0<=(1:Int)/\(1:Int)<=(List.length t:Int) from⟨by omega,h2⟩))]
    refine⟨_,rfl,fun _=>⟨htk,?_,by show(0:Int)<=1;omega,by show(1:Int)<4;omega⟩⟩
    show(List.drop 1 t).length<s.length
    rw[List.length_drop];omega
   ·rw[if_pos (Gt t 1 0 (by omega) (by omega))]
    split
    ·rename_i h
     have h2:=xR h
     rw[if_pos (decide_eq_true (show 0<=(1:Int)/\(1:Int)<=(List.length t:Int) from⟨by omega,h2⟩))]
     refine⟨_,rfl,fun _=>⟨htk,?_,by show(0:Int)<=2;omega,by show(2:Int)<4;omega⟩⟩
     show(List.drop 1 t).length<s.length
     rw[List.length_drop];omega
    ·exact⟨_,rfl,fun h=>by cases h⟩
theorem UY{l:List Int}{i:Int}(hl:l.length=4)(h0:0<=i)(h4:i<4):decide (0<=i/\i<(List.length l:Int))=true:=decide_eq_true ⟨h0,by omega⟩
theorem xX(n:Nat)(hn:200000<=n):∀(k:Nat)(s:BS)(v5:Bool)(v6:Int)(b:List Int),s.length<=10000->s.length<k->b.length=4->∃r,kR n k s v5 v6 b=some r/\∀x,r=.inl x->x.2.length=4
 |0,s,_,_,_,_,h,_=>by omega
 |k+1,s,v5,v6,b,hs,hk,hb=>by
  rw[kR]
  split
  ·obtain⟨g,hg,hg2⟩:=QF n s hs hn
   rw[hg,Option.bind_some]
   simp only[aQ]
   split
   ·exact⟨_,rfl,fun x hx=>by cases hx⟩
   ·rename_i hx
    have hok:g.2.2.2=true:=by
     cases h:g.2.2.2 with
     |true=>rfl
     |false=>rw[h] at hx;exact absurd rfl hx
    obtain⟨g1,g2,g3,g4⟩:=hg2 hok
    obtain⟨v,hv⟩:=wY n g.1 (by omega) hn
    rw[hv,Option.bind_some]
    have hj:∃q,nj n v5 g.2.1 g.2.2.1 v (decide (v>1099511627776)) b=some q:=by
     unfold nj;split<;>exact⟨_,rfl⟩
    obtain⟨q,hq⟩:=hj
    rw[hq,Option.bind_some,if_pos (decide_eq_true (show 0<=g.2.1/\g.2.1<(4:Int) from⟨g3,g4⟩)),if_pos (UY hb g3 g4)]
    exact xX n hn k _ _ _ _ (by omega) (by omega) (by simpa using hb)
  ·exact⟨_,rfl,fun x hx=>by cases hx;exact hb⟩
abbrev lg3:List Int:=[3600000,60000,1000,1]
theorem QH{i:Nat}(h:i<4):((lg3[i]?.getD 0) != 0)=true:=by
 have:i=0\/i=1\/i=2\/i=3:=by omega
 rcases this with rfl|rfl|rfl|rfl<;>rfl
theorem GX(n:Nat)(b:List Int)(v5:Bool)(hb:b.length=4)(hn:200000<=n):∃r,eF n b lg3 n v5 0 0=some r:=by
 have hl:=ji (L:=fun k (s:Bool×Int) i=>eF n b lg3 k s.1 s.2 i) 4 (fun _ _=>True) (fun _=>True) (by omega) (fun k s i h _=>by
  have h4:decide (0<=(i:Int)/\(i:Int)<(4:Int))=true:=decide_eq_true ⟨by omega,by omega⟩
  have hb4:decide (0<=(i:Int)/\(i:Int)<(List.length b:Int))=true:=aO (by omega)
  have hc4:decide (0<=(i:Int)/\(i:Int)<(List.length lg3:Int))=true:=aO (l:=lg3) (by show i<4;omega)
  have hz:=QH h
  show(∃r,eF n b lg3 (k+1) s.1 s.2 (i:Int)=some r/\True)\/∃s':Bool×Int,True/\eF n b lg3 (k+1) s.1 s.2 (i:Int)=eF n b lg3 k s'.1 s'.2 (IntKind.wrap .i64 ((i:Int)+1))
  rw[eF,if_pos (decide_eq_true (by omega))]
  unfold qf pZ
  rw[if_pos h4,if_pos hb4,if_pos hc4,Int.toNat_natCast,if_pos hz]
  right
  split
  ·exact⟨(true,s.2),trivial,by simp⟩
  ·rw[Option.bind_some]
   split
   ·exact⟨(_,_),trivial,rfl⟩
   ·exact⟨(_,_),trivial,rfl⟩) (fun k s _=>⟨s,by show eF n b lg3 (k+1) s.1 s.2 (4:Int)=some s;rw[eF];rfl,trivial⟩) n 0 (v5,0) (Nat.zero_le _) (by omega) trivial
 obtain⟨r,hr,_⟩:=hl
 exact⟨r,hr⟩
theorem M5(n:Nat)(s:BS)(hs:s.length<=10000)(hn:200000<=n):∃r,qO n s=some r:=by
 unfold qO
 split
 ·exact⟨_,rfl⟩
 ·obtain⟨r,hr,hr2⟩:=xX n hn n s false (-1) (List.replicate 4 0) hs (by omega) rfl
  rw[hr,Option.bind_some]
  cases r with
  |inr x=>exact⟨_,rfl⟩
  |inl x =>
   have hlg:ox n=some lg3:=rfl
   obtain⟨q,hq⟩:=GX n x.2 x.1 (hr2 x rfl) hn
   simp only[Sum.elim_inl]
   rw[hlg,Option.bind_some,if_pos (by rfl),hq,Option.bind_some]
   split<;>exact⟨_,rfl⟩
theorem oC(n:Nat)(s:BS)(hn:200000<=n):∃b,il n s=some b/\(b=true->1<=s.length/\s.length<=24):=by
 unfold il
 by_cases hc:(bif (decide ((List.length s:Int)<1)) then true else(decide ((List.length s:Int)>24)))=true
 ·rw[if_pos hc];exact⟨false,rfl,fun h=>by cases h⟩
 ·rw[if_neg hc]
  have hlen:1<=s.length/\s.length<=24:=by
   by_cases h0:(List.length s:Int)<1
   ·rw[decide_eq_true h0] at hc;exact absurd rfl hc
   ·by_cases h1:(List.length s:Int)>24
    ·rw[decide_eq_false h0,decide_eq_true h1] at hc;exact absurd rfl hc
    ·omega
  have hl:=oP (L:=ie n s) s.length (fun _=>True) (by omega) (fun k i h=>by
   rw[ie,if_pos (bZ h),if_pos (aO h)]
   simp only[aQ]
   split
   ·exact .inl ⟨_,rfl,trivial⟩
   ·exact .inr rfl) (fun k=>⟨.inl (),by rw[ie,bV];rfl,trivial⟩) n 0 (Nat.zero_le _) (by omega)
  obtain⟨r,hr,_⟩:=hl
  have hr:ie n s n 0=some r:=hr
  rw[hr,Option.bind_some]
  cases r with
  |inl x=>exact⟨true,rfl,fun _=>hlen⟩
  |inr x=>exact⟨x,rfl,fun _=>hlen⟩
theorem KA(n:Nat)(s:BS)(hn:200000<=n):∃b,mJ n s=some b/\(b=true->1<=s.length/\s.length<=24):=by
 unfold mJ
 by_cases hc:(bif (decide ((List.length s:Int)<1)) then true else(decide ((List.length s:Int)>24)))=true
 ·rw[if_pos hc];exact⟨false,rfl,fun h=>by cases h⟩
 ·rw[if_neg hc]
  have hlen:1<=s.length/\s.length<=24:=by
   by_cases h0:(List.length s:Int)<1
   ·rw[decide_eq_true h0] at hc;exact absurd rfl hc
   ·by_cases h1:(List.length s:Int)>24
    ·rw[decide_eq_false h0,decide_eq_true h1] at hc;exact absurd rfl hc
    ·omega
  have hl:=oP (L:=gK n s) s.length (fun _=>True) (by omega) (fun k i h=>by
   rw[gK,if_pos (bZ h),if_pos (aO h)]
   simp only[aQ]
   split
   ·exact .inl ⟨_,rfl,trivial⟩
   ·exact .inr rfl) (fun k=>⟨.inl (),by rw[gK,bV];rfl,trivial⟩) n 0 (Nat.zero_le _) (by omega)
  obtain⟨r,hr,_⟩:=hl
  have hr:gK n s n 0=some r:=hr
  rw[hr,Option.bind_some]
  cases r with
  |inl x=>exact⟨true,rfl,fun _=>hlen⟩
  |inr x=>exact⟨x,rfl,fun _=>hlen⟩
theorem LX(n:Nat)(s:BS)(hn:200000<=n):∃b,od n s=some b:=by
 unfold od
 by_cases hc:(bif (decide ((List.length s:Int)<1)) then true else(decide ((List.length s:Int)>24)))=true
 ·rw[if_pos hc];exact⟨false,rfl⟩
 ·rw[if_neg hc]
  have hlen:s.length<=24:=by
   by_cases h0:(List.length s:Int)<1
   ·omega
   ·by_cases h1:(List.length s:Int)>24
    ·rw[decide_eq_false h0,decide_eq_true h1] at hc;exact absurd rfl hc
    ·omega
  have hl:=oP (L:=ic n s) s.length (fun _=>True) (by omega) (fun k i h=>by
   rw[ic,if_pos (bZ h),if_pos (aO h)]
   simp only[aQ]
   split
   ·exact .inl ⟨_,rfl,trivial⟩
   ·exact .inr rfl) (fun k=>⟨.inl (),by rw[ic,bV];rfl,trivial⟩) n 0 (Nat.zero_le _) (by omega)
  obtain⟨r,hr,_⟩:=hl
  have hr:ic n s n 0=some r:=hr
  rw[hr,Option.bind_some]
  cases r<;>exact⟨_,rfl⟩
theorem Gn(n:Nat)(s:BS)(hn:200000<=n):∃b,pQ n s=some b/\(b=true->1<=s.length/\s.length<=64):=by
 unfold pQ
 by_cases hc:(bif (decide ((List.length s:Int)<1)) then true else(decide ((List.length s:Int)>64)))=true
 ·rw[if_pos hc];exact⟨false,rfl,fun h=>by cases h⟩
 ·rw[if_neg hc]
  have hlen:1<=s.length/\s.length<=64:=by
   by_cases h0:(List.length s:Int)<1
   ·rw[decide_eq_true h0] at hc;exact absurd rfl hc
   ·by_cases h1:(List.length s:Int)>64
    ·rw[decide_eq_false h0,decide_eq_true h1] at hc;exact absurd rfl hc
    ·omega
  have hl:=oP (L:=jP n s) s.length (fun _=>True) (by omega) (fun k i h=>by
   rw[jP,if_pos (bZ h),if_pos (aO h),aO h,Bool.or_true,if_pos rfl]
   simp only[aQ]
   split
   ·exact .inl ⟨_,rfl,trivial⟩
   ·exact .inr rfl) (fun k=>⟨.inl (),by rw[jP,bV];rfl,trivial⟩) n 0 (Nat.zero_le _) (by omega)
  obtain⟨r,hr,_⟩:=hl
  have hr:jP n s n 0=some r:=hr
  rw[hr,Option.bind_some]
  cases r with
  |inl x=>exact⟨true,rfl,fun _=>hlen⟩
  |inr x=>exact⟨x,rfl,fun _=>hlen⟩
theorem um(n:Nat)(s:BS)(hs:s.length<=10000):∀(k i a:Nat),i<=s.length+1->s.length+1-i<k->a<=i->∃r,jy n s k (a:Int) (i:Int)=some r
 |0,i,a,_,h,_=>by omega
 |k+1,i,a,h1,h2,h3=>by
  rw[jy]
  by_cases h:i<=s.length
  ·rw[if_pos (decide_eq_true (by omega))]
   unfold oO
   rw[if_pos (uD s i)]
   split
   ·simp only[Option.bind_some,Sum.elim_inl]
    rw[dO i (by omega)]
    exact um n s hs k (i+1) a (by omega) (by omega) (by omega)
   ·rw[if_pos (pM h),if_pos (wQ h3)]
    simp only[aQ]
    split
    ·exact⟨_,rfl⟩
    ·simp only[Option.bind_some,Sum.elim_inl]
     rw[dO i (by omega)]
     exact um n s hs k (i+1) (i+1) (by omega) (by omega) (by omega)
  ·rw[if_neg (by simpa using(by omega:(List.length s:Int)<(i:Int)))]
   exact⟨_,rfl⟩
theorem KJ(n:Nat)(s:BS)(hs:s.length<=10000)(hn:200000<=n):∃b,pL n s=some b/\(b=true->s.length<=64):=by
 obtain⟨p,hp,hp2⟩:=Gn n s hn
 unfold pL
 rw[hp,Option.bind_some]
 have hc:((!((!p)==false)||decide (0<=(0:Int)/\(0:Int)<(List.length s:Int))))=true:=by
  cases p with
  |false=>rfl
  |true=>have:=hp2 rfl;rw[decide_eq_true (show 0<=(0:Int)/\(0:Int)<(List.length s:Int) from⟨by omega,by omega⟩),Bool.or_true]
 rw[if_pos hc]
 split
 ·exact⟨_,rfl,fun h=>by cases h⟩
 ·rename_i hx
  have hpt:p=true:=by
   cases p with
   |true=>rfl
   |false=>exact absurd rfl hx
  have hl:=(hp2 hpt).2
  split
  ·exact⟨_,rfl,fun _=>hl⟩
  ·obtain⟨r,hr⟩:=um n s hs n 1 1 (by omega) (by omega) (Nat.le_refl _)
   have hr:jy n s n 1 1=some r:=hr
   rw[hr,Option.bind_some]
   cases r with
   |inl x=>exact⟨_,rfl,fun _=>hl⟩
   |inr x=>exact⟨_,rfl,fun _=>hl⟩
theorem xI(n:Nat)(m:aL)(h1:m.aZ.length<=10000)(h2:m.cY.length<=10000)(hn:200000<=n):∃b,mD n m=some b/\(b=true->m.aZ.length<=64/\m.cY.length<=64):=by
 obtain⟨t,ht,ht2⟩:=KJ n m.cY h2 hn
 obtain⟨sv,hsv,hsv2⟩:=oC n m.aZ hn
 obtain⟨p,hp,hp2⟩:=Gn n m.aZ hn
 unfold mD
 rw[ht,Option.bind_some]
 cases t with
 |false=>exact⟨false,rfl,fun h=>by cases h⟩
 |true =>
  rw[if_neg (by decide),hsv]
  have hb:∃q,(if(((List.length m.aZ:Int)==0)==false)=true then some sv else some false)=some q/\(q=true->m.aZ.length<=64):=by
   split
   ·exact⟨sv,rfl,fun h=>by have:=(hsv2 h).2;omega⟩
   ·exact⟨false,rfl,fun h=>by cases h⟩
  obtain⟨q,hq,hq2⟩:=hb
  rw[hq,Option.bind_some]
  split
  ·rename_i hx
   refine⟨true,rfl,fun _=>⟨?_,ht2 rfl⟩⟩
   by_cases h0:(List.length m.aZ:Int)=0
   ·omega
   ·have:((List.length m.aZ:Int)==0)=false:=beq_eq_false_iff_ne.2 h0
    rw[this] at hx
    exact hq2 hx
  ·rw[hp,Option.bind_some]
   have hc1:((!(p==true)||decide (0<=(0:Int)/\(0:Int)<(List.length m.aZ:Int))))=true:=by
    cases p with
    |false=>rfl
    |true=>have:=hp2 rfl;rw[decide_eq_true (show 0<=(0:Int)/\(0:Int)<(List.length m.aZ:Int) from⟨by omega,by omega⟩),Bool.or_true]
   have hc2:((!((((((m.aZ)[Int.toNat 0]?.getD 0).toNat:Int)==47)==false)&&(p==true))||decide (0<=(0:Int)/\(0:Int)<(List.length m.aZ:Int))))=true:=by
    cases p with
    |false=>simp
    |true=>have:=hp2 rfl;rw[decide_eq_true (show 0<=(0:Int)/\(0:Int)<(List.length m.aZ:Int) from⟨by omega,by omega⟩),Bool.or_true]
   rw[if_pos hc1,if_pos hc2]
   refine⟨_,rfl,fun h=>⟨?_,ht2 rfl⟩⟩
   cases p with
   |false=>cases h
   |true=>exact(hp2 rfl).2
theorem Hw(n:Nat)(s:BS)(b c:aL)(hs:s.length<=10000)(hn:200000<=n):∃r,dX n s b c n (-1) 0 0=some r/\((r.1=-1/\r.2=0)\/∃m:Nat,r.1=(m:Int)/\m<s.length/\1<=r.2):=by
 have hl:=ji (L:=fun k (x:Int×Int) i=>dX n s b c k x.1 x.2 i) s.length (fun i x=>(x.1=-1/\x.2=0)\/∃m:Nat,x.1=(m:Int)/\m<s.length/\1<=x.2/\x.2<=(i:Int)) (fun r=>(r.1=-1/\r.2=0)\/∃m:Nat,r.1=(m:Int)/\m<s.length/\1<=r.2) (by omega) (fun k x i h hI=>by
  show(∃r,dX n s b c (k+1) x.1 x.2 (i:Int)=some r/\_)\/∃s':Int×Int,_/\dX n s b c (k+1) x.1 x.2 (i:Int)=dX n s b c k s'.1 s'.2 (IntKind.wrap .i64 ((i:Int)+1))
  right
  rw[dX,if_pos (bZ h)]
  unfold pR
  rw[if_pos (aO h)]
  split
  ·refine⟨((i:Int),IntKind.wrap .i64 (x.2+1)),?_,rfl⟩
   have hw:IntKind.wrap .i64 (x.2+1)=x.2+1:=by
    rcases hI with⟨_,h2⟩|⟨m,_,_,h2,h3⟩
    ·rw[h2];rfl
    ·exact fC _ (by omega) (by omega)
   refine .inr ⟨i,rfl,h,?_,?_⟩
   ·show 1<=IntKind.wrap .i64 (x.2+1)
    rw[hw];rcases hI with⟨_,h2⟩|⟨m,_,_,h2,h3⟩<;>omega
   ·show IntKind.wrap .i64 (x.2+1)<=((i+1:Nat):Int)
    rw[hw];rcases hI with⟨_,h2⟩|⟨m,_,_,h2,h3⟩<;>omega
  ·refine⟨(x.1,x.2),?_,rfl⟩
   rcases hI with hI|⟨m,h1,h2,h3,h4⟩
   ·exact .inl hI
   ·exact .inr ⟨m,h1,h2,h3,by show x.2<=((i+1:Nat):Int);omega⟩) (fun k x hI=>⟨x,by show dX n s b c (k+1) x.1 x.2 (s.length:Int)=some x;rw[dX,bV];rfl,hI.imp id fun⟨m,h1,h2,h3,_⟩=>⟨m,h1,h2,h3⟩⟩) n 0 (-1,0) (Nat.zero_le _) (by omega) (.inl ⟨rfl,rfl⟩)
 exact hl
theorem MC(n:Nat)(s:BS)(hs:s.length<=10000)(hn:200000<=n):∃r,qJ n s=some r/\r.1.aZ.length<=10000/\r.1.cY.length<=10000:=by
 unfold qJ
 have hc:∀c:Bool,(!c||decide (0<=(IntKind.wrap .i64 ((List.length s:Int)-3))/\(IntKind.wrap .i64 ((List.length s:Int)-3))<=(List.length s:Int)))=true\/c=true/\s.length<3:=by
  intro c
  by_cases h:3<=s.length
  ·left
   rw[fC _ (by omega) (by omega),decide_eq_true (show 0<=(List.length s:Int)-3/\(List.length s:Int)-3<=(List.length s:Int) from⟨by omega,by omega⟩),Bool.or_true]
  ·cases c with
   |false=>exact .inl rfl
   |true=>exact .inr ⟨rfl,by omega⟩
 have hc1:((!((decide ((List.length s:Int)>=3))==true)||decide (0<=(IntKind.wrap .i64 ((List.length s:Int)-3))/\(IntKind.wrap .i64 ((List.length s:Int)-3))<=(List.length s:Int))))=true:=by
  rcases hc (decide ((List.length s:Int)>=3)==true) with h|⟨h,h3⟩
  ·exact h
  ·rw[beq_iff_eq] at h;have:=of_decide_eq_true h;omega
 rw[if_pos hc1]
 rw[if_pos (show(!((((List.drop (Int.toNat (IntKind.wrap .i64 ((List.length s:Int)-3))) s)==uT)==false)&&((decide ((List.length s:Int)>=3))==true))||decide (0<=(IntKind.wrap .i64 ((List.length s:Int)-3))/\(IntKind.wrap .i64 ((List.length s:Int)-3))<=(List.length s:Int)))=true by
  rcases hc ((((List.drop (Int.toNat (IntKind.wrap .i64 ((List.length s:Int)-3))) s)==uT)==false)&&((decide ((List.length s:Int)>=3))==true)) with h|⟨h,h3⟩
  ·exact h
  ·rw[Bool.and_eq_true] at h
   have h2:=h.2
   rw[beq_iff_eq] at h2;have:=of_decide_eq_true h2;omega)]
 simp only[aQ]
 have hj:∃q,mO n s (List.length s:Int) (bif (decide ((List.length s:Int)>=3)) then(bif ((List.drop (Int.toNat (IntKind.wrap .i64 ((List.length s:Int)-3))) s)==uT) then true else((List.drop (Int.toNat (IntKind.wrap .i64 ((List.length s:Int)-3))) s)==[58,114,119])) else false) (aL.mk [] [] false) (aL.mk [] [] false)=some q/\q.1.length<=s.length/\q.2.aZ=[]:=by
  unfold mO
  split
  ·rename_i h
   have h3:3<=s.length:=by have:=xR h;omega
   rw[fC _ (by omega) (by omega),fC _ (by omega) (by omega),if_pos (decide_eq_true (show 0<=(List.length s:Int)-1/\(List.length s:Int)-1<(List.length s:Int) from⟨by omega,by omega⟩)),if_pos (decide_eq_true (show 0<=(List.length s:Int)-3/\(List.length s:Int)-3<=(List.length s:Int) from⟨by omega,by omega⟩))]
   exact⟨_,rfl,by show(List.take _ s).length<=s.length;simp;omega,rfl⟩
  ·exact⟨_,rfl,Nat.le_refl _,rfl⟩
 obtain⟨q,hq,hq1,hq2⟩:=hj
 rw[hq,Option.bind_some]
 obtain⟨r,hr,hr2⟩:=Hw n q.1 (aL.mk [] [] false) q.2 (by omega) hn
 rw[hr,Option.bind_some]
 split
 ·exact⟨_,rfl,Nat.zero_le _,Nat.zero_le _⟩
 ·have hj4:∃m,np n q.1 r.1 (r.2==1) (aL.mk [] [] false) q.2=some m/\m.aZ.length<=s.length:=by
   unfold np
   split
   ·rename_i h1
    rw[beq_iff_eq] at h1
    rcases hr2 with⟨_,h2⟩|⟨m,h2,h3,_⟩
    ·omega
    ·rw[h2,if_pos (pM (by omega))]
     exact⟨_,rfl,by show(List.take _ q.1).length<=_;simp;omega⟩
   ·exact⟨_,rfl,by rw[hq2];exact Nat.zero_le _⟩
  obtain⟨m,hm,hm2⟩:=hj4
  rw[hm,Option.bind_some]
  have hw:∃u:Nat,IntKind.wrap .i64 (r.1+1)=(u:Int)/\u<=q.1.length:=by
   rcases hr2 with⟨h1,_⟩|⟨m,h1,h2,_⟩
   ·exact⟨0,by rw[h1];rfl,Nat.zero_le _⟩
   ·exact⟨m+1,by rw[h1];exact dO m (by omega),by omega⟩
  obtain⟨u,hu,hu2⟩:=hw
  rw[hu,if_pos (pM hu2)]
  obtain⟨b,hb,_⟩:=xI n (aL.mk m.aZ (List.drop (Int.toNat (u:Int)) q.1) m.gk) (by show m.aZ.length<=_;omega) (by show(List.drop _ q.1).length<=_;simp;omega) hn
  rw[hb,Option.bind_some]
  split
  ·exact⟨_,rfl,Nat.zero_le _,Nat.zero_le _⟩
  ·exact⟨_,rfl,by show m.aZ.length<=_;omega,by show(List.drop _ q.1).length<=_;simp;omega⟩
theorem N2(n:Nat)(m:aL)(h1:m.aZ.length<=10000)(h2:m.cY.length<=10000)(hn:200000<=n):∃t,tW n m=some t/\t.length<=200:=by
 obtain⟨b,hb,hb2⟩:=xI n m h1 h2 hn
 unfold tW
 rw[hb,Option.bind_some]
 cases b with
 |false=>exact⟨[],rfl,by simp⟩
 |true =>
  obtain⟨h3,h4⟩:=hb2 rfl
  have hj:∃t,nZ n m.cY (decide ((List.length m.aZ:Int)>0)) m=some t/\t.length<=130:=by
   unfold nZ
   split
   ·rw[if_pos (dq (by simp;omega)),if_pos (dq (by simp;omega))]
    exact⟨_,rfl,by simp;omega⟩
   ·exact⟨_,rfl,by omega⟩
  obtain⟨t,ht,ht2⟩:=hj
  rw[if_neg (by decide),ht,Option.bind_some]
  unfold rf
  split
  ·rw[if_pos (dq (by simp;omega)),Option.bind_some]
   exact⟨_,rfl,by simp;omega⟩
  ·rw[Option.bind_some];exact⟨_,rfl,by omega⟩
theorem vt(x:Int)(h1:0<=x)(h2:x<18446744073709551616):IntKind.wrap .u64 x=x:=by
 simp only[IntKind.wrap,IntKind.bits,IntKind.signed,Bool.false_and,Bool.false_eq_true,if_false,show((2:Int) ^ 64)=18446744073709551616 from rfl]
 omega
def dig(b:UInt8):Bool:=decide (48<=b.toNat/\b.toNat<=57)
def yu(b:UInt8):Nat:=b.toNat-48
def vl:Nat->BS->Nat
 |a,[]=>a
 |a,b::t=>vl (a*10+yu b) t
def isNum(s:BS):Bool:=match s with|[]=>false|b::t=>dig b&&t.all dig&&(t.isEmpty||!(b==48))
def pN(s:BS)(most:Nat):Int×Int:=if isNum s=true then(if vl 0 s<=most then((vl 0 s:Nat),0) else(0,9)) else(0,3)
theorem Jj:∀(t:BS)(a:Nat),a*10 ^ t.length<=vl a t
 |[],a=>by rw[List.length_nil,Nat.pow_zero,Nat.mul_one];exact Nat.le_refl a
 |b::t,a=>by
  have:=Jj t (a*10+yu b)
  unfold vl
  rw[List.length_cons,Nat.pow_succ]
  refine Nat.le_trans ?_ this
  generalize 10 ^ t.length=p
  rw[Nat.add_mul,Nat.mul_assoc,Nat.mul_comm 10 p]
  exact Nat.le_add_right _ _
theorem I7{s:BS}(h:isNum s=true):∀b∈s,dig b=true:=by
 unfold isNum at h
 cases s with
 |nil=>cases h
 |cons b t =>
  simp only[Bool.and_eq_true] at h
  intro x hx
  rcases List.mem_cons.1 hx with rfl|hx
  ·exact h.1.1
  ·exact List.all_eq_true.1 h.1.2 x hx
theorem N8{s:BS}(h:isNum s=true)(hl:19<s.length):10 ^ 18<vl 0 s:=by
 unfold isNum at h
 cases s with
 |nil=>cases h
 |cons b t =>
  simp only[Bool.and_eq_true,Bool.or_eq_true,Bool.not_eq_true',beq_eq_false_iff_ne] at h
  obtain⟨⟨h1,h2⟩,h3⟩:=h
  have hb:b≠48:=by
   rcases h3 with h3|h3
   ·rw[List.isEmpty_iff] at h3;subst h3;simp at hl
   ·exact h3
  have hd:1<=yu b:=by
   unfold dig at h1
   have h1:=of_decide_eq_true h1
   have:b.toNat≠48:=fun e=>hb (by rw[<-UInt8.toNat_inj];exact e)
   unfold yu;omega
  unfold vl
  have h4:=Jj t (0*10+yu b)
  have h5:10 ^ 19<=10 ^ t.length:=Nat.pow_le_pow_right (by decide) (by simp at hl;omega)
  have h6:10 ^ t.length<=(0*10+yu b)*10 ^ t.length:=Nat.le_mul_of_pos_left _ (by omega)
  have h7:(10:Nat) ^ 18<10 ^ 19:=by decide
  omega
def bt(k:Nat):UInt8:=UInt8.ofNat (48+k)
def dg:Nat->Nat->BS->BS
 |0,u,acc=>bt u::acc
 |f+1,u,acc=>if u<10 then bt u::acc else dg f (u / 10) (bt (u % 10)::acc)
theorem Ly:∀(f u:Nat)(acc:BS),(dg f u acc).length<=f+1+acc.length
 |0,u,acc=>by simp[dg];omega
 |f+1,u,acc=>by
  unfold dg
  split
  ·simp;omega
  ·have:=Ly f (u / 10) (bt (u % 10)::acc);simp at this;omega
theorem UI{u:Nat}:IntKind.wrap .u8 (IntKind.wrap .u64 (48+Int.tmod ((u:Nat):Int) 10))=((48+u % 10:Nat):Int)/\(decide (0<=((48+u % 10:Nat):Int)/\((48+u % 10:Nat):Int)<256))=true/\UInt8.ofNat (Int.toNat ((48+u % 10:Nat):Int))=bt (u % 10):=by
 have e:Int.tmod ((u:Nat):Int) 10=((u % 10:Nat):Int):=by rw[Int.tmod_eq_emod_of_nonneg (by omega)];omega
 refine⟨?_,decide_eq_true (by omega),by rw[tn];rfl⟩
 rw[e,vt _ (by omega) (by omega)]
 simp only[IntKind.wrap,IntKind.bits,IntKind.signed,Bool.false_and,Bool.false_eq_true,if_false,show((2:Int) ^ 8)=256 from rfl]
 omega
theorem UT{u:Nat}(h:u<18446744073709551616):IntKind.wrap .u64 (Int.tdiv ((u:Nat):Int) 10)=((u / 10:Nat):Int):=by
 rw[Int.tdiv_eq_ediv_of_nonneg (by omega),vt _ (by omega) (by omega)];omega
theorem UJ{n:Nat}:∀(f u:Nat)(acc:BS)(k:Nat),u<10 ^ (f+1)->u<18446744073709551616->f<k->acc.length+f<=1000->∃(v:Nat)(r:BS),jA n k (u:Int) acc=some ((v:Int),r)/\v<10/\bt v::r=dg f u acc/\r.length<=acc.length+f
 |0,u,acc,k+1,h,hu,_,_=>by
  have hu:u<10:=by simpa using h
  refine⟨u,acc,?_,hu,rfl,by omega⟩
  rw[jA,decide_eq_false (by omega:¬(u:Int)>=10),if_neg Bool.false_ne_true]
 |f+1,u,acc,k+1,h,hu,hk,hl=>by
  rw[jA]
  by_cases h10:u<10
  ·refine⟨u,acc,?_,h10,by rw[dg,if_pos h10],by omega⟩
   rw[decide_eq_false (by omega:¬(u:Int)>=10),if_neg Bool.false_ne_true]
  ·obtain⟨e1,e2,e3⟩:=UI (u:=u)
   have e4:decide (((List.length ([bt (u % 10)]:BS)+List.length acc:Nat):Int)<=9223372036854775807)=true:=dq (by simp;omega)
   rw[decide_eq_true (by omega:(u:Int)>=10),if_pos rfl,if_pos (by decide),e1,if_pos e2,e3,if_pos e4,if_pos (by decide),UT hu]
   obtain⟨v,r,h1,h2,h3,h4⟩:=UJ f (u / 10) ([bt (u % 10)]++acc) k (by rw[Nat.pow_succ] at h;omega) (by omega) (by omega) (by simp;omega)
   exact⟨v,r,h1,h2,by rw[dg,if_neg h10];exact h3,by simp at h4;omega⟩
theorem K4(n u:Nat)(hu:u<9223372036854775808)(hn:100<=n):ft n (u:Int)=some (dg 19 u []):=by
 unfold ft pH
 rw[decide_eq_false (by omega:¬(u:Int)<0),if_neg Bool.false_ne_true,vt _ (by omega) (by omega)]
 have e20:(10:Nat) ^ (19+1)=100000000000000000000:=by decide
 obtain⟨v,r,h1,h2,h3,h4⟩:=UJ (n:=n) 19 u [] n (by omega) (by omega) (by omega) (by decide)
 rw[h1]
 simp only[Option.bind_some]
 have e:IntKind.wrap .u8 (IntKind.wrap .u64 (48+((v:Nat):Int)))=((48+v:Nat):Int):=by
  rw[vt _ (by omega) (by omega)]
  simp only[IntKind.wrap,IntKind.bits,IntKind.signed,Bool.false_and,Bool.false_eq_true,if_false,show((2:Int) ^ 8)=256 from rfl]
  omega
 rw[e,if_pos (decide_eq_true (by omega)),tn,if_pos (dq (by simp at h4 ⊢;omega))]
 simp only[Option.bind_some]
 rw[<-h3];rfl
theorem yB(n:Nat)(u:Int)(h0:0<=u)(hu:u<9223372036854775808)(hn:200000<=n):∃t,ft n u=some t/\t.length<=20:=by
 obtain⟨m,rfl⟩:=Int.eq_ofNat_of_zero_le h0
 refine⟨_,K4 n m (by omega) (by omega),?_⟩
 have:=Ly 19 m []
 simpa using this
theorem Oj(n:Nat)(x:Int)(hn:200000<=n):∃t,tM n x=some t/\t.length<=21:=by
 have hU:∃u,tf n x=some u/\(u=0\/((u=1\/u=1024\/u=1048576\/u=1073741824)/\0<=x/\x<=1125899906842624)):=by
  unfold tf
  by_cases hc:(bif (decide (x<0)) then true else(decide (x>1125899906842624)))=true
  ·rw[if_pos hc];exact⟨0,rfl,.inl rfl⟩
  ·have hx:0<=x/\x<=1125899906842624:=by
    by_cases h1:x<0
    ·rw[decide_eq_true h1] at hc;exact absurd rfl hc
    ·by_cases h2:x>1125899906842624
     ·rw[decide_eq_false h1,decide_eq_true h2] at hc;exact absurd rfl hc
     ·omega
   rw[if_neg hc,if_pos (by simp)]
   split
   ·exact⟨1,rfl,.inr ⟨.inl rfl,hx⟩⟩
   ·rw[if_pos (by rfl)]
    split
    ·exact⟨1024,rfl,.inr ⟨.inr (.inl rfl),hx⟩⟩
    ·rw[if_pos (by rfl)]
     split
     ·exact⟨1048576,rfl,.inr ⟨.inr (.inr (.inl rfl)),hx⟩⟩
     ·exact⟨1073741824,rfl,.inr ⟨.inr (.inr (.inr rfl)),hx⟩⟩
 obtain⟨u,hu,hu2⟩:=hU
 unfold tM
 rw[hu,Option.bind_some]
 rcases hu2 with rfl|⟨hu3,h0,h1⟩
 ·exact⟨[],rfl,by simp⟩
 ·obtain⟨m,rfl⟩:=Int.eq_ofNat_of_zero_le h0
  have key:∀w:Nat,1<=w->∃t,ft n (IntKind.wrap .i64 (Int.tdiv (m:Int) (w:Int)))=some t/\t.length<=20:=by
   intro w hw
   have hd:Int.tdiv (m:Int) (w:Int)=((m / w:Nat):Int):=rfl
   have hle:m / w<=m:=Nat.div_le_self m w
   obtain⟨q,hq⟩:∃q,q=m / w:=⟨_,rfl⟩
   rw[hd,<-hq,fC _ (by omega) (by omega)]
   exact yB n _ (by omega) (by omega) hn
  rcases hu3 with rfl|rfl|rfl|rfl
  ·obtain⟨t,ht,ht2⟩:=key 1 (by omega)
   have ht:ft n (IntKind.wrap .i64 (Int.tdiv (m:Int) 1))=some t:=ht
   rw[ht];exact⟨t,rfl,by omega⟩
  ·obtain⟨t,ht,ht2⟩:=key 1024 (by omega)
   have ht:ft n (IntKind.wrap .i64 (Int.tdiv (m:Int) 1024))=some t:=ht
   rw[ht]
   refine⟨t++[107],?_,by simp;omega⟩
   have:=dq (a:=t.length) (b:=([107]:BS).length) (by simp;omega)
   rw[if_neg (by decide),if_pos (by decide),Option.bind_some,if_pos (by decide),if_pos this]
  ·obtain⟨t,ht,ht2⟩:=key 1048576 (by omega)
   have ht:ft n (IntKind.wrap .i64 (Int.tdiv (m:Int) 1048576))=some t:=ht
   rw[ht]
   refine⟨t++[109],?_,by simp;omega⟩
   have:=dq (a:=t.length) (b:=([109]:BS).length) (by simp;omega)
   rw[if_neg (by decide),if_pos (by decide),Option.bind_some,if_neg (by decide),if_pos (by decide),if_pos this]
  ·obtain⟨t,ht,ht2⟩:=key 1073741824 (by omega)
   have ht:ft n (IntKind.wrap .i64 (Int.tdiv (m:Int) 1073741824))=some t:=ht
   rw[ht]
   refine⟨t++[103],?_,by simp;omega⟩
   have:=dq (a:=t.length) (b:=([103]:BS).length) (by simp;omega)
   rw[if_neg (by decide),if_pos (by decide),Option.bind_some,if_neg (by decide),if_neg (by decide),if_pos (by decide),if_pos this]
abbrev nm3:List BS:=[[104],[109],[115],[109,115]]
theorem SX{i:Nat}(h:i<4):∃w:Nat,(lg3[i]?.getD 0)=(w:Int)/\1<=w:=by
 have:i=0\/i=1\/i=2\/i=3:=by omega
 rcases this with rfl|rfl|rfl|rfl
 ·exact⟨3600000,rfl,by omega⟩
 ·exact⟨60000,rfl,by omega⟩
 ·exact⟨1000,rfl,by omega⟩
 ·exact⟨1,rfl,by omega⟩
theorem TA{i:Nat}(h:i<4):(nm3[i]?.getD []).length<=2:=by
 have:i=0\/i=1\/i=2\/i=3:=by omega
 rcases this with rfl|rfl|rfl|rfl<;>decide
theorem OP(n:Nat)(x:Int)(hn:200000<=n):∃t,sr n x=some t/\t.length<=100:=by
 unfold sr
 by_cases hc:(bif (decide (x<0)) then true else(decide (x>1099511627776)))=true
 ·rw[if_pos hc];exact⟨[],rfl,by simp⟩
 ·have hx:0<=x/\x<=1099511627776:=by
   by_cases h1:x<0
   ·rw[decide_eq_true h1] at hc;exact absurd rfl hc
   ·by_cases h2:x>1099511627776
    ·rw[decide_eq_false h1,decide_eq_true h2] at hc;exact absurd rfl hc
    ·omega
  rw[if_neg hc]
  split
  ·exact⟨_,rfl,by decide⟩
  ·have hlg:ox n=some lg3:=rfl
   have hnm:uJ n=some nm3:=rfl
   rw[hlg,Option.bind_some,if_pos (by rfl),hnm,Option.bind_some,if_pos (by rfl)]
   obtain⟨m,rfl⟩:=Int.eq_ofNat_of_zero_le hx.1
   have hl:=ji (L:=fun k (s:Nat×BS) i=>gq n lg3 nm3 k (s.1:Int) s.2 i) 4 (fun i s=>s.1<=1099511627776/\s.2.length<=22*i) (fun r=>r.length<=100) (by omega) (fun k s i h hI=>by
    obtain⟨u,t⟩:=s
    obtain⟨hu,ht⟩:=hI
    simp only at hu ht
    have h4:decide (0<=(i:Int)/\(i:Int)<(4:Int))=true:=decide_eq_true ⟨by omega,by omega⟩
    have hc4:decide (0<=(i:Int)/\(i:Int)<(List.length lg3:Int))=true:=aO (l:=lg3) (by show i<4;omega)
    have hn4:decide (0<=(i:Int)/\(i:Int)<(List.length nm3:Int))=true:=aO (l:=nm3) (by show i<4;omega)
    have hz:=QH h
    obtain⟨w,hw,hw1⟩:=SX h
    have hnl:=TA h
    have hd:Int.tdiv (u:Int) (w:Int)=((u / w:Nat):Int):=rfl
    have hm:Int.tmod (u:Int) (w:Int)=((u % w:Nat):Int):=rfl
    have hle:u / w<=u:=Nat.div_le_self u w
    have hml:u % w<=u:=Nat.mod_le u w
    obtain⟨q,hq⟩:∃q,q=u / w:=⟨_,rfl⟩
    obtain⟨v,hv⟩:∃v,v=u % w:=⟨_,rfl⟩
    rw[<-hq] at hd hle
    rw[<-hv] at hm hml
    have hwr:IntKind.wrap .i64 ((q:Nat):Int)=(q:Int):=fC _ (by omega) (by omega)
    have hwz:(((w:Nat):Int) != 0)=true:=by simpa using(by omega:w≠0)
    right
    show ∃s':Nat×BS,(s'.1<=1099511627776/\s'.2.length<=22*(i+1))/\gq n lg3 nm3 (k+1) (u:Int) t (i:Int)=gq n lg3 nm3 k (s'.1:Int) s'.2 (IntKind.wrap .i64 ((i:Int)+1))
    rw[gq,if_pos (decide_eq_true (by omega))]
    unfold qY qW
    rw[if_pos h4,if_pos hc4,Int.toNat_natCast,if_pos hz,hw,hd,hwr]
    obtain⟨a,ha,ha2⟩:=yB n (q:Int) (by omega) (by omega) hn
    split
    ·rw[ha,Option.bind_some,if_pos (dq (by omega)),if_pos (dq (by simp;omega)),Option.bind_some,Option.bind_some,hm]
     exact⟨(v,(t++a)++(nm3[i]?.getD [])),⟨by show v<=_;omega,by show((t++a)++(nm3[i]?.getD [])).length<=_;rw[List.length_append,List.length_append];omega⟩,rfl⟩
    ·rw[Option.bind_some,hm]
     exact⟨(v,t),⟨by show v<=_;omega,by show t.length<=_;omega⟩,rfl⟩) (fun k s hI=>⟨s.2,by show gq n lg3 nm3 (k+1) (s.1:Int) s.2 (4:Int)=some s.2;rw[gq];rfl,by have:=hI.2;omega⟩) n 0 (m,[]) (Nat.zero_le _) (by omega) ⟨by show m<=_;omega,Nat.zero_le _⟩
   obtain⟨r,hr,hr2⟩:=hl
   have hr:gq n lg3 nm3 n (m:Int) [] 0=some r:=hr
   rw[hr]
   exact⟨r,rfl,hr2⟩
end Go.Proofs.YtpmmhhmhckpnfaaGreat.M
namespace Go.Proofs.YtpmmhhmhckpnfaaGreat.M
open Go Go.Proofs.YtpmmhhmhckpnfaaGreat.RX Go.Proofs.YtpmmhhmhckpnfaaGreat.PL
set_option maxRecDepth 100000
def Piece(len i:Nat)(r:BS×Int):Prop:=r.2=-1\/∃m:Nat,r.2=(m:Int)/\i<m/\m<=len/\r.1.length+i<=m
theorem KD(n:Nat)(s:BS)(i:Nat)(hi:i<s.length)(hs:s.length<=10000)(hn:200000<=n):∃r,eE n s (i:Int) n ((i+1:Nat):Int)=some r/\∀x,r=.inr x->Piece s.length i x:=by
 have hl:=ji (L:=fun k (_:Unit) j=>eE n s (i:Int) k j) s.length (fun j _=>i+1<=j) (fun r=>∀x,r=.inr x->Piece s.length i x) (by omega) (fun k _ j h hI=>by
  show(∃r,eE n s (i:Int) (k+1) (j:Int)=some r/\_)\/∃s':Unit,i+1<=j+1/\eE n s (i:Int) (k+1) (j:Int)=eE n s (i:Int) k (IntKind.wrap .i64 ((j:Int)+1))
  rw[eE,if_pos (bZ h),if_pos (aO h),dO i (by omega),dO j (by omega)]
  split
  ·rw[if_pos (pM (by omega)),if_pos (wQ hI)]
   refine .inl ⟨_,rfl,fun x hx=>?_⟩
   cases hx
   refine .inr ⟨j+1,rfl,by omega,by omega,?_⟩
   show(List.take _ (List.drop _ s)).length+i<=_
   simp;omega
  ·exact .inr ⟨(),by omega,rfl⟩) (fun k _ hI=>⟨.inl (),by show eE n s (i:Int) (k+1) (s.length:Int)=_;rw[eE,bV];rfl,fun x hx=>by cases hx⟩) n (i+1) () (by omega) (by omega) (Nat.le_refl _)
 exact hl
theorem vd(s:BS)(a b:Nat)(h:a<=b):(List.take (Int.toNat (b:Int)-Int.toNat (a:Int)) (List.drop (Int.toNat (a:Int)) s)).length<=b-a:=by
 simp;omega
theorem Ac(n:Nat)(s:BS)(i0:Nat)(hs:s.length<=10000):∀(k j:Nat)(w:BS),i0<j->j<=s.length->s.length-j<k->w.length+i0<=j->∃r,kX n s k (j:Int) w=some r/\∀x,r=.inr x->Piece s.length i0 x
 |0,j,w,_,_,h,_=>by omega
 |k+1,j,w,h0,h1,h2,h3=>by
  rw[kX]
  by_cases h:j<s.length
  ·rw[if_pos (bZ h),if_pos (aO h)]
   split
   ·refine⟨_,rfl,fun x hx=>?_⟩
    cases hx
    exact .inr ⟨j+1,dO j (by omega),by omega,by omega,by show w.length+i0<=_;omega⟩
   ·have hj:∃q,nh n s (j:Int) w ((((s)[Int.toNat (j:Int)]?.getD 0).toNat:Int)==92)=some q/\(q=.inr ([],-1)\/∃(m:Nat)(v:BS),q=.inl ((m:Int),v)/\j<=m/\m<s.length/\v.length+i0<=m):=by
     unfold nh
     split
     ·rw[dO j (by omega)]
      split
      ·exact⟨_,rfl,.inl rfl⟩
      ·rename_i hne
       have hlt:j+1<s.length:=by
        have:¬((j+1:Nat):Int)=(List.length s:Int):=by simpa using hne
        omega
       rw[if_pos (aO hlt),aO hlt,Bool.or_true,if_pos rfl]
       simp only[aQ]
       have hj4:∀b:Bool,∃v,mP n s (j:Int) w b=some v/\v.length+i0<=j+1:=by
        intro b
        unfold mP
        split
        ·have ht:=vd s j (j+1) (by omega)
         rw[dO j (by omega),if_pos (pM (by omega)),if_pos (wQ (by omega)),if_pos (dq (by omega))]
         exact⟨_,rfl,by rw[List.length_append];omega⟩
        ·exact⟨_,rfl,by omega⟩
       obtain⟨v,hv,hv2⟩:=hj4 (bif ((((s)[Int.toNat ((j+1:Nat):Int)]?.getD 0).toNat:Int) != 34) then((((s)[Int.toNat ((j+1:Nat):Int)]?.getD 0).toNat:Int) != 92) else false)
       rw[hv,Option.bind_some]
       exact⟨_,rfl,.inr ⟨j+1,v,rfl,by omega,hlt,hv2⟩⟩
     ·exact⟨_,rfl,.inr ⟨j,w,rfl,Nat.le_refl _,h,h3⟩⟩
    obtain⟨q,hq,hq2⟩:=hj
    rw[if_pos (aO h),hq,Option.bind_some]
    rcases hq2 with rfl|⟨m,v,rfl,q1,q2,q3⟩
    ·exact⟨.inr ([],-1),rfl,fun x hx=>by cases hx;exact .inl rfl⟩
    ·simp only[Sum.elim_inl]
     have ht:=vd s m (m+1) (by omega)
     rw[dO m (by omega),if_pos (pM (by omega)),if_pos (wQ (by omega)),if_pos (dq (by omega))]
     have hlen:(v++List.take (Int.toNat ((m+1:Nat):Int)-Int.toNat (m:Int)) (List.drop (Int.toNat (m:Int)) s)).length+i0<=m+1:=by
      rw[List.length_append];omega
     exact Ac n s i0 hs k (m+1) _ (by omega) (by omega) (by omega) hlen
  ·have:j=s.length:=by omega
   subst this
   rw[bV]
   exact⟨_,rfl,fun x hx=>by cases hx⟩
theorem IC(n:Nat)(s:BS)(i:Nat)(hi:i<s.length)(hs:s.length<=10000)(hn:200000<=n):∃r,oz n s (i:Int)=some r/\Piece s.length i r:=by
 unfold oz
 have hw2:IntKind.wrap .i64 ((i:Int)+2)=((i+2:Nat):Int):=by rw[fC _ (by omega) (by omega)];omega
 rw[if_pos (aO hi),dO i (by omega),hw2]
 split
 ·split
  ·exact⟨_,rfl,.inl rfl⟩
  ·rename_i hne
   have hlt:i+2<=s.length:=by
    have:¬((i+1:Nat):Int)=(List.length s:Int):=by simpa using hne
    omega
   rw[if_pos (pM hlt),if_pos (wQ (by omega))]
   have ht:=vd s (i+1) (i+2) (by omega)
   exact⟨_,rfl,.inr ⟨i+2,rfl,by omega,hlt,by show(List.take _ (List.drop _ s)).length+i<=_;omega⟩⟩
 ·split
  ·obtain⟨r,hr,hr2⟩:=KD n s i hi hs hn
   rw[hr,Option.bind_some]
   cases r with
   |inl x=>exact⟨_,rfl,.inl rfl⟩
   |inr x=>exact⟨_,rfl,hr2 x rfl⟩
  ·split
   ·have ht:=vd s i (i+1) (by omega)
    rw[if_pos (pM (by omega)),if_pos (wQ (by omega))]
    exact⟨_,rfl,.inr ⟨i+1,rfl,by omega,by omega,by show(List.take _ (List.drop _ s)).length+i<=_;omega⟩⟩
   ·obtain⟨r,hr,hr2⟩:=Ac n s i hs n (i+1) [] (by omega) (by omega) (by omega) (by simp)
    rw[hr,Option.bind_some]
    cases r with
    |inl x=>exact⟨_,rfl,.inl rfl⟩
    |inr x=>exact⟨_,rfl,hr2 x rfl⟩
theorem zE(n:Nat)(s:BS)(out:List BS)(i0:Nat)(hs:s.length<=10000)(hn:200000<=n):∀(k i:Nat)(w:BS),i0<=i->i<=s.length->s.length-i<k->w.length+i0<=i->∃r,fD n s out k (i:Int) w=some r/\∀x,r=.inl x->∃m:Nat,x.1=(m:Int)/\i<=m/\m<=s.length/\x.2.length<=s.length/\(i=m\/i<m)
 |0,i,w,_,_,h,_=>by omega
 |k+1,i,w,h0,h1,h2,h3=>by
  rw[fD,if_pos (uD s i)]
  split
  ·rename_i hb
   have hlt:i<s.length:=by
    by_cases h:i<s.length
    ·exact h
    ·rw[show decide ((i:Int)<(List.length s:Int))=false from JO (Nat.not_lt.1 h)] at hb;cases hb
   obtain⟨r,hr,hr2⟩:=IC n s i hlt hs hn
   rw[hr,Option.bind_some]
   rcases hr2 with h4|⟨m,h4,h5,h6,h7⟩
   ·rw[h4,if_pos (by decide)];exact⟨_,rfl,fun x hx=>by cases hx⟩
   ·rw[h4,if_neg (by simp),if_pos (dq (by omega))]
    obtain⟨q,hq,hq2⟩:=zE n s out i0 hs hn k m (w++r.1) (by omega) h6 (by omega) (by rw[List.length_append];omega)
    refine⟨q,hq,fun x hx=>?_⟩
    obtain⟨m2,a1,a2,a3,a4,_⟩:=hq2 x hx
    exact⟨m2,a1,by omega,a3,a4,by omega⟩
  ·exact⟨_,rfl,fun x hx=>by cases hx;exact⟨i,rfl,Nat.le_refl _,h1,by show w.length<=_;omega,.inl rfl⟩⟩
theorem LK(n:Nat)(s:BS)(out:List BS)(i:Nat)(hi:i<s.length)(hb:jq (((s)[Int.toNat (i:Int)]?.getD 0).toNat:Int)=false)(hs:s.length<=10000)(hn:200000<=n) :
  ∃r,fD n s out n (i:Int) []=some r/\∀x,r=.inl x->∃m:Nat,x.1=(m:Int)/\i<m/\m<=s.length/\x.2.length<=s.length:=by
 obtain⟨k,hk⟩:∃k,n=k+1:=⟨n-1,by omega⟩
 have hst:∀k:Nat,fD n s out (k+1) (i:Int) []=(oz n s (i:Int)).bind fun r1=>if(decide (r1.2<0))=true then(some (.inr 3)) else(if(decide (((List.length ([]:BS)+List.length r1.1:Nat):Int)<=9223372036854775807))=true then(fD n s out k r1.2 ([]++r1.1)) else none):=by
  intro k
  rw[fD,if_pos (uD s i),if_pos (by rw[bZ hi,hb];rfl)]
 have hgo:∀k:Nat,s.length<k->∃r,fD n s out (k+1) (i:Int) []=some r/\∀x,r=.inl x->∃m:Nat,x.1=(m:Int)/\i<m/\m<=s.length/\x.2.length<=s.length:=by
  intro k hk
  obtain⟨r,hr,hr2⟩:=IC n s i hi hs hn
  rw[hst,hr,Option.bind_some]
  rcases hr2 with h4|⟨m,h4,h5,h6,h7⟩
  ·rw[h4,if_pos (by decide)];exact⟨_,rfl,fun x hx=>by cases hx⟩
  ·rw[h4,if_neg (by simp),if_pos (dq (by simp;omega))]
   obtain⟨q,hq,hq2⟩:=zE n s out i hs hn k m ([]++r.1) (by omega) h6 (by omega) (by simpa using h7)
   refine⟨q,hq,fun x hx=>?_⟩
   obtain⟨m2,a1,a2,a3,a4,_⟩:=hq2 x hx
   exact⟨m2,a1,by omega,a3,a4⟩
 have:=hgo k (by omega)
 rw[<-hk] at this
 exact this
theorem wB(n:Nat)(s:BS)(hs:s.length<=10000)(hn:200000<=n):∀(k i:Nat)(out:List BS),i<=s.length->s.length-i<k->out.length<=i->(∀w∈out,w.length<=s.length) ->
  ∃r,i7 n s k out (i:Int)=some r/\∀x,r=.inl x->(∀w∈x,w.length<=s.length)/\x.length<=s.length
 |0,i,out,_,h,_,_=>by omega
 |k+1,i,out,h1,h2,h3,h4=>by
  rw[i7]
  by_cases h:i<s.length
  ·rw[if_pos (bZ h),if_pos (aO h)]
   split
   ·rw[dO i (by omega)]
    exact wB n s hs hn k (i+1) out (by omega) (by omega) (by omega) h4
   ·rename_i hb
    obtain⟨r,hr,hr2⟩:=LK n s out i h (by simpa using hb) hs hn
    rw[hr,Option.bind_some]
    cases r with
    |inr x=>exact⟨_,rfl,fun y hy=>by cases hy⟩
    |inl x =>
     obtain⟨m,a1,a2,a3,a4⟩:=hr2 x rfl
     simp only[Sum.elim_inl]
     rw[if_pos (show decide ((List.length out+List.length ([x.2]:List BS))*(16+1)<=limit)=true from gX (by simp;omega)),a1]
     exact wB n s hs hn k m (out++[x.2]) a3 (by omega) (by simp;omega) fun w hw=>by
      rcases List.mem_append.1 hw with hw|hw
      ·exact h4 w hw
      ·rw[List.mem_singleton.1 hw];exact a4
  ·have:i=s.length:=by omega
   subst this
   rw[bV]
   exact⟨_,rfl,fun x hx=>by cases hx;exact⟨h4,h3⟩⟩
theorem Me(n:Nat)(s:BS)(hs:s.length<=10000)(hn:200000<=n):∃r,qK n s=some r/\r.1.length<=32/\∀w∈r.1,w.length<=s.length:=by
 obtain⟨r,hr,hr2⟩:=wB n s hs hn n 0 [] (Nat.zero_le _) (by omega) (Nat.le_refl _) (fun w hw=>by cases hw)
 have hr:i7 n s n [] 0=some r:=hr
 unfold qK
 rw[hr,Option.bind_some]
 cases r with
 |inr x=>exact⟨_,rfl,by simp,fun w hw=>by cases hw⟩
 |inl x =>
  simp only[Sum.elim_inl]
  split
  ·exact⟨_,rfl,by simp,fun w hw=>by cases hw⟩
  ·rename_i hl
   have:¬(List.length x:Int)>32:=by simpa using hl
   exact⟨_,rfl,by show x.length<=32;omega,(hr2 x rfl).1⟩
theorem OX(n:Nat)(s:BS)(hs:s.length<=100000)(hn:200000<=n):∃b,sN n s=some b:=by
 have h2:∀(v4 v5:Int)(b:Bool),∃r,gx n s oM v4 v5 n b 0=some r:=by
  intro v4 v5 b
  have hl:=ji (L:=fun k (b:Bool) i=>gx n s oM v4 v5 k b i) 10 (fun _ _=>True) (fun _=>True) (by omega) (fun k b i h _=>by
   have hin:decide (0<=(i:Int)/\(i:Int)<(List.length (oM:BS):Int))=true:=decide_eq_true (by show 0<=(i:Int)/\(i:Int)<10;omega)
   have hlt:decide ((i:Int)<(List.length (oM:BS):Int))=true:=decide_eq_true (by show(i:Int)<10;omega)
   right
   show ∃s':Bool,True/\gx n s oM v4 v5 (k+1) b (i:Int)=gx n s oM v4 v5 k s' (IntKind.wrap .i64 ((i:Int)+1))
   rw[gx,if_pos hlt,hin,Bool.or_true,if_pos rfl]
   exact⟨_,trivial,rfl⟩) (fun k b _=>⟨b,by show gx n s oM v4 v5 (k+1) b (10:Int)=some b;rw[gx];rfl,trivial⟩) n 0 b (Nat.zero_le _) (by omega) trivial
  obtain⟨r,hr,_⟩:=hl
  exact⟨r,hr⟩
 have hl:=oP (L:=jM n s oM) s.length (fun _=>True) (by omega) (fun k i h=>by
  rw[jM,if_pos (bZ h),if_pos (aO h)]
  simp only[aQ]
  obtain⟨r,hr⟩:=h2 (i:Int) (((s)[Int.toNat (i:Int)]?.getD 0).toNat:Int) (bif (bif (bif (decide ((((s)[Int.toNat (i:Int)]?.getD 0).toNat:Int)>=97)) then(decide ((((s)[Int.toNat (i:Int)]?.getD 0).toNat:Int)<=122)) else false) then true else(bif (decide ((((s)[Int.toNat (i:Int)]?.getD 0).toNat:Int)>=65)) then(decide ((((s)[Int.toNat (i:Int)]?.getD 0).toNat:Int)<=90)) else false)) then true else(bif (decide ((((s)[Int.toNat (i:Int)]?.getD 0).toNat:Int)>=48)) then(decide ((((s)[Int.toNat (i:Int)]?.getD 0).toNat:Int)<=57)) else false))
  rw[hr,Option.bind_some]
  split
  ·exact .inl ⟨_,rfl,trivial⟩
  ·exact .inr rfl) (fun k=>⟨.inl (),by rw[jM,bV];rfl,trivial⟩) n 0 (Nat.zero_le _) (by omega)
 obtain⟨r,hr,_⟩:=hl
 have hr:jM n s oM n 0=some r:=hr
 unfold sN
 rw[hr,Option.bind_some]
 cases r<;>exact⟨_,rfl⟩
theorem MX(n:Nat)(l:List BS)(i:Nat)(hi:i<l.length)(hw:(l[i]'hi).length<=20000)(t:BS)(ht:t.length<=100000000)(hn:200000<=n):∃r,gw n l (i:Int) n t 0=some r/\r.length<=t.length+4*(l[i]'hi).length:=by
 have hl:=ji (L:=fun k (v:BS) j=>gw n l (i:Int) k v j) (l[i]'hi).length (fun j v=>v.length<=t.length+4*j) (fun r=>r.length<=t.length+4*(l[i]'hi).length) (by omega) (fun k v j h hI=>by
  right
  show ∃s':BS,s'.length<=t.length+4*(j+1)/\gw n l (i:Int) (k+1) v (j:Int)=gw n l (i:Int) k s' (IntKind.wrap .i64 ((j:Int)+1))
  rw[gw,if_pos (aO hi),bW hi,if_pos (bZ h)]
  unfold rq
  rw[if_pos (aO hi),bW hi,if_pos (aO h),bW h]
  have h6:∃v',oh n l v (i:Int) (j:Int) ((((l[i]'hi)[j]'h).toNat:Int)==39)=some v'/\v'.length<=v.length+3:=by
   unfold oh
   split
   ·rw[if_pos (dq (by simp;omega))];exact⟨_,rfl,by simp⟩
   ·exact⟨_,rfl,by omega⟩
  obtain⟨v',hv',hv2⟩:=h6
  have ht1:=vd (l[i]'hi) j (j+1) (by omega)
  rw[hv',Option.bind_some,if_pos (aO hi),dO j (by omega),if_pos (pM (by omega)),if_pos (wQ (by omega)),if_pos (dq (by omega))]
  simp only[aQ,Option.bind_some]
  exact⟨_,by rw[List.length_append];omega,rfl⟩) (fun k v hI=>⟨v,by show gw n l (i:Int) (k+1) v ((l[i]'hi).length:Int)=some v;rw[gw,if_pos (aO hi),bW hi,bV];rfl,hI⟩) n 0 t (Nat.zero_le _) (by omega) (by omega)
 exact hl
theorem O8(n:Nat)(l:List BS)(hl:l.length<=1000)(hw:∀w∈l,w.length<=20000)(hn:200000<=n):∃t,tH n l=some t/\t.length<=90000*l.length:=by
 have hl:=ji (L:=fun k (v:BS) j=>gy n l k v j) l.length (fun j v=>v.length<=90000*j) (fun r=>r.length<=90000*l.length) (by omega) (fun k v i h hI=>by
  right
  show ∃s':BS,s'.length<=90000*(i+1)/\gy n l (k+1) v (i:Int)=gy n l k s' (IntKind.wrap .i64 ((i:Int)+1))
  rw[gy,if_pos (bZ h)]
  unfold qU
  have hwi:=hw _ (List.getElem_mem h)
  have hj3:∃v',oq n l v (i:Int) (decide ((i:Int)>0))=some v'/\v'.length<=v.length+1:=by
   unfold oq
   split
   ·rw[if_pos (dq (by simp;omega))];exact⟨_,rfl,by simp⟩
   ·exact⟨_,rfl,by omega⟩
  obtain⟨v',hv',hv2⟩:=hj3
  obtain⟨b,hb⟩:=OX n (l[i]'h) (by omega) hn
  rw[hv',Option.bind_some,if_pos (aO h),bW h,hb,Option.bind_some]
  cases b with
  |true =>
   rw[if_pos rfl,if_pos (aO h),if_pos (dq (by omega)),Option.bind_some]
   exact⟨_,by rw[List.length_append];omega,rfl⟩
  |false =>
   obtain⟨r,hr,hr2⟩:=MX n l i h hwi (v'++[39]) (by simp;omega) hn
   have hr3:r.length<=v'.length+1+4*(l[i]'h).length:=by simpa using hr2
   rw[if_neg (by decide),if_pos (dq (by simp;omega)),hr,Option.bind_some,if_pos (dq (by simp;omega)),Option.bind_some]
   exact⟨r++[39],by simp;omega,rfl⟩) (fun k v hI=>⟨v,by show gy n l (k+1) v (l.length:Int)=some v;rw[gy,bV];rfl,hI⟩) n 0 [] (Nat.zero_le _) (by omega) (Nat.zero_le _)
 obtain⟨r,hr,hr2⟩:=hl
 have hr:gy n l n [] 0=some r:=hr
 unfold tH
 rw[hr]
 exact⟨r,rfl,hr2⟩
end Go.Proofs.YtpmmhhmhckpnfaaGreat.M
namespace Go.Proofs.YtpmmhhmhckpnfaaGreat.M
open Go Go.Proofs.YtpmmhhmhckpnfaaGreat.RX Go.Proofs.YtpmmhhmhckpnfaaGreat.PL
set_option maxRecDepth 100000
theorem Ug{n most:Nat}(l:BS)(hl:l.length<=19)(hd:∀b∈l,dig b=true):∀(k i acc:Nat),i<=l.length->l.length-i<k->acc<10 ^ i ->
  fJ n l (most:Int) k (acc:Int) (i:Int)=some ((vl acc (l.drop i):Nat):Int)
 |0,i,acc,_,h,_=>by omega
 |k+1,i,acc,h1,h2,h3=>by
  rw[fJ]
  by_cases h:i<l.length
  ·have hb:=of_decide_eq_true (hd l[i] (List.getElem_mem h))
   have h10:10 ^ (i+1)<=10 ^ 19:=Nat.pow_le_pow_right (by decide) (by omega)
   have e10:(10:Nat) ^ 19=10000000000000000000:=by decide
   rw[Nat.pow_succ] at h10
   rw[e10] at h10
   rw[if_pos (bZ h),if_pos (aO h),bW h]
   have e1:IntKind.wrap .u64 ((acc:Int)*10)=(acc:Int)*10:=vt _ (by omega) (by omega)
   have e2:IntKind.wrap .u64 ((l[i].toNat:Int))=(l[i].toNat:Int):=vt _ (by omega) (by omega)
   rw[e1,e2,vt ((acc:Int)*10+(l[i].toNat:Int)) (by omega) (by omega),vt _ (by omega) (by omega)]
   have e3:(acc:Int)*10+(l[i].toNat:Int)-48=((acc*10+yu l[i]:Nat):Int):=by unfold yu;omega
   simp only[aQ,e3]
   rw[dO i (by omega),Ug l hl hd k (i+1) _ (by omega) (by omega) (by rw[Nat.pow_succ];unfold yu;omega),drop_at h]
   rfl
  ·have:i=l.length:=by omega
   subst this
   rw[bV,if_neg Bool.false_ne_true,List.drop_eq_nil_of_le (Nat.le_refl _)];rfl
theorem QT(n:Nat)(s:BS)(hs:s.length<=1000000)(hn:2000000<=n):fO n s=some (isNum s):=by
 have hloop:=yp (L:=eG n s) s (fun b=>if dig b=true then none else some false) 0 (by omega)
  (fun k i h _=>by
   rw[eG,if_pos (bZ h),if_pos (aO h),if_pos (by rw[aO h];simp),bW h]
   simp only[aQ]
   by_cases hd:dig s[i]=true
   ·have h1:=of_decide_eq_true hd
    rw[if_pos hd,decide_eq_false (by omega:¬(s[i].toNat:Int)<48),decide_eq_false (by omega:¬(s[i].toNat:Int)>57)]
    rfl
   ·have h1:=of_decide_eq_false (by simpa[dig] using hd:decide (48<=s[i].toNat/\s[i].toNat<=57)=false)
    rw[if_neg hd]
    by_cases h2:(s[i].toNat:Int)<48
    ·rw[decide_eq_true h2];rfl
    ·rw[decide_eq_false h2,decide_eq_true (by omega:(s[i].toNat:Int)>57)];rfl)
  (fun k=>by rw[eG,bV];rfl) n 0 (by omega) (by omega) (by omega)
 unfold fO
 cases s with
 |nil=>rfl
 |cons b t =>
  have e0:(((b::t).length:Int)==0)=false:=by rw[beq_eq_false_iff_ne];simp only[List.length_cons];omega
  have e1:decide (0<=(0:Int)/\(0:Int)<((b::t).length:Int))=true:=decide_eq_true (by simp only[List.length_cons];omega)
  rw[e1,if_pos (by simp),e0]
  simp only[cond_false,aQ,Int.toNat_zero,List.getElem?_cons_zero,Option.getD_some]
  have e48:((b.toNat:Int)==48)=decide (b=48):=DJ b 48 (by decide)
  simp only[e48]
  have hz:eG n (b::t) n 0=some (Aw ((b::t).findSome? fun b=>if dig b=true then none else some false)):=hloop
  rw[hz]
  by_cases hc:t≠[]/\b=48
  ·have:decide (((b::t).length:Int)>1)=true:=decide_eq_true (by have:=List.length_pos_iff.2 hc.1;simp;omega)
   rw[this,decide_eq_true hc.2,hc.2]
   have:t.isEmpty=false:=by simpa using hc.1
   simp[isNum,this]
  ·have hcond:(bif decide (((b::t).length:Int)>1) then decide (b=48) else false)=false:=by
    by_cases ht:t=[]
    ·subst ht;simp
    ·have:b≠48:=fun e=>hc ⟨ht,e⟩
     simp[this]
   rw[hcond,if_neg Bool.false_ne_true]
   have hor:(t.isEmpty||!(b==48))=true:=by
    by_cases ht:t=[]
    ·subst ht;rfl
    ·have:b≠48:=fun e=>hc ⟨ht,e⟩
     simp[this]
   show _=some (dig b&&t.all dig&&(t.isEmpty||!(b==48)))
   rw[hor,Bool.and_true]
   have key:∀l:BS,l.findSome? (fun b=>if dig b=true then none else some false)=if l.all dig=true then none else some false:=by
    intro l
    induction l with
    |nil=>rfl
    |cons x l ih =>
     rw[List.findSome?_cons,List.all_cons]
     cases hx:dig x with
     |true=>simp[ih]
     |false=>simp
   rw[key,List.all_cons]
   cases (dig b&&t.all dig)<;>rfl
theorem I5(n:Nat)(s:BS)(most:Nat)(hs:s.length<=1000000)(hm:most<=10 ^ 18)(hn:2000000<=n):fL n s (most:Int)=some (pN s most):=by
 unfold fL
 rw[decide_eq_false (by omega:¬(most:Int)<0),if_neg Bool.false_ne_true,QT n s hs hn]
 simp only[Option.bind_some]
 unfold pN
 cases hN:isNum s with
 |false=>rfl
 |true =>
  simp only[Bool.not_true,Bool.false_eq_true,if_false,if_true]
  by_cases hl:19<s.length
  ·have:=N8 hN hl
   rw[decide_eq_true (by omega:(s.length:Int)>19),if_pos rfl,if_neg (by omega)]
  ·have e10:(10:Nat) ^ 18=1000000000000000000:=by decide
   rw[decide_eq_false (by omega:¬(s.length:Int)>19),if_neg Bool.false_ne_true]
   have:=Ug (n:=n) (most:=most) s (by omega) (I7 hN) n 0 0 (by omega) (by omega) (by decide)
   rw[List.drop_zero] at this
   have h0:fJ n s (most:Int) n 0 0=some ((vl 0 s:Nat):Int):=this
   rw[h0]
   simp only[Option.bind_some]
   rw[vt (most:Int) (by omega) (by omega)]
   by_cases hv:vl 0 s<=most
   ·rw[decide_eq_false (by omega:¬((vl 0 s:Nat):Int)>(most:Int)),if_neg Bool.false_ne_true,if_pos hv,fC _ (by omega) (by omega)]
   ·rw[decide_eq_true (by omega:((vl 0 s:Nat):Int)>(most:Int)),if_pos rfl,if_neg hv]
theorem NT{n:Nat}(l:BS)(c:UInt8)(ci:Int)(hci:∀b:UInt8,((b.toNat:Int)==ci)=decide (b=c))(hl:l.length<=1000000):∀(k i f:Nat)(out:List BS),f<=i->i<=l.length->l.length-i<k->c∉(l.drop f).take (i-f)->out.length<=i ->
  ∃(o:List BS)(g:Nat),lh n l ci k out (f:Int) (i:Int)=some (o,(g:Int))/\g<=l.length/\o++[l.drop g]=out++parts c (l.drop f)/\o.length<=l.length
 |0,i,f,out,_,_,h,_,_=>by omega
 |k+1,i,f,out,h0,h1,h2,h3,h4=>by
  rw[lh]
  by_cases h:i<l.length
  ·rw[if_pos (bZ h),tJ,if_pos (aO h),bW h,hci]
   have hsp:l.drop f=(l.drop f).take (i-f)++l[i]::l.drop (i+1):=by
    have e:(l.drop f).drop (i-f)=l.drop i:=by rw[List.drop_drop,show f+(i-f)=i by omega]
    rw[<-drop_at h,<-e,List.take_append_drop]
   by_cases hb:l[i]=c
   ·rw[decide_eq_true hb,if_pos rfl,if_pos (pM (by omega)),if_pos (wQ h0)]
    have hc:decide ((List.length out+List.length ([List.take (Int.toNat (i:Int)-Int.toNat (f:Int)) (List.drop (Int.toNat (f:Int)) l)]:List BS))*(16+1)<=limit)=true:=gX (by simp;omega)
    rw[if_pos hc]
    simp only[Option.bind_some]
    rw[dO i (by omega),tn,tn]
    obtain⟨o,g,h5,h6,h7,h8⟩:=NT (n:=n) l c ci hci hl k (i+1) (i+1) (out++[(l.drop f).take (i-f)]) (Nat.le_refl _) (by omega) (by omega) (by simp) (by simp;omega)
    refine⟨o,g,h5,h6,?_,h8⟩
    rw[h7,List.append_assoc]
    congr 1
    rw[hsp,hb,Jc _ h3]
    have e2:((l.drop f).take (i-f)++c::l.drop (i+1)).take (i-f)=(l.drop f).take (i-f):=by
     rw[<-hb,<-hsp]
    rw[e2];rfl
   ·rw[decide_eq_false hb,if_neg Bool.false_ne_true]
    simp only[Option.bind_some]
    rw[dO i (by omega)]
    refine NT l c ci hci hl k (i+1) f out (by omega) (by omega) (by omega) ?_ (by omega)
    have e3:(l.drop f).take (i+1-f)=(l.drop f).take (i-f)++[l[i]]:=by
     have hlt:i-f<(l.drop f).length:=by simp;omega
     rw[show i+1-f=(i-f)+1 by omega,List.take_succ_eq_append_getElem hlt]
     congr 2
     rw[List.getElem_drop]
     congr 1
     omega
    rw[e3,List.mem_append,List.mem_singleton]
    rintro(h9|h9)
    ·exact h3 h9
    ·exact hb h9.symm
  ·have:i=l.length:=by omega
   subst this
   rw[bV,if_neg Bool.false_ne_true]
   refine⟨out,f,rfl,by omega,?_,by omega⟩
   rw[List.take_of_length_le (by simp)] at h3
   rw[Fh h3]
theorem Ld(n:Nat)(l:BS)(c:UInt8)(ci:Int)(hci:∀b:UInt8,((b.toNat:Int)==ci)=decide (b=c))(hl:l.length<=1000000)(hn:2000000<=n):l5 n l ci=some (parts c l):=by
 unfold l5
 obtain⟨o,g,h1,h2,h3,h4⟩:=NT (n:=n) l c ci hci hl n 0 0 [] (Nat.le_refl _) (by omega) (by omega) (by simp) (by simp)
 have h0:lh n l ci n [] 0 0=some (o,(g:Int)):=h1
 rw[h0]
 simp only[Option.bind_some]
 have hc:decide ((List.length o+List.length ([List.drop (Int.toNat (g:Int)) l]:List BS))*(16+1)<=limit)=true:=gX (by simp;omega)
 rw[if_pos (pM h2),if_pos hc,tn,h3]
 simp
theorem c46(n:Nat)(l:BS)(hl:l.length<=1000000)(hn:2000000<=n):l5 n l 46=some (parts 46 l):=Ld n l 46 46 (fun b=>DJ b 46 (by decide)) hl hn
theorem c58(n:Nat)(l:BS)(hl:l.length<=1000000)(hn:2000000<=n):l5 n l 58=some (parts 58 l):=Ld n l 58 58 (fun b=>DJ b 58 (by decide)) hl hn
def okc(m:Nat)(x:BS):Bool:=isNum x&&decide (vl 0 x<=m)
theorem rS(x:BS)(m:Nat):((pN x m).2 != 0)=!okc m x:=by
 unfold pN okc
 cases isNum x with
 |false=>rfl
 |true =>
  by_cases h:vl 0 x<=m
  ·simp[h]
  ·simp[h]
def addr(h:BS):Bool:=decide ((parts 46 h).length=4)&&(parts 46 h).all (okc 255)
def right(p:aH):Bool:=decide (1<=p.jl/\p.jl<=65535/\0<=p.dm/\p.dm<=65535)&&(p.dc==lC||p.dc==nH)&&(p.bD==[]||addr p.bD)
theorem PY{α:Type}(q:α->Bool):∀l:List α,l.findSome? (fun x=>if q x=true then none else some false)=if l.all q=true then none else some false
 |[]=>rfl
 |x::l=>by
  rw[List.findSome?_cons,List.all_cons,PY q l]
  cases q x with
  |true=>simp
  |false=>simp
theorem Rt(n:Nat)(h:BS)(hl:h.length<=900000)(hn:2000000<=n):nM n h=some (addr h):=by
 unfold nM
 rw[c46 n h (by omega) hn]
 simp only[Option.bind_some]
 unfold addr
 by_cases h4:(parts 46 h).length=4
 ·have e:(((parts 46 h).length:Int) != 4)=false:=by rw[h4];rfl
  rw[e,if_neg Bool.false_ne_true,decide_eq_true h4,Bool.true_and]
  have hloop:=yp (L:=ig n (parts 46 h)) (parts 46 h) (fun x=>if okc 255 x=true then none else some false) 0 (by omega)
   (fun k i h5 _=>by
    have h6:=pX 46 h _ (List.getElem_mem h5)
    have hrc:=I5 n (parts 46 h)[i] 255 (by omega) (by decide) hn
    rw[show((255:Nat):Int)=255 from rfl] at hrc
    rw[ig,if_pos (decide_eq_true (by omega)),if_pos (aO h5),bW h5,hrc]
    simp only[Option.bind_some,rS]
    cases okc 255 (parts 46 h)[i]<;>rfl)
   (fun k=>by rw[ig,h4];rfl) n 0 (by omega) (by omega) (by omega)
  have h0:ig n (parts 46 h) n 0=some (Aw ((parts 46 h).findSome? fun x=>if okc 255 x=true then none else some false)):=hloop
  rw[h0,PY]
  cases (parts 46 h).all (okc 255)<;>rfl
 ·have e:(((parts 46 h).length:Int) != 4)=true:=by rw[bne_iff_ne];omega
  rw[e,if_pos rfl,decide_eq_false h4];rfl
theorem cor(a b:Bool):(bif a then true else b)=(a||b):=by cases a<;>rfl
theorem IK(n:Nat)(p:aH)(hl:p.bD.length<=900000)(hn:2000000<=n):kP n p=some (right p):=by
 unfold kP right
 rw[Rt n _ hl hn]
 have e0:((p.bD.length:Int)==0)=(p.bD==[]):=by
  rw[Bool.eq_iff_iff,beq_iff_eq,beq_iff_eq]
  constructor
  ·intro h;exact List.eq_nil_of_length_eq_zero (by omega)
  ·intro h;rw[h];rfl
 rw[e0]
 have e1:(bif (bif (bif (decide (p.jl<1)) then true else(decide (p.jl>65535))) then true else(decide (p.dm<0))) then true else(decide (p.dm>65535)))=!decide (1<=p.jl/\p.jl<=65535/\0<=p.dm/\p.dm<=65535):=by
  have e:∀a b c d:Prop,[Decidable a]->[Decidable b]->[Decidable c]->[Decidable d]->(bif (bif (bif decide a then true else decide b) then true else decide c) then true else decide d)=decide (a\/b\/c\/d):=by
   intro a b c d _ _ _ _
   simp only[cor,Bool.decide_or,Bool.or_assoc]
  rw[e,<-decide_not,decide_eq_decide]
  omega
 simp only[aQ,e1]
 cases decide (1<=p.jl/\p.jl<=65535/\0<=p.dm/\p.dm<=65535) with
 |false=>rfl
 |true =>
  cases (p.dc==lC)<;>cases (p.dc==nH)<;>cases (p.bD==[])<;>simp
def num(x:BS):Int:=if(okc 65535 x&&!(vl 0 x==0))=true then(vl 0 x:Int) else -1
def nL(p:aH):Option aH:=if right p=true then some p else none
def rest(s proto:BS):Option aH :=
 match parts 58 s with
 |[a]=>nL ⟨[],0,num a,proto⟩
 |[a,b]=>nL ⟨[],num a,num b,proto⟩
 |[h,o,i]=>if h=[] then none else nL ⟨h,if o=[] then 0 else num o,num i,proto⟩
 |_=>none
def Oz(o:Option aH):aH×Int:=match o with|none=>(⟨[],0,0,[]⟩,3)|some p=>(p,0)
def parse(s:BS):Option aH:=match upto 47 s with|none=>rest s lC|some p=>rest p.1 p.2
theorem vM{h proto:BS}{o:Int}:nL ⟨h,o,-1,proto⟩=none:=by
 have:right ⟨h,o,-1,proto⟩=false:=by
  unfold right
  have:decide (1<=(-1:Int)/\(-1:Int)<=65535/\0<=o/\o<=65535)=false:=decide_eq_false (by omega)
  simp only[this,Bool.false_and]
 unfold nL;rw[this];rfl
theorem QQ{h proto:BS}{o:Int}:nL ⟨h,o,0,proto⟩=none:=by
 have:right ⟨h,o,0,proto⟩=false:=by
  unfold right
  have:decide (1<=(0:Int)/\(0:Int)<=65535/\0<=o/\o<=65535)=false:=decide_eq_false (by omega)
  simp only[this,Bool.false_and]
 unfold nL;rw[this];rfl
theorem uu{h proto:BS}{i:Int}:nL ⟨h,-1,i,proto⟩=none:=by
 have:right ⟨h,-1,i,proto⟩=false:=by
  unfold right
  have:decide (1<=i/\i<=65535/\0<=(-1:Int)/\(-1:Int)<=65535)=false:=decide_eq_false (by omega)
  simp only[this,Bool.false_and]
 unfold nL;rw[this];rfl
theorem zN{x:BS}{m:Nat}(h:okc m x=true):pN x m=(((vl 0 x:Nat):Int),(0:Int)):=by
 unfold okc at h
 simp only[Bool.and_eq_true,decide_eq_true_eq] at h
 unfold pN
 rw[if_pos h.1,if_pos h.2]
theorem rV{x:BS}(h:okc 65535 x=false):num x=-1:=by unfold num;rw[h];rfl
theorem KB{x:BS}(h:okc 65535 x=true)(h0:vl 0 x≠0):num x=(vl 0 x:Int):=by
 unfold num
 have e2:(vl 0 x==0)=false:=by rw[beq_eq_false_iff_ne];exact h0
 rw[h,e2];rfl
theorem D4{x:BS}(h0:vl 0 x=0):num x=-1:=by
 unfold num
 rw[h0];simp
theorem Gp(n:Nat)(h proto i:BS)(o:Int)(hh:h.length<=900000)(hn:2000000<=n) :
  ((if(((pN i 65535).2 != 0)==false)=true then kP n (aH.mk h o (pN i 65535).1 proto) else some false).bind fun r9 =>
   if(bif ((pN i 65535).2 != 0) then true else(!r9))=true then(some ((aH.mk [] 0 0 []),(3:Int))) else(some ((aH.mk h o (pN i 65535).1 proto),0)))=some (Oz (nL ⟨h,o,num i,proto⟩)):=by
 rw[rS]
 cases hk:okc 65535 i with
 |false=>rw[rV hk,vM];rfl
 |true =>
  rw[zN hk,IK n ⟨h,o,((vl 0 i:Nat):Int),proto⟩ hh hn]
  by_cases h0:vl 0 i=0
  ·rw[D4 h0,h0,vM]
   have h1:nL ⟨h,o,((0:Nat):Int),proto⟩=none:=QQ
   unfold nL at h1
   split at h1
   ·cases h1
   ·rename_i h2
    have h2:right ⟨h,o,((0:Nat):Int),proto⟩=false:=by simpa using h2
    rw[h2];rfl
  ·rw[KB hk h0]
   unfold nL
   cases right ⟨h,o,((vl 0 i:Nat):Int),proto⟩<;>rfl
def NA(n:Nat)(t proto:BS):Option (aH×Int) :=
 (l5 n t 58).bind fun r3 =>
 if((!((((List.length r3:Int)==3)==true)&&((decide ((List.length r3:Int)>3))==false))||decide (0<=(0:Int)/\(0:Int)<(List.length r3:Int))))=true then(aQ ((bif (decide ((List.length r3:Int)>3)) then true else(bif ((List.length r3:Int)==3) then((List.length ((r3)[Int.toNat 0]?.getD []):Int)==0) else false)):Bool) fun x4 =>
 if x4=true then(some ((aH.mk [] 0 0 []),3))
 else(if(decide (0<=(IntKind.wrap .i64 ((List.length r3:Int)-1))/\(IntKind.wrap .i64 ((List.length r3:Int)-1))<(List.length r3:Int)))=true then((fL n ((r3)[Int.toNat (IntKind.wrap .i64 ((List.length r3:Int)-1))]?.getD []) 65535).bind fun r5 =>
 if((!((((List.length r3:Int)==2)==false)&&((decide ((List.length r3:Int)>1))==true))||decide (0<=(1:Int)/\(1:Int)<(List.length r3:Int))))=true then(aQ ((bif (decide ((List.length r3:Int)>1)) then(bif ((List.length r3:Int)==2) then true else(decide ((List.length ((r3)[Int.toNat 1]?.getD []):Int)>0))) else false):Bool) fun x6 =>
 (kU n r3 (List.length r3:Int) r5.2 x6 (aH.mk [] 0 0 []) (aH.mk [] 0 r5.1 proto)).bind fun o7 =>
 (Sum.elim (fun o7:aH×aH=>(pY n r3 r5.2 ((List.length r3:Int)==3) o7.1 o7.2).bind fun o8 =>
 ((if((r5.2 != 0)==false)=true then kP n o8 else some false)).bind fun r9 =>
 if(bif (r5.2 != 0) then true else(!r9))=true then(some ((aH.mk [] 0 0 []),3))
 else(some (o8,0))) (fun o7:Int×aH=>some (o7.2,o7.1))) o7) else none) else none)) else none
theorem He(n:Nat)(t proto:BS)(ht:t.length<=500000)(hn:2000000<=n):NA n t proto=some (Oz (rest t proto)):=by
 unfold NA
 rw[c58 n t (by omega) hn]
 simp only[Option.bind_some]
 have hpl:=I4 58 t
 have hpp:=pX 58 t
 have hne:=QV 58 t
 have hrc:∀x:BS,x.length<=500000->fL n x 65535=some (pN x 65535):=fun x hx=>I5 n x 65535 (by omega) (by decide) hn
 unfold rest
 generalize parts 58 t=l at *
 match l,hne with
 |[a],_ =>
  have ha:=hpp a (by simp)
  have e:([a]:List BS)[Int.toNat (IntKind.wrap .i64 ((([a]:List BS).length:Int)-1))]?.getD []=a:=rfl
  rw[e,hrc a (by omega)]
  have:=Gp n [] proto a 0 (Nat.zero_le _) hn
  exact this
 |[a,b],_ =>
  have ha:=hpp a (by simp)
  have hb:=hpp b (by simp)
  have e:([a,b]:List BS)[Int.toNat (IntKind.wrap .i64 ((([a,b]:List BS).length:Int)-1))]?.getD []=b:=rfl
  have e2:([a,b]:List BS)[Int.toNat (IntKind.wrap .i64 ((([a,b]:List BS).length:Int)-2))]?.getD []=a:=rfl
  have f1:((([a,b]:List BS).length:Int)==3)=false:=rfl
  have f2:decide ((([a,b]:List BS).length:Int)>3)=false:=rfl
  have f3:decide ((([a,b]:List BS).length:Int)>1)=true:=rfl
  have f4:((([a,b]:List BS).length:Int)==2)=true:=rfl
  have f5:decide (0<=(IntKind.wrap .i64 ((([a,b]:List BS).length:Int)-1))/\(IntKind.wrap .i64 ((([a,b]:List BS).length:Int)-1))<(([a,b]:List BS).length:Int))=true:=rfl
  have f6:decide (0<=(IntKind.wrap .i64 ((([a,b]:List BS).length:Int)-2))/\(IntKind.wrap .i64 ((([a,b]:List BS).length:Int)-2))<(([a,b]:List BS).length:Int))=true:=rfl
  have g1:((false==true):Bool)=false:=rfl
  have g2:((true==false):Bool)=false:=rfl
  simp only[f1,f2,f3,f4,f5,g1,g2,Bool.false_and,Bool.not_false,Bool.true_or,if_true,aQ,cond_false,cond_true,Bool.false_eq_true,if_false,e,hrc b (by omega),Option.bind_some,kU,f6,e2,hrc a (by omega)]
  simp only[Option.bind_some,rS]
  cases hk:okc 65535 a with
  |false =>
   simp only[Bool.not_false,cond_true,if_true,Option.bind_some,Sum.elim_inr]
   rw[rV hk,uu];rfl
  |true =>
   rw[zN hk]
   simp only[Bool.not_true,cond_false]
   by_cases h0:vl 0 a=0
   ·rw[D4 h0,uu,h0];rfl
   ·have e3:(((vl 0 a:Nat):Int)==0)=false:=by rw[beq_eq_false_iff_ne];omega
    rw[e3,if_neg Bool.false_ne_true,KB hk h0]
    have:=Gp n [] proto b (vl 0 a:Int) (Nat.zero_le _) hn
    rw[rS] at this
    exact this
 |[h,o,i],_ =>
  have hh:=hpp h (by simp)
  have ho:=hpp o (by simp)
  have hi:=hpp i (by simp)
  have e:([h,o,i]:List BS)[Int.toNat (IntKind.wrap .i64 ((([h,o,i]:List BS).length:Int)-1))]?.getD []=i:=rfl
  have e2:([h,o,i]:List BS)[Int.toNat (IntKind.wrap .i64 ((([h,o,i]:List BS).length:Int)-2))]?.getD []=o:=rfl
  rw[e,hrc i (by omega)]
  by_cases hh0:h=[]
  ·subst hh0;rfl
  ·have e9:((h.length:Int)==0)=false:=by
    rw[beq_eq_false_iff_ne];intro h5;exact hh0 (List.eq_nil_of_length_eq_zero (by omega))
   simp only[if_neg hh0]
   have e4:([h,o,i]:List BS)[Int.toNat 0]?.getD []=h:=rfl
   have e5:([h,o,i]:List BS)[Int.toNat 1]?.getD []=o:=rfl
   have f1:((([h,o,i]:List BS).length:Int)==3)=true:=rfl
   have f2:decide ((([h,o,i]:List BS).length:Int)>3)=false:=rfl
   have f3:decide ((([h,o,i]:List BS).length:Int)>1)=true:=rfl
   have f4:((([h,o,i]:List BS).length:Int)==2)=false:=rfl
   have f5:decide (0<=(IntKind.wrap .i64 ((([h,o,i]:List BS).length:Int)-1))/\(IntKind.wrap .i64 ((([h,o,i]:List BS).length:Int)-1))<(([h,o,i]:List BS).length:Int))=true:=rfl
   have f6:decide (0<=(IntKind.wrap .i64 ((([h,o,i]:List BS).length:Int)-2))/\(IntKind.wrap .i64 ((([h,o,i]:List BS).length:Int)-2))<(([h,o,i]:List BS).length:Int))=true:=rfl
   have f7:decide (0<=(0:Int)/\(0:Int)<(([h,o,i]:List BS).length:Int))=true:=rfl
   have f8:decide (0<=(1:Int)/\(1:Int)<(([h,o,i]:List BS).length:Int))=true:=rfl
   simp only[f7,f8,Bool.or_true,if_true,f1,f2,f3,f4,f5,e4,e5,e9,aQ,cond_false,cond_true,Bool.false_eq_true,if_false,Option.bind_some]
   by_cases ho0:o=[]
   ·subst ho0
    have:=Gp n h proto i 0 (by omega) hn
    exact this
   ·have e10:decide ((o.length:Int)>0)=true:=decide_eq_true (by have:=List.length_pos_iff.2 ho0;omega)
    rw[e10]
    simp only[if_neg ho0]
    simp only[kU,if_true,f6,e2,hrc o (by omega)]
    simp only[Option.bind_some,rS]
    cases hk:okc 65535 o with
    |false =>
     simp only[Bool.not_false,cond_true,if_true,Option.bind_some,Sum.elim_inr]
     rw[rV hk,uu];rfl
    |true =>
     rw[zN hk]
     simp only[Bool.not_true,cond_false]
     by_cases h0:vl 0 o=0
     ·rw[D4 h0,uu,h0];rfl
     ·have e3:(((vl 0 o:Nat):Int)==0)=false:=by rw[beq_eq_false_iff_ne];omega
      rw[e3,if_neg Bool.false_ne_true,KB hk h0]
      have:=Gp n h proto i (vl 0 o:Int) (by omega) hn
      rw[rS] at this
      exact this
 |a::b::c::d::r,_ =>
  have e2:(((a::b::c::d::r).length:Int)==3)=false:=by rw[beq_eq_false_iff_ne];simp only[List.length_cons];omega
  have e3:decide (((a::b::c::d::r).length:Int)>3)=true:=decide_eq_true (by simp only[List.length_cons];omega)
  rw[e2,e3];rfl
theorem rO{m:Nat}{x:BS}(h:(47:UInt8)∈x):okc m x=false:=by
 unfold okc
 cases hN:isNum x with
 |false=>rfl
 |true=>exact absurd (I7 hN 47 h) (by decide)
theorem N9{x:BS}(h:(47:UInt8)∈x):addr x=false:=by
 obtain⟨y,h1,h2⟩:=Ah (c:=46) (by decide) h
 unfold addr
 have:(parts 46 x).all (okc 255)=false:=by
  rw[List.all_eq_false]
  exact⟨y,h1,by rw[rO h2];decide⟩
 rw[this,Bool.and_false]
theorem Gh{s proto:BS}(h:(47:UInt8)∈s):rest s proto=none:=by
 obtain⟨x,h1,h2⟩:=Ah (c:=58) (by decide) h
 unfold rest
 generalize parts 58 s=l at *
 match l with
 |[]=>rfl
 |[a] =>
  simp only[List.mem_singleton] at h1;subst h1
  simp only[rV (rO h2),vM]
 |[a,b] =>
  simp only[List.mem_cons,List.not_mem_nil,or_false] at h1
  rcases h1 with rfl|rfl
  ·simp only[rV (rO h2),uu]
  ·simp only[rV (rO h2),vM]
 |[p,o,i] =>
  simp only[List.mem_cons,List.not_mem_nil,or_false] at h1
  have hx:x≠[]:=by rintro rfl;simp at h2
  simp only
  split
  ·rfl
  ·rename_i hp
   rcases h1 with rfl|rfl|rfl
   ·unfold nL
    have:∀a b,right ⟨x,a,b,proto⟩=false:=by
     intro a b
     unfold right
     have e:(x==[])=false:=by simpa using hx
     simp only[e,N9 h2,Bool.or_self,Bool.and_false]
    rw[this];rfl
   ·rw[if_neg hx,rV (rO h2),uu]
   ·rw[rV (rO h2),vM]
 |a::b::c::d::r=>rfl
theorem yT{h t:BS}{a b:Int}(h1:t≠lC)(h2:t≠nH):nL ⟨h,a,b,t⟩=none:=by
 have:right ⟨h,a,b,t⟩=false:=by
  unfold right
  have e1:(t==lC)=false:=by simpa using h1
  have e2:(t==nH)=false:=by simpa using h2
  simp only[e1,e2,Bool.or_self,Bool.and_false,Bool.false_and]
 unfold nL;rw[this];rfl
theorem Fj{s t:BS}(h1:t≠lC)(h2:t≠nH):rest s t=none:=by
 unfold rest
 split
 ·exact yT h1 h2
 ·exact yT h1 h2
 ·split
  ·rfl
  ·exact yT h1 h2
 ·rfl
theorem Ru{t:BS}:rest [] t=none:=by
 show nL ⟨[],0,num [],t⟩=none
 exact vM
def isP(t:BS):Prop:=t=lC\/t=nH
theorem L9{a t:BS}(ht:isP t):parse (a++47::t)=rest a t:=by
 unfold parse
 by_cases h:(47:UInt8)∈a
 ·cases hu:upto 47 a with
  |none=>exact absurd h (Je.1 hu)
  |some p =>
   obtain⟨p,r⟩:=p
   obtain⟨h1,h2⟩:=xd hu
   rw[Gh h,h1,List.append_assoc,List.cons_append,D3 h2]
   refine Fj ?_ ?_
   ·intro e
    have:(47:UInt8)∈(lC:BS):=by rw[<-e];simp
    revert this;decide
   ·intro e
    have:(47:UInt8)∈(nH:BS):=by rw[<-e];simp
    revert this;decide
 ·rw[D3 h]
theorem zj{s:BS}(h:∀a t,a≠[]->isP t->s≠a++47::t):parse s=rest s lC:=by
 unfold parse
 cases hu:upto 47 s with
 |none=>rfl
 |some p =>
  obtain⟨p,q⟩:=p
  obtain⟨h1,h2⟩:=xd hu
  have hs:(47:UInt8)∈s:=by rw[h1];simp
  rw[Gh hs]
  by_cases hq:isP q
  ·by_cases hp:p=[]
   ·subst hp;exact Ru
   ·exact absurd h1 (h p q hp hq)
  ·exact Fj (fun e=>hq (.inl e)) (fun e=>hq (.inr e))
theorem Po(n:Nat)(s:BS)(hs:s.length<=500000)(hn:2000000<=n):qA n s=some (Oz (parse s)):=by
 unfold qA
 by_cases h4:4<s.length
 ·have w4:IntKind.wrap .i64 ((s.length:Int)-4)=((s.length-4:Nat):Int):=by rw[fC _ (by omega) (by omega)];omega
  have e1:decide (0<=((s.length-4:Nat):Int)/\((s.length-4:Nat):Int)<=(s.length:Int))=true:=decide_eq_true (by omega)
  have e2:decide ((s.length:Int)>4)=true:=decide_eq_true (by omega)
  rw[w4,e1,e2]
  simp only[Bool.or_true,if_true,aQ,cond_true,tn]
  have hdl:(s.drop (s.length-4)).length=4:=by simp;omega
  by_cases hd:s.drop (s.length-4)=yH\/s.drop (s.length-4)=qT
  ·have hx:(bif (s.drop (s.length-4)==yH) then true else(s.drop (s.length-4)==qT))=true:=by
    rcases hd with hd|hd<;>rw[hd]<;>rfl
   have w3:IntKind.wrap .i64 ((s.length:Int)-3)=((s.length-3:Nat):Int):=by rw[fC _ (by omega) (by omega)];omega
   have hd3:s.drop (s.length-3)=(s.drop (s.length-4)).drop 1:=by rw[List.drop_drop];congr 1;omega
   have hp:∃t,isP t/\s.drop (s.length-4)=47::t/\s.drop (s.length-3)=t:=by
    rcases hd with hd|hd
    ·exact⟨_,.inl rfl,hd,by rw[hd3,hd];rfl⟩
    ·exact⟨_,.inr rfl,hd,by rw[hd3,hd];rfl⟩
   obtain⟨t,ht,hdt,hdt3⟩:=hp
   have hsp:s=s.take (s.length-4)++47::t:=by rw[<-hdt,List.take_append_drop]
   rw[hx,kY,if_pos rfl,w3,w4,if_pos (pM (by omega)),if_pos (pM (by omega)),tn,tn,hdt3]
   have:=He n (s.take (s.length-4)) t (by simp;omega) hn
   rw[<-L9 ht,<-hsp] at this
   exact this
  ·have hx:(bif (s.drop (s.length-4)==yH) then true else(s.drop (s.length-4)==qT))=false:=by
    have h1:(s.drop (s.length-4)==yH)=false:=by simpa using fun e=>hd (.inl e)
    have h2:(s.drop (s.length-4)==qT)=false:=by simpa using fun e=>hd (.inr e)
    rw[h1,h2];rfl
   rw[hx,kY,if_neg Bool.false_ne_true]
   have:=He n s lC hs hn
   rw[zj (s:=s) fun a t ha ht e=>hd ?_] at *
   ·exact this
   ·have hl:t.length=3:=by rcases ht with rfl|rfl<;>rfl
    have e5:s.drop (s.length-4)=47::t:=by
     rw[e]
     have:(a++47::t).length-4=a.length:=by simp[hl]
     rw[this,List.drop_left]
    rcases ht with rfl|rfl
    ·exact .inl e5
    ·exact .inr e5
 ·have e2:decide ((s.length:Int)>4)=false:=decide_eq_false (by omega)
  rw[e2]
  simp only[cond_false,aQ]
  have g1:((false==true):Bool)=false:=rfl
  simp only[g1,Bool.false_and,Bool.not_false,Bool.true_or,if_true]
  rw[kY,if_neg Bool.false_ne_true]
  have:=He n s lC hs hn
  rw[zj (s:=s) fun a t ha ht e=>h4 ?_] at *
  ·exact this
  ·have hl:t.length=3:=by rcases ht with rfl|rfl<;>rfl
   have:=List.length_pos_iff.2 ha
   rw[e];simp[hl];omega
theorem GQ{s t:BS}{p:aH}(h:rest s t=some p):right p=true/\p.bD.length<=s.length:=by
 have hf:∀q:aH,nL q=some p->right p=true/\p=q:=by
  intro q hq
  unfold nL at hq
  split at hq
  ·rename_i hr;cases hq;exact⟨hr,rfl⟩
  ·cases hq
 have hpp:=pX 58 s
 unfold rest at h
 split at h
 ·obtain⟨h1,h2⟩:=hf _ h;exact⟨h1,by rw[h2];exact Nat.zero_le _⟩
 ·obtain⟨h1,h2⟩:=hf _ h;exact⟨h1,by rw[h2];exact Nat.zero_le _⟩
 ·rename_i x o i hp
  split at h
  ·cases h
  ·obtain⟨h1,h2⟩:=hf _ h
   refine⟨h1,?_⟩
   rw[h2]
   exact hpp x (by rw[hp];simp)
 ·cases h
theorem MN{s:BS}{p:aH}(h:parse s=some p):right p=true/\p.bD.length<=s.length:=by
 unfold parse at h
 split at h
 ·exact GQ h
 ·rename_i q hu
  obtain⟨h1,h2⟩:=GQ h
  obtain⟨h3,_⟩:=xd (p:=q.1) (q:=q.2) (by rw[hu])
  refine⟨h1,?_⟩
  have:=congrArg List.length h3
  simp at this;omega
def body(p:aH):BS :=
 (if p.bD=[] then(if 0<p.dm then dg 19 p.dm.toNat []++[58] else []) else p.bD++[58]++(if 0<p.dm then dg 19 p.dm.toNat [] else [])++[58])++dg 19 p.jl.toNat []
def text(p:aH):BS:=if right p=true then body p++(if p.dc=nH then qT else []) else []
theorem RI{p:aH}(h:right p=true):(1<=p.jl/\p.jl<=65535/\0<=p.dm/\p.dm<=65535)/\isP p.dc/\(p.bD=[]\/addr p.bD=true):=by
 unfold right at h
 simp only[Bool.and_eq_true,decide_eq_true_eq,Bool.or_eq_true,beq_iff_eq] at h
 exact⟨h.1.1,h.1.2,h.2⟩
theorem rtx(n:Nat)(x:Int)(h0:0<=x)(h1:x<=65535)(hn:100<=n):ft n x=some (dg 19 x.toNat []):=by
 have:=K4 n x.toNat (by omega) hn
 rwa[Int.toNat_of_nonneg h0] at this
theorem dl(u:Nat):(dg 19 u []).length<=20:=Ly 19 u []
theorem F6(n:Nat)(p:aH)(hh:p.bD.length<=1000)(hn:2000000<=n):ql n p=some (text p):=by
 unfold ql
 rw[IK n p (by omega) hn]
 simp only[Option.bind_some]
 unfold text
 cases hr:right p with
 |false=>rfl
 |true =>
  obtain⟨⟨h1,h2,h3,h4⟩,h5,h6⟩:=RI hr
  simp only[Bool.not_true,Bool.false_eq_true,if_false,if_true]
  have hdO:=dl p.dm.toNat
  have hdI:=dl p.jl.toNat
  have e0:decide ((p.bD.length:Int)>0)=!(p.bD==[]):=by
   by_cases h:p.bD=[]
   ·rw[h];rfl
   ·have e:(p.bD==[])=false:=by simpa using h
    rw[e,decide_eq_true (by have:=List.length_pos_iff.2 h;omega)];rfl
  have e1:nU n [] (decide ((p.bD.length:Int)>0)) p=some (if p.bD=[] then [] else p.bD++[58]):=by
   unfold nU
   rw[e0]
   by_cases h:p.bD=[]
   ·rw[if_pos h,h];rfl
   ·have e:(p.bD==[])=false:=by simpa using h
    rw[e,if_neg h,if_pos (dq (by simp;omega))];rfl
  rw[e1]
  simp only[Option.bind_some]
  generalize hc:(if p.bD=[] then([]:BS) else p.bD++[58])=c
  have hcl:c.length<=1100:=by
   rw[<-hc];split
   ·first|omega|exact Nat.zero_le _
   ·simp;omega
  have e2:nR n c (decide (p.dm>0)) p=some (if 0<p.dm then c++dg 19 p.dm.toNat []++[58] else if p.bD=[] then c else c++[58]):=by
   unfold nR
   by_cases h:0<p.dm
   ·rw[decide_eq_true h,if_pos rfl,rtx n _ h3 h4 (by omega),if_pos h]
    simp only[Option.bind_some]
    rw[if_pos (dq (by omega)),if_pos (dq (by simp;omega))]
   ·rw[decide_eq_false h,if_neg Bool.false_ne_true,if_neg h,e0]
    by_cases h':p.bD=[]
    ·rw[if_pos h',h'];rfl
    ·have e:(p.bD==[])=false:=by simpa using h'
     rw[e,if_neg h',if_pos (dq (by simp;omega))];rfl
  rw[e2]
  simp only[Option.bind_some]
  rw[rtx n _ (by omega) h2 (by omega)]
  simp only[Option.bind_some]
  generalize hd:(if 0<p.dm then c++dg 19 p.dm.toNat []++[58] else if p.bD=[] then c else c++[58])=d
  have hdl:d.length<=1200:=by
   rw[<-hd]
   split
   ·simp;omega
   ·split
    ·omega
    ·simp;omega
  rw[if_pos (dq (by omega))]
  have e4:nS n (d++dg 19 p.jl.toNat []) (p.dc==nH)=some (d++dg 19 p.jl.toNat []++(if p.dc=nH then qT else [])):=by
   unfold nS
   by_cases h:p.dc=nH
   ·have e:(p.dc==nH)=true:=by rw[h];rfl
    rw[e,if_pos h,if_pos rfl,if_pos (dq (by simp;omega))]
   ·have e:(p.dc==nH)=false:=by simpa using h
    rw[e,if_neg h,if_neg Bool.false_ne_true,List.append_nil]
  rw[e4]
  simp only[Option.bind_some]
  congr 2
  unfold body
  congr 1
  rw[<-hd,<-hc]
  by_cases h:p.bD=[]
  ·simp only[if_pos h,List.nil_append]
  ·simp only[if_neg h]
   by_cases h':0<p.dm
   ·simp only[if_pos h',List.append_assoc]
   ·simp only[if_neg h',List.append_assoc,List.nil_append]
end Go.Proofs.YtpmmhhmhckpnfaaGreat.M
