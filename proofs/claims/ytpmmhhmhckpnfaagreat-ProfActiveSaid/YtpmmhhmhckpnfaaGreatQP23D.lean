import Derived.Test.YtpmmhhmhckpnfaaGreatQLoop
set_option linter.all false
namespace Go.Proofs.YtpmmhhmhckpnfaaGreat.M
open Go Go.Proofs.YtpmmhhmhckpnfaaGreat.RX Go.Proofs.YtpmmhhmhckpnfaaGreat.PL
set_option maxRecDepth 100000
theorem Ip(l:List BS):(kV l).Pairwise (·<=·):=by
 have:=List.pairwise_mergeSort (le:=fun x y:BS=>decide (x<=y)) (fun a b c h1 h2=>by simp only[decide_eq_true_eq] at *;exact D1 h1 h2) (fun a b=>by simpa using SA a b) l
 exact this.imp fun h=>by simpa using h
theorem Gm(zs:List BS)(hz:zs.Pairwise (·<=·)):∀m,m<=zs.length->Asc (Lib.compactUpTo zs.toArray m)/\∀x,x∈Lib.compactUpTo zs.toArray m↔x∈zs.take m
 |0,_=>by simp[Lib.compactUpTo]
 |m+1,hm=>by
  obtain⟨h1,h2⟩:=Gm zs hz m (by omega)
  have hg:∀j (h:j<zs.length),zs.toArray[j]! = zs[j]:=fun j h=>by simp[h]
  have hle:∀j (h:j<zs.length),j<m->zs[j]<=zs[m]:=fun j h hj=>List.pairwise_iff_getElem.1 hz j m h (by omega) hj
  rw[Lib.compactUpTo_succ,List.take_succ_eq_append_getElem (by omega:m<zs.length)]
  by_cases hk:Lib.keeps zs.toArray m=true
  ·rw[if_pos hk,hg m (by omega)]
   refine⟨List.pairwise_append.2 ⟨h1,by simp,fun x hx y hy=>?_⟩,fun x=>by rw[List.mem_append,List.mem_append,h2]⟩
   rw[List.mem_singleton.1 hy]
   obtain⟨j,hj,rfl⟩:=List.mem_take_iff_getElem.1 ((h2 x).1 hx)
   have hjm:j<m:=by omega
   refine qP (hle j (by omega) hjm) fun e=>?_
   have hk':m=0\/zs.toArray[m]!≠zs.toArray[m-1]!:=by simpa[Lib.keeps] using hk
   rcases hk' with h0|h0
   ·omega
   ·rw[hg m (by omega),hg (m-1) (by omega)] at h0
    have a1:zs[j]<=zs[m-1]:=by
     by_cases hq:j=m-1
     ·subst hq;exact pU.1 (ja _)
     ·exact List.pairwise_iff_getElem.1 hz j (m-1) (by omega) (by omega) (by omega)
    have a2:zs[m-1]<=zs[m]:=hle (m-1) (by omega) (by omega)
    exact h0 (xY (e▸a1) a2)
  ·rw[if_neg hk,List.append_nil]
   refine⟨h1,fun x=>?_⟩
   have hk':¬(m=0\/zs.toArray[m]!≠zs.toArray[m-1]!):=by simpa[Lib.keeps] using hk
   have hm0:m≠0:=fun e=>hk' (.inl e)
   have he:zs[m]=zs[m-1]:=by
    have:zs.toArray[m]! = zs.toArray[m-1]!:=Classical.byContradiction fun h=>hk' (.inr h)
    rwa[hg m (by omega),hg (m-1) (by omega)] at this
   rw[h2,List.mem_append,List.mem_singleton]
   constructor
   ·exact fun h=>.inl h
   ·rintro(h|h)
    ·exact h
    ·rw[h,he]
     exact List.mem_take_iff_getElem.2 ⟨m-1,by omega,rfl⟩
theorem MU(l:List BS):Lib.compact (kV l)=srt l:=by
 obtain⟨h1,h2⟩:=Gm (kV l) (Ip l) _ (Nat.le_refl _)
 refine Asc.ext h1 (oP l) fun x=>?_
 rw[ku]
 have:=h2 x
 rw[List.take_length] at this
 rw[show Lib.compact (kV l)=Lib.compactUpTo (kV l).toArray (kV l).length from rfl,this]
 exact List.mem_mergeSort
theorem SK{a:Nat}(h:a<=1000000):decide (a*17<=limit)=true:=decide_eq_true (by show a*17<=140737488355328;omega)
theorem uM(n:Nat)(l:List BS)(h:l.length<=1000000):kL n l=some (srt l):=by
 unfold kL
 have h1:decide ((List.length ([]:List BS)+List.length l)*(16+1)<=limit)=true:=fU (by simp;omega)
 have h3:(Sh.sort l).length=l.length:=List.length_mergeSort l
 rw[if_pos h1,List.nil_append,if_pos (SK h),if_pos (SK (by omega))]
 exact congrArg some (MU l)
def lZ(out:List BS)(x:BS):Bool:=if out.length=0 then true else decide ((out[out.length-1]?.getD [])<x)
def PP(l out:List BS)(i:Nat)(v:Int):Prop :=
 (v=-1/\∀j (h:j<l.length),j<i->lZ out l[j]=false)\/∃(b:Nat)(h:b<l.length),v=(b:Int)/\b<i/\lZ out l[b]=true/\∀j (h:j<l.length),j<i->lZ out l[j]=true->l[b]<=l[j]
theorem last_at{out:List BS}(h0:out.length≠0)(ho:out.length<1000000):(decide (0<=(IntKind.wrap .i64 ((List.length out:Int)-1))/\(IntKind.wrap .i64 ((List.length out:Int)-1))<(List.length out:Int)))=true/\(out[Int.toNat (IntKind.wrap .i64 ((List.length out:Int)-1))]?.getD [])=(out[out.length-1]?.getD []):=by
 rw[US out.length (by omega) (by omega)]
 exact⟨aN (by omega),rfl⟩
theorem Ve(n:Nat)(l out:List BS)(i:Nat)(v:Int)(hi:i<l.length)(ho:out.length<1000000)(hv:v=-1\/∃b:Nat,v=(b:Int)/\b<l.length) :
  mr n l out v (i:Int)=some (if(lZ out l[i]&&(decide (v<0)||decide (l[i]<(l[Int.toNat v]?.getD []))))=true then(i:Int) else v):=by
 have hA:(bif ((List.length out:Int)==0) then true else(!(Op.bytesLess (l[Int.toNat (i:Int)]?.getD []) (out[Int.toNat (IntKind.wrap .i64 ((List.length out:Int)-1))]?.getD [])||(l[Int.toNat (i:Int)]?.getD [])==(out[Int.toNat (IntKind.wrap .i64 ((List.length out:Int)-1))]?.getD []))))=lZ out l[i]:=by
  unfold lZ
  rw[Tj,bM hi]
  by_cases h0:out.length=0
  ·simp[h0]
  ·have e:((List.length out:Int)==0)=false:=by rw[beq_eq_false_iff_ne];omega
   rw[e,if_neg h0,(last_at h0 ho).2,cond_false,Bool.eq_iff_iff]
   simp[Jq]
 unfold mr
 rw[hA]
 have c2:(!(((List.length out:Int)==0)==false)||decide (0<=(IntKind.wrap .i64 ((List.length out:Int)-1))/\(IntKind.wrap .i64 ((List.length out:Int)-1))<(List.length out:Int)))=true:=by
  by_cases h0:out.length=0
  ·simp[h0]
  ·rw[(last_at h0 ho).1,Bool.or_true]
 have c4:(!(((decide (v<0))==false)&&(lZ out l[i]==true))||decide (0<=v/\v<(List.length l:Int)))=true:=by
  rcases hv with rfl|⟨b,rfl,hb⟩
  ·simp
  ·rw[aN hb,Bool.or_true]
 simp only[aN hi,Bool.or_true,if_true,c2,c4,aS,FK,bM hi]
 cases lZ out l[i]<;>cases decide (v<0)<;>simp
 split<;>rfl
theorem QW{l out:List BS}{i:Nat}{v:Int}(hi:i<l.length)(h:PP l out i v):PP l out (i+1) (if(lZ out l[i]&&(decide (v<0)||decide (l[i]<(l[Int.toNat v]?.getD []))))=true then(i:Int) else v):=by
 cases ha:lZ out l[i] with
 |false =>
  rw[Bool.false_and,if_neg Bool.false_ne_true]
  rcases h with⟨rfl,h⟩|⟨b,hb,rfl,hbi,hab,h⟩
  ·refine .inl ⟨rfl,fun j hj hji=>?_⟩
   by_cases e:j=i
   ·subst e;exact ha
   ·exact h j hj (by omega)
  ·refine .inr ⟨b,hb,rfl,by omega,hab,fun j hj hji haj=>?_⟩
   by_cases e:j=i
   ·subst e;rw[ha] at haj;cases haj
   ·exact h j hj (by omega) haj
 |true =>
  rw[Bool.true_and]
  rcases h with⟨rfl,h⟩|⟨b,hb,rfl,hbi,hab,h⟩
  ·rw[if_pos (by simp)]
   refine .inr ⟨i,hi,rfl,by omega,ha,fun j hj hji haj=>?_⟩
   by_cases e:j=i
   ·subst e;exact pU.1 (ja _)
   ·rw[h j hj (by omega)] at haj;cases haj
  ·have e0:decide ((b:Int)<0)=false:=decide_eq_false (by omega)
   rw[e0,Bool.false_or,bM hb]
   by_cases hlt:l[i]<l[b]
   ·rw[if_pos (decide_eq_true hlt)]
    refine .inr ⟨i,hi,rfl,by omega,ha,fun j hj hji haj=>?_⟩
    by_cases e:j=i
    ·subst e;exact pU.1 (ja _)
    ·exact D1 (yb hlt) (h j hj (by omega) haj)
   ·rw[if_neg (by simpa using hlt)]
    refine .inr ⟨b,hb,rfl,by omega,hab,fun j hj hji haj=>?_⟩
    by_cases e:j=i
    ·subst e;exact pU.1 hlt
    ·exact h j hj (by omega) haj
theorem SZ(n:Nat)(l out:List BS)(hl:l.length<1000000)(ho:out.length<1000000):∀(k i:Nat)(v:Int),i<=l.length->l.length-i<k->PP l out i v->∃r,jr n l out k v (i:Int)=some r/\PP l out l.length r
 |0,i,v,_,h,_=>by omega
 |k+1,i,v,h1,h2,hb=>by
  rw[jr]
  by_cases h:i<l.length
  ·have hv:v=-1\/∃b:Nat,v=(b:Int)/\b<l.length:=by
    rcases hb with⟨e,_⟩|⟨b,hb,e,_⟩
    ·exact .inl e
    ·exact .inr ⟨b,e,hb⟩
   rw[if_pos (bZ h),Ve n l out i v h ho hv,Option.bind_some,dQ i (by omega)]
   exact SZ n l out hl ho k (i+1) _ (by omega) (by omega) (QW h hb)
  ·have:i=l.length:=by omega
   subst this
   rw[if_neg (by rw[bK];exact Bool.false_ne_true)]
   exact⟨v,rfl,hb⟩
theorem Py(n:Nat)(l:List BS)(hl:l.length<100000)(hn:100000<=n):∀(k m:Nat),m<=(srt l).length->(srt l).length-m<k->kx n l k ((srt l).take m)=some (srt l)
 |0,m,_,h=>by omega
 |k+1,m,h1,h2=>by
  have hlen:=dO l
  have hA:=oP l
  have htl:((srt l).take m).length=m:=by rw[List.length_take];omega
  have hab:∀x,lZ ((srt l).take m) x=true↔(m=0\/∃h:m-1<(srt l).length,(srt l)[m-1]<x):=by
   intro x
   unfold lZ
   rw[htl]
   by_cases h0:m=0
   ·simp[h0]
   ·rw[if_neg h0,List.getElem?_take,if_pos (by omega),List.getElem?_eq_getElem (by omega)]
    simp[h0]
    constructor
    ·exact fun h=>⟨by omega,h⟩
    ·exact fun⟨_,h⟩=>h
  obtain⟨r,hr,hb⟩:=SZ n l ((srt l).take m) (by omega) (by omega) n 0 (-1) (by omega) (by omega) (.inl ⟨rfl,fun j _ h=>by omega⟩)
  have hr:jr n l ((srt l).take m) n (-1) 0=some r:=hr
  rw[kx,hr,Option.bind_some]
  rcases hb with⟨rfl,hb⟩|⟨b,hbl,rfl,_,hcb,hb⟩
  ·have hm:m=(srt l).length:=by
    refine Classical.byContradiction fun hne=>?_
    have hmT:m<(srt l).length:=by omega
    obtain⟨j,hj,e⟩:=List.mem_iff_getElem.1 (ku.1 (List.getElem_mem hmT))
    have:=hb j hj hj
    rw[e] at this
    have h3:lZ ((srt l).take m) (srt l)[m]=true:=by
     rw[hab]
     by_cases h0:m=0
     ·exact .inl h0
     ·exact .inr ⟨by omega,List.pairwise_iff_getElem.1 hA (m-1) m (by omega) hmT (by omega)⟩
    rw[this] at h3;cases h3
   rw[if_pos (by decide)]
   subst hm
   rw[List.take_length]
  ·obtain⟨j,hj,e⟩:=List.mem_iff_getElem.1 (ku.2 (List.getElem_mem hbl):l[b]∈srt l)
   have hmj:m<=j:=by
    rcases(hab _).1 hcb with h0|⟨h0,h3⟩
    ·omega
    ·refine Classical.byContradiction fun hne=>?_
     rw[<-e] at h3
     by_cases hq:j=m-1
     ·subst hq;exact ja _ h3
     ·exact ja _ (za h3 (List.pairwise_iff_getElem.1 hA j (m-1) hj h0 (by omega)))
   have hmT:m<(srt l).length:=by omega
   have hbm:l[b]=(srt l)[m]:=by
    obtain⟨j',hj',e'⟩:=List.mem_iff_getElem.1 (ku.1 (List.getElem_mem hmT))
    have h3:lZ ((srt l).take m) (srt l)[m]=true:=by
     rw[hab]
     by_cases h0:m=0
     ·exact .inl h0
     ·exact .inr ⟨by omega,List.pairwise_iff_getElem.1 hA (m-1) m (by omega) hmT (by omega)⟩
    have h4:=hb j' hj' hj' (by rw[e'];exact h3)
    rw[e'] at h4
    refine xY h4 ?_
    rw[<-e]
    by_cases hq:j=m
    ·subst hq;exact pU.1 (ja _)
    ·exact yb (List.pairwise_iff_getElem.1 hA m j hmT hj (by omega))
   have e0:decide ((b:Int)<0)=false:=decide_eq_false (by omega)
   have hc:decide ((List.length ((srt l).take m)+List.length ([l[b]]:List BS))*(16+1)<=limit)=true:=fU (by rw[htl];simp;omega)
   rw[e0,if_neg Bool.false_ne_true,if_pos (aN hbl),bM hbl,if_pos hc,hbm,<-List.take_succ_eq_append_getElem hmT]
   exact Py n l hl hn k (m+1) (by omega) (by omega)
theorem sW(n:Nat)(l:List BS)(hl:l.length<10000)(hn:100000<=n):gi n l=some (srt l):=by
 unfold gi
 have:=Py n l (by omega) hn n 0 (by omega) (by have:=dO l;omega)
 rw[List.take_zero] at this
 rw[this];rfl
def at1(s:BS):Nat->List BS->Option Int:=wz fun i x=>if(s==x)=true then some (i:Int) else none
theorem PT(n:Nat)(l:List BS)(s:BS)(hl:l.length<10000)(hn:100000<=n):wE n l s=some ((at1 s 0 l).getD (-1)):=by
 unfold wE eF
 have:=Kx (L:=bD n l s (List.length l:Int)) l (fun i x=>if(s==x)=true then some (i:Int) else none) 0 (by omega)
  (fun k i h _=>by
   rw[bD,if_pos (bZ h),if_pos (aN h),bM h]
   cases s==l[i]<;>rfl)
  (fun k=>by rw[bD,bK];rfl) n 0 (by omega) (by omega) (by omega)
 rw[show(0:Int)=((0:Nat):Int) from rfl,this,List.drop_zero]
 show(Option.bind _ _)=some ((at1 s 0 l).getD (-1))
 rw[show wz (fun i x=>if(s==x)=true then some (i:Int) else none) 0 l=at1 s 0 l from rfl]
 cases at1 s 0 l<;>rfl
theorem Tc{l m:List BS}{i:Nat}(h1:i<l.length)(h2:i<m.length):(l.drop i=m.drop i)↔l[i]=m[i]/\l.drop (i+1)=m.drop (i+1):=by
 rw[drop_at h1,drop_at h2,List.cons.injEq]
theorem PY{L:Nat->Int->Option (Sum Unit Bool)}(l m:List BS)(hlm:l.length=m.length)(hl:l.length<10000)
  (hs:∀k i (h:i<l.length) (h':i<m.length),L (k+1) (i:Int)=if(!(l[i]==m[i]))=true then some (.inr false) else L k (IntKind.wrap .i64 ((i:Int)+1)))
  (he:∀k,L (k+1) (l.length:Int)=some (.inl ())):∀k i,i<=l.length->l.length-i<k->L k (i:Int)=some (if l.drop i=m.drop i then .inl () else .inr false)
 |0,i,_,h=>by omega
 |k+1,i,h1,h2=>by
  by_cases h:i<l.length
  ·have h':i<m.length:=by omega
   rw[hs k i h h']
   simp only[Tc h h']
   by_cases e:l[i]=m[i]
   ·simp only[e,beq_self_eq_true,Bool.not_true,Bool.false_eq_true,if_false,true_and]
    rw[dQ i (by omega)]
    exact PY l m hlm hl hs he k (i+1) (by omega) (by omega)
   ·simp[e]
  ·have:i=l.length:=by omega
   subst this
   rw[he,List.drop_eq_nil_of_le (Nat.le_refl _),List.drop_eq_nil_of_le (by omega),if_pos rfl]
theorem JY(n:Nat)(l m:List BS)(hl:l.length<10000)(hn:100000<=n):fV n l m=some (decide (l=m)):=by
 unfold fV
 by_cases hlm:l.length=m.length
 ·have e:((List.length l:Int) != (List.length m:Int))=false:=by simp[hlm]
  have:=PY (L:=iq n l m) l m hlm hl
   (fun k i h h'=>by rw[iq,if_pos (bZ h),if_pos (aN h),if_pos (aN h'),bM h,bM h'])
   (fun k=>by rw[iq,bK];rfl) n 0 (by omega) (by omega)
  rw[e,if_neg Bool.false_ne_true,show(0:Int)=((0:Nat):Int) from rfl,this,List.drop_zero,List.drop_zero]
  by_cases h:l=m
  ·rw[if_pos h,decide_eq_true h];rfl
  ·rw[if_neg h,decide_eq_false h];rfl
 ·have e:((List.length l:Int) != (List.length m:Int))=true:=by simpa using fun h=>hlm (by omega)
  rw[e,if_pos rfl,decide_eq_false (fun h=>hlm (congrArg List.length h))]
abbrev Nd:=af
abbrev Z8:Nd:=af.mk 0 [] [] []
def Fit:Nat->Nd->Prop
 |0,_=>False
 |d+1,t=>t.ak.length<=2000/\t.aj.length<=2000/\(t.av≠1->t.aB=[])/\(t.av≠3->t.aj=[])/\(t.av=3->t.aj.length=t.ak.length/\t.aj.Nodup)/\(t.av<2->t.ak=[])/\(0<=t.av/\t.av<=3)/\∀x∈t.ak,Fit d x
def sz8:Nat->Nd->Nat
 |0,_=>1
 |d+1,t=>1+(t.ak.map (sz8 d)).sum
theorem Ig:∀d t,1<=sz8 d t
 |0,_=>Nat.le_refl 1
 |d+1,t=>by unfold sz8;omega
def IR:Nat->Nd->Prop
 |0,_=>True
 |d+1,t=>t.aB.length<=200/\(∀k∈t.aj,k.length<=200)/\∀x∈t.ak,IR d x
theorem NY{x:BS}:∀{l:List BS},Asc l->x∈l->(ins x l).length=l.length
 |[],_,h=>by cases h
 |y::l,ha,h=>by
  obtain⟨h1,h2⟩:=List.pairwise_cons.1 ha
  unfold ins
  split
  ·rename_i hx
   rcases List.mem_cons.1 h with e|hm
   ·subst e;exact(ja _ hx).elim
   ·exact(ja _ (za hx (h1 x hm))).elim
  ·split
   ·rfl
   ·rename_i hx hy
    rcases List.mem_cons.1 h with e|hm
    ·exact(hy e).elim
    ·rw[List.length_cons,NY h2 hm,List.length_cons]
theorem zT:∀{l:List BS},(srt l).length=l.length->l.Nodup
 |[],_=>.nil
 |x::l,h=>by
  have h0:srt (x::l)=ins x (srt l):=rfl
  have h1:=dO l
  rw[h0,List.length_cons] at h
  by_cases hx:x∈srt l
  ·rw[NY (oP l) hx] at h;omega
  ·have h2:=vN x (srt l)
   refine List.nodup_cons.2 ⟨fun hm=>hx (ku.2 hm),zT (by omega)⟩
theorem Jv(R:Nd->Int->Int->Option Int)(n d:Nat)(dep:Int)(t:Nd)(hdep:0<=dep/\dep<100)
  (hR:∀x∈t.ak,∀l:Nat,l<=2000->∃r,R x (dep+1) (l:Int)=some r/\(r=-1\/∃q:Nat,r=(q:Int)/\Fit d x/\q+sz8 d x<=l)) :
  ∀(k l i:Nat),l+1<k->i<=t.ak.length->i+l<=2000 ->
   eu R n dep t k (l:Int) (i:Int)=some (.inr (-1))\/∃q:Nat,eu R n dep t k (l:Int) (i:Int)=some (.inl (q:Int))/\q+((t.ak.drop i).map (sz8 d)).sum<=l/\∀x∈t.ak.drop i,Fit d x
 |0,l,i,h,_,_=>by omega
 |k+1,l,i,hk,hi,hil=>by
  by_cases h:i<t.ak.length
  ·have e1:IntKind.wrap .i64 (dep+1)=dep+1:=gY _ (by omega) (by omega)
   obtain⟨r,h1,h2⟩:=hR t.ak[i] (List.getElem_mem h) l (by omega)
   have hst:eu R n dep t (k+1) (l:Int) (i:Int)=if(decide (r<0))=true then some (.inr (-1)) else eu R n dep t k r (IntKind.wrap .i64 ((i:Int)+1)):=by
    rw[eu,if_pos (bZ h),if_pos (aN h),bM h,e1,h1];rfl
   rw[hst]
   rcases h2 with rfl|⟨q,rfl,hF,hq⟩
   ·exact .inl (if_pos rfl)
   ·have hp:=Ig d t.ak[i]
    rw[if_neg (by simp),dQ i (by omega)]
    rcases Jv R n d dep t hdep hR k q (i+1) (by omega) (by omega) (by omega) with h3|⟨q',h3,h4,h5⟩
    ·exact .inl h3
    ·refine .inr ⟨q',h3,?_,?_⟩
     ·rw[drop_at h,List.map_cons,List.sum_cons];omega
     ·rw[drop_at h]
      intro x hx
      rcases List.mem_cons.1 hx with rfl|hx
      ·exact hF
      ·exact h5 x hx
  ·have:i=t.ak.length:=by omega
   subst this
   refine .inr ⟨l,?_,?_,?_⟩
   ·rw[eu,bK];rfl
   ·rw[List.drop_eq_nil_of_le (Nat.le_refl _)];simp
   ·rw[List.drop_eq_nil_of_le (Nat.le_refl _)];intro x hx;cases hx
theorem KJ{a b:Bool}:(bif a then true else b)=(a||b):=by cases a<;>rfl
theorem BP{a b:Bool}:(bif a then b else false)=(a&&b):=by cases a<;>rfl
theorem left_eq:∀(d n:Nat)(t:Nd)(dep:Int)(l:Nat),dep+(d:Int)=13->0<=dep->l<=2000->100000+d<n ->
  ∃r,gX n t dep (l:Int)=some r/\(r=-1\/∃q:Nat,r=(q:Int)/\Fit d t/\q+sz8 d t<=l)
 |_,0,_,_,_,_,_,_,h=>by omega
 |0,n+1,t,dep,l,hd,h0,hl,hn=>by
  refine⟨-1,?_,.inl rfl⟩
  show lu (gX n) n t dep (l:Int)=_
  unfold lu
  have:decide (dep>12)=true:=decide_eq_true (by omega)
  simp only[this,aS,KJ,Bool.or_true,Bool.true_or,if_true]
 |d+1,n+1,t,dep,l,hd,h0,hl,hn=>by
  show ∃r,lu (gX n) n t dep (l:Int)=some r/\_
  unfold lu
  have e1:IntKind.wrap .i64 ((l:Int)-1)=(l:Int)-1:=gY _ (by omega) (by omega)
  simp only[aS,e1,KJ,BP]
  by_cases c1:(decide ((l:Int)-1<0)||decide (dep>12)||decide (t.av<0)||decide (t.av>3))=true
  ·exact⟨-1,if_pos c1,.inl rfl⟩
  rw[if_neg c1]
  by_cases c2:((t.av != 1&&decide ((List.length t.aB:Int)>0))||(t.av != 3&&decide ((List.length t.aj:Int)>0))||(decide (t.av<2)&&decide ((List.length t.ak:Int)>0)))=true
  ·exact⟨-1,if_pos c2,.inl rfl⟩
  rw[if_neg c2]
  simp only[Bool.or_eq_true,Bool.and_eq_true,decide_eq_true_eq,bne_iff_ne,ne_eq,not_or,not_and,gt_iff_lt,Int.not_lt] at c1 c2
  obtain⟨⟨⟨a1,a2⟩,a3⟩,a4⟩:=c1
  obtain⟨⟨b1,b2⟩,b3⟩:=c2
  obtain⟨l,rfl⟩:∃l',l=l'+1:=⟨l-1,by omega⟩
  have e2:((l+1:Nat):Int)-1=(l:Int):=by omega
  rw[e2]
  have loop:=Jv (gX n) n d dep t (by omega) (fun x _ l' hl'=>left_eq d n x (dep+1) l' (by omega) (by omega) hl' (by omega)) n l 0 (by omega) (Nat.zero_le _) (by omega)
  have fin:(t.av=3->t.aj.length=t.ak.length/\t.aj.Nodup)->∃r,((eu (gX n) n dep t n (l:Int) 0).bind fun o5=>(Sum.elim (fun o5=>some o5) (fun o5=>some o5)) o5)=some r/\(r=-1\/∃q:Nat,r=(q:Int)/\Fit (d+1) t/\q+sz8 (d+1) t<=l+1):=by
   intro hk
   rcases loop with h3|⟨q,h3,h4,h5⟩
   ·have h3:eu (gX n) n dep t n (l:Int) 0=_:=h3
    exact⟨-1,by rw[h3];rfl,.inl rfl⟩
   ·have h3:eu (gX n) n dep t n (l:Int) 0=_:=h3
    rw[List.drop_zero] at h4 h5
    have hs:∀(f:Nd->Nat)(m:List Nd),(∀x,1<=f x)->m.length<=(m.map f).sum:=by
     intro f m hf
     induction m with
     |nil=>exact Nat.le_refl 0
     |cons x m ih=>rw[List.map_cons,List.sum_cons,List.length_cons];have:=hf x;omega
    have hkl:=hs (sz8 d) t.ak (Ig d)
    refine⟨q,by rw[h3];rfl,.inr ⟨q,rfl,⟨by omega,?_,fun h=>List.eq_nil_of_length_eq_zero (by have:=b1 h;omega),fun h=>List.eq_nil_of_length_eq_zero (by have:=b2 h;omega),hk,fun h=>List.eq_nil_of_length_eq_zero (by have:=b3 h;omega),⟨by omega,by omega⟩,h5⟩,?_⟩⟩
    ·by_cases h:t.av=3
     ·have:=hk h;omega
     ·have:=b2 h;omega
    ·show q+(1+(t.ak.map (sz8 d)).sum)<=l+1;omega
  by_cases h3:t.av=3
  ·have e3:(t.av==3)=true:=by rw[h3];rfl
   rw[e3]
   by_cases c3:((List.length t.aj:Int) != (List.length t.ak:Int)||decide ((List.length t.ak:Int)>(l:Int)))=true
   ·rw[c3]
    exact⟨-1,rfl,.inl rfl⟩
   ·have c3':((List.length t.aj:Int) != (List.length t.ak:Int)||decide ((List.length t.ak:Int)>(l:Int)))=false:=by simpa using c3
    rw[c3']
    simp only[Bool.or_eq_true,bne_iff_ne,ne_eq,decide_eq_true_eq,not_or,Decidable.not_not] at c3
    obtain⟨c4,c5⟩:=c3
    have hso:=sW n t.aj (by omega) (by omega)
    simp only[beq_self_eq_true,Bool.and_self,if_true,hso,Option.bind_some,Bool.false_or,Bool.true_and]
    by_cases c6:((List.length (srt t.aj):Int) != (List.length t.aj:Int))=true
    ·exact⟨-1,if_pos c6,.inl rfl⟩
    ·rw[if_neg c6]
     simp only[bne_iff_ne,ne_eq,Decidable.not_not] at c6
     exact fin fun _=>⟨by omega,zT (by omega)⟩
  ·have e3:(t.av==3)=false:=by rw[beq_eq_false_iff_ne];exact h3
   rw[e3]
   simp only[Bool.false_and,Bool.and_false,Bool.false_eq_true,if_false,Option.bind_some,show(false==true)=false from rfl]
   exact fin fun h=>(h3 h).elim
theorem Md:∀(d n:Nat)(t:Nd),Fit d t->100000+d<n->∃b,eY n t=some b/\(b=true->IR d t)
 |_,0,_,_,h=>by omega
 |0,n+1,t,h,_=>h.elim
 |d+1,n+1,t,hF,hn=>by
  obtain⟨f1,f2,_,_,_,_,_,f8⟩:=hF
  show ∃b,ov (eY n) n t=some b/\_
  unfold ov
  by_cases c:(List.length t.aB:Int)>200
  ·exact⟨false,by rw[if_pos (decide_eq_true c)],fun h=>by cases h⟩
  rw[if_neg (show ¬decide ((List.length t.aB:Int)>200)=true by simpa using c)]
  have l1:=xB (L:=jb (eY n) n t) t.aj (fun x=>if decide ((x.length:Int)>200)=true then some false else none) 0 (by omega)
   (fun k i h _=>by
    rw[jb,if_pos (bZ h),if_pos (aN h),bM h]
    cases decide ((t.aj[i].length:Int)>200)<;>rfl)
   (fun k=>by rw[jb,bK];rfl) n 0 (by omega) (by omega) (by omega)
  have l1:jb (eY n) n t n 0=_:=l1
  rw[l1]
  rw[List.drop_zero]
  cases ho1:List.findSome? (fun x:BS=>if decide ((x.length:Int)>200)=true then some false else none) t.aj with
  |some r =>
   refine⟨r,rfl,fun hr=>?_⟩
   obtain⟨x,_,h2⟩:=List.exists_of_findSome?_eq_some ho1
   by_cases hb:decide ((x.length:Int)>200)=true
   ·rw[if_pos hb] at h2;cases h2;cases hr
   ·rw[if_neg hb] at h2;cases h2
  |none =>
   have hx:∀x∈t.ak,∃b,eY n x=some b/\(b=true->IR d x):=fun x hx=>Md d n x (f8 x hx) (by omega)
   have l2:=xB (L:=iF (eY n) n t) t.ak (fun x=>if(!((eY n x).getD false))=true then some false else none) 0 (by omega)
    (fun k i h _=>by
     obtain⟨b,h1,_⟩:=hx t.ak[i] (List.getElem_mem h)
     rw[iF,if_pos (bZ h),if_pos (aN h),bM h,h1]
     cases b<;>rfl)
    (fun k=>by rw[iF,bK];rfl) n 0 (by omega) (by omega) (by omega)
   have l2:iF (eY n) n t n 0=_:=l2
   show ∃b,((iF (eY n) n t n 0).bind fun o2=>(Sum.elim (fun _=>some true) (fun o2=>some o2)) o2)=some b/\_
   rw[l2,List.drop_zero]
   cases ho:List.findSome? (fun x=>if(!((eY n x).getD false))=true then some false else none) t.ak with
   |some r =>
    refine⟨r,rfl,fun hr=>?_⟩
    obtain⟨x,_,h2⟩:=List.exists_of_findSome?_eq_some ho
    by_cases hb:(!((eY n x).getD false))=true
    ·rw[if_pos hb] at h2;cases h2;cases hr
    ·rw[if_neg hb] at h2;cases h2
   |none =>
    refine⟨true,rfl,fun _=>⟨by omega,fun k hk=>?_,fun x hxm=>?_⟩⟩
    ·have h5:=List.findSome?_eq_none_iff.1 ho1 k hk
     by_cases hb:decide ((k.length:Int)>200)=true
     ·rw[if_pos hb] at h5;cases h5
     ·have:¬(k.length:Int)>200:=fun h=>hb (decide_eq_true h)
      omega
    have h2:=List.findSome?_eq_none_iff.1 ho x hxm
    obtain⟨b,h1,h3⟩:=hx x hxm
    rw[h1] at h2
    cases b with
    |true=>exact h3 rfl
    |false=>cases h2
theorem Rm(n:Nat)(t:Nd)(hn:200000<=n):∃b,rm n t 300=some b/\(b=true->Fit 12 t/\sz8 12 t<=300/\IR 12 t):=by
 obtain⟨r,h1,h2⟩:=left_eq 12 n t 1 300 rfl (by decide) (by decide) (by omega)
 have h1:gX n t 1 300=some r:=h1
 unfold rm
 rw[h1,Option.bind_some]
 rcases h2 with rfl|⟨q,rfl,hF,hq⟩
 ·exact⟨false,rfl,fun h=>by cases h⟩
 ·obtain⟨b,h3,h4⟩:=Md 12 n t hF (by omega)
  have e:decide ((q:Int)>=0)=true:=decide_eq_true (by omega)
  rw[e,if_pos (by rfl),h3]
  exact⟨b,by cases b<;>rfl,fun hb=>⟨hF,by omega,h4 hb⟩⟩
def sm8:Nat->Nd->Nd->Bool
 |0,_,_=>true
 |d+1,a,b=>(a.av==b.av)&&(a.aB==b.aB)&&decide (a.aj=b.aj)&&decide (a.ak.length=b.ak.length)&&(a.ak.zip b.ak).all fun p=>sm8 d p.1 p.2
theorem K3{α:Type}:∀l:List α,∀p∈l.zip l,p.1=p.2
 |[],p,h=>by cases h
 |x::l,p,h=>by
  rw[List.zip_cons_cons] at h
  rcases List.mem_cons.1 h with rfl|h
  ·rfl
  ·exact K3 l p h
theorem NT:∀(d:Nat)(t:Nd),sm8 d t t=true
 |0,_=>rfl
 |d+1,t=>by
  unfold sm8
  simp only[beq_self_eq_true,decide_true,Bool.and_self,Bool.true_and]
  exact List.all_eq_true.2 fun p hp=>by
   have:=K3 _ p hp
   show sm8 d p.1 p.2=true
   rw[this];exact NT d _
theorem QJ{α:Type}{L:Nat->Int->Option (Sum Unit Bool)}(l m:List α)(f:α->α->Bool)(hlm:l.length=m.length)(hl:l.length<10000)
  (hs:∀k i (h:i<l.length) (h':i<m.length),L (k+1) (i:Int)=if(!(f l[i] m[i]))=true then some (.inr false) else L k (IntKind.wrap .i64 ((i:Int)+1)))
  (he:∀k,L (k+1) (l.length:Int)=some (.inl ())):∀k i,i<=l.length->l.length-i<k->L k (i:Int)=some (if((l.drop i).zip (m.drop i)).all (fun p=>f p.1 p.2)=true then .inl () else .inr false)
 |0,i,_,h=>by omega
 |k+1,i,h1,h2=>by
  by_cases h:i<l.length
  ·have h':i<m.length:=by omega
   rw[hs k i h h',drop_at h,drop_at h',List.zip_cons_cons,List.all_cons]
   cases hf:f l[i] m[i] with
   |true =>
    simp only[Bool.not_true,Bool.false_eq_true,if_false,Bool.true_and,hf]
    rw[dQ i (by omega)]
    exact QJ l m f hlm hl hs he k (i+1) (by omega) (by omega)
   |false=>simp[hf]
  ·have:i=l.length:=by omega
   subst this
   rw[he,List.drop_eq_nil_of_le (Nat.le_refl _)];simp
theorem lne{α β:Type}(l:List α)(m:List β):((List.length l:Int) != (List.length m:Int))=!decide (l.length=m.length):=by
 by_cases h:l.length=m.length
 ·simp[h]
 ·rw[decide_eq_false h,Bool.not_false,bne_iff_ne];omega
theorem zt:∀(d n:Nat)(a b:Nd),Fit d a->Fit d b->100000+d<n->jW n a b=some (sm8 d a b)
 |_,0,_,_,_,_,h=>by omega
 |0,n+1,_,_,h,_,_=>h.elim
 |d+1,n+1,a,b,hA,hB,hn=>by
  obtain⟨a1,a2,_,_,_,_,_,a8⟩:=hA
  obtain⟨b1,b2,_,_,_,_,_,b8⟩:=hB
  show pM (jW n) n a b=_
  unfold pM sm8
  have e0:(a.av != b.av||!(a.aB==b.aB))=!(a.av==b.av&&a.aB==b.aB):=by
   rw[bne];cases a.av==b.av<;>cases a.aB==b.aB<;>rfl
  simp only[aS,BP,KJ,e0]
  cases e1:(a.av==b.av&&a.aB==b.aB) with
  |false=>simp only[Bool.not_false,Bool.true_or,show((true:Bool)==false)=false from rfl,Bool.false_eq_true,if_false,Option.bind_some,if_true,Bool.false_and]
  |true =>
   rw[if_pos (by rfl),JY n _ _ (by omega) (by omega),Option.bind_some,lne]
   cases e2:decide (a.aj=b.aj) with
   |false=>rfl
   |true =>
    cases e3:decide (a.ak.length=b.ak.length) with
    |false=>rfl
    |true =>
     have hlm:=of_decide_eq_true e3
     have:=QJ (L:=jF (jW n) n a b) a.ak b.ak (sm8 d) hlm (by omega)
      (fun k i h h'=>by
       rw[jF,if_pos (bZ h),if_pos (aN h),if_pos (aN h'),bM h,bM h',zt d n _ _ (a8 _ (List.getElem_mem h)) (b8 _ (List.getElem_mem h')) (by omega)];rfl)
      (fun k=>by rw[jF,bK];rfl) n 0 (by omega) (by omega)
     rw[List.drop_zero,List.drop_zero] at this
     have this:jF (jW n) n a b n 0=_:=this
     rw[this]
     cases (a.ak.zip b.ak).all (fun p=>sm8 d p.1 p.2)<;>rfl
def look(s:BS):List BS->List Nd->Option Nd
 |k::ks,x::xs=>if k=s then some x else look s ks xs
 |_,_=>none
def jO(s:BS)(v:Nd):List BS->List Nd->List Nd
 |k::ks,x::xs=>(if k=s then v else x)::jO s v ks xs
 |_,_=>[]
def fil(s:BS):List BS->List Nd->List Nd
 |k::ks,x::xs=>if k=s then fil s ks xs else x::fil s ks xs
 |_,_=>[]
def qQ(s:BS):List BS->List BS
 |k::ks=>if k=s then qQ s ks else k::qQ s ks
 |[]=>[]
theorem LL(s x:BS)(i:Nat)(l:List BS):at1 s i (x::l)=if x=s then some (i:Int) else at1 s (i+1) l:=by
 by_cases h:x=s
 ·subst h;simp[at1,wz]
 ·have:(s==x)=false:=by rw[beq_eq_false_iff_ne];exact fun e=>h e.symm
  rw[if_neg h];simp[at1,wz,this]
theorem kK{s:BS}{v:Nd}:∀{ks:List BS}{xs:List Nd},ks.length=xs.length->s∉ks->jO s v ks xs=xs/\fil s ks xs=xs/\qQ s ks=ks/\look s ks xs=none
 |[],[],_,_=>⟨rfl,rfl,rfl,rfl⟩
 |[],_::_,h,_=>by simp at h
 |_::_,[],h,_=>by simp at h
 |k::ks,x::xs,h,hm=>by
  rw[List.mem_cons,not_or] at hm
  obtain⟨h1,h2,h3,h4⟩:=kK (v:=v) (ks:=ks) (xs:=xs) (by simpa using h) hm.2
  have hk:¬k=s:=fun e=>hm.1 e.symm
  unfold jO fil qQ look
  rw[if_neg hk,if_neg hk,if_neg hk,if_neg hk,h1,h2,h3,h4]
  exact⟨rfl,rfl,rfl,rfl⟩
theorem BQ{s:BS}:∀{ks:List BS}{i:Nat},at1 s i ks=none->s∉ks
 |[],_,_=>by simp
 |k::ks,i,h=>by
  rw[LL] at h
  by_cases hk:k=s
  ·rw[if_pos hk] at h;cases h
  ·rw[if_neg hk] at h
   rw[List.mem_cons,not_or]
   exact⟨fun e=>hk e.symm,BQ h⟩
theorem BV{s:BS}{v:Nd}:∀{ks:List BS}{xs:List Nd}{i:Nat}{r:Int},ks.Nodup->ks.length=xs.length->at1 s i ks=some r ->
  ∃(j:Nat)(h:j<xs.length),r=((i+j:Nat):Int)/\look s ks xs=some xs[j]/\jO s v ks xs=xs.set j v/\fil s ks xs=xs.take j++xs.drop (j+1)/\qQ s ks=ks.take j++ks.drop (j+1)/\s∈ks
 |[],_,_,_,_,_,h=>by cases h
 |_::_,[],_,_,_,h,_=>by simp at h
 |k::ks,x::xs,i,r,hn,hl,h=>by
  obtain⟨n1,n2⟩:=List.nodup_cons.1 hn
  have hl':ks.length=xs.length:=by simpa using hl
  rw[LL] at h
  by_cases hk:k=s
  ·subst hk
   rw[if_pos rfl] at h
   cases h
   obtain⟨h1,h2,h3,_⟩:=kK (v:=v) hl' n1
   refine⟨0,by simp,rfl,?_,?_,?_,?_,by simp⟩
   ·unfold look;rw[if_pos rfl];rfl
   ·unfold jO;rw[if_pos rfl,h1];rfl
   ·unfold fil;rw[if_pos rfl,h2];rfl
   ·unfold qQ;rw[if_pos rfl,h3];rfl
  ·rw[if_neg hk] at h
   obtain⟨j,hj,e,g1,g2,g3,g4,g5⟩:=BV (v:=v) n2 hl' h
   refine⟨j+1,by simp;omega,by rw[e];congr 1;omega,?_,?_,?_,?_,by simp[g5]⟩
   ·unfold look;rw[if_neg hk,g1];rfl
   ·unfold jO;rw[if_neg hk,g2];rfl
   ·unfold fil;rw[if_neg hk,g3];rfl
   ·unfold qQ;rw[if_neg hk,g4];rfl
theorem uS{s:BS}{v:Nd}:∀{ks:List BS}{xs:List Nd},ks.length=xs.length->(jO s v ks xs).length=xs.length
 |[],[],_=>rfl
 |[],_::_,h=>by simp at h
 |_::_,[],h=>by simp at h
 |k::ks,x::xs,h=>by unfold jO;rw[List.length_cons,uS (by simpa using h),List.length_cons]
theorem EV{s:BS}{v y:Nd}:∀{ks:List BS}{xs:List Nd},y∈jO s v ks xs->y=v\/y∈xs
 |[],_,h=>by unfold jO at h;cases h
 |_::_,[],h=>by unfold jO at h;cases h
 |k::ks,x::xs,h=>by
  unfold jO at h
  rcases List.mem_cons.1 h with h|h
  ·split at h
   ·exact .inl h
   ·exact .inr (by simp[h])
  ·rcases EV h with h|h
   ·exact .inl h
   ·exact .inr (by simp[h])
theorem Oj{s:BS}:∀{ks:List BS}{xs:List Nd},ks.length=xs.length->(qQ s ks).length=(fil s ks xs).length
 |[],[],_=>rfl
 |[],_::_,h=>by simp at h
 |_::_,[],h=>by simp at h
 |k::ks,x::xs,h=>by
  have:=Oj (s:=s) (ks:=ks) (xs:=xs) (by simpa using h)
  unfold fil qQ
  split
  ·exact this
  ·rw[List.length_cons,List.length_cons,this]
theorem I4{s:BS}{y:Nd}:∀{ks:List BS}{xs:List Nd},y∈fil s ks xs->y∈xs
 |[],_,h=>by unfold fil at h;cases h
 |_::_,[],h=>by unfold fil at h;cases h
 |k::ks,x::xs,h=>by
  unfold fil at h
  split at h
  ·exact List.mem_cons_of_mem _ (I4 h)
  ·rcases List.mem_cons.1 h with h|h
   ·simp[h]
   ·exact List.mem_cons_of_mem _ (I4 h)
theorem zq(s:BS):∀ks:List BS,(qQ s ks).Sublist ks
 |[]=>.slnil
 |k::ks=>by
  unfold qQ
  split
  ·exact .cons _ (zq s ks)
  ·exact .cons_cons _ (zq s ks)
theorem JE{s:BS}{v:Nd}:∀{ks:List BS}{xs:List Nd},ks.length=xs.length->s∈ks->look s ks (jO s v ks xs)=some v
 |[],_,_,h=>by cases h
 |_::_,[],h,_=>by simp at h
 |k::ks,x::xs,h,hm=>by
  unfold jO look
  by_cases hk:k=s
  ·rw[if_pos hk,if_pos hk]
  ·rw[if_neg hk,JE (by simpa using h)]
   rcases List.mem_cons.1 hm with e|e
   ·exact(hk e.symm).elim
   ·exact e
theorem wQ{s s':BS}{v:Nd}(hs:s'≠s):∀{ks:List BS}{xs:List Nd},look s' ks (jO s v ks xs)=look s' ks xs
 |[],_=>rfl
 |_::_,[]=>rfl
 |k::ks,x::xs=>by
  unfold jO look
  by_cases hk:k=s'
  ·rw[if_pos hk,if_pos hk,if_neg (fun e=>hs (hk.symm.trans e))]
  ·rw[if_neg hk,if_neg hk,wQ hs]
theorem EZ{s:BS}(s':BS)(v:Nd):∀{ks:List BS}{xs:List Nd},ks.length=xs.length->look s (ks++[s']) (xs++[v])=(look s ks xs).or (if s'=s then some v else none)
 |[],[],_=>by
  show look s [s'] [v]=_
  unfold look look
  simp[look]
 |[],_::_,h=>by simp at h
 |_::_,[],h=>by simp at h
 |k::ks,x::xs,h=>by
  have ih:=EZ (s:=s) s' v (ks:=ks) (xs:=xs) (by simpa using h)
  show look s (k::(ks++[s'])) (x::(xs++[v]))=_
  unfold look
  rw[ih]
  by_cases hk:k=s
  ·rw[if_pos hk,if_pos hk];rfl
  ·rw[if_neg hk,if_neg hk]
theorem uC{s:BS}{x:Nd}:∀{ks:List BS}{xs:List Nd},look s ks xs=some x->x∈xs
 |[],_,h=>by cases h
 |_::_,[],h=>by cases h
 |k::ks,y::xs,h=>by
  unfold look at h
  split at h
  ·cases h;simp
  ·exact List.mem_cons_of_mem _ (uC h)
theorem l9:∀{d:Nat}{t:Nd},Fit d t->Fit (d+1) t
 |0,_,h=>h.elim
 |d+1,t,⟨a1,a2,a3,a4,a5,a6,a7,a8⟩=>⟨a1,a2,a3,a4,a5,a6,a7,fun x hx=>l9 (a8 x hx)⟩
theorem jq{t:Nd}{d:Nat}(h:Fit d t):∀e,d<=e->Fit e t
 |0,he=>by
  have:d=0:=by omega
  subst this;exact h
 |e+1,he=>by
  by_cases hd:d=e+1
  ·subst hd;exact h
  ·exact l9 (jq h e (by omega))
theorem jw:Fit 1 Z8:=⟨by decide,by decide,fun _=>rfl,fun _=>rfl,fun h=>absurd h (by decide),fun _=>rfl,⟨by decide,by decide⟩,fun x h=>absurd h (by simp)⟩
theorem fe{d:Nat}{t:Nd}(h:Fit d t)(hk:t.av=3\/t.av=0):t.aj.length=t.ak.length/\t.aj.Nodup/\t.aB=[]:=by
 cases d with
 |zero=>exact h.elim
 |succ d =>
  obtain⟨a1,a2,a3,a4,a5,a6,a7,a8⟩:=h
  rcases hk with hk|hk
  ·exact⟨(a5 hk).1,(a5 hk).2,a3 (by omega)⟩
  ·rw[a4 (by omega),a6 (by omega)]
   exact⟨rfl,.nil,a3 (by omega)⟩
theorem fl{d:Nat}{t:Nd}(h:Fit d t):t.aj.length<=2000/\t.ak.length<=2000:=by
 cases d with
 |zero=>exact h.elim
 |succ d=>exact⟨h.2.1,h.1⟩
theorem jT{d:Nat}{t x:Nd}(h:Fit (d+1) t)(hx:x∈t.ak):Fit d x:=h.2.2.2.2.2.2.2 x hx
theorem yw{d:Nat}{t:Nd}(h:Fit d t):∃e,d=e+1:=by cases d with|zero=>exact h.elim|succ d=>exact⟨d,rfl⟩
theorem TF:∀{d:Nat}{t:Nd}{m:Nat},Fit d t->sz8 d t<=m->t.ak.length<m
 |0,_,_,h,_=>h.elim
 |d+1,t,m,_,h=>by
  have hs:∀l:List Nd,l.length<=(l.map (sz8 d)).sum:=by
   intro l
   induction l with
   |nil=>exact Nat.le_refl 0
   |cons x l ih=>rw[List.map_cons,List.sum_cons,List.length_cons];have:=Ig d x;omega
  have:=hs t.ak
  unfold sz8 at h;omega
def ia(t:Nd)(s:BS):Option Nd:=if t.av=3 then look s t.aj t.ak else none
def IJ:Option Nd->Nd×Bool|some x=>(x,true)|none=>(Z8,false)
theorem FN(n:Nat)(tx:BS)(ks:List BS)(xs:List Nd)(s:BS)(hl:ks.length=xs.length)(h:ks.length<10000)(hn:100000<=n):jA n (af.mk 3 tx ks xs) s=some ((at1 s 0 ks).getD (-1)):=by
 unfold jA
 have e:(bif ((3:Int) != 3) then true else((List.length ks:Int) != (List.length xs:Int)))=false:=by rw[lne,decide_eq_true hl];rfl
 show(if(bif ((3:Int) != 3) then true else((List.length ks:Int) != (List.length xs:Int)))=true then some (-1) else(wE n ks s).bind fun r1=>some r1)=_
 rw[e,if_neg Bool.false_ne_true,PT n ks s h hn];rfl
theorem LQ{t:Nd}(h:t.av=3):t=af.mk 3 t.aB t.aj t.ak:=by cases t;simp_all
theorem KP(n:Nat)(t:Nd)(s:BS)(h:¬t.av=3):jA n t s=some (-1):=by
 unfold jA
 have e:(t.av != 3)=true:=by rw[bne_iff_ne];exact h
 rw[e];rfl
theorem DK{d n:Nat}{t:Nd}(s:BS)(hF:Fit d t)(hn:100000<=n):uD n t s=some (IJ (ia t s)):=by
 unfold uD ia
 by_cases h3:t.av=3
 ·obtain⟨l1,l2,_⟩:=fe hF (.inl h3)
  have l3:=fl hF
  have hp:jA n t s=some ((at1 s 0 t.aj).getD (-1)):=by rw[LQ h3];exact FN n _ _ _ s l1 (by show t.aj.length<_;omega) hn
  rw[hp,if_pos h3,Option.bind_some]
  cases ha:at1 s 0 t.aj with
  |none=>rw[(kK (v:=Z8) l1 (BQ ha)).2.2.2];rfl
  |some r =>
   obtain⟨j,hj,e,g1,_⟩:=BV (v:=Z8) l2 l1 ha
   rw[Nat.zero_add] at e
   subst e
   rw[g1,Option.getD_some,if_neg (by rw[decide_eq_true_eq];omega),if_pos (aN hj),bM hj];rfl
 ·rw[KP n t s h3,if_neg h3];rfl
theorem G9(n:Nat)(s:BS)(t:Nd)(hl:t.aj.length=t.ak.length)(hs:t.aj.length<=2000):∀(k i:Nat),i<=t.aj.length->t.aj.length-i<k ->
  ko n s t k (i:Int) Z8=some (match look s (t.aj.drop i) (t.ak.drop i) with|some x=>.inr (true,x)|none=>.inl Z8)
 |0,i,_,h=>by omega
 |k+1,i,hi,hk=>by
  by_cases h:i<t.aj.length
  ·have h':i<t.ak.length:=by omega
   rw[ko,if_pos (bZ h),if_pos (aN h),bM h,drop_at h,drop_at h',if_pos (aN h'),bM h',dQ i (by omega)]
   unfold look
   by_cases hk:t.aj[i]=s
   ·rw[if_pos hk,if_pos (by rw[hk];exact beq_self_eq_true s)]
   ·rw[if_neg hk,if_neg (by rw[beq_iff_eq];exact hk)]
    exact G9 n s t hl hs k (i+1) (by omega) (by omega)
  ·have:i=t.aj.length:=by omega
   subst this
   rw[ko,bK,List.drop_eq_nil_of_le (Nat.le_refl _)];rfl
theorem kh{d n:Nat}{t:Nd}(s:BS)(hF:Fit d t)(hn:100000<=n):jI n t s=some (IJ (ia t s)):=by
 unfold jI ui ia
 by_cases h3:t.av=3
 ·obtain⟨l1,l2,_⟩:=fe hF (.inl h3)
  have l3:=fl hF
  have h:=G9 n s t l1 l3.1 n 0 (by omega) (by omega)
  have h:ko n s t n 0 Z8=_:=h
  rw[if_pos (by rw[h3];rfl),if_pos h3,h,List.drop_zero,List.drop_zero]
  cases look s t.aj t.ak<;>rfl
 ·rw[if_neg (by rw[beq_iff_eq];exact h3),if_neg h3];rfl
def Pq(t:Nd)(p:BS):Option Nd:=if t.av=2 then(if isNum p=true/\vl 0 p<t.ak.length then t.ak[vl 0 p]? else none) else ia t p
theorem tK{a b:Nat}(h:a+b<=1000000000):decide ((a+b)*(72+1)<=limit)=true:=decide_eq_true (by show(a+b)*(72+1)<=140737488355328;omega)
theorem PV(n:Nat)(a b:List BS)(h:a.length+b.length<=10000)(hn:100<=n):fQ n [a,b]=some (a++b):=by
 obtain⟨m,rfl⟩:∃m,n=m+3:=⟨n-3,by omega⟩
 have l1:bg (m+3) [a,b] [a,b] (List.length [a,b]:Int) (m+3) 0 0=some ((a.length+b.length:Nat):Int):=by
  have s0:bg (m+3) [a,b] [a,b] 2 (m+3) 0 0=bg (m+3) [a,b] [a,b] 2 (m+2) (a.length:Int) 1:=by
   rw[bg,if_pos (by rfl),eU,if_pos (by rfl)]
   show Option.bind (if decide (IntKind.wrap .i64 (0+(a.length:Int))<0)=true then none else some (IntKind.wrap .i64 (0+(a.length:Int)))) _=_
   rw[gY _ (by omega) (by omega),if_neg (by rw[decide_eq_true_eq];omega),Int.zero_add];rfl
  have s1:bg (m+3) [a,b] [a,b] 2 (m+2) (a.length:Int) 1=bg (m+3) [a,b] [a,b] 2 (m+1) ((a.length+b.length:Nat):Int) 2:=by
   rw[bg,if_pos (by rfl),eU,if_pos (by rfl)]
   show Option.bind (if decide (IntKind.wrap .i64 ((a.length:Int)+(b.length:Int))<0)=true then none else some (IntKind.wrap .i64 ((a.length:Int)+(b.length:Int)))) _=_
   rw[gY _ (by omega) (by omega),if_neg (by rw[decide_eq_true_eq];omega),show(a.length:Int)+(b.length:Int)=((a.length+b.length:Nat):Int) from by omega];rfl
  show bg (m+3) [a,b] [a,b] 2 (m+3) 0 0=_
  rw[s0,s1,bg,if_neg (by decide)]
 have l3:aT (m+3) [a,b] (List.length [a,b]:Int) (m+3) ([]:List BS) 0=some (a++b):=by
  have s0:aT (m+3) [a,b] 2 (m+3) ([]:List BS) 0=aT (m+3) [a,b] 2 (m+2) a 1:=by
   rw[aT,if_pos (by rfl),if_pos (by rfl)]
   show(if decide ((([]:List BS).length+a.length)*(16+1)<=limit)=true then aT (m+3) [a,b] 2 (m+2) ([]++a) (IntKind.wrap .i64 (0+1)) else none)=_
   rw[if_pos (fU (by simp;omega))];rfl
  have s1:aT (m+3) [a,b] 2 (m+2) a 1=aT (m+3) [a,b] 2 (m+1) (a++b) 2:=by
   rw[aT,if_pos (by rfl),if_pos (by rfl)]
   show(if decide ((a.length+b.length)*(16+1)<=limit)=true then aT (m+3) [a,b] 2 (m+1) (a++b) (IntKind.wrap .i64 (1+1)) else none)=_
   rw[if_pos (fU (by omega))];rfl
  show aT (m+3) [a,b] 2 (m+3) ([]:List BS) 0=_
  rw[s0,s1,aT,if_neg (by decide)]
 unfold fQ
 rw[l1,Option.bind_some,if_pos (show decide (0<=((a.length+b.length:Nat):Int)/\((a.length+b.length:Nat):Int)*17<=(limit:Int))=true from decide_eq_true ⟨by omega,by show _<=((140737488355328:Nat):Int);omega⟩),l3];rfl
theorem NK(n:Nat)(a b:List Nd)(h:a.length+b.length<=10000)(hn:100<=n):dV n [a,b]=some (a++b):=by
 obtain⟨m,rfl⟩:∃m,n=m+3:=⟨n-3,by omega⟩
 have l1:aV (m+3) [a,b] [a,b] (List.length [a,b]:Int) (m+3) 0 0=some ((a.length+b.length:Nat):Int):=by
  have s0:aV (m+3) [a,b] [a,b] 2 (m+3) 0 0=aV (m+3) [a,b] [a,b] 2 (m+2) (a.length:Int) 1:=by
   rw[aV,if_pos (by rfl),dJ,if_pos (by rfl)]
   show Option.bind (if decide (IntKind.wrap .i64 (0+(a.length:Int))<0)=true then none else some (IntKind.wrap .i64 (0+(a.length:Int)))) _=_
   rw[gY _ (by omega) (by omega),if_neg (by rw[decide_eq_true_eq];omega),Int.zero_add];rfl
  have s1:aV (m+3) [a,b] [a,b] 2 (m+2) (a.length:Int) 1=aV (m+3) [a,b] [a,b] 2 (m+1) ((a.length+b.length:Nat):Int) 2:=by
   rw[aV,if_pos (by rfl),dJ,if_pos (by rfl)]
   show Option.bind (if decide (IntKind.wrap .i64 ((a.length:Int)+(b.length:Int))<0)=true then none else some (IntKind.wrap .i64 ((a.length:Int)+(b.length:Int)))) _=_
   rw[gY _ (by omega) (by omega),if_neg (by rw[decide_eq_true_eq];omega),show(a.length:Int)+(b.length:Int)=((a.length+b.length:Nat):Int) from by omega];rfl
  show aV (m+3) [a,b] [a,b] 2 (m+3) 0 0=_
  rw[s0,s1,aV,if_neg (by decide)]
 have l3:aP (m+3) [a,b] (List.length [a,b]:Int) (m+3) ([]:List Nd) 0=some (a++b):=by
  have s0:aP (m+3) [a,b] 2 (m+3) ([]:List Nd) 0=aP (m+3) [a,b] 2 (m+2) a 1:=by
   rw[aP,if_pos (by rfl),if_pos (by rfl)]
   show(if decide ((([]:List Nd).length+a.length)*(72+1)<=limit)=true then aP (m+3) [a,b] 2 (m+2) ([]++a) (IntKind.wrap .i64 (0+1)) else none)=_
   rw[if_pos (tK (by simp;omega))];rfl
  have s1:aP (m+3) [a,b] 2 (m+2) a 1=aP (m+3) [a,b] 2 (m+1) (a++b) 2:=by
   rw[aP,if_pos (by rfl),if_pos (by rfl)]
   show(if decide ((a.length+b.length)*(72+1)<=limit)=true then aP (m+3) [a,b] 2 (m+1) (a++b) (IntKind.wrap .i64 (1+1)) else none)=_
   rw[if_pos (tK (by omega))];rfl
  show aP (m+3) [a,b] 2 (m+3) ([]:List Nd) 0=_
  rw[s0,s1,aP,if_neg (by decide)]
 unfold dV
 rw[l1,Option.bind_some,if_pos (show decide (0<=((a.length+b.length:Nat):Int)/\((a.length+b.length:Nat):Int)*73<=(limit:Int))=true from decide_eq_true ⟨by omega,by show _<=((140737488355328:Nat):Int);omega⟩),l3];rfl
theorem U2{s a:BS}(l:List BS)(h:¬s=a):decide (s∈a::l)=decide (s∈l):=by simp[h]
def gy(t:Nd)(s:BS)(v:Nd):Nd:=if t.av=3\/t.av=0 then af.mk 3 [] (t.aj++if s∈t.aj then [] else [s]) (jO s v t.aj t.ak++if s∈t.aj then [] else [v]) else t
theorem AU{d n:Nat}{t:Nd}(s:BS)(v:Nd)(hF:Fit d t)(hn:100000<=n):sM n t s v=some (gy t s v):=by
 unfold sM gy
 have l3:=fl hF
 by_cases hk:t.av=3\/t.av=0
 ·obtain⟨l1,l2,_⟩:=fe hF hk
  have e:(bif (t.av != 3) then(t.av != 0) else false)=false:=by rcases hk with h|h<;>rw[h]<;>rfl
  have c1:dq n t.aj=some t.aj:=by
   unfold dq;rw[if_pos (fU (by simp;omega))];rfl
  have c2:dP n t.ak=some t.ak:=by
   unfold dP;rw[if_pos (tK (by simp;omega))];rfl
  rw[e,if_neg Bool.false_ne_true,if_pos hk,c1,Option.bind_some,c2,Option.bind_some,FN n [] t.aj t.ak s l1 (by omega) hn,Option.bind_some]
  cases ha:at1 s 0 t.aj with
  |none =>
   have hs:=BQ ha
   obtain⟨g1,_⟩:=kK (v:=v) l1 hs
   rw[if_neg hs,if_neg hs,g1,Option.getD_none,if_neg (by decide),if_pos (fU (by simp;omega)),if_pos (tK (by simp;omega))]
  |some r =>
   obtain⟨j,hj,e,_,g2,_,_,g5⟩:=BV (v:=v) l2 l1 ha
   rw[Nat.zero_add] at e
   subst e
   rw[if_pos g5,if_pos g5,g2,Option.getD_some,if_pos (show decide ((j:Int)>=0)=true from decide_eq_true (by omega)),if_pos (aN hj),List.append_nil,List.append_nil,Int.toNat_natCast]
 ·have e:(bif (t.av != 3) then(t.av != 0) else false)=true:=by
   rw[not_or] at hk
   rw[BP,Bool.and_eq_true,bne_iff_ne,bne_iff_ne];exact hk
  rw[e,if_pos rfl,if_neg hk]
theorem LD(n:Nat)(s:BS)(t v z:Nd)(hl:t.aj.length=t.ak.length)(hs:t.aj.length<=2000):∀(k i:Nat)(fnd:Bool)(ks:List BS)(xs:List Nd),ks.length=i->xs.length=i->i<=t.aj.length->t.aj.length-i<k ->
  iU n s t v z k fnd (i:Int) (af.mk 3 [] ks xs)=some (fnd||decide (s∈t.aj.drop i),af.mk 3 [] (ks++t.aj.drop i) (xs++jO s v (t.aj.drop i) (t.ak.drop i)))
 |0,i,_,_,_,_,_,_,h=>by omega
 |k+1,i,fnd,ks,xs,hks,hxs,hi,hk=>by
  by_cases h:i<t.aj.length
  ·have h':i<t.ak.length:=by omega
   rw[iU,if_pos (bZ h),rO,if_pos (aN h),bM h,if_pos (fU (by show ks.length+1<=_;omega)),if_pos (aN h),if_pos (aN h'),bM h',
    if_pos (show decide ((List.length (af.mk 3 [] ks xs).ak+List.length [v])*(72+1)<=limit)=true from tK (by show xs.length+1<=_;omega)),
    if_pos (show decide ((List.length (af.mk 3 [] ks xs).ak+List.length [t.ak[i]])*(72+1)<=limit)=true from tK (by show xs.length+1<=_;omega)),dQ i (by omega),drop_at h,drop_at h']
   conv=>rhs;unfold jO
   by_cases hk:t.aj[i]=s
   ·rw[if_pos (by rw[hk];exact beq_self_eq_true s),if_pos hk,Option.bind_some]
    show iU n s t v z k true ((i+1:Nat):Int) (af.mk 3 [] (ks++[t.aj[i]]) (xs++[v]))=_
    rw[LD n s t v z hl hs k (i+1) true _ _ (by simp[hks]) (by simp[hxs]) (by omega) (by omega)]
    simp[hk]
   ·rw[if_neg (by rw[beq_iff_eq];exact hk),if_neg hk]
    simp only[aS,Option.bind_some]
    rw[LD n s t v z hl hs k (i+1) fnd _ _ (by simp[hks]) (by simp[hxs]) (by omega) (by omega)]
    have hk':¬s=t.aj[i]:=fun e=>hk e.symm
    rw[U2 _ hk',List.append_assoc,List.append_assoc];rfl
  ·have:i=t.aj.length:=by omega
   subst this
   rw[iU,bK,List.drop_eq_nil_of_le (Nat.le_refl _)]
   simp[jO]
theorem dI{d n:Nat}{t:Nd}(s:BS)(v:Nd)(hF:Fit d t)(hn:100000<=n):dA n t s v=some (gy t s v):=by
 unfold dA gy
 have l3:=fl hF
 by_cases hk:t.av=3\/t.av=0
 ·obtain⟨l1,l2,_⟩:=fe hF hk
  have e:(bif (t.av != 0) then(t.av != 3) else false)=false:=by rcases hk with h|h<;>rw[h]<;>rfl
  have hr:=uS (s:=s) (v:=v) l1
  have h:=LD n s t v (af.mk 0 [] [] []) l1 l3.1 n 0 false [] [] rfl rfl (by omega) (by omega)
  rw[List.drop_zero,List.drop_zero] at h
  have h:iU n s t v (af.mk 0 [] [] []) n false 0 (af.mk 3 [] [] [])=_:=h
  rw[e,if_neg Bool.false_ne_true,if_pos hk,h,Option.bind_some]
  unfold rP
  by_cases hs:s∈t.aj
  ·rw[if_pos hs,if_pos hs,decide_eq_true hs]
   simp
  ·rw[if_neg hs,if_neg hs,decide_eq_false hs]
   simp only[Bool.false_or,Bool.not_false,if_true,List.nil_append]
   rw[if_pos (fU (by simp;omega)),if_pos (tK (by simp;omega))]
   rfl
 ·have e:(bif (t.av != 0) then(t.av != 3) else false)=true:=by
   rw[not_or] at hk
   rw[BP,Bool.and_eq_true,bne_iff_ne,bne_iff_ne];exact⟨hk.2,hk.1⟩
  rw[e,if_pos rfl,if_neg hk]
def uf(t:Nd)(s:BS):Nd:=if t.av=3 then af.mk 3 [] (qQ s t.aj) (fil s t.aj t.ak) else t
theorem K8{d n:Nat}{t:Nd}(s:BS)(hF:Fit d t)(hn:100000<=n):vC n t s=some (uf t s):=by
 unfold vC uf
 have l3:=fl hF
 by_cases h3:t.av=3
 ·obtain⟨l1,l2,l4⟩:=fe hF (.inl h3)
  have hp:jA n t s=some ((at1 s 0 t.aj).getD (-1)):=by
   have:=FN n t.aB t.aj t.ak s l1 (by omega) hn
   rwa[<-LQ h3] at this
  rw[hp,if_pos h3,Option.bind_some]
  cases ha:at1 s 0 t.aj with
  |none =>
   obtain⟨_,g2,g3,_⟩:=kK (v:=Z8) l1 (BQ ha)
   rw[Option.getD_none,if_pos (by decide),g2,g3]
   have:=LQ h3
   rw[l4] at this
   exact congrArg some this
  |some r =>
   obtain⟨j,hj,e,_,_,g3,g4,_⟩:=BV (v:=Z8) l2 l1 ha
   rw[Nat.zero_add] at e
   subst e
   rw[Option.getD_some,if_neg (by rw[decide_eq_true_eq];omega),dQ j (by omega),Int.toNat_natCast,Int.toNat_natCast,
    if_pos (show decide (0<=(j:Int)/\(j:Int)<=(List.length t.aj:Int))=true from decide_eq_true (by omega)),
    if_pos (show decide (0<=((j+1:Nat):Int)/\((j+1:Nat):Int)<=(List.length t.aj:Int))=true from decide_eq_true (by omega)),
    PV n _ _ (by simp;omega) (by omega),Option.bind_some,
    if_pos (show decide (0<=(j:Int)/\(j:Int)<=(List.length t.ak:Int))=true from decide_eq_true (by omega)),
    if_pos (show decide (0<=((j+1:Nat):Int)/\((j+1:Nat):Int)<=(List.length t.ak:Int))=true from decide_eq_true (by omega)),
    NK n _ _ (by simp;omega) (by omega),Option.bind_some,g3,g4]
 ·rw[KP n t s h3,if_neg h3];rfl
theorem KW(n:Nat)(s:BS)(t z:Nd)(hl:t.aj.length=t.ak.length)(hs:t.aj.length<=2000):∀(k i:Nat)(ks:List BS)(xs:List Nd),ks.length<=i->xs.length<=i->i<=t.aj.length->t.aj.length-i<k ->
  jG n s t z k (i:Int) (af.mk 3 [] ks xs)=some (af.mk 3 [] (ks++qQ s (t.aj.drop i)) (xs++fil s (t.aj.drop i) (t.ak.drop i)))
 |0,i,_,_,_,_,_,h=>by omega
 |k+1,i,ks,xs,hks,hxs,hi,hk=>by
  by_cases h:i<t.aj.length
  ·have h':i<t.ak.length:=by omega
   rw[jG,if_pos (bZ h),rQ,if_pos (aN h),bM h,if_pos (aN h),if_pos (fU (by show ks.length+1<=_;omega)),if_pos (aN h'),bM h',
    if_pos (show decide ((List.length (af.mk 3 [] ks xs).ak+List.length [t.ak[i]])*(72+1)<=limit)=true from tK (by show xs.length+1<=_;omega)),dQ i (by omega),drop_at h,drop_at h']
   conv=>rhs;unfold qQ fil
   by_cases hk:t.aj[i]=s
   ·have hb:(!(t.aj[i]==s))=false:=by rw[hk,beq_self_eq_true];rfl
    rw[hb,if_neg Bool.false_ne_true,if_pos hk,if_pos hk,Option.bind_some]
    exact KW n s t z hl hs k (i+1) ks xs (by omega) (by omega) (by omega) (by omega)
   ·have hb:(!(t.aj[i]==s))=true:=by rw[beq_eq_false_iff_ne.2 hk];rfl
    rw[hb,if_pos rfl,if_neg hk,if_neg hk]
    simp only[aS,Option.bind_some]
    rw[KW n s t z hl hs k (i+1) _ _ (by simp;omega) (by simp;omega) (by omega) (by omega)]
    simp
  ·have:i=t.aj.length:=by omega
   subst this
   rw[jG,bK,List.drop_eq_nil_of_le (Nat.le_refl _)]
   simp[qQ,fil]
theorem J5{d n:Nat}{t:Nd}(s:BS)(hF:Fit d t)(hn:100000<=n):ta n t s=some (uf t s):=by
 unfold ta uf
 have l3:=fl hF
 by_cases h3:t.av=3
 ·obtain⟨l1,l2,l4⟩:=fe hF (.inl h3)
  have h:=KW n s t (af.mk 0 [] [] []) l1 l3.1 n 0 [] [] (by simp) (by simp) (by omega) (by omega)
  rw[List.drop_zero,List.drop_zero] at h
  have h:jG n s t (af.mk 0 [] [] []) n 0 (af.mk 3 [] [] [])=_:=h
  rw[if_neg (show ¬(t.av != 3)=true by rw[h3];decide),if_pos h3,h];rfl
 ·rw[if_pos (by rw[bne_iff_ne];exact h3),if_neg h3]
theorem E4{d:Nat}{t:Nd}(s:BS)(hF:Fit d t):Fit d (uf t s):=by
 unfold uf
 split
 ·rename_i h3
  obtain⟨l1,l2,_⟩:=fe hF (.inl h3)
  have l3:=fl hF
  have f1:=Oj (s:=s) l1
  have f2:=(zq s t.aj).length_le
  obtain⟨e,rfl⟩:=yw hF
  refine⟨?_,?_,fun _=>rfl,fun h=>(h rfl).elim,fun _=>⟨f1,(zq s t.aj).nodup l2⟩,fun h=>absurd (show(3:Int)<2 from h) (by decide),⟨show(0:Int)<=3 by decide,show(3:Int)<=3 by decide⟩,fun x hx=>jT hF (I4 hx)⟩
  ·show(fil s t.aj t.ak).length<=2000;omega
  ·show(qQ s t.aj).length<=2000;omega
 ·exact hF
theorem Ti{d:Nat}{t x:Nd}{s:BS}(hF:Fit d t)(h:ia t s=some x):∃e,e<=d/\Fit e x:=by
 obtain⟨e,rfl⟩:=yw hF
 unfold ia at h
 split at h
 ·exact⟨e,by omega,jT hF (uC h)⟩
 ·cases h
theorem Qx{d n:Nat}{x:Nd}(hF:Fit d x)(hd:d<=20)(hn:200000<=n):jW n x x=some true:=by rw[zt d n x x hF hF (by omega),NT]
theorem Re{t v:Nd}{s:BS}{d:Nat}(hF:Fit d t)(hk:t.av=3\/t.av=0):ia (gy t s v) s=some v:=by
 obtain⟨l1,l2,_⟩:=fe hF hk
 unfold ia gy
 rw[if_pos hk]
 show(if(3:Int)=3 then look s (t.aj++_) (jO s v t.aj t.ak++_) else none)=_
 rw[if_pos rfl]
 by_cases hs:s∈t.aj
 ·rw[if_pos hs,if_pos hs,List.append_nil,List.append_nil];exact JE l1 hs
 ·rw[if_neg hs,if_neg hs,EZ s v (by rw[uS l1,l1]),if_pos rfl,(kK (v:=v) l1 hs).1,(kK (v:=v) l1 hs).2.2.2];rfl
theorem M3{t v:Nd}{s s':BS}{d:Nat}(hs':s'≠s)(hF:Fit d t)(hk:t.av=3\/t.av=0):ia (gy t s v) s'=ia t s':=by
 obtain⟨l1,l2,_⟩:=fe hF hk
 have e1:ia (gy t s v) s'=look s' t.aj t.ak:=by
  unfold ia gy
  rw[if_pos hk]
  show(if(3:Int)=3 then look s' (t.aj++_) (jO s v t.aj t.ak++_) else none)=_
  rw[if_pos rfl]
  by_cases hs:s∈t.aj
  ·rw[if_pos hs,if_pos hs,List.append_nil,List.append_nil];exact wQ hs'
  ·rw[if_neg hs,if_neg hs,EZ s v (by rw[uS l1,l1]),if_neg (fun e=>hs' e.symm),wQ hs',Option.or_none]
 rw[e1]
 unfold ia
 rcases hk with h|h
 ·rw[if_pos h]
 ·rw[if_neg (by omega)]
  obtain⟨e,rfl⟩:=yw hF
  rw[hF.2.2.2.1 (by omega)];rfl
theorem zX{t v:Nd}{s:BS}(hk:t.av=3\/t.av=0):(gy t s v).av=3:=by unfold gy;rw[if_pos hk]
theorem QM:∀{l:List Nd}{d:Nat}{x:Nd},x∈l->sz8 d x<=(l.map (sz8 d)).sum
 |[],_,_,h=>by cases h
 |y::l,d,x,h=>by
  rw[List.map_cons,List.sum_cons]
  rcases List.mem_cons.1 h with rfl|h
  ·omega
  ·have:=QM (d:=d) h;omega
def so8:Nat->Nd->Nd
 |0,t=>t
 |d+1,t=>if t.av=3 then af.mk 3 t.aB (srt t.aj) ((srt t.aj).map fun k=>so8 d ((look k t.aj t.ak).getD Z8)) else af.mk t.av t.aB t.aj (t.ak.map (so8 d))
theorem zn{s:BS}:∀{ks:List BS}{xs:List Nd},ks.length=xs.length->s∈ks->∃x,look s ks xs=some x/\x∈xs
 |[],_,_,h=>by cases h
 |_::_,[],h,_=>by simp at h
 |k::ks,x::xs,h,hm=>by
  unfold look
  by_cases hk:k=s
  ·rw[if_pos hk];exact⟨x,rfl,by simp⟩
  ·rw[if_neg hk]
   rcases List.mem_cons.1 hm with e|e
   ·exact(hk e.symm).elim
   ·obtain⟨y,h1,h2⟩:=zn (xs:=xs) (by simpa using h) e
    exact⟨y,h1,List.mem_cons_of_mem _ h2⟩
theorem kz:∀(d n:Nat)(t:Nd),Fit d t->100000+d<n->dK n t=some (so8 d t)
 |_,0,_,_,h=>by omega
 |0,n+1,_,h,_=>h.elim
 |d+1,n+1,t,hF,hn=>by
  have a8:=fun x hx=>jT hF (x:=x) hx
  have l3:=fl hF
  have hF':=hF
  obtain⟨a1,a2,a3,a4,a5,a6,a7,_⟩:=hF'
  show nu (dK n) n t=_
  unfold nu so8
  by_cases h3:t.av=3
  ·rw[if_pos (show(t.av==3)=true by rw[h3];rfl),if_pos h3,sW n _ (by omega) (by omega),Option.bind_some]
   obtain⟨l1,l2⟩:=a5 h3
   have hsl:=dO t.aj
   have:=gather (L:=fun k (s:List BS×List Nd) i=>fL (dK n) n (srt t.aj) t Z8 k i (af.mk t.av t.aB s.1 s.2)) (srt t.aj) (fun acc k=>(acc.1++[k],acc.2++[so8 d ((look k t.aj t.ak).getD Z8)])) (fun s=>af.mk t.av t.aB s.1 s.2) (fun i s=>s.1.length=i/\s.2.length=i) (by omega)
    (fun k s i h hi=>by
     show fL _ _ _ _ _ _ _ _=_
     obtain⟨i1,i2⟩:=hi
     have hm:(srt t.aj)[i]∈t.aj:=ku.1 (List.getElem_mem h)
     obtain⟨x,x1,x2⟩:=zn l1 hm
     have hg:ia t (srt t.aj)[i]=some x:=by unfold ia;rw[if_pos h3,x1]
     rw[fL,if_pos (bZ h),if_pos (aN h),bM h,kh _ hF (by omega),Option.bind_some,hg,x1,if_pos (aN h),if_pos (show decide ((List.length (af.mk t.av t.aB s.1 s.2).aj+List.length [(srt t.aj)[i]])*(16+1)<=limit)=true from fU (by show s.1.length+1<=_;omega))]
     show((dK n x).bind fun r4=>_)=_
     rw[kz d n x (a8 x x2) (by omega),Option.bind_some,if_pos (show decide ((List.length (af.mk t.av t.aB s.1 s.2).ak+List.length [so8 d x])*(72+1)<=limit)=true from tK (by show s.2.length+1<=_;omega))];rfl)
    (fun s i h hi=>by simp[hi.1,hi.2]) (fun k s _=>by show fL _ _ _ _ _ _ _ _=_;rw[fL,bK];rfl) n 0 ([],[]) (by omega) (by omega) ⟨rfl,rfl⟩
   have hz:fL (dK n) n (srt t.aj) t (af.mk 0 [] [] []) n 0 (af.mk t.av t.aB [] [])=_:=this.1
   have fa:∀(l:List BS)(p:List BS×List Nd),l.foldl (fun acc k=>(acc.1++[k],acc.2++[so8 d ((look k t.aj t.ak).getD Z8)])) p=(p.1++l,p.2++l.map fun k=>so8 d ((look k t.aj t.ak).getD Z8)):=by
    intro l
    induction l with
    |nil=>intro p;simp
    |cons x l ih=>intro p;rw[List.foldl_cons,ih];simp
   rw[List.drop_zero,fa,List.nil_append,List.nil_append] at hz
   rw[hz,h3,Option.bind_some]
  ·rw[if_neg (show ¬(t.av==3)=true by rw[beq_iff_eq];exact h3),if_neg h3]
   have:=gather (L:=fun k s i=>fF (dK n) n t Z8 k i (af.mk t.av t.aB [] s)) t.ak (fun acc x=>acc++[so8 d x]) (fun s=>af.mk t.av t.aB [] s) (fun i s=>s.length=i) (by omega)
    (fun k s i h hi=>by
     show fF _ _ _ _ _ _ _=_
     rw[fF,if_pos (bZ h),if_pos (aN h),bM h,kz d n _ (a8 _ (List.getElem_mem h)) (by omega),Option.bind_some,if_pos (show decide ((List.length (af.mk t.av t.aB [] s).ak+List.length [so8 d t.ak[i]])*(72+1)<=limit)=true from tK (by show s.length+1<=_;omega))])
    (fun s i h hi=>by simp[hi]) (fun k s _=>by show fF _ _ _ _ _ _ _=_;rw[fF,bK];rfl) n 0 [] (by omega) (by omega) rfl
   have hz:fF (dK n) n t (af.mk 0 [] [] []) n 0 (af.mk t.av t.aB [] [])=_:=this.1
   have fa:=zR (fun x:Nd=>[so8 d x]) t.ak []
   rw[List.drop_zero,fa,List.nil_append] at hz
   rw[hz,Option.bind_some,a4 h3,List.map_eq_flatMap]
theorem LU{s:BS}(f:BS->Nd):∀{ks:List BS},look s ks (ks.map f)=if s∈ks then some (f s) else none
 |[]=>rfl
 |k::ks=>by
  rw[List.map_cons]
  unfold look
  rw[LU f]
  by_cases hk:k=s
  ·subst hk;simp
  ·have hk':¬s=k:=fun e=>hk e.symm
   rw[if_neg hk];simp[hk']
theorem RY{s:BS}{ks:List BS}{xs:List Nd}(hl:ks.length=xs.length)(h:s∉ks):look s ks xs=none:=(kK (v:=Z8) hl h).2.2.2
theorem Ug{d:Nat}{t:Nd}(p:BS)(hF:Fit (d+1) t):Pq (so8 (d+1) t) p=(Pq t p).map (so8 d):=by
 have a8:=fun x hx=>jT hF (x:=x) hx
 obtain⟨a1,a2,a3,a4,a5,a6,a7,_⟩:=hF
 unfold Pq ia
 conv=>lhs;unfold so8
 by_cases h3:t.av=3
 ·rw[if_pos h3,if_neg (show ¬t.av=2 by omega),if_pos h3]
  show(if(3:Int)=2 then _ else if(3:Int)=3 then look p (srt t.aj) _ else none)=_
  rw[if_neg (by decide),if_pos rfl]
  show look p (srt t.aj) ((srt t.aj).map fun k=>so8 d ((look k t.aj t.ak).getD Z8))=_
  rw[LU]
  by_cases hp:p∈t.aj
  ·obtain⟨y,y1,y2⟩:=zn (a5 h3).1 hp
   rw[if_pos (ku.2 hp),y1];rfl
  ·rw[if_neg (fun e=>hp (ku.1 e)),RY (a5 h3).1 hp];rfl
 ·rw[if_neg h3]
  show(if t.av=2 then(if isNum p=true/\vl 0 p<(t.ak.map (so8 d)).length then(t.ak.map (so8 d))[vl 0 p]? else none) else if t.av=3 then _ else none)=_
  rw[List.length_map,List.getElem?_map]
  by_cases h2:t.av=2
  ·rw[if_pos h2,if_pos h2]
   split<;>rfl
  ·rw[if_neg h2,if_neg h3,if_neg h2,if_neg h3];rfl
end Go.Proofs.YtpmmhhmhckpnfaaGreat.M
namespace Go.Proofs.YtpmmhhmhckpnfaaGreat.M
open Go Go.Proofs.YtpmmhhmhckpnfaaGreat.RX Go.Proofs.YtpmmhhmhckpnfaaGreat.PL
set_option maxRecDepth 100000
theorem KF{d:Nat}{t:Nd}(h:Fit d t)(h1:t.av=1):Fit 1 t:=by
 obtain⟨e,rfl⟩:=yw h
 obtain⟨a1,a2,a3,a4,a5,a6,a7,a8⟩:=h
 exact⟨a1,a2,a3,a4,a5,a6,a7,fun x hx=>by rw[a6 (by omega)] at hx;cases hx⟩
theorem jD(x:BS):Fit 1 (af.mk 1 x [] []):=⟨by simp,by simp,fun h=>absurd rfl h,fun _=>rfl,fun h=>absurd h (show ¬(1:Int)=3 by decide),fun _=>rfl,⟨show(0:Int)<=1 by decide,show(1:Int)<=3 by decide⟩,fun x h=>by cases h⟩
theorem P5(n:Nat)(t:Nd)(w:Int){d:Nat}(hF:Fit d t)(ht:t.aB.length<=10000)(hn:200000<=n):∃r,vF n t w=some r/\Fit 1 r.1:=by
 unfold vF
 by_cases h1:t.av=1
 ·rw[if_neg (by simp[h1])]
  have hl:=KF hF h1
  have hj:∃r,qf n w (w==0) t (af.mk 0 [] [] [])=some r/\Fit 1 r.2:=by
   unfold qf
   split
   ·obtain⟨r,hr⟩:=QH n t.aB (by omega) hn
    rw[hr];exact⟨_,rfl,hl⟩
   ·split
    ·obtain⟨r,hr⟩:=Qc n t.aB ht hn
     rw[hr];exact⟨_,rfl,hl⟩
    ·split
     ·obtain⟨r,hr⟩:=Nv n t.aB ht hn
      obtain⟨q,hq,_⟩:=Ov n r.1 hn
      rw[hr,Option.bind_some,hq];exact⟨_,rfl,jD q⟩
     ·split
      ·obtain⟨r,hr⟩:=Ah n t.aB 8 (by omega) hn
       rw[hr];exact⟨_,rfl,hl⟩
      ·exact⟨_,rfl,hl⟩
  obtain⟨r,hr,h2⟩:=hj
  rw[hr,Option.bind_some]
  split
  ·exact⟨_,rfl,jw⟩
  ·exact⟨_,rfl,h2⟩
 ·rw[if_pos (by simp[h1])];exact⟨_,rfl,jw⟩
theorem xX(n:Nat)(t:Nd)(hn:200000<=n):∃r,fK n t=some r/\r.1.length<=32:=by
 unfold fK
 split
 ·exact⟨_,rfl,by simp⟩
 ·rename_i h
  have h32:t.ak.length<=32:=by
   cases hk:(t.av != 2) with
   |true=>rw[hk] at h;exact absurd rfl h
   |false=>rw[hk] at h;simp at h;omega
  have hl:=ji (L:=fun k (v:List BS) i=>bV n t k v i) t.ak.length (fun(i:Nat) (v:List BS)=>v.length<=i) (fun r=>(Sum.elim (fun v=>v) (fun p=>p.1) r).length<=32) (by omega) (fun k v i h hI=>by
   by_cases h1:(t.ak[i]'h).av=1
   ·right
    refine⟨v++[(t.ak[i]'h).aB],by simp;omega,?_⟩
    show bV n t (k+1) v (i:Int)=_
    rw[bV,if_pos (bZ h),if_pos (aN h),bM h,if_neg (by simp[h1]),if_pos (aN h),if_pos (fU (by simp;omega))]
   ·left
    refine⟨.inr (v,false),?_,by show v.length<=32;omega⟩
    show bV n t (k+1) v (i:Int)=_
    rw[bV,if_pos (bZ h),if_pos (aN h),bM h,if_pos (by simp[h1])]) (fun k v hI=>⟨.inl v,by show bV n t (k+1) v _=_;rw[bV,bK];rfl,by show v.length<=32;omega⟩) n 0 [] (Nat.zero_le _) (by omega) (by simp)
  obtain⟨r,hr,h2⟩:=hl
  have hr:bV n t n [] 0=some r:=hr
  rw[hr,Option.bind_some]
  cases r<;>exact⟨_,rfl,h2⟩
theorem Nu(n:Nat)(l:List BS)(z:Nd)(hl:l.length<=1000)(hn:200000<=n):∃r,gG n l z n 0 (af.mk 2 [] [] [])=some r/\r.av=2/\r.aj=[]/\r.aB=[]/\r.ak.length=l.length/\∀x∈r.ak,Fit 1 x:=by
 have hl:=ji (L:=fun k (b:Nd) i=>gG n l z k i b) l.length (fun(i:Nat) (r:Nd)=>r.av=2/\r.aj=[]/\r.aB=[]/\r.ak.length=i/\∀x∈r.ak,Fit 1 x) (fun(r:Nd)=>r.av=2/\r.aj=[]/\r.aB=[]/\r.ak.length=l.length/\∀x∈r.ak,Fit 1 x) (by omega) (fun k b i h hI=>by
  obtain⟨a1,a2,a3,a4,a5⟩:=hI
  right
  refine⟨af.mk b.av b.aB b.aj (b.ak++[af.mk 1 (l[i]'h) [] []]),⟨a1,a2,a3,by simp[a4],fun x hx=>?_⟩,?_⟩
  ·rcases List.mem_append.1 hx with hx|hx
   ·exact a5 x hx
   ·rw[List.mem_singleton.1 hx];exact jD _
  ·show gG n l z (k+1) (i:Int) b=_
   rw[gG,if_pos (bZ h),if_pos (aN h),bM h]
   simp only[aS]
   rw[if_pos (tK (by simp;omega))]
   rfl) (fun k b hI=>⟨b,by show gG n l z (k+1) _ b=_;rw[gG,bK];rfl,hI⟩) n 0 (af.mk 2 [] [] []) (Nat.zero_le _) (by omega) ⟨rfl,rfl,rfl,rfl,fun x h=>by cases h⟩
 exact hl
theorem Ny(n:Nat)(t:Nd)(ht:t.aB.length<=10000)(hn:200000<=n):∃r,rH n t=some r/\Fit 2 r.1:=by
 unfold rH
 obtain⟨r,hr,h1⟩:=xX n t hn
 have hj:∃q,nA n r.1 r.2 (t.av==1) t (af.mk 0 [] [] [])=some q/\q.1.length<=32:=by
  unfold nA
  split
  ·obtain⟨q,hq,h2,_⟩:=MS n t.aB ht hn
   rw[hq];exact⟨_,rfl,h2⟩
  ·exact⟨_,rfl,h1⟩
 obtain⟨q,hq,h2⟩:=hj
 rw[hr,Option.bind_some,hq,Option.bind_some]
 split
 ·exact⟨_,rfl,l9 jw⟩
 ·obtain⟨w,hw,b1,b2,b3,b4,b5⟩:=Nu n q.1 (af.mk 0 [] [] []) (by omega) hn
  rw[hw]
  exact⟨_,rfl,by show w.ak.length<=2000;omega,by show w.aj.length<=2000;rw[b2];simp,fun _=>b3,fun _=>b2,fun(h:w.av=3)=>by omega,fun(h:w.av<2)=>by omega,by show 0<=w.av/\w.av<=3;omega,b5⟩
theorem JH(n:Nat)(s:BS)(b:Bool)(hn:200000<=n):∃r,sJ n s b=some r:=by
 unfold sJ
 split
 ·obtain⟨r,hr,_⟩:=KX n s hn
  rw[hr];exact⟨_,rfl⟩
 ·obtain⟨r,hr,_⟩:=oO n s hn
  rw[hr];exact⟨_,rfl⟩
theorem NM(x:BS):∀l:List BS,l.findSome? (fun y=>if y=x then some true else none)=if x∈l then some true else none
 |[]=>by simp
 |y::l=>by
  rw[List.findSome?_cons]
  by_cases e:y=x
  ·rw[if_pos e,if_pos (by rw[e];exact List.mem_cons_self)]
  ·rw[if_neg e]
   simp only
   rw[NM x l]
   have:(x∈y::l)↔x∈l:=by rw[List.mem_cons];exact⟨fun h=>h.resolve_left fun e'=>e e'.symm,.inr⟩
   by_cases c:x∈l
   ·rw[if_pos c,if_pos (this.2 c)]
   ·rw[if_neg c,if_neg (fun h=>c (this.1 h))]
theorem rIn(n:Nat)(l:List BS)(x:BS)(hl:l.length<=100000)(hn:200000<=n):nR n l x=some (decide (x∈l)):=by
 have h:=xB (L:=fun k i=>kN n l x k i) l (fun y=>if y=x then some true else none) 0 (by omega) (fun k i h _=>by
  rw[kN,bZ h,if_pos rfl,aN h,if_pos rfl,bM h]
  by_cases c:l[i]=x
  ·rw[if_pos (by simpa using c),if_pos c]
  ·rw[if_neg (by simpa using c),if_neg c]) (fun k=>by rw[kN,bK];rfl) n 0 (Nat.le_refl _) (Nat.zero_le _) (by omega)
 have h:kN n l x n 0=some (Bh ((l.drop 0).findSome? (fun y=>if y=x then some true else none))):=h
 unfold nR
 rw[h,List.drop_zero,NM]
 by_cases c:x∈l
 ·rw[if_pos c,decide_eq_true c];rfl
 ·rw[if_neg c,decide_eq_false c];rfl
theorem yC:∀(d:Nat)(t:Nd),Fit d t->Fit d (so8 d t)
 |0,_,h=>h.elim
 |d+1,t,hF=>by
  have a8:=fun x hx=>jT hF (x:=x) hx
  obtain⟨a1,a2,a3,a4,a5,a6,a7,_⟩:=hF
  unfold so8
  split
  ·rename_i h3
   obtain⟨l1,_⟩:=a5 h3
   have hsl:=dO t.aj
   have hk:∀x∈(srt t.aj).map (fun k=>so8 d ((look k t.aj t.ak).getD Z8)),Fit d x:=fun x hx=>by
    obtain⟨k,k1,rfl⟩:=List.mem_map.1 hx
    obtain⟨y,y1,y2⟩:=zn l1 (ku.1 k1)
    rw[y1]
    exact yC d y (a8 y y2)
   exact⟨by show((srt t.aj).map _).length<=2000;rw[List.length_map];omega,by show(srt t.aj).length<=2000;omega,fun _=>a3 (by omega),fun h=>absurd rfl h,fun _=>⟨by show _=((srt t.aj).map _).length;rw[List.length_map],zT (by rw[zk (oP _)])⟩,fun h=>absurd h (show ¬(3:Int)<2 by decide),⟨show(0:Int)<=3 by decide,show(3:Int)<=3 by decide⟩,hk⟩
  ·rename_i h3
   exact⟨by show(t.ak.map _).length<=2000;rw[List.length_map];exact a1,a2,a3,a4,fun h=>absurd h h3,fun h=>by show t.ak.map _=[];rw[a6 h];rfl,a7,fun x hx=>by
    obtain⟨y,y1,rfl⟩:=List.mem_map.1 hx
    exact yC d y (a8 y y1)⟩
theorem zh(n d:Nat)(t:Nd)(b:Bool)(hF:b=true->Fit (d+1) (af.mk 3 t.aB t.aj t.ak))(hd:d<=100)(hn:200000<=n):∃r,eO n t b=some r/\Fit (d+1) r.1:=by
 unfold eO
 cases b with
 |false=>exact⟨_,rfl,jq jw _ (by omega)⟩
 |true =>
  split
  ·exact⟨_,rfl,jq jw _ (by omega)⟩
  ·rw[kz (d+1) n _ (hF rfl) (by omega)]
   exact⟨_,rfl,yC _ _ (hF rfl)⟩
theorem uj(n:Nat)(t:Nd)(l:List BS)(ht:t.aj.length<=2000)(hl:l.length<=1000)(hn:200000<=n):∃r,jB n t l=some r:=by
 unfold jB
 split
 ·exact⟨_,rfl⟩
 ·have hl:=qm (L:=jK n l t) t.aj.length (fun _=>True) (by omega) (fun k i h=>by
   rw[jK,if_pos (bZ h),if_pos (aN h),bM h,rIn n l _ (by omega) hn,Option.bind_some]
   split
   ·exact .inl ⟨_,rfl,trivial⟩
   ·exact .inr rfl) (fun k=>⟨.inl (),by rw[jK,bK];rfl,trivial⟩) n 0 (Nat.zero_le _) (by omega)
  obtain⟨r,hr,_⟩:=hl
  have hr:jK n l t n 0=some r:=hr
  rw[hr,Option.bind_some]
  cases r<;>exact⟨_,rfl⟩
theorem iL(n d m:Nat)(t:Nd)(s z:BS)(hF:Fit d t)(hx:∀x∈t.ak,x.aB.length<=m)(hz:z.length<=m)(hn:200000<=n):∃r,eX n t s z=some r/\r.1.length<=m:=by
 unfold eX
 rw[kh s hF (by omega),Option.bind_some]
 unfold ia
 split
 ·cases hg:look s t.aj t.ak with
  |none=>exact⟨_,rfl,hz⟩
  |some x=>exact⟨_,rfl,hx x (uC hg)⟩
 ·exact⟨_,rfl,hz⟩
theorem wU(n d:Nat)(t:Nd)(s:BS)(hF:Fit d t)(hx:∀x∈t.ak,x.aB.length<=10000)(hn:200000<=n):∃r,lH n t s=some r:=by
 unfold lH
 rw[kh s hF (by omega),Option.bind_some]
 split
 ·exact⟨_,rfl⟩
 ·obtain⟨r,hr,h1⟩:=iL n d 10000 t s [] hF hx (by simp) hn
  obtain⟨q,hq⟩:=Ah n r.1 65536 (by omega) hn
  rw[hr,Option.bind_some,hq]
  exact⟨_,rfl⟩
theorem zG(n d:Nat)(t:Nd)(hF:Fit d t)(ht:t.aB.length<=900)(hx:∀x∈t.ak,x.aB.length<=900)(hn:2000000<=n):∃r,lV n t=some r:=by
 unfold lV
 split
 ·rw[Ql n _ (by omega) hn,Option.bind_some]
  split
  ·exact⟨_,rfl⟩
  ·cases hp:parse t.aB with
   |none=>rename_i h;rw[hp] at h;exact absurd rfl h
   |some p =>
    have:=(Nw hp).2
    rw[show(PK (some p)).1=p from rfl,F8 n p (by omega) hn]
    exact⟨_,rfl⟩
 ·obtain⟨b,hb⟩:=uj n t ([oS,u9,vd,uZ]) (fl hF).1 (by decide) (by omega)
  rw[hb,Option.bind_some]
  split
  ·exact⟨_,rfl⟩
  ·obtain⟨r4,h4⟩:=wU n d t oS hF (fun x h=>by have:=hx x h;omega) (by omega)
   obtain⟨r5,h5⟩:=wU n d t u9 hF (fun x h=>by have:=hx x h;omega) (by omega)
   obtain⟨r6,h6,g6⟩:=iL n d 900 t vd [] hF hx (by simp) (by omega)
   obtain⟨r7,h7,_⟩:=iL n d 900 t uZ lF hF hx (by simp) (by omega)
   rw[h4,Option.bind_some,h5,Option.bind_some,h6,Option.bind_some,h7,Option.bind_some]
   split
   ·exact⟨_,rfl⟩
   ·rw[F8 n _ (by show r6.1.length<=1000;omega) hn]
    exact⟨_,rfl⟩
def Grow(d c:Nat)(t:Nd):Prop:=Fit (d+1) t/\(t.av=3\/t.av=0)/\t.ak.length<=c
theorem tu(d:Nat):Grow d 0 Z8:=⟨jq jw _ (by omega),.inr rfl,Nat.le_refl _⟩
theorem ig{d c:Nat}{t v:Nd}(s:BS)(h:Grow d c t)(hv:Fit d v)(hc:c<=1000):Grow d (c+1) (gy t s v):=by
 obtain⟨hF,hk3,hk⟩:=h
 obtain⟨l1,l2,_⟩:=fe hF hk3
 have hr:=uS (s:=s) (v:=v) l1
 unfold gy
 rw[if_pos hk3]
 have hlen:(jO s v t.aj t.ak++if s∈t.aj then [] else [v]).length<=c+1:=by
  rw[List.length_append,hr];split<;>simp<;>omega
 refine⟨⟨?_,?_,fun _=>rfl,fun h=>(h rfl).elim,fun _=>⟨?_,?_⟩,fun h=>absurd (show(3:Int)<2 from h) (by decide),⟨show(0:Int)<=3 by decide,show(3:Int)<=3 by decide⟩,?_⟩,.inl rfl,hlen⟩
 ·exact Nat.le_trans hlen (by omega)
 ·show(t.aj++_).length<=2000
  rw[List.length_append];split<;>simp<;>omega
 ·show(t.aj++_).length=(jO s v t.aj t.ak++_).length
  rw[List.length_append,List.length_append,hr,l1];split<;>rfl
 ·show(t.aj++_).Nodup
  split
  ·rw[List.append_nil];exact l2
  ·rename_i hs
   refine List.nodup_append.2 ⟨l2,by simp,?_⟩
   intro a ha b hb e
   rw[List.mem_singleton] at hb
   subst hb;subst e;exact hs ha
 ·intro x hx
  have hx:x∈jO s v t.aj t.ak++if s∈t.aj then [] else [v]:=hx
  rcases List.mem_append.1 hx with hx|hx
  ·rcases EV hx with rfl|hx
   ·exact hv
   ·exact jT hF hx
  ·split at hx
   ·cases hx
   ·rw[List.mem_singleton] at hx;subst hx;exact hv
theorem AY{d c n:Nat}{t:Nd}(h:Grow d c t)(hd:d<=100)(hn:200000<=n):∃r,eO n t true=some r/\Fit (d+1) r.1:=by
 refine zh n d t true (fun _=>?_) hd hn
 obtain⟨hF,hk3,hk⟩:=h
 obtain⟨l1,l2,l3⟩:=fe hF hk3
 obtain⟨a1,a2,a3,a4,a5,a6,a7,a8⟩:=hF
 exact⟨a1,a2,fun _=>l3,fun h=>absurd rfl h,fun _=>⟨l1,l2⟩,fun h=>absurd (show(3:Int)<2 from h) (by decide),⟨show(0:Int)<=3 by decide,show(3:Int)<=3 by decide⟩,a8⟩
theorem vh(n d m:Nat)(t:Nd)(s z:BS)(hF:Fit d t)(hx:∀x∈t.ak,x.aB.length<=m)(hz:z.length<=m)(hn:200000<=n):∃r,kR n t s z=some r/\r.1.length<=m:=by
 unfold kR
 obtain⟨r,hr,h1⟩:=iL n d m t s z hF hx hz hn
 rw[hr]
 exact⟨_,rfl,h1⟩
theorem KV(n d i:Nat)(t z1 z2:Nd)(hF:Fit (d+1) t)(h2:2<=t.av)(hi:i<t.ak.length)(hk:∀k∈t.aj,k.length<=900)(hx:∀x∈t.ak,x.aB.length<=900/\∀y∈x.ak,y.aB.length<=900)(hn:2000000<=n):∃r,nc n (i:Int) [] (t.av==2) t z1 z2=some r:=by
 unfold nc
 have hm:=List.getElem_mem hi
 split
 ·rw[if_pos (aN hi),bM hi]
  obtain⟨r,hr⟩:=zG n d _ (jT hF hm) (hx _ hm).1 (hx _ hm).2 hn
  rw[hr];exact⟨_,rfl⟩
 ·rename_i h
  have h3:t.av=3:=by
   have:=hF.2.2.2.2.2.2.1
   have:¬t.av=2:=by simpa using h
   omega
  obtain⟨l1,_,_⟩:=fe hF (.inl h3)
  have hi':i<t.aj.length:=by omega
  rw[if_pos (aN hi),if_pos (by rw[aN hi',Bool.or_true]),bM hi,bM hi']
  simp only[aS]
  obtain⟨r,hr⟩:=zG n 1 (dB (t.aj[i])) (jD _) (hk _ (List.getElem_mem hi')) (fun x h=>by cases h) hn
  rw[hr]
  split
  ·rw[Option.bind_some]
   split
   ·rw[if_pos (aN hi')];exact⟨_,rfl⟩
   ·exact⟨_,rfl⟩
  ·rw[Option.bind_some]
   split
   ·rw[if_pos (aN hi')];exact⟨_,rfl⟩
   ·exact⟨_,rfl⟩
theorem ND(n d:Nat)(t:Nd)(hF:Fit (d+1) t)(hk:∀k∈t.aj,k.length<=900)(hx:∀x∈t.ak,x.aB.length<=900/\∀y∈x.ak,y.aB.length<=900)(hn:2000000<=n):∃r,rI n t=some r/\Fit 2 r.1:=by
 unfold rI
 split
 ·exact⟨_,rfl,l9 jw⟩
 ·rename_i h
  have h32:t.ak.length<=32/\2<=t.av:=by
   cases hc:decide ((t.ak.length:Int)>32) with
   |true=>rw[hc] at h;exact absurd rfl h
   |false=>rw[hc] at h;simp at h hc;omega
  have hl:=ji (L:=fun k (b:Nd×Nd) i=>dM n t k i b.1 b.2) t.ak.length (fun(i:Nat) (b:Nd×Nd)=>Grow 1 i b.2) (fun r=>Sum.elim (fun b=>∃c,Grow 1 c b.2) (fun b=>Fit 2 b.2) r) (by omega) (fun k b i h hI=>by
   obtain⟨r,hr⟩:=KV n d i t b.1 b.2 hF h32.2 h hk hx hn
   have hst:dM n t (k+1) (i:Int) b.1 b.2=(kY n (i:Int) t b.1 b.2).bind fun o1=>Sum.elim (fun o2=>dM n t k (IntKind.wrap .i64 ((i:Int)+1)) o2.1 o2.2) (fun o2=>some (.inr (o2.1,o2.2))) o1:=by
    rw[dM,if_pos (bZ h)]
   by_cases hz:(r==[])=true
   ·left
    refine⟨.inr (false,Z8),?_,l9 jw⟩
    show dM n t (k+1) (i:Int) b.1 b.2=_
    rw[hst]
    unfold kY
    rw[hr,Option.bind_some,if_pos hz];rfl
   ·right
    refine⟨(b.1,gy b.2 r Z8),ig r hI jw (by omega),?_⟩
    show dM n t (k+1) (i:Int) b.1 b.2=_
    rw[hst]
    unfold kY
    rw[hr,Option.bind_some,if_neg hz,dI r Z8 hI.1 (by omega)];rfl) (fun k b hI=>⟨.inl b,by show dM n t (k+1) _ b.1 b.2=_;rw[dM,bK];rfl,⟨_,hI⟩⟩) n 0 (Z8,Z8) (Nat.zero_le _) (by omega) (tu 1)
  obtain⟨r,hr,h2⟩:=hl
  have hr:dM n t n 0 Z8 Z8=some r:=hr
  rw[show(af.mk 0 [] [] [])=Z8 from rfl,hr,Option.bind_some]
  cases r with
  |inl b =>
   obtain⟨c,hc⟩:=h2
   obtain⟨q,hq,h4⟩:=AY (n:=n) hc (by omega) (by omega)
   exact⟨_,by show(eO n b.2 true).bind _=_;rw[hq];rfl,h4⟩
  |inr b=>exact⟨_,rfl,h2⟩
theorem Le(n:Nat)(v1:Bool)(t:Nd)(hl:t.aj.length=t.ak.length)(h2:t.aj.length<=1000)(hn:200000<=n):∃r,eE n v1 t n 0 Z8 Z8=some r/\Sum.elim (fun b=>∃c,Grow 1 c b.2) (fun b=>Fit 2 b.2) r:=by
 have hl:=ji (L:=fun k (b:Nd×Nd) i=>eE n v1 t k i b.1 b.2) t.aj.length (fun(i:Nat) (b:Nd×Nd)=>Grow 1 i b.2) (fun r=>Sum.elim (fun b=>∃c,Grow 1 c b.2) (fun b=>Fit 2 b.2) r) (by omega) (fun k b i h hI=>by
  obtain⟨r,hr⟩:=JH n (t.aj[i]'h) v1 hn
  have hi:i<t.ak.length:=by omega
  by_cases hz:(bif (!r) then true else(decide ((t.ak[i]'hi).av>1)))=true
  ·left
   refine⟨.inr (false,Z8),?_,l9 jw⟩
   show eE n v1 t (k+1) (i:Int) b.1 b.2=_
   rw[eE,if_pos (bZ h),if_pos (aN h),bM h,hr,Option.bind_some,if_pos (by rw[aN hi,Bool.or_true]),bM hi,if_pos hz]
  ·right
   refine⟨(b.1,gy b.2 (t.aj[i]'h) (dB (t.ak[i]'hi).aB)),ig _ hI (jD _) (by omega),?_⟩
   show eE n v1 t (k+1) (i:Int) b.1 b.2=_
   rw[eE,if_pos (bZ h),if_pos (aN h),bM h,hr,Option.bind_some,if_pos (by rw[aN hi,Bool.or_true]),bM hi,if_neg hz,if_pos (aN h),if_pos (aN hi)]
   simp only[aS]
   rw[dI _ _ hI.1 (by omega)];rfl) (fun k b hI=>⟨.inl b,by show eE n v1 t (k+1) _ b.1 b.2=_;rw[eE,bK];rfl,⟨_,hI⟩⟩) n 0 (Z8,Z8) (Nat.zero_le _) (by omega) (tu 1)
 exact hl
theorem Ai(n:Nat)(v1:Bool)(l:List BS)(i:Nat)(hi:i<l.length)(hw:(l[i]'hi).length<=10000)(b4 b6:Nd):∀(k j:Nat),j<=(l[i]'hi).length->(l[i]'hi).length-j<k->∃m:Nat,jS n v1 l (i:Int) b4 b6 k (j:Int)=some (m:Int)/\m<=(l[i]'hi).length
 |0,_,_,h=>by omega
 |k+1,j,h1,h2=>by
  rw[jS,if_pos (aN hi),bM hi,if_pos (by rw[aN hi,Bool.or_true]),if_pos (vt _ j)]
  simp only[aS]
  by_cases h:j<(l[i]'hi).length
  ·split
   ·rw[dQ j (by omega)]
    exact Ai n v1 l i hi hw b4 b6 k (j+1) (by omega) (by omega)
   ·exact⟨j,rfl,h1⟩
  ·rw[Kw (by omega)]
   exact⟨j,rfl,h1⟩
theorem KA(n:Nat)(v1:Bool)(l:List BS)(i c:Nat)(hi:i<l.length)(hw:(l[i]'hi).length<=10000)(b4 b6:Nd)(hG:Grow 1 c b6)(hc:c<=1000)(hn:200000<=n):∃r,nG n v1 l (i:Int) b4 b6=some r/\Sum.elim (fun b=>Grow 1 (c+1) b.2) (fun b=>Fit 2 b.2) r:=by
 unfold nG
 obtain⟨m,hm,hm2⟩:=Ai n v1 l i hi hw b4 b6 n 0 (by omega) (by omega)
 have hm:jS n v1 l (i:Int) b4 b6 n 0=some (m:Int):=hm
 rw[hm,Option.bind_some,if_pos (aN hi),bM hi]
 have hj:∃x,np n v1 l (i:Int) (m:Int) [] (decide ((m:Int)<((l[i]'hi).length:Int))) b4 b6=some x:=by
  unfold np
  split
  ·rename_i h
   have h:(m:Int)<((l[i]'hi).length:Int):=by simpa using h
   rw[if_pos (aN hi),bM hi,dQ m (by omega),if_pos (decide_eq_true ⟨by omega,by omega⟩)]
   exact⟨_,rfl⟩
  ·exact⟨_,rfl⟩
 obtain⟨x,hx⟩:=hj
 rw[hx,Option.bind_some,if_pos (aN hi),if_pos (decide_eq_true ⟨by omega,by omega⟩)]
 obtain⟨r4,h4⟩:=JH n (List.take (Int.toNat (m:Int)) (l[i]'hi)) v1 hn
 rw[h4,Option.bind_some]
 have hks:=(fl hG.1).1
 have h5:∃r5,(if((!r4)==false)=true then nR n b6.aj (List.take (Int.toNat (m:Int)) (l[i]'hi)) else some false)=some r5:=by
  split
  ·rw[rIn n _ _ (by omega) hn];exact⟨_,rfl⟩
  ·exact⟨_,rfl⟩
 obtain⟨r5,h5⟩:=h5
 rw[h5,Option.bind_some]
 split
 ·exact⟨_,rfl,l9 jw⟩
 ·simp only[aS]
  rw[dI _ _ hG.1 (by omega)]
  exact⟨_,rfl,ig _ hG (jD _) hc⟩
theorem Lq(n:Nat)(v1:Bool)(l:List BS)(hl:l.length<=32)(hw:∀w∈l,w.length<=10000)(hn:200000<=n):∃r,dZ n v1 l n 0 Z8 Z8=some r/\Sum.elim (fun b=>∃c,Grow 1 c b.2) (fun b=>Fit 2 b.2) r:=by
 have hl:=ji (L:=fun k (b:Nd×Nd) i=>dZ n v1 l k i b.1 b.2) l.length (fun(i:Nat) (b:Nd×Nd)=>Grow 1 i b.2) (fun r=>Sum.elim (fun b=>∃c,Grow 1 c b.2) (fun b=>Fit 2 b.2) r) (by omega) (fun k b i h hI=>by
  obtain⟨r,hr,hr2⟩:=KA n v1 l i i h (hw _ (List.getElem_mem h)) b.1 b.2 hI (by omega) hn
  cases r with
  |inr q=>exact .inl ⟨.inr (q.1,q.2),by show dZ n v1 l (k+1) (i:Int) b.1 b.2=_;rw[dZ,if_pos (bZ h),hr];rfl,hr2⟩
  |inl q=>exact .inr ⟨q,hr2,by show dZ n v1 l (k+1) (i:Int) b.1 b.2=_;rw[dZ,if_pos (bZ h),hr];rfl⟩) (fun k b hI=>⟨.inl b,by show dZ n v1 l (k+1) _ b.1 b.2=_;rw[dZ,bK];rfl,⟨_,hI⟩⟩) n 0 (Z8,Z8) (Nat.zero_le _) (by omega) (tu 1)
 exact hl
theorem Br(n m:Nat)(t:Nd)(hx:∀x∈t.ak,x.aB.length<=m)(hn:200000<=n):∃r,fK n t=some r/\r.1.length<=32/\∀w∈r.1,w.length<=m:=by
 unfold fK
 split
 ·exact⟨_,rfl,by simp,fun w hw=>by cases hw⟩
 ·rename_i h
  have h32:t.ak.length<=32:=by
   cases hk:(t.av != 2) with
   |true=>rw[hk] at h;exact absurd rfl h
   |false=>rw[hk] at h;simp at h;omega
  have hl:=ji (L:=fun k (v:List BS) i=>bV n t k v i) t.ak.length (fun(i:Nat) (v:List BS)=>v.length<=i/\∀w∈v,w.length<=m) (fun r=>(Sum.elim (fun v=>v) (fun p=>p.1) r).length<=32/\∀w∈Sum.elim (fun v=>v) (fun p=>p.1) r,w.length<=m) (by omega) (fun k v i h hI'=>by
   obtain⟨hI,hJ⟩:=hI'
   by_cases h1:(t.ak[i]'h).av=1
   ·right
    refine⟨v++[(t.ak[i]'h).aB],⟨by simp;omega,fun w hw=>by
     rcases List.mem_append.1 hw with hw|hw
     ·exact hJ w hw
     ·rw[List.mem_singleton.1 hw];exact hx _ (List.getElem_mem h)⟩,?_⟩
    show bV n t (k+1) v (i:Int)=_
    rw[bV,if_pos (bZ h),if_pos (aN h),bM h,if_neg (by simp[h1]),if_pos (aN h),if_pos (fU (by simp;omega))]
   ·left
    refine⟨.inr (v,false),?_,by show v.length<=32;omega,hJ⟩
    show bV n t (k+1) v (i:Int)=_
    rw[bV,if_pos (bZ h),if_pos (aN h),bM h,if_pos (by simp[h1])]) (fun k v hI=>⟨.inl v,by show bV n t (k+1) v _=_;rw[bV,bK];rfl,by show v.length<=32;exact Nat.le_trans hI.1 h32,hI.2⟩) n 0 [] (Nat.zero_le _) (by omega) ⟨by simp,fun w hw=>by cases hw⟩
  obtain⟨r,hr,h2⟩:=hl
  have hr:bV n t n [] 0=some r:=hr
  rw[hr,Option.bind_some]
  cases r<;>exact⟨_,rfl,h2⟩
theorem Nj(n d:Nat)(t:Nd)(v1:Bool)(hF:Fit d t)(h2:t.aj.length<=1000)(hx:∀x∈t.ak,x.aB.length<=900)(hn:200000<=n):∃r,qZ n t v1=some r/\Fit 2 r.1:=by
 unfold qZ
 obtain⟨w,hw,w1,w2⟩:=Br n 900 t hx hn
 rw[hw,Option.bind_some,show(af.mk 0 [] [] [])=Z8 from rfl]
 split
 ·obtain⟨r,hr,h3⟩:=Lq n v1 w.1 w1 (fun x hx=>by have:=w2 x hx;omega) hn
  rw[hr,Option.bind_some]
  cases r with
  |inl b =>
   obtain⟨c,hc⟩:=h3
   obtain⟨q,hq,h4⟩:=AY (n:=n) hc (by omega) hn
   exact⟨_,by show(eO n b.2 true).bind _=_;rw[hq];rfl,h4⟩
  |inr b=>exact⟨_,rfl,h3⟩
 ·split
  ·exact⟨_,rfl,l9 jw⟩
  ·rename_i h3
   have h3:t.av=3:=by simpa using h3
   obtain⟨r,hr,h3⟩:=Le n v1 t (fe hF (.inl h3)).1 h2 hn
   rw[hr,Option.bind_some]
   cases r with
   |inl b =>
    obtain⟨c,hc⟩:=h3
    obtain⟨q,hq,h4⟩:=AY (n:=n) hc (by omega) hn
    exact⟨_,by show(eO n b.2 true).bind _=_;rw[hq];rfl,h4⟩
   |inr b=>exact⟨_,rfl,h3⟩
end Go.Proofs.YtpmmhhmhckpnfaaGreat.M
namespace Go.Proofs.YtpmmhhmhckpnfaaGreat.M
open Go Go.Proofs.YtpmmhhmhckpnfaaGreat.RX Go.Proofs.YtpmmhhmhckpnfaaGreat.PL
set_option maxRecDepth 100000
theorem bq{α β:Type}{x:Option α}{f:α->Option β}{Q:α->Prop}{P:β->Prop}(h:∃r,x=some r/\Q r)(k:∀r,Q r->∃q,f r=some q/\P q):∃q,x.bind f=some q/\P q:=by
 obtain⟨r,rfl,hr⟩:=h
 exact k r hr
theorem gK{α β:Type}{x:Option α}{f:α->Option β}{P:β->Prop}(h:∃r,x=some r)(k:∀r,∃q,f r=some q/\P q):∃q,x.bind f=some q/\P q:=by
 obtain⟨r,rfl⟩:=h
 exact k r
theorem mD{α:Type}{c:Prop}[Decidable c]{x y:Option α}(h1:∃r,x=some r)(h2:∃r,y=some r):∃r,(if c then x else y)=some r:=by
 split
 ·exact h1
 ·exact h2
theorem KB{α:Type}{x:Option α}{Q:α->Prop}(h:∃r,x=some r/\Q r):∃r,x=some r:=h.imp fun _ h=>h.1
theorem Nn{n:Nat}{t:Nd}{l:List BS}(h:jB n t l=some true):t.av=3:=by
 unfold jB at h
 by_cases h3:t.av=3
 ·exact h3
 ·rw[if_pos (by rw[bne_iff_ne];exact h3)] at h
  cases h
theorem OG(n:Nat)(t:Nd)(h:¬t.av=2):fK n t=some ([],false):=by
 unfold fK
 rw[show(t.av != 2)=true by rw[bne_iff_ne];exact h];rfl
theorem PW{d c:Nat}{t:Nd}(h:Grow d c t):Fit (d+1) (af.mk 3 t.aB t.aj t.ak):=by
 obtain⟨hF,hk3,hk⟩:=h
 obtain⟨l1,l2,l3⟩:=fe hF hk3
 obtain⟨a1,a2,a3,a4,a5,a6,a7,a8⟩:=hF
 exact⟨a1,a2,fun _=>l3,fun h=>absurd rfl h,fun _=>⟨l1,l2⟩,fun h=>absurd (show(3:Int)<2 from h) (by decide),⟨show(0:Int)<=3 by decide,show(3:Int)<=3 by decide⟩,a8⟩
theorem vV{d c n:Nat}{t:Nd}(b:Bool)(h:Grow d c t)(hd:d<=100)(hn:200000<=n):∃r,eO n t b=some r/\Fit (d+1) r.1 :=
 zh n d t b (fun _=>PW h) hd hn
theorem l7{d c e:Nat}{t:Nd}(h:Grow d c t)(he:c<=e):Grow d e t:=⟨h.1,h.2.1,Nat.le_trans h.2.2 he⟩
theorem S9(d:Nat):Fit (d+1) (af.mk 3 [] [] []):=⟨by simp,by simp,fun _=>rfl,fun h=>absurd rfl h,fun _=>⟨rfl,.nil⟩,fun h=>absurd (show(3:Int)<2 from h) (by decide),⟨show(0:Int)<=3 by decide,show(3:Int)<=3 by decide⟩,fun x h=>by cases h⟩
theorem Oq(n:Nat)(l:List BS)(t z:Nd)(v5:Bool)(hk:t.ak.length<=2000)(hn:200000<=n):∃r,iN n l t z n v5 0=some r:=by
 have hl:=ji (L:=fun k (b:Bool) i=>iN n l t z k b i) t.ak.length (fun _ _=>True) (fun _=>True) (by omega) (fun k b i h _=>by
  right
  have:∃o,pJ n l b (i:Int) t z=some o:=by
   unfold pJ
   rw[if_pos (aN h),if_pos (by rw[aN h,Bool.or_true]),if_pos (by rw[aN h,Bool.or_true])]
   simp only[aS]
   split<;>exact⟨_,rfl⟩
  obtain⟨o,ho⟩:=this
  exact⟨o,trivial,by show iN n l t z (k+1) b (i:Int)=_;rw[iN,if_pos (bZ h),ho];rfl⟩) (fun k b _=>⟨b,by show iN n l t z (k+1) b _=_;rw[iN,bK];rfl,trivial⟩) n 0 v5 (Nat.zero_le _) (by omega) trivial
 exact KB hl
theorem O8(n:Nat)(l:List BS)(z:Nd)(v5:Bool)(hl:l.length<=32)(hn:200000<=n):∃r,gw n l z n v5 0 Z8=some r/\∃c,Grow 1 c r.2:=by
 have hl:=ji (L:=fun k (b:Bool×Nd) i=>gw n l z k b.1 i b.2) l.length (fun i b=>Grow 1 i b.2) (fun r=>∃c,Grow 1 c r.2) (by omega) (fun k b i h hI=>by
  obtain⟨v,t⟩:=b
  cases v with
  |false=>exact .inl ⟨(false,t),by show gw n l z (k+1) false (i:Int) t=_;rw[gw,bZ h];rfl,_,hI⟩
  |true =>
   right
   obtain⟨r3,h3,_⟩:=oO n (l[i]'h) hn
   refine⟨(r3,gy t (l[i]'h) Z8),ig _ hI jw (by omega),?_⟩
   show gw n l z (k+1) true (i:Int) t=_
   rw[gw,bZ h,if_pos (by rfl),if_pos (aN h),bM h,h3,Option.bind_some,if_pos (aN h),dI _ _ hI.1 (by omega)];rfl) (fun k b hI=>⟨b,by show gw n l z (k+1) b.1 _ b.2=_;rw[gw,bK];rfl,_,hI⟩) n 0 (v5,Z8) (Nat.zero_le _) (by omega) (tu 1)
 exact hl
theorem JG(n d:Nat)(t:Nd)(hF:Fit d t)(hn:200000<=n):∃r,sN n t=some r/\Fit 2 r.1:=by
 unfold sN
 refine bq (xX n t hn) fun w hw=>?_
 have hj:∃o,pW n w.1 w.2 (bif (t.av==3) then(decide ((List.length t.aj:Int)<=32)) else false) t (af.mk 0 [] [] [])=some o/\o.1.length<=32:=by
  unfold pW
  split
  ·rename_i h
   have h32:t.aj.length<=32:=by
    cases hk:(t.av==3) with
    |false=>rw[hk] at h;exact(Bool.false_ne_true h).elim
    |true=>rw[hk] at h;simp at h;omega
   exact gK (Oq n _ t _ true (fl hF).2 hn) fun r=>⟨_,rfl,h32⟩
  ·exact⟨_,rfl,hw⟩
 refine bq hj fun o ho=>?_
 refine bq (O8 n o.1 (af.mk 0 [] [] []) o.2 ho hn) fun q hq=>?_
 obtain⟨c,hc⟩:=hq
 exact bq (vV q.1 hc (by omega) hn) fun r hr=>⟨_,rfl,hr⟩
theorem PO(n d:Nat)(t:Nd)(hF:Fit (d+1) t)(hx:∀x∈t.ak,x.aB.length<=900)(hn:200000<=n):∃r,tP n t=some r/\Fit 2 r.1:=by
 unfold tP
 have hj:∃o,oH n (t.av==0) t (af.mk 0 [] [] [])=some o/\Fit (d+1) o/\∀x∈o.ak,x.aB.length<=900:=by
  unfold oH
  split
  ·exact⟨_,rfl,S9 d,fun x h=>by cases h⟩
  ·exact⟨_,rfl,hF,hx⟩
 refine bq hj fun o ho=>?_
 obtain⟨hF',hx'⟩:=ho
 refine gK (uj n o _ (fl hF').1 (by decide) hn) fun b=>?_
 split
 ·exact⟨_,rfl,l9 jw⟩
 ·refine bq (iL n (d+1) 900 o _ _ hF' hx' (by decide) hn) fun r3 g3=>?_
  refine bq (vh n (d+1) 900 o _ _ hF' hx' (by decide) hn) fun r4 g4=>?_
  refine bq (vh n (d+1) 900 o _ _ hF' hx' (by decide) hn) fun r5 g5=>?_
  simp only[aS]
  refine⟨_,rfl,by simp,by simp,fun _=>rfl,fun h=>absurd rfl h,fun _=>⟨rfl,(by decide:([nN,nT,mH]:List BS).Nodup)⟩,fun h=>absurd (show(3:Int)<2 from h) (by decide),⟨show(0:Int)<=3 by decide,show(3:Int)<=3 by decide⟩,fun x hx=>?_⟩
  rcases List.mem_cons.1 hx with rfl|hx
  ·exact jD _
  ·rcases List.mem_cons.1 hx with rfl|hx
   ·exact jD _
   ·rw[List.mem_singleton.1 hx];exact jD _
theorem MX(n d i c:Nat)(t z b6:Nd)(l:List BS)(hi:i<l.length)(hk:t.av=3->i<t.ak.length)(hF:Fit (d+2) t)(hx:∀x∈t.ak,∀y∈x.ak,y.aB.length<=900)(hG:Grow 2 c b6)(hc:c<=1000)(hn:200000<=n):∃r,oh n l (i:Int) t z b6=some r/\Grow 2 (c+1) r.2:=by
 unfold oh
 have hj:∃o,nX n l (i:Int) (t.av==3) t z b6 (af.mk 0 [] [] [])=some o/\Fit (d+1) o/\∀y∈o.ak,y.aB.length<=900:=by
  unfold nX
  split
  ·rename_i h
   have hi':=hk (by simpa using h)
   rw[if_pos (aN hi'),bM hi']
   exact⟨_,rfl,jT hF (List.getElem_mem hi'),hx _ (List.getElem_mem hi')⟩
  ·exact⟨_,rfl,jq jw _ (by omega),fun y h=>by cases h⟩
 refine bq hj fun o ho=>?_
 refine bq (PO n d o ho.1 ho.2 hn) fun r4 g4=>?_
 rw[if_pos (by rw[aN hi,Bool.or_true]),bM hi]
 refine gK (mD (KB (oO n _ hn)) ⟨_,rfl⟩) fun r5=>?_
 rw[if_pos (aN hi),dI _ _ hG.1 (by omega)]
 exact⟨_,rfl,ig _ hG g4 hc⟩
theorem MY(n d:Nat)(t z:Nd)(l:List BS)(v5:Bool)(hl:l.length<=32)(hk:t.av=3->l.length<=t.ak.length)(hF:Fit (d+2) t)(hx:∀x∈t.ak,∀y∈x.ak,y.aB.length<=900)(hn:200000<=n):∃r,fy n l t z n v5 0 Z8=some r/\∃c,Grow 2 c r.2:=by
 have hl:=ji (L:=fun k (b:Bool×Nd) i=>fy n l t z k b.1 i b.2) l.length (fun i b=>Grow 2 i b.2) (fun r=>∃c,Grow 2 c r.2) (by omega) (fun k b i h hI=>by
  obtain⟨v,u⟩:=b
  cases v with
  |false=>exact .inl ⟨(false,u),by show fy n l t z (k+1) false (i:Int) u=_;rw[fy,bZ h];rfl,_,hI⟩
  |true =>
   right
   obtain⟨r,hr,h2⟩:=MX n d i i t z u l h (fun h3=>by have:=hk h3;omega) hF hx hI (by omega) hn
   refine⟨r,h2,?_⟩
   show fy n l t z (k+1) true (i:Int) u=_
   rw[fy,bZ h,if_pos (by rfl),hr];rfl) (fun k b hI=>⟨b,by show fy n l t z (k+1) b.1 _ b.2=_;rw[fy,bK];rfl,_,hI⟩) n 0 (v5,Z8) (Nat.zero_le _) (by omega) (tu 2)
 exact hl
theorem OO(n d:Nat)(t:Nd)(hF:Fit (d+2) t)(hx:∀x∈t.ak,∀y∈x.ak,y.aB.length<=900)(hn:200000<=n):∃r,tZ n t=some r/\Fit 3 r.1:=by
 unfold tZ
 have ht:∃w,fK n t=some w/\(w.1.length<=32/\(t.av=3->w.1=[])):=by
  obtain⟨w,hw,h1⟩:=xX n t hn
  refine⟨w,hw,h1,fun h3=>?_⟩
  rw[OG n t (by omega)] at hw
  cases hw;rfl
 refine bq ht fun w hw=>?_
 have hj:∃o,oI n w.1 w.2 (bif (t.av==3) then(decide ((List.length t.aj:Int)<=32)) else false) t (af.mk 0 [] [] [])=some o/\(o.1.length<=32/\(t.av=3->o.1.length<=t.ak.length)):=by
  unfold oI
  split
  ·rename_i h
   have h32:t.aj.length<=32:=by
    cases hk:(t.av==3) with
    |false=>rw[hk] at h;exact(Bool.false_ne_true h).elim
    |true=>rw[hk] at h;simp at h;omega
   exact⟨_,rfl,h32,fun h3=>Nat.le_of_eq (fe hF (.inl h3)).1⟩
  ·exact⟨_,rfl,hw.1,fun h3=>by rw[hw.2 h3];exact Nat.zero_le _⟩
 refine bq hj fun o ho=>?_
 refine bq (MY n d t (af.mk 0 [] [] []) o.1 o.2 ho.1 ho.2 hF hx hn) fun q hq=>?_
 obtain⟨c,hc⟩:=hq
 exact bq (vV q.1 hc (by omega) hn) fun r hr=>⟨_,rfl,hr⟩
theorem IC(n d:Nat)(t:Nd)(hF:Fit d t)(ht:t.aB.length<=900)(hx:∀x∈t.ak,x.aB.length<=900)(hn:200000<=n):∃r,nq n t=some r/\r.1.bf.length<=10000/\r.1.cY.length<=10000:=by
 unfold nq
 split
 ·exact bq (MV n t.aB (by omega) hn) fun r hr=>⟨_,rfl,hr⟩
 ·refine gK (uj n t _ (fl hF).1 (by decide) hn) fun b=>?_
  split
  ·exact⟨_,rfl,by show(0:Nat)<=10000;omega,by show(0:Nat)<=10000;omega⟩
  ·refine bq (iL n d 900 t _ _ hF hx (by decide) hn) fun r3 g3=>?_
   refine bq (iL n d 900 t _ _ hF hx (by decide) hn) fun r4 g4=>?_
   refine bq (vh n d 900 t _ _ hF hx (by decide) hn) fun r5 g5=>?_
   refine bq (iL n d 900 t _ _ hF hx (by decide) hn) fun r6 g6=>?_
   refine gK (mD (KB (yn n _ (by show r3.1.length<=10000;omega) (by show r4.1.length<=10000;omega) hn)) ⟨_,rfl⟩) fun r7=>?_
   simp only[aS]
   exact⟨_,rfl,by show r3.1.length<=10000;omega,by show r4.1.length<=10000;omega⟩
theorem K7(n d:Nat)(t:Nd)(hF:Fit (d+1) t)(hx:∀x∈t.ak,x.aB.length<=900/\∀y∈x.ak,y.aB.length<=900)(hn:200000<=n):∃r,pL n t=some r/\Fit 2 r.1:=by
 unfold pL
 split
 ·exact⟨_,rfl,l9 jw⟩
 ·rename_i h
  have h32:t.ak.length<=32/\2<=t.av:=by
   cases hc:decide ((t.ak.length:Int)>32) with
   |true=>rw[hc] at h;exact absurd rfl h
   |false=>rw[hc] at h;simp at h hc;omega
  have hl:=ji (L:=fun k (b:Nd×Nd) i=>dF n t k i b.1 b.2) t.ak.length (fun(i:Nat) (b:Nd×Nd)=>Grow 1 i b.2) (fun r=>Sum.elim (fun b=>∃c,Grow 1 c b.2) (fun b=>Fit 2 b.2) r) (by omega) (fun k b i h hI=>by
   obtain⟨r1,h1,g1,g2⟩:=IC n d _ (jT hF (List.getElem_mem h)) (hx _ (List.getElem_mem h)).1 (hx _ (List.getElem_mem h)).2 hn
   obtain⟨r2,h2,_⟩:=OX n r1.1 g1 g2 hn
   have hc:∀x y:Bool,((!((x==false)&&(((t.av==3)==true)&&(y==false)))||decide (0<=(i:Int)/\(i:Int)<(List.length t.aj:Int))))=true:=fun x y=>by
    by_cases h3:t.av=3
    ·rw[aN (show i<t.aj.length by have:=(fe hF (.inl h3)).1;omega),Bool.or_true]
    ·rw[show(t.av==3)=false by simpa using h3];cases x<;>cases y<;>rfl
   have hst:dF n t (k+1) (i:Int) b.1 b.2=if(bif (!r1.2) then true else(bif (t.av==3) then(bif (bif ((((t.ak)[i]'h).av) != 1) then true else(!((((t.ak)[i]'h).aB)==r2))) then true else(!(((t.aj)[Int.toNat (i:Int)]?.getD [])==r1.1.cY))) else false))=true then(some (.inr (false,(af.mk 0 [] [] []))))
     else((dA n b.2 r1.1.cY (dB r2)).bind fun r5=>dF n t k (IntKind.wrap .i64 ((i:Int)+1)) b.1 r5):=by
    rw[dF,if_pos (bZ h),if_pos (aN h),bM h,h1,Option.bind_some,h2,Option.bind_some,if_pos (by rw[aN h,Bool.or_true]),if_pos (by rw[aN h,Bool.or_true]),if_pos (hc _ _)]
    rfl
   by_cases hz:(bif (!r1.2) then true else(bif (t.av==3) then(bif (bif ((((t.ak)[i]'h).av) != 1) then true else(!((((t.ak)[i]'h).aB)==r2))) then true else(!(((t.aj)[Int.toNat (i:Int)]?.getD [])==r1.1.cY))) else false))=true
   ·left
    refine⟨.inr (false,Z8),?_,l9 jw⟩
    show dF n t (k+1) (i:Int) b.1 b.2=_
    rw[hst,if_pos hz]
   ·right
    refine⟨(b.1,gy b.2 r1.1.cY (dB r2)),ig _ hI (jD _) (by omega),?_⟩
    show dF n t (k+1) (i:Int) b.1 b.2=_
    rw[hst,if_neg hz,dI _ _ hI.1 (by omega)];rfl) (fun k b hI=>⟨.inl b,by show dF n t (k+1) _ b.1 b.2=_;rw[dF,bK];rfl,⟨_,hI⟩⟩) n 0 (Z8,Z8) (Nat.zero_le _) (by omega) (tu 1)
  have hl:∃r,dF n t n 0 Z8 Z8=some r/\Sum.elim (fun b=>∃c,Grow 1 c b.2) (fun b=>Fit 2 b.2) r:=hl
  refine bq hl fun r hr=>?_
  cases r with
  |inl b =>
   obtain⟨c,hc⟩:=hr
   exact bq (vV true hc (by omega) hn) fun r hr=>⟨_,rfl,hr⟩
  |inr b=>exact⟨_,rfl,hr⟩
theorem Pj(n:Nat)(t:Nd)(hx:∀x∈t.ak,x.aB.length<=900)(hn:200000<=n):∃r,uA n t=some r:=by
 unfold uA
 refine mD ⟨_,rfl⟩ ?_
 obtain⟨w,hw,w1,w2⟩:=Br n 900 t hx hn
 rw[hw,Option.bind_some]
 split
 ·exact⟨_,rfl⟩
 ·rename_i h
  have h0:1<=w.1.length:=by
   cases hc:(w.1.length:Int)==0 with
   |true=>rw[hc] at h;simp at h
   |false=>simp at hc;cases hw1:w.1 with
    |nil=>exact absurd hw1 hc
    |cons a b=>simp
  have e0:decide (0<=(0:Int)/\(0:Int)<(List.length w.1:Int))=true:=decide_eq_true ⟨by omega,by omega⟩
  rw[if_pos e0]
  split
  ·exact⟨_,rfl⟩
  ·simp only[aS]
   split
   ·rename_i h2
    have h2:(w.1.length:Int)=2:=by
     cases hc:(w.1.length:Int)==2 with
     |true=>simpa using hc
     |false=>rw[hc] at h2;simp at h2
    rw[if_pos (decide_eq_true ⟨by omega,by omega⟩)]
    exact⟨_,rfl⟩
   ·split
    ·rw[if_pos (decide_eq_true ⟨by omega,by omega⟩)]
     obtain⟨q,hq,_⟩:=Pm n (List.drop (Int.toNat 1) w.1) (by rw[List.length_drop];omega) (fun x hx=>by have:=w2 x (List.mem_of_mem_drop hx);omega) hn
     rw[hq];exact⟨_,rfl⟩
    ·exact⟨_,rfl⟩
theorem F4(n d:Nat)(t:Nd)(s:BS)(a:Int)(hF:Fit d t)(hx:∀x∈t.ak,x.aB.length<=900)(hn:200000<=n):∃r,qq n t s a=some r:=by
 unfold qq
 rw[kh s hF (by omega),Option.bind_some]
 refine mD ⟨_,rfl⟩ ?_
 obtain⟨r,hr,h1⟩:=iL n d 900 t s [] hF hx (by simp) hn
 obtain⟨q,hq⟩:=NA n r.1 (by omega) hn
 obtain⟨p,hp,_⟩:=O7 n q.1 hn
 rw[hr,Option.bind_some,hq,Option.bind_some,hp]
 exact⟨_,rfl⟩
theorem TQ:Fit 2 (af.mk 3 [] ([ny]) [dB nV]):=⟨by simp,by simp,fun _=>rfl,fun h=>absurd rfl h,fun _=>⟨rfl,by decide⟩,fun h=>absurd (show(3:Int)<2 from h) (by decide),⟨show(0:Int)<=3 by decide,show(3:Int)<=3 by decide⟩,fun x hx=>by rw[List.mem_singleton.1 hx];exact jD _⟩
theorem U8{a b:Bool}(h:¬(bif a then true else b)=true):a=false/\b=false:=by cases a<;>cases b<;>simp_all
theorem Tv{d:Nat}{t:Nd}(s:BS)(hF:Fit (d+1) t)(hx:∀x∈t.ak,∀y∈x.ak,y.aB.length<=900):∀y∈(IJ (ia t s)).1.ak,y.aB.length<=900:=by
 cases hg:ia t s with
 |none=>intro y hy;cases hy
 |some x =>
  unfold ia at hg
  split at hg
  ·exact hx x (uC hg)
  ·cases hg
theorem L8(n d:Nat)(t:Nd)(hF:Fit (d+1) t)(hx:∀x∈t.ak,x.aB.length<=900)(hy:∀x∈t.ak,∀y∈x.ak,y.aB.length<=900)(hn:200000<=n):∃r,pN n t=some r/\Fit 2 r.1:=by
 unfold pN
 refine gK (uj n t _ (fl hF).1 (by decide) hn) fun b=>?_
 split
 ·exact⟨_,rfl,l9 jw⟩
 ·refine bq (vh n (d+1) 900 t _ _ hF hx (by decide) hn) fun r2 g2=>?_
  rw[kh _ hF (by omega),Option.bind_some]
  have hj:∀a b c e f g,∃o,mq n a b c e f Z8 (IJ (ia t g)).1=some o/\Sum.elim (fun o=>Grow 1 1 o.2.2) (fun o=>Fit 2 o.2) o:=fun a b c e f g=>by
   unfold mq
   split
   ·refine gK (Pj n _ (Tv g hF hy) hn) fun r4=>?_
    split
    ·exact⟨_,rfl,l9 jw⟩
    ·have hj2:∃o,lX n a b r4.1 (r4.2==2) e f Z8=some o:=by
      unfold lX
      exact mD ⟨_,rfl⟩ ⟨_,rfl⟩
     refine gK hj2 fun o5=>?_
     simp only[aS]
     rw[dI _ _ (tu 1).1 (by omega)]
     exact⟨_,rfl,ig _ (tu 1) (jD _) (by omega)⟩
   ·exact⟨_,rfl,l7 (tu 1) (by omega)⟩
  refine bq (hj _ _ _ _ _ _) fun o4 g4=>?_
  cases o4 with
  |inr o=>exact⟨_,rfl,g4⟩
  |inl o =>
   refine gK (F4 n (d+1) t _ _ hF hx hn) fun r5=>?_
   refine gK (F4 n (d+1) t _ _ hF hx hn) fun r6=>?_
   refine gK (wU n (d+1) t _ hF (fun x h=>by have:=hx x h;omega) hn) fun r7=>?_
   simp only[aS]
   split
   ·exact⟨_,rfl,l9 jw⟩
   ·rename_i h10
    have h10:r7.1<=10:=by
     have:=(U8 h10).2
     simpa using this
    split
    ·exact⟨_,rfl,TQ⟩
    ·have h3:∃q,l5 n r5.1 r6.1 r7.1 (!(r5.1==[])) o.2.1 o.2.2=some q/\Grow 1 2 q:=by
      unfold l5
      split
      ·simp only[aS]
       rw[dI _ _ g4.1 (by omega)]
       exact⟨_,rfl,ig _ g4 (jD _) (by omega)⟩
      ·exact⟨_,rfl,l7 g4 (by omega)⟩
     refine bq h3 fun o10 g10=>?_
     have h4:∃q,mC n r6.1 r7.1 (!(r6.1==[])) o.2.1 o10=some q/\Grow 1 3 q:=by
      unfold mC
      split
      ·simp only[aS]
       rw[dI _ _ g10.1 (by omega)]
       exact⟨_,rfl,ig _ g10 (jD _) (by omega)⟩
      ·exact⟨_,rfl,l7 g10 (by omega)⟩
     refine bq h4 fun o11 g11=>?_
     have h5:∃q,mg n r7.1 (decide (r7.1>0)) o.2.1 o11=some q/\Grow 1 4 q:=by
      unfold mg
      split
      ·rename_i h0
       have h0:r7.1>0:=by simpa using h0
       refine bq (zm n r7.1 (by omega) (by omega) hn) fun r12 g12=>?_
       simp only[aS]
       rw[dI _ _ g11.1 (by omega)]
       exact⟨_,rfl,ig _ g11 (jD _) (by omega)⟩
      ·exact⟨_,rfl,l7 g11 (by omega)⟩
     refine bq h5 fun o12 g12=>?_
     exact bq (vV true g12 (by omega) hn) fun r hr=>⟨_,rfl,hr⟩
theorem J0(n d:Nat)(t:Nd)(hF:Fit (d+2) t)(ht:t.aB.length<=900)(hx:∀x∈t.ak,x.aB.length<=900)(hd:d<=90)(hn:200000<=n):∃r,oD n t=some r/\Fit (d+2) r.1:=by
 unfold oD
 have hj:∃o,lJ n (t.av==1) t (af.mk 0 [] [] [])=some o/\(Fit (d+2) o/\∀x∈o.ak,x.aB.length<=900):=by
  unfold lJ
  split
  ·rename_i h
   have h1:t.av=1:=by simpa using h
   refine⟨_,rfl,⟨by simp,by simp,fun _=>rfl,fun h=>absurd rfl h,fun _=>⟨rfl,by simp⟩,fun h=>absurd (show(3:Int)<2 from h) (by decide),⟨show(0:Int)<=3 by decide,show(3:Int)<=3 by decide⟩,fun x hx=>?_⟩,fun x hx=>?_⟩
   ·rw[List.mem_singleton.1 hx];exact jq (KF hF h1) _ (by omega)
   ·rw[List.mem_singleton.1 hx];exact ht
  ·exact⟨_,rfl,hF,hx⟩
 refine bq hj fun o ho=>?_
 obtain⟨hF',hx'⟩:=ho
 obtain⟨b,hb⟩:=uj n o ([lQ,wj]) (fl hF').1 (by decide) hn
 rw[hb,Option.bind_some]
 cases b with
 |false=>exact⟨_,rfl,jq jw _ (by omega)⟩
 |true =>
  have h3:=Nn hb
  rw[if_neg (by decide)]
  refine bq (iL n (d+2) 900 o _ _ hF' hx' (by decide) hn) fun r3 g3=>?_
  refine bq (iL n (d+2) 900 o _ _ hF' hx' (by decide) hn) fun r4 g4=>?_
  refine gK (mD (KB (oO n _ hn)) ⟨_,rfl⟩) fun r5=>?_
  simp only[aS]
  split
  ·exact⟨_,rfl,jq jw _ (by omega)⟩
  ·refine bq (zh n (d+1) o true (fun _=>?_) (by omega) hn) fun r hr=>⟨_,rfl,hr⟩
   have e:af.mk 3 o.aB o.aj o.ak=o:=by rw[<-h3];cases o;rfl
   rw[e];exact hF'
theorem Kp(n d:Nat)(t:Nd)(a:Int)(hF:Fit (d+3) t)(hS:IR (d+3) t)(hk:t.aj.length<=1000)(hd:d<=80)(hn:2000000<=n):∃r,ru n t a=some r/\Fit (d+3) r.1:=by
 obtain⟨s1,s2,s3⟩:=hS
 have x1:∀x∈t.ak,x.aB.length<=900:=fun x hx=>by have:=(s3 x hx).1;omega
 have x2:∀x∈t.ak,∀y∈x.ak,y.aB.length<=900:=fun x hx y hy=>by have:=((s3 x hx).2.2 y hy).1;omega
 have x3:∀k∈t.aj,k.length<=900:=fun k hk=>by have:=s2 k hk;omega
 have hks:=fl hF
 unfold ru
 split
 ·exact bq (P5 n t a hF (by omega) (by omega)) fun r hr=>⟨_,rfl,jq hr _ (by omega)⟩
 split
 ·exact bq (Ny n t (by omega) (by omega)) fun r hr=>⟨_,rfl,jq hr _ (by omega)⟩
 split
 ·exact bq (Nj n (d+3) t _ hF hk x1 (by omega)) fun r hr=>⟨_,rfl,jq hr _ (by omega)⟩
 split
 ·exact bq (JG n (d+3) t hF (by omega)) fun r hr=>⟨_,rfl,jq hr _ (by omega)⟩
 split
 ·exact bq (ND n (d+2) t hF x3 (fun x hx=>⟨x1 x hx,x2 x hx⟩) hn) fun r hr=>⟨_,rfl,jq hr _ (by omega)⟩
 split
 ·exact bq (K7 n (d+2) t hF (fun x hx=>⟨x1 x hx,x2 x hx⟩) (by omega)) fun r hr=>⟨_,rfl,jq hr _ (by omega)⟩
 split
 ·exact bq (OO n (d+1) t hF x2 (by omega)) fun r hr=>⟨_,rfl,jq hr _ (by omega)⟩
 split
 ·exact bq (J0 n (d+1) t hF (by omega) x1 (by omega) (by omega)) fun r hr=>⟨_,rfl,jq hr _ (by omega)⟩
 ·exact bq (L8 n (d+2) t hF x1 x2 (by omega)) fun r hr=>⟨_,rfl,jq hr _ (by omega)⟩
end Go.Proofs.YtpmmhhmhckpnfaaGreat.M
namespace Go.Proofs.YtpmmhhmhckpnfaaGreat.M
open Go Go.Proofs.YtpmmhhmhckpnfaaGreat.RX Go.Proofs.YtpmmhhmhckpnfaaGreat.PL
set_option maxRecDepth 100000
theorem Sm(n:Nat)(t:Nd)(hn:200000<=n):∃b,rC n t=some b/\(b=true->Fit 12 t/\sz8 12 t<=2000):=by
 obtain⟨r,h1,h2⟩:=left_eq 12 n t 1 2000 rfl (by decide) (by decide) (by omega)
 have h1:gX n t 1 2000=some r:=h1
 unfold rC
 rw[h1,Option.bind_some]
 rcases h2 with rfl|⟨q,rfl,hF,hq⟩
 ·exact⟨_,rfl,fun h=>absurd h (by decide)⟩
 ·exact⟨_,rfl,fun _=>⟨hF,by omega⟩⟩
def yj(d:Nat)(t:Nd):Prop:=Fit d t/\IR d t/\sz8 d t<=300
theorem E5{d:Nat}{t x:Nd}(h:yj (d+1) t)(hx:x∈t.ak):yj d x:=by
 obtain⟨h1,h2,h3⟩:=h
 refine⟨jT h1 hx,h2.2.2 x hx,?_⟩
 have:=QM (d:=d) hx
 unfold sz8 at h3
 omega
theorem xu{d:Nat}{t:Nd}(h:yj d t):t.aj.length<=300/\t.ak.length<=300:=by
 obtain⟨e,rfl⟩:=yw h.1
 have h1:=TF h.1 h.2.2
 obtain⟨a1,a2,a3,a4,a5,a6,a7,a8⟩:=h.1
 refine⟨?_,by omega⟩
 by_cases h3:t.av=3
 ·rw[(a5 h3).1];omega
 ·rw[a4 h3];simp
theorem Lc{d:Nat}{t:Nd}{k:BS}(h:yj (d+1) t)(hk:k∈t.aj):k.length<=200:=h.2.1.2.1 k hk
theorem PG{α β:Type}{x:Option α}{f:α->Option β}(h:∃r,x=some r)(k:∀r,∃q,f r=some q):∃q,x.bind f=some q:=by
 obtain⟨r,rfl⟩:=h
 exact k r
theorem D7(n:Nat)(s:BS):∃b,lW n s=some b:=by
 unfold lW
 have e:((!((decide ((List.length s:Int)>=2))==true)||decide (0<=(2:Int)/\(2:Int)<=(List.length s:Int))))=true:=by
  by_cases h:(List.length s:Int)>=2
  ·rw[show decide (0<=(2:Int)/\(2:Int)<=(List.length s:Int))=true from decide_eq_true ⟨by decide,h⟩,Bool.or_true]
  ·rw[show decide ((List.length s:Int)>=2)=false from decide_eq_false h];rfl
 rw[if_pos e]
 exact⟨_,rfl⟩
theorem KD(n:Nat)(s:BS)(hn:200000<=n):∃b,pY n s=some b:=by
 have hl:∀l:List BS,l.length<=1000->∃r,iJ n s l n 0=some r:=fun l hl=>by
  have h:=qm (L:=iJ n s l) l.length (fun _=>True) (by omega) (fun k i h=>by
   rw[iJ,if_pos (bZ h),if_pos (aN h)]
   split
   ·exact .inl ⟨_,rfl,trivial⟩
   ·exact .inr rfl) (fun k=>⟨.inl (),by rw[iJ,bK];rfl,trivial⟩) n 0 (Nat.zero_le _) (by omega)
  exact KB h
 unfold pY
 simp only[aS]
 refine PG (hl _ (by decide)) fun r=>?_
 cases r with
 |inl u=>exact mD ⟨_,rfl⟩ ⟨_,rfl⟩
 |inr u=>exact⟨_,rfl⟩
theorem Av(d:Nat):Grow d 0 (af.mk 3 [] [] []):=⟨S9 d,.inl rfl,Nat.le_refl _⟩
theorem B6(d:Nat)(t:Nd):(so8 (d+1) t).av=t.av:=by
 unfold so8
 split
 ·rename_i h;exact h.symm
 ·rfl
theorem I8(n d i c:Nat)(t b3:Nd)(b2:aC)(hT:yj (d+4) t)(hl:t.aj.length=t.ak.length)(hi:i<t.aj.length)(hG:Grow (d+3) c b3)(h3:b3.av=3)(hc:c<=1000)(hd:d<=70)(hn:2000000<=n):∃r,lK n (i:Int) t b2 b3=some r/\Sum.elim (fun o=>Grow (d+3) (c+1) o.2/\o.2.av=3) (fun o=>o.f_E≠0/\o.lC.length<=200) r:=by
 unfold lK
 have hi':i<t.ak.length:=by omega
 have hkey:=Lc hT (List.getElem_mem hi)
 rw[if_pos (aN hi),bM hi]
 refine gK (D7 n _) fun r1=>?_
 split
 ·exact⟨_,rfl,l7 hG (by omega),h3⟩
 ·rw[if_pos (aN hi)]
  refine gK (KD n _ (by omega)) fun r2=>?_
  split
  ·rw[if_pos (aN hi)]
   exact⟨_,rfl,(by decide:¬(10:Int)=0),hkey⟩
  ·rw[if_pos (aN hi'),bM hi']
   split
   ·exact⟨_,rfl,l7 hG (by omega),h3⟩
   ·rw[if_pos (aN hi')]
    have hK:=E5 hT (List.getElem_mem hi')
    refine bq (Kp n d _ r2 hK.1 hK.2.1 (by have:=(xu hK).1;omega) (by omega) hn) fun r4 g4=>?_
    split
    ·rw[if_pos (aN hi)]
     exact⟨_,rfl,(by decide:¬(10:Int)=0),hkey⟩
    ·rw[if_pos (aN hi),dI _ _ hG.1 (by omega)]
     exact⟨_,rfl,ig _ hG g4 hc,zX (.inl h3)⟩
theorem JW(n d:Nat)(t:Nd)(hT:yj (d+4) t)(hd:d<=70)(hn:2000000<=n):∃r,nY n t=some r/\r.lC.length<=200/\(r.f_E=0->Fit (d+4) r.f_N):=by
 unfold nY
 split
 ·exact⟨_,rfl,by show(0:Nat)<=200;omega,fun h=>absurd h (by decide:¬(10:Int)=0)⟩
 ·rename_i h
  have hk:t.av=3\/t.av=0:=by
   by_cases h0:t.av=0
   ·exact .inr h0
   ·by_cases h3:t.av=3
    ·exact .inl h3
    ·rw[show(t.av != 0)=true by rw[bne_iff_ne];exact h0,show(t.av != 3)=true by rw[bne_iff_ne];exact h3] at h
     exact absurd rfl h
  have hlen:=(fe hT.1 hk).1
  have hks:=(xu hT).1
  have hl:=ji (L:=fun k (b:aC×Nd) i=>dS n t k i b.1 b.2) t.aj.length (fun(i:Nat) (b:aC×Nd)=>Grow (d+3) i b.2/\b.2.av=3) (fun r=>Sum.elim (fun o=>∃c,Grow (d+3) c o.2) (fun o=>o.f_E≠0/\o.lC.length<=200) r) (by omega) (fun k b i h hI=>by
   obtain⟨r,hr,hr2⟩:=I8 n d i i t b.2 b.1 hT hlen h hI.1 hI.2 (by omega) hd hn
   cases r with
   |inr q=>exact .inl ⟨.inr q,by show dS n t (k+1) (i:Int) b.1 b.2=_;rw[dS,if_pos (bZ h),hr];rfl,hr2⟩
   |inl q=>exact .inr ⟨q,hr2,by show dS n t (k+1) (i:Int) b.1 b.2=_;rw[dS,if_pos (bZ h),hr];rfl⟩) (fun k b hI=>⟨.inl b,by show dS n t (k+1) _ b.1 b.2=_;rw[dS,bK];rfl,_,hI.1⟩) n 0 (aC.mk (af.mk 0 [] [] []) [] 0,af.mk 3 [] [] []) (Nat.zero_le _) (by omega) ⟨Av _,rfl⟩
  refine bq hl fun r hr=>?_
  cases r with
  |inr o=>exact⟨_,rfl,hr.2,fun h=>absurd h hr.1⟩
  |inl o =>
   obtain⟨c,hc⟩:=hr
   show ∃q,(dK n o.2).bind _=some q/\_
   rw[kz (d+4) n _ hc.1 (by omega)]
   exact⟨_,rfl,by show(0:Nat)<=200;omega,fun _=>yC _ _ hc.1⟩
theorem Gq(n:Nat)(v7:BS)(v:Bool)(b2 b6:aC)(h1:v7.length<=10000)(h2:b6.lC.length<=10000):∃r,kG n v7 v b2 b6=some r:=by
 unfold kG
 refine mD ?_ ⟨_,rfl⟩
 have e:([46]:Bs).length=1:=rfl
 rw[if_pos (decide_eq_true (by omega)),if_pos (decide_eq_true (by rw[List.length_append];omega))]
 exact⟨_,rfl⟩
def OH(x:Nd):Prop:=x.av=3/\x.aj.length<=16
theorem Oi(d:Nat){t:Nd}(h:t.av=3):(so8 (d+1) t).aj.length<=t.aj.length:=by
 unfold so8
 rw[if_pos h]
 exact dO _
theorem Gp(n d:Nat)(t:Nd)(hT:yj (d+5) t)(hl:t.aj.length=t.ak.length)(hd:d<=70)(hn:2000000<=n):∃r,cu n t n 0 (aC.mk (af.mk 0 [] [] []) [] 0) (af.mk 3 [] [] [])=some r/\Sum.elim (fun o=>∃c,Grow (d+4) c o.2/\o.2.av=3) (fun o=>o.f_E≠0) r:=by
 have hks:=(xu hT).1
 have hl:=ji (L:=fun k (b:aC×Nd) i=>cu n t k i b.1 b.2) t.aj.length (fun(i:Nat) (b:aC×Nd)=>Grow (d+4) i b.2/\b.2.av=3) (fun r=>Sum.elim (fun o=>∃c,Grow (d+4) c o.2/\o.2.av=3) (fun o=>o.f_E≠0) r) (by omega) (fun k b i h hI=>by
  have hi':i<t.ak.length:=by omega
  have hkey:=Lc hT (List.getElem_mem h)
  have e9:(decide (((List.length (vg:Bs)+List.length (t.aj[i]'h):Nat):Int)<=9223372036854775807))=true:=by
   refine decide_eq_true ?_
   have e:(vg:Bs).length=9:=rfl
   omega
  obtain⟨r1,h1,_⟩:=oO n (t.aj[i]'h) (by omega)
  cases r1 with
  |false =>
   left
   have hj:∃o,kJ n ((vg:Bs)++(t.aj[i]'h)) ((t.aj[i]'h)==[]) b.1=some o:=by
    unfold kJ
    exact mD ⟨_,rfl⟩ ⟨_,rfl⟩
   obtain⟨o,ho⟩:=hj
   refine⟨.inr (aC.mk (af.mk 0 [] [] []) o 10),?_,(by decide:¬(10:Int)=0)⟩
   show cu n t (k+1) (i:Int) b.1 b.2=_
   rw[cu,if_pos (bZ h),if_pos (aN h),bM h,h1,Option.bind_some,if_pos (by rfl),if_pos (aN h),if_pos e9,if_pos (aN h),ho];rfl
  |true =>
   obtain⟨r6,h6,g6,g7⟩:=JW n d _ (E5 hT (List.getElem_mem hi')) hd hn
   by_cases he:r6.f_E=0
   ·right
    refine⟨(b.1,gy b.2 (t.aj[i]'h) r6.f_N),⟨ig _ hI.1 (g7 he) (by omega),zX (.inl hI.2)⟩,?_⟩
    show cu n t (k+1) (i:Int) b.1 b.2=_
    rw[cu,if_pos (bZ h),if_pos (aN h),bM h,h1,Option.bind_some,if_neg (by decide),if_pos (aN hi'),bM hi',h6,Option.bind_some,if_neg (by simp[he]),if_pos (aN h),dI _ _ hI.1.1 (by omega)];rfl
   ·left
    obtain⟨o,ho⟩:=Gq n ((vg:Bs)++(t.aj[i]'h)) (!(r6.lC==[])) b.1 r6 (by
     have e:(vg:Bs).length=9:=rfl
     rw[List.length_append];omega) (by omega)
    refine⟨.inr (aC.mk (af.mk 0 [] [] []) o r6.f_E),?_,he⟩
    show cu n t (k+1) (i:Int) b.1 b.2=_
    rw[cu,if_pos (bZ h),if_pos (aN h),bM h,h1,Option.bind_some,if_neg (by decide),if_pos (aN hi'),bM hi',h6,Option.bind_some,if_pos (by rw[bne_iff_ne];exact he),if_pos (aN h),if_pos e9,ho];rfl) (fun k b hI=>⟨.inl b,by show cu n t (k+1) _ b.1 b.2=_;rw[cu,bK];rfl,_,hI⟩) n 0 (aC.mk (af.mk 0 [] [] []) [] 0,af.mk 3 [] [] []) (Nat.zero_le _) (by omega) ⟨Av _,rfl⟩
 exact hl
theorem Ii(n d:Nat)(t:Nd)(hT:yj (d+5) t)(hd:d<=70)(hn:2000000<=n):∃r,nj n t=some r/\(r.f_E=0->Fit (d+5) r.f_N/\OH r.f_N):=by
 unfold nj
 split
 ·exact⟨_,rfl,fun h=>absurd h (by decide:¬(10:Int)=0)⟩
 ·rename_i h
  have h3:t.av=3:=by simpa using h
  refine bq (Gp n d t hT (fe hT.1 (.inl h3)).1 hd hn) fun r hr=>?_
  cases r with
  |inr o=>exact⟨_,rfl,fun h=>absurd h hr⟩
  |inl o =>
   obtain⟨c,hc,hc3⟩:=hr
   show ∃q,(if(decide ((List.length o.2.aj:Int)>16))=true then _ else _)=some q/\_
   split
   ·exact⟨_,rfl,fun h=>absurd h (by decide:¬(9:Int)=0)⟩
   ·rename_i h16
    have h16':∀{a:Nat},¬decide ((a:Int)>16)=true->a<=16:=fun {a} h=>by
     have h:(a:Int)<=16:=by simpa using h
     omega
    rw[kz (d+5) n _ hc.1 (by omega)]
    exact⟨_,rfl,fun _=>⟨yC _ _ hc.1,(B6 _ _).trans hc3,Nat.le_trans (Oi _ hc3) (h16' h16)⟩⟩
def vK(t:Nd):Prop:=∀x,ia t svc=some x->OH x
theorem UF{d:Nat}{t:Nd}(hF:Fit (d+2) t)(h3:t.av=3)(hV:vK t):vK (so8 (d+2) t):=fun x hx=>by
 have e:=Ug svc hF
 unfold Pq at e
 rw[if_neg (by rw[B6];omega),if_neg (by omega)] at e
 rw[e] at hx
 cases hg:ia t svc with
 |none=>rw[hg] at hx;cases hx
 |some y =>
  rw[hg] at hx
  cases hx
  exact⟨(B6 _ _).trans (hV y hg).1,Nat.le_trans (Oi _ (hV y hg).1) (hV y hg).2⟩
theorem M4(n d i c:Nat)(t b3:Nd)(b2:aC)(hT:yj (d+6) t)(hl:t.aj.length=t.ak.length)(hi:i<t.aj.length)(hG:Grow (d+5) c b3)(h3:b3.av=3)(hV:vK b3)(hc:c<=1000)(hd:d<=70)(hn:2000000<=n):∃r,ot n (i:Int) t b2 b3=some r/\Sum.elim (fun o=>Grow (d+5) (c+1) o.2/\o.2.av=3/\vK o.2) (fun o=>o.f_E≠0) r:=by
 unfold ot
 have hi':i<t.ak.length:=by omega
 rw[if_pos (aN hi),if_pos (aN hi'),bM hi,bM hi']
 refine gK (D7 n _) fun r1=>?_
 split
 ·exact⟨_,rfl,l7 hG (by omega),h3,hV⟩
 ·simp only[aS]
  split
  ·exact⟨_,rfl,(by decide:¬(10:Int)=0)⟩
  ·split
   ·exact⟨_,rfl,l7 hG (by omega),h3,hV⟩
   ·have hK:=E5 hT (List.getElem_mem hi')
    have hj:∀s v,∃o,nZ n (i:Int) s v t b2 b3 (t.ak[i]'hi')=some o/\Sum.elim (fun o=>Fit (d+5) o.2/\(v=true->OH o.2)) (fun o=>o.f_E≠0) o:=fun s v=>by
     unfold nZ
     split
     ·refine bq (Ii n d _ hK hd hn) fun r3 g3=>?_
      split
      ·rename_i h;exact⟨_,rfl,by rw[bne_iff_ne] at h;exact h⟩
      ·rename_i h;exact⟨_,rfl,(g3 (by simpa using h)).1,fun _=>(g3 (by simpa using h)).2⟩
     ·rename_i hv
      split
      ·refine gK (mD (MZ n _ (by omega)) ⟨_,rfl⟩) fun r4=>?_
       split
       ·exact⟨_,rfl,(by decide:¬(10:Int)=0)⟩
       ·exact⟨_,rfl,hK.1,fun h=>absurd h hv⟩
      ·refine bq (JG n (d+5) _ hK.1 (by omega)) fun r5 g5=>?_
       split
       ·exact⟨_,rfl,(by decide:¬(10:Int)=0)⟩
       ·exact⟨_,rfl,jq g5 _ (by omega),fun h=>absurd h hv⟩
    refine bq (hj _ _) fun o3 g3=>?_
    cases o3 with
    |inr o=>exact⟨_,rfl,g3⟩
    |inl o =>
     show ∃q,(dA n b3 _ o.2).bind _=some q/\_
     rw[dI _ _ hG.1 (by omega)]
     refine⟨_,rfl,ig _ hG g3.1 hc,zX (.inl h3),fun x hx=>?_⟩
     by_cases hk:(t.aj[i]'hi)=svc
     ·have hx:ia (gy b3 (t.aj[i]'hi) o.2) svc=some x:=hx
      rw[hk,Re hG.1 (.inl h3)] at hx
      cases hx
      exact g3.2 (by rw[hk];rfl)
     ·exact hV x ((M3 (fun e=>hk e.symm) hG.1 (.inl h3)).symm.trans hx)
theorem OU(n d:Nat)(t:Nd)(hT:yj (d+6) t)(hd:d<=70)(hn:2000000<=n):∃r,ux n t=some r/\(r.f_E=0->Fit 12 r.f_N/\r.f_N.av=3/\sz8 12 r.f_N<=2000/\vK r.f_N):=by
 unfold ux
 split
 ·exact⟨_,rfl,fun h=>absurd h (by decide:¬(10:Int)=0)⟩
 ·rename_i h
  have hk:t.av=3\/t.av=0:=by
   by_cases h0:t.av=0
   ·exact .inr h0
   ·by_cases h3:t.av=3
    ·exact .inl h3
    ·rw[show(t.av != 0)=true by rw[bne_iff_ne];exact h0,show(t.av != 3)=true by rw[bne_iff_ne];exact h3] at h
     exact absurd rfl h
  have hlen:=(fe hT.1 hk).1
  have hks:=(xu hT).1
  have hl:=ji (L:=fun k (b:aC×Nd) i=>gx n t k i b.1 b.2) t.aj.length (fun(i:Nat) (b:aC×Nd)=>Grow (d+5) i b.2/\b.2.av=3/\vK b.2) (fun r=>Sum.elim (fun o=>∃c,Grow (d+5) c o.2/\o.2.av=3/\vK o.2) (fun o=>o.f_E≠0) r) (by omega) (fun k b i h hI=>by
   obtain⟨r,hr,hr2⟩:=M4 n d i i t b.2 b.1 hT hlen h hI.1 hI.2.1 hI.2.2 (by omega) hd hn
   cases r with
   |inr q=>exact .inl ⟨.inr q,by show gx n t (k+1) (i:Int) b.1 b.2=_;rw[gx,if_pos (bZ h),hr];rfl,hr2⟩
   |inl q=>exact .inr ⟨q,hr2,by show gx n t (k+1) (i:Int) b.1 b.2=_;rw[gx,if_pos (bZ h),hr];rfl⟩) (fun k b hI=>⟨.inl b,by show gx n t (k+1) _ b.1 b.2=_;rw[gx,bK];rfl,_,hI⟩) n 0 (aC.mk (af.mk 0 [] [] []) [] 0,af.mk 3 [] [] []) (Nat.zero_le _) (by omega) ⟨Av _,rfl,fun x hx=>by cases hx⟩
  refine bq hl fun r hr=>?_
  cases r with
  |inr o=>exact⟨_,rfl,fun h=>absurd h hr⟩
  |inl o =>
   obtain⟨c,hc,h3,hV⟩:=hr
   show ∃q,(dK n o.2).bind _=some q/\_
   rw[kz (d+6) n _ hc.1 (by omega),Option.bind_some]
   obtain⟨b,hb,hb2⟩:=Sm n (so8 (d+6) o.2) (by omega)
   rw[hb,Option.bind_some]
   cases b with
   |false=>exact⟨_,rfl,fun h=>absurd h (by decide:¬(9:Int)=0)⟩
   |true=>exact⟨_,rfl,fun _=>⟨(hb2 rfl).1,by show(so8 (d+6) o.2).av=3;rw[B6];exact h3,(hb2 rfl).2,UF hc.1 h3 hV⟩⟩
end Go.Proofs.YtpmmhhmhckpnfaaGreat.M
