import Derived.Test.YtpmmhhmhckpnfaaGreatQLoop
set_option linter.all false
namespace Go.Proofs.YtpmmhhmhckpnfaaGreat.M
open Go Go.Proofs.YtpmmhhmhckpnfaaGreat.RX Go.Proofs.YtpmmhhmhckpnfaaGreat.PL
set_option maxRecDepth 100000
theorem Hm(l:List BS):(kT l).Pairwise (·<=·):=by
 have:=List.pairwise_mergeSort (le:=fun x y:BS=>decide (x<=y)) (fun a b c h1 h2=>by simp only[decide_eq_true_eq] at *;exact Dq h1 h2) (fun a b=>by simpa using Rb a b) l
 exact this.imp fun h=>by simpa using h
theorem E6(zs:List BS)(hz:zs.Pairwise (·<=·)):∀m,m<=zs.length->Asc (Lib.compactUpTo zs.toArray m)/\∀x,x∈Lib.compactUpTo zs.toArray m↔x∈zs.take m
 |0,_=>by simp[Lib.compactUpTo]
 |m+1,hm=>by
  obtain⟨h1,h2⟩:=E6 zs hz m (by omega)
  have hg:∀j (h:j<zs.length),zs.toArray[j]! = zs[j]:=fun j h=>by simp[h]
  have hle:∀j (h:j<zs.length),j<m->zs[j]<=zs[m]:=fun j h hj=>List.pairwise_iff_getElem.1 hz j m h (by omega) hj
  rw[Lib.compactUpTo_succ,List.take_succ_eq_append_getElem (by omega:m<zs.length)]
  by_cases hk:Lib.keeps zs.toArray m=true
  ·rw[if_pos hk,hg m (by omega)]
   refine⟨List.pairwise_append.2 ⟨h1,by simp,fun x hx y hy=>?_⟩,fun x=>by rw[List.mem_append,List.mem_append,h2]⟩
   rw[List.mem_singleton.1 hy]
   obtain⟨j,hj,rfl⟩:=List.mem_take_iff_getElem.1 ((h2 x).1 hx)
   have hjm:j<m:=by omega
   refine qo (hle j (by omega) hjm) fun e=>?_
   have hk':m=0\/zs.toArray[m]!≠zs.toArray[m-1]!:=by simpa[Lib.keeps] using hk
   rcases hk' with h0|h0
   ·omega
   ·rw[hg m (by omega),hg (m-1) (by omega)] at h0
    have a1:zs[j]<=zs[m-1]:=by
     by_cases hq:j=m-1
     ·subst hq;exact pP.1 (jh _)
     ·exact List.pairwise_iff_getElem.1 hz j (m-1) (by omega) (by omega) (by omega)
    have a2:zs[m-1]<=zs[m]:=hle (m-1) (by omega) (by omega)
    exact h0 (xF (e▸a1) a2)
  ·rw[if_neg hk,List.append_nil]
   refine⟨h1,fun x=>?_⟩
   have hk':¬(m=0\/zs.toArray[m]!≠zs.toArray[m-1]!):=by simpa[Lib.keeps] using hk
   have hm0:m≠0:=fun e=>hk' (.inl e)
   have he:zs[m]=zs[m-1]:=by
    have:zs.toArray[m]! = zs.toArray[m-1]!:=Classical.byContradiction fun h=>hk' (.inr h)
    rwa[hg m (by omega),hg (m-1) (by omega)] at this
   rw[h2,List.mem_append,List.mem_singleton]
   constructor
   ·exact fun h=>.inl h
   ·rintro(h|h)
    ·exact h
    ·rw[h,he]
     exact List.mem_take_iff_getElem.2 ⟨m-1,by omega,rfl⟩
theorem LV(l:List BS):Lib.compact (kT l)=srt l:=by
 obtain⟨h1,h2⟩:=E6 (kT l) (Hm l) _ (Nat.le_refl _)
 refine Asc.ext h1 (vO l) fun x=>?_
 rw[iz]
 have:=h2 x
 rw[List.take_length] at this
 rw[show Lib.compact (kT l)=Lib.compactUpTo (kT l).toArray (kT l).length from rfl,this]
 exact List.mem_mergeSort
theorem RY{a:Nat}(h:a<=1000000):decide (a*17<=limit)=true:=decide_eq_true (by show a*17<=140737488355328;omega)
theorem uw(n:Nat)(l:List BS)(h:l.length<=1000000):kL n l=some (srt l):=by
 unfold kL
 have h1:decide ((List.length ([]:List BS)+List.length l)*(16+1)<=limit)=true:=gX (by simp;omega)
 have h3:(Sh.sort l).length=l.length:=List.length_mergeSort l
 rw[if_pos h1,List.nil_append,if_pos (RY h),if_pos (RY (by omega))]
 exact congrArg some (LV l)
def lX(out:List BS)(x:BS):Bool:=if out.length=0 then true else decide ((out[out.length-1]?.getD [])<x)
def NY(l out:List BS)(i:Nat)(v:Int):Prop :=
 (v=-1/\∀j (h:j<l.length),j<i->lX out l[j]=false)\/∃(b:Nat)(h:b<l.length),v=(b:Int)/\b<i/\lX out l[b]=true/\∀j (h:j<l.length),j<i->lX out l[j]=true->l[b]<=l[j]
theorem last_at{out:List BS}(h0:out.length≠0)(ho:out.length<1000000):(decide (0<=(IntKind.wrap .i64 ((List.length out:Int)-1))/\(IntKind.wrap .i64 ((List.length out:Int)-1))<(List.length out:Int)))=true/\(out[Int.toNat (IntKind.wrap .i64 ((List.length out:Int)-1))]?.getD [])=(out[out.length-1]?.getD []):=by
 rw[TP out.length (by omega) (by omega)]
 exact⟨aO (by omega),rfl⟩
theorem US(n:Nat)(l out:List BS)(i:Nat)(v:Int)(hi:i<l.length)(ho:out.length<1000000)(hv:v=-1\/∃b:Nat,v=(b:Int)/\b<l.length) :
  l6 n l out v (i:Int)=some (if(lX out l[i]&&(decide (v<0)||decide (l[i]<(l[Int.toNat v]?.getD []))))=true then(i:Int) else v):=by
 have hA:(bif ((List.length out:Int)==0) then true else(!(Op.bytesLess (l[Int.toNat (i:Int)]?.getD []) (out[Int.toNat (IntKind.wrap .i64 ((List.length out:Int)-1))]?.getD [])||(l[Int.toNat (i:Int)]?.getD [])==(out[Int.toNat (IntKind.wrap .i64 ((List.length out:Int)-1))]?.getD []))))=lX out l[i]:=by
  unfold lX
  rw[TF,bW hi]
  by_cases h0:out.length=0
  ·simp[h0]
  ·have e:((List.length out:Int)==0)=false:=by rw[beq_eq_false_iff_ne];omega
   rw[e,if_neg h0,(last_at h0 ho).2,cond_false,Bool.eq_iff_iff]
   simp[II]
 unfold l6
 rw[hA]
 have c2:(!(((List.length out:Int)==0)==false)||decide (0<=(IntKind.wrap .i64 ((List.length out:Int)-1))/\(IntKind.wrap .i64 ((List.length out:Int)-1))<(List.length out:Int)))=true:=by
  by_cases h0:out.length=0
  ·simp[h0]
  ·rw[(last_at h0 ho).1,Bool.or_true]
 have c4:(!(((decide (v<0))==false)&&(lX out l[i]==true))||decide (0<=v/\v<(List.length l:Int)))=true:=by
  rcases hv with rfl|⟨b,rfl,hb⟩
  ·simp
  ·rw[aO hb,Bool.or_true]
 simp only[aO hi,Bool.or_true,if_true,c2,c4,aQ,D6,bW hi]
 cases lX out l[i]<;>cases decide (v<0)<;>simp
 split<;>rfl
theorem QE{l out:List BS}{i:Nat}{v:Int}(hi:i<l.length)(h:NY l out i v):NY l out (i+1) (if(lX out l[i]&&(decide (v<0)||decide (l[i]<(l[Int.toNat v]?.getD []))))=true then(i:Int) else v):=by
 cases ha:lX out l[i] with
 |false =>
  rw[Bool.false_and,if_neg Bool.false_ne_true]
  rcases h with⟨rfl,h⟩|⟨b,hb,rfl,hbi,hab,h⟩
  ·refine .inl ⟨rfl,fun j hj hji=>?_⟩
   by_cases e:j=i
   ·subst e;exact ha
   ·exact h j hj (by omega)
  ·refine .inr ⟨b,hb,rfl,by omega,hab,fun j hj hji haj=>?_⟩
   by_cases e:j=i
   ·subst e;rw[ha] at haj;cases haj
   ·exact h j hj (by omega) haj
 |true =>
  rw[Bool.true_and]
  rcases h with⟨rfl,h⟩|⟨b,hb,rfl,hbi,hab,h⟩
  ·rw[if_pos (by simp)]
   refine .inr ⟨i,hi,rfl,by omega,ha,fun j hj hji haj=>?_⟩
   by_cases e:j=i
   ·subst e;exact pP.1 (jh _)
   ·rw[h j hj (by omega)] at haj;cases haj
  ·have e0:decide ((b:Int)<0)=false:=decide_eq_false (by omega)
   rw[e0,Bool.false_or,bW hb]
   by_cases hlt:l[i]<l[b]
   ·rw[if_pos (decide_eq_true hlt)]
    refine .inr ⟨i,hi,rfl,by omega,ha,fun j hj hji haj=>?_⟩
    by_cases e:j=i
    ·subst e;exact pP.1 (jh _)
    ·exact Dq (xq hlt) (h j hj (by omega) haj)
   ·rw[if_neg (by simpa using hlt)]
    refine .inr ⟨b,hb,rfl,by omega,hab,fun j hj hji haj=>?_⟩
    by_cases e:j=i
    ·subst e;exact pP.1 hlt
    ·exact h j hj (by omega) haj
theorem SD(n:Nat)(l out:List BS)(hl:l.length<1000000)(ho:out.length<1000000):∀(k i:Nat)(v:Int),i<=l.length->l.length-i<k->NY l out i v->∃r,jr n l out k v (i:Int)=some r/\NY l out l.length r
 |0,i,v,_,h,_=>by omega
 |k+1,i,v,h1,h2,hb=>by
  rw[jr]
  by_cases h:i<l.length
  ·have hv:v=-1\/∃b:Nat,v=(b:Int)/\b<l.length:=by
    rcases hb with⟨e,_⟩|⟨b,hb,e,_⟩
    ·exact .inl e
    ·exact .inr ⟨b,e,hb⟩
   rw[if_pos (bZ h),US n l out i v h ho hv,Option.bind_some,dO i (by omega)]
   exact SD n l out hl ho k (i+1) _ (by omega) (by omega) (QE h hb)
  ·have:i=l.length:=by omega
   subst this
   rw[if_neg (by rw[bV];exact Bool.false_ne_true)]
   exact⟨v,rfl,hb⟩
theorem OZ(n:Nat)(l:List BS)(hl:l.length<100000)(hn:100000<=n):∀(k m:Nat),m<=(srt l).length->(srt l).length-m<k->ku n l k ((srt l).take m)=some (srt l)
 |0,m,_,h=>by omega
 |k+1,m,h1,h2=>by
  have hlen:=fB l
  have hA:=vO l
  have htl:((srt l).take m).length=m:=by rw[List.length_take];omega
  have hab:∀x,lX ((srt l).take m) x=true↔(m=0\/∃h:m-1<(srt l).length,(srt l)[m-1]<x):=by
   intro x
   unfold lX
   rw[htl]
   by_cases h0:m=0
   ·simp[h0]
   ·rw[if_neg h0,List.getElem?_take,if_pos (by omega),List.getElem?_eq_getElem (by omega)]
    simp[h0]
    constructor
    ·exact fun h=>⟨by omega,h⟩
    ·exact fun⟨_,h⟩=>h
  obtain⟨r,hr,hb⟩:=SD n l ((srt l).take m) (by omega) (by omega) n 0 (-1) (by omega) (by omega) (.inl ⟨rfl,fun j _ h=>by omega⟩)
  have hr:jr n l ((srt l).take m) n (-1) 0=some r:=hr
  rw[ku,hr,Option.bind_some]
  rcases hb with⟨rfl,hb⟩|⟨b,hbl,rfl,_,hcb,hb⟩
  ·have hm:m=(srt l).length:=by
    refine Classical.byContradiction fun hne=>?_
    have hmT:m<(srt l).length:=by omega
    obtain⟨j,hj,e⟩:=List.mem_iff_getElem.1 (iz.1 (List.getElem_mem hmT))
    have:=hb j hj hj
    rw[e] at this
    have h3:lX ((srt l).take m) (srt l)[m]=true:=by
     rw[hab]
     by_cases h0:m=0
     ·exact .inl h0
     ·exact .inr ⟨by omega,List.pairwise_iff_getElem.1 hA (m-1) m (by omega) hmT (by omega)⟩
    rw[this] at h3;cases h3
   rw[if_pos (by decide)]
   subst hm
   rw[List.take_length]
  ·obtain⟨j,hj,e⟩:=List.mem_iff_getElem.1 (iz.2 (List.getElem_mem hbl):l[b]∈srt l)
   have hmj:m<=j:=by
    rcases(hab _).1 hcb with h0|⟨h0,h3⟩
    ·omega
    ·refine Classical.byContradiction fun hne=>?_
     rw[<-e] at h3
     by_cases hq:j=m-1
     ·subst hq;exact jh _ h3
     ·exact jh _ (yX h3 (List.pairwise_iff_getElem.1 hA j (m-1) hj h0 (by omega)))
   have hmT:m<(srt l).length:=by omega
   have hbm:l[b]=(srt l)[m]:=by
    obtain⟨j',hj',e'⟩:=List.mem_iff_getElem.1 (iz.1 (List.getElem_mem hmT))
    have h3:lX ((srt l).take m) (srt l)[m]=true:=by
     rw[hab]
     by_cases h0:m=0
     ·exact .inl h0
     ·exact .inr ⟨by omega,List.pairwise_iff_getElem.1 hA (m-1) m (by omega) hmT (by omega)⟩
    have h4:=hb j' hj' hj' (by rw[e'];exact h3)
    rw[e'] at h4
    refine xF h4 ?_
    rw[<-e]
    by_cases hq:j=m
    ·subst hq;exact pP.1 (jh _)
    ·exact xq (List.pairwise_iff_getElem.1 hA m j hmT hj (by omega))
   have e0:decide ((b:Int)<0)=false:=decide_eq_false (by omega)
   have hc:decide ((List.length ((srt l).take m)+List.length ([l[b]]:List BS))*(16+1)<=limit)=true:=gX (by rw[htl];simp;omega)
   rw[e0,if_neg Bool.false_ne_true,if_pos (aO hbl),bW hbl,if_pos hc,hbm,<-List.take_succ_eq_append_getElem hmT]
   exact OZ n l hl hn k (m+1) (by omega) (by omega)
theorem sS(n:Nat)(l:List BS)(hl:l.length<10000)(hn:100000<=n):jH n l=some (srt l):=by
 unfold jH
 have:=OZ n l (by omega) hn n 0 (by omega) (by have:=fB l;omega)
 rw[List.take_zero] at this
 rw[this];rfl
def at1(s:BS):Nat->List BS->Option Int:=vC fun i x=>if(s==x)=true then some (i:Int) else none
theorem OC(n:Nat)(l:List BS)(s:BS)(hl:l.length<10000)(hn:100000<=n):vR n l s=some ((at1 s 0 l).getD (-1)):=by
 unfold vR dW
 have:=JL (L:=bC n l s (List.length l:Int)) l (fun i x=>if(s==x)=true then some (i:Int) else none) 0 (by omega)
  (fun k i h _=>by
   rw[bC,if_pos (bZ h),if_pos (aO h),bW h]
   cases s==l[i]<;>rfl)
  (fun k=>by rw[bC,bV];rfl) n 0 (by omega) (by omega) (by omega)
 rw[show(0:Int)=((0:Nat):Int) from rfl,this,List.drop_zero]
 show(Option.bind _ _)=some ((at1 s 0 l).getD (-1))
 rw[show vC (fun i x=>if(s==x)=true then some (i:Int) else none) 0 l=at1 s 0 l from rfl]
 cases at1 s 0 l<;>rfl
theorem SZ{l m:List BS}{i:Nat}(h1:i<l.length)(h2:i<m.length):(l.drop i=m.drop i)↔l[i]=m[i]/\l.drop (i+1)=m.drop (i+1):=by
 rw[drop_at h1,drop_at h2,List.cons.injEq]
theorem Qe{L:Nat->Int->Option (Sum Unit Bool)}(l m:List BS)(hlm:l.length=m.length)(hl:l.length<10000)
  (hs:∀k i (h:i<l.length) (h':i<m.length),L (k+1) (i:Int)=if(!(l[i]==m[i]))=true then some (.inr false) else L k (IntKind.wrap .i64 ((i:Int)+1)))
  (he:∀k,L (k+1) (l.length:Int)=some (.inl ())):∀k i,i<=l.length->l.length-i<k->L k (i:Int)=some (if l.drop i=m.drop i then .inl () else .inr false)
 |0,i,_,h=>by omega
 |k+1,i,h1,h2=>by
  by_cases h:i<l.length
  ·have h':i<m.length:=by omega
   rw[hs k i h h']
   simp only[SZ h h']
   by_cases e:l[i]=m[i]
   ·simp only[e,beq_self_eq_true,Bool.not_true,Bool.false_eq_true,if_false,true_and]
    rw[dO i (by omega)]
    exact Qe l m hlm hl hs he k (i+1) (by omega) (by omega)
   ·simp[e]
  ·have:i=l.length:=by omega
   subst this
   rw[he,List.drop_eq_nil_of_le (Nat.le_refl _),List.drop_eq_nil_of_le (by omega),if_pos rfl]
theorem Js(n:Nat)(l m:List BS)(hl:l.length<10000)(hn:100000<=n):kG n l m=some (decide (l=m)):=by
 unfold kG
 by_cases hlm:l.length=m.length
 ·have e:((List.length l:Int) != (List.length m:Int))=false:=by simp[hlm]
  have:=Qe (L:=ij n l m) l m hlm hl
   (fun k i h h'=>by rw[ij,if_pos (bZ h),if_pos (aO h),if_pos (aO h'),bW h,bW h'])
   (fun k=>by rw[ij,bV];rfl) n 0 (by omega) (by omega)
  rw[e,if_neg Bool.false_ne_true,show(0:Int)=((0:Nat):Int) from rfl,this,List.drop_zero,List.drop_zero]
  by_cases h:l=m
  ·rw[if_pos h,decide_eq_true h];rfl
  ·rw[if_neg h,decide_eq_false h];rfl
 ·have e:((List.length l:Int) != (List.length m:Int))=true:=by simpa using fun h=>hlm (by omega)
  rw[e,if_pos rfl,decide_eq_false (fun h=>hlm (congrArg List.length h))]
abbrev Nd:=af
abbrev Z8:Nd:=af.mk 0 [] [] []
def Fit:Nat->Nd->Prop
 |0,_=>False
 |d+1,t=>t.aj.length<=2000/\t.ak.length<=2000/\(t.av≠1->t.aC=[])/\(t.av≠3->t.ak=[])/\(t.av=3->t.ak.length=t.aj.length/\t.ak.Nodup)/\(t.av<2->t.aj=[])/\(0<=t.av/\t.av<=3)/\∀x∈t.aj,Fit d x
def sz8:Nat->Nd->Nat
 |0,_=>1
 |d+1,t=>1+(t.aj.map (sz8 d)).sum
theorem yh:∀d t,1<=sz8 d t
 |0,_=>Nat.le_refl 1
 |d+1,t=>by unfold sz8;omega
def Iw:Nat->Nd->Prop
 |0,_=>True
 |d+1,t=>t.aC.length<=200/\(∀k∈t.ak,k.length<=200)/\∀x∈t.aj,Iw d x
theorem Nx{x:BS}:∀{l:List BS},Asc l->x∈l->(ins x l).length=l.length
 |[],_,h=>by cases h
 |y::l,ha,h=>by
  obtain⟨h1,h2⟩:=List.pairwise_cons.1 ha
  unfold ins
  split
  ·rename_i hx
   rcases List.mem_cons.1 h with e|hm
   ·subst e;exact(jh _ hx).elim
   ·exact(jh _ (yX hx (h1 x hm))).elim
  ·split
   ·rfl
   ·rename_i hx hy
    rcases List.mem_cons.1 h with e|hm
    ·exact(hy e).elim
    ·rw[List.length_cons,Nx h2 hm,List.length_cons]
theorem zK:∀{l:List BS},(srt l).length=l.length->l.Nodup
 |[],_=>.nil
 |x::l,h=>by
  have h0:srt (x::l)=ins x (srt l):=rfl
  have h1:=fB l
  rw[h0,List.length_cons] at h
  by_cases hx:x∈srt l
  ·rw[Nx (vO l) hx] at h;omega
  ·have h2:=vk x (srt l)
   refine List.nodup_cons.2 ⟨fun hm=>hx (iz.2 hm),zK (by omega)⟩
theorem IY(R:Nd->Int->Int->Option Int)(n d:Nat)(dep:Int)(t:Nd)(hdep:0<=dep/\dep<100)
  (hR:∀x∈t.aj,∀l:Nat,l<=2000->∃r,R x (dep+1) (l:Int)=some r/\(r=-1\/∃q:Nat,r=(q:Int)/\Fit d x/\q+sz8 d x<=l)) :
  ∀(k l i:Nat),l+1<k->i<=t.aj.length->i+l<=2000 ->
   cH R n dep t k (l:Int) (i:Int)=some (.inr (-1))\/∃q:Nat,cH R n dep t k (l:Int) (i:Int)=some (.inl (q:Int))/\q+((t.aj.drop i).map (sz8 d)).sum<=l/\∀x∈t.aj.drop i,Fit d x
 |0,l,i,h,_,_=>by omega
 |k+1,l,i,hk,hi,hil=>by
  by_cases h:i<t.aj.length
  ·have e1:IntKind.wrap .i64 (dep+1)=dep+1:=fC _ (by omega) (by omega)
   obtain⟨r,h1,h2⟩:=hR t.aj[i] (List.getElem_mem h) l (by omega)
   have hst:cH R n dep t (k+1) (l:Int) (i:Int)=if(decide (r<0))=true then some (.inr (-1)) else cH R n dep t k r (IntKind.wrap .i64 ((i:Int)+1)):=by
    rw[cH,if_pos (bZ h),if_pos (aO h),bW h,e1,h1];rfl
   rw[hst]
   rcases h2 with rfl|⟨q,rfl,hF,hq⟩
   ·exact .inl (if_pos rfl)
   ·have hp:=yh d t.aj[i]
    rw[if_neg (by simp),dO i (by omega)]
    rcases IY R n d dep t hdep hR k q (i+1) (by omega) (by omega) (by omega) with h3|⟨q',h3,h4,h5⟩
    ·exact .inl h3
    ·refine .inr ⟨q',h3,?_,?_⟩
     ·rw[drop_at h,List.map_cons,List.sum_cons];omega
     ·rw[drop_at h]
      intro x hx
      rcases List.mem_cons.1 hx with rfl|hx
      ·exact hF
      ·exact h5 x hx
  ·have:i=t.aj.length:=by omega
   subst this
   refine .inr ⟨l,?_,?_,?_⟩
   ·rw[cH,bV];rfl
   ·rw[List.drop_eq_nil_of_le (Nat.le_refl _)];simp
   ·rw[List.drop_eq_nil_of_le (Nat.le_refl _)];intro x hx;cases hx
theorem Gw{a b:Bool}:(bif a then true else b)=(a||b):=by cases a<;>rfl
theorem xY{a b:Bool}:(bif a then b else false)=(a&&b):=by cases a<;>rfl
theorem left_eq:∀(d n:Nat)(t:Nd)(dep:Int)(l:Nat),dep+(d:Int)=13->0<=dep->l<=2000->100000+d<n ->
  ∃r,dD n t dep (l:Int)=some r/\(r=-1\/∃q:Nat,r=(q:Int)/\Fit d t/\q+sz8 d t<=l)
 |_,0,_,_,_,_,_,_,h=>by omega
 |0,n+1,t,dep,l,hd,h0,hl,hn=>by
  refine⟨-1,?_,.inl rfl⟩
  show jD (dD n) n t dep (l:Int)=_
  unfold jD
  have:decide (dep>12)=true:=decide_eq_true (by omega)
  simp only[this,aQ,Gw,Bool.or_true,Bool.true_or,if_true]
 |d+1,n+1,t,dep,l,hd,h0,hl,hn=>by
  show ∃r,jD (dD n) n t dep (l:Int)=some r/\_
  unfold jD
  have e1:IntKind.wrap .i64 ((l:Int)-1)=(l:Int)-1:=fC _ (by omega) (by omega)
  simp only[aQ,e1,Gw,xY]
  by_cases c1:(decide ((l:Int)-1<0)||decide (dep>12)||decide (t.av<0)||decide (t.av>3))=true
  ·exact⟨-1,if_pos c1,.inl rfl⟩
  rw[if_neg c1]
  by_cases c2:((t.av != 1&&decide ((List.length t.aC:Int)>0))||(t.av != 3&&decide ((List.length t.ak:Int)>0))||(decide (t.av<2)&&decide ((List.length t.aj:Int)>0)))=true
  ·exact⟨-1,if_pos c2,.inl rfl⟩
  rw[if_neg c2]
  simp only[Bool.or_eq_true,Bool.and_eq_true,decide_eq_true_eq,bne_iff_ne,ne_eq,not_or,not_and,gt_iff_lt,Int.not_lt] at c1 c2
  obtain⟨⟨⟨a1,a2⟩,a3⟩,a4⟩:=c1
  obtain⟨⟨b1,b2⟩,b3⟩:=c2
  obtain⟨l,rfl⟩:∃l',l=l'+1:=⟨l-1,by omega⟩
  have e2:((l+1:Nat):Int)-1=(l:Int):=by omega
  rw[e2]
  have loop:=IY (dD n) n d dep t (by omega) (fun x _ l' hl'=>left_eq d n x (dep+1) l' (by omega) (by omega) hl' (by omega)) n l 0 (by omega) (Nat.zero_le _) (by omega)
  have fin:(t.av=3->t.ak.length=t.aj.length/\t.ak.Nodup)->∃r,((cH (dD n) n dep t n (l:Int) 0).bind fun o5=>(Sum.elim (fun o5=>some o5) (fun o5=>some o5)) o5)=some r/\(r=-1\/∃q:Nat,r=(q:Int)/\Fit (d+1) t/\q+sz8 (d+1) t<=l+1):=by
   intro hk
   rcases loop with h3|⟨q,h3,h4,h5⟩
   ·have h3:cH (dD n) n dep t n (l:Int) 0=_:=h3
    exact⟨-1,by rw[h3];rfl,.inl rfl⟩
   ·have h3:cH (dD n) n dep t n (l:Int) 0=_:=h3
    rw[List.drop_zero] at h4 h5
    have hs:∀(f:Nd->Nat)(m:List Nd),(∀x,1<=f x)->m.length<=(m.map f).sum:=by
     intro f m hf
     induction m with
     |nil=>exact Nat.le_refl 0
     |cons x m ih=>rw[List.map_cons,List.sum_cons,List.length_cons];have:=hf x;omega
    have hkl:=hs (sz8 d) t.aj (yh d)
    refine⟨q,by rw[h3];rfl,.inr ⟨q,rfl,⟨by omega,?_,fun h=>List.eq_nil_of_length_eq_zero (by have:=b1 h;omega),fun h=>List.eq_nil_of_length_eq_zero (by have:=b2 h;omega),hk,fun h=>List.eq_nil_of_length_eq_zero (by have:=b3 h;omega),⟨by omega,by omega⟩,h5⟩,?_⟩⟩
    ·by_cases h:t.av=3
     ·have:=hk h;omega
     ·have:=b2 h;omega
    ·show q+(1+(t.aj.map (sz8 d)).sum)<=l+1;omega
  by_cases h3:t.av=3
  ·have e3:(t.av==3)=true:=by rw[h3];rfl
   rw[e3]
   by_cases c3:((List.length t.ak:Int) != (List.length t.aj:Int)||decide ((List.length t.aj:Int)>(l:Int)))=true
   ·rw[c3]
    exact⟨-1,rfl,.inl rfl⟩
   ·have c3':((List.length t.ak:Int) != (List.length t.aj:Int)||decide ((List.length t.aj:Int)>(l:Int)))=false:=by simpa using c3
    rw[c3']
    simp only[Bool.or_eq_true,bne_iff_ne,ne_eq,decide_eq_true_eq,not_or,Decidable.not_not] at c3
    obtain⟨c4,c5⟩:=c3
    have hso:=sS n t.ak (by omega) (by omega)
    simp only[beq_self_eq_true,Bool.and_self,if_true,hso,Option.bind_some,Bool.false_or,Bool.true_and]
    by_cases c6:((List.length (srt t.ak):Int) != (List.length t.ak:Int))=true
    ·exact⟨-1,if_pos c6,.inl rfl⟩
    ·rw[if_neg c6]
     simp only[bne_iff_ne,ne_eq,Decidable.not_not] at c6
     exact fin fun _=>⟨by omega,zK (by omega)⟩
  ·have e3:(t.av==3)=false:=by rw[beq_eq_false_iff_ne];exact h3
   rw[e3]
   simp only[Bool.false_and,Bool.and_false,Bool.false_eq_true,if_false,Option.bind_some,show(false==true)=false from rfl]
   exact fin fun h=>(h3 h).elim
theorem Lh:∀(d n:Nat)(t:Nd),Fit d t->100000+d<n->∃b,eY n t=some b/\(b=true->Iw d t)
 |_,0,_,_,h=>by omega
 |0,n+1,t,h,_=>h.elim
 |d+1,n+1,t,hF,hn=>by
  obtain⟨f1,f2,_,_,_,_,_,f8⟩:=hF
  show ∃b,nY (eY n) n t=some b/\_
  unfold nY
  by_cases c:(List.length t.aC:Int)>200
  ·exact⟨false,by rw[if_pos (decide_eq_true c)],fun h=>by cases h⟩
  rw[if_neg (show ¬decide ((List.length t.aC:Int)>200)=true by simpa using c)]
  have l1:=yp (L:=jg (eY n) n t) t.ak (fun x=>if decide ((x.length:Int)>200)=true then some false else none) 0 (by omega)
   (fun k i h _=>by
    rw[jg,if_pos (bZ h),if_pos (aO h),bW h]
    cases decide ((t.ak[i].length:Int)>200)<;>rfl)
   (fun k=>by rw[jg,bV];rfl) n 0 (by omega) (by omega) (by omega)
  have l1:jg (eY n) n t n 0=_:=l1
  rw[l1]
  rw[List.drop_zero]
  cases ho1:List.findSome? (fun x:BS=>if decide ((x.length:Int)>200)=true then some false else none) t.ak with
  |some r =>
   refine⟨r,rfl,fun hr=>?_⟩
   obtain⟨x,_,h2⟩:=List.exists_of_findSome?_eq_some ho1
   by_cases hb:decide ((x.length:Int)>200)=true
   ·rw[if_pos hb] at h2;cases h2;cases hr
   ·rw[if_neg hb] at h2;cases h2
  |none =>
   have hx:∀x∈t.aj,∃b,eY n x=some b/\(b=true->Iw d x):=fun x hx=>Lh d n x (f8 x hx) (by omega)
   have l2:=yp (L:=iE (eY n) n t) t.aj (fun x=>if(!((eY n x).getD false))=true then some false else none) 0 (by omega)
    (fun k i h _=>by
     obtain⟨b,h1,_⟩:=hx t.aj[i] (List.getElem_mem h)
     rw[iE,if_pos (bZ h),if_pos (aO h),bW h,h1]
     cases b<;>rfl)
    (fun k=>by rw[iE,bV];rfl) n 0 (by omega) (by omega) (by omega)
   have l2:iE (eY n) n t n 0=_:=l2
   show ∃b,((iE (eY n) n t n 0).bind fun o2=>(Sum.elim (fun _=>some true) (fun o2=>some o2)) o2)=some b/\_
   rw[l2,List.drop_zero]
   cases ho:List.findSome? (fun x=>if(!((eY n x).getD false))=true then some false else none) t.aj with
   |some r =>
    refine⟨r,rfl,fun hr=>?_⟩
    obtain⟨x,_,h2⟩:=List.exists_of_findSome?_eq_some ho
    by_cases hb:(!((eY n x).getD false))=true
    ·rw[if_pos hb] at h2;cases h2;cases hr
    ·rw[if_neg hb] at h2;cases h2
   |none =>
    refine⟨true,rfl,fun _=>⟨by omega,fun k hk=>?_,fun x hxm=>?_⟩⟩
    ·have h5:=List.findSome?_eq_none_iff.1 ho1 k hk
     by_cases hb:decide ((k.length:Int)>200)=true
     ·rw[if_pos hb] at h5;cases h5
     ·have:¬(k.length:Int)>200:=fun h=>hb (decide_eq_true h)
      omega
    have h2:=List.findSome?_eq_none_iff.1 ho x hxm
    obtain⟨b,h1,h3⟩:=hx x hxm
    rw[h1] at h2
    cases b with
    |true=>exact h3 rfl
    |false=>cases h2
theorem Rj(n:Nat)(t:Nd)(hn:200000<=n):∃b,qR n t 300=some b/\(b=true->Fit 12 t/\sz8 12 t<=300/\Iw 12 t):=by
 obtain⟨r,h1,h2⟩:=left_eq 12 n t 1 300 rfl (by decide) (by decide) (by omega)
 have h1:dD n t 1 300=some r:=h1
 unfold qR
 rw[h1,Option.bind_some]
 rcases h2 with rfl|⟨q,rfl,hF,hq⟩
 ·exact⟨false,rfl,fun h=>by cases h⟩
 ·obtain⟨b,h3,h4⟩:=Lh 12 n t hF (by omega)
  have e:decide ((q:Int)>=0)=true:=decide_eq_true (by omega)
  rw[e,if_pos (by rfl),h3]
  exact⟨b,by cases b<;>rfl,fun hb=>⟨hF,by omega,h4 hb⟩⟩
def sm8:Nat->Nd->Nd->Bool
 |0,_,_=>true
 |d+1,a,b=>(a.av==b.av)&&(a.aC==b.aC)&&decide (a.ak=b.ak)&&decide (a.aj.length=b.aj.length)&&(a.aj.zip b.aj).all fun p=>sm8 d p.1 p.2
theorem KE{α:Type}:∀l:List α,∀p∈l.zip l,p.1=p.2
 |[],p,h=>by cases h
 |x::l,p,h=>by
  rw[List.zip_cons_cons] at h
  rcases List.mem_cons.1 h with rfl|h
  ·rfl
  ·exact KE l p h
theorem Nv:∀(d:Nat)(t:Nd),sm8 d t t=true
 |0,_=>rfl
 |d+1,t=>by
  unfold sm8
  simp only[beq_self_eq_true,decide_true,Bool.and_self,Bool.true_and]
  exact List.all_eq_true.2 fun p hp=>by
   have:=KE _ p hp
   show sm8 d p.1 p.2=true
   rw[this];exact Nv d _
theorem PN{α:Type}{L:Nat->Int->Option (Sum Unit Bool)}(l m:List α)(f:α->α->Bool)(hlm:l.length=m.length)(hl:l.length<10000)
  (hs:∀k i (h:i<l.length) (h':i<m.length),L (k+1) (i:Int)=if(!(f l[i] m[i]))=true then some (.inr false) else L k (IntKind.wrap .i64 ((i:Int)+1)))
  (he:∀k,L (k+1) (l.length:Int)=some (.inl ())):∀k i,i<=l.length->l.length-i<k->L k (i:Int)=some (if((l.drop i).zip (m.drop i)).all (fun p=>f p.1 p.2)=true then .inl () else .inr false)
 |0,i,_,h=>by omega
 |k+1,i,h1,h2=>by
  by_cases h:i<l.length
  ·have h':i<m.length:=by omega
   rw[hs k i h h',drop_at h,drop_at h',List.zip_cons_cons,List.all_cons]
   cases hf:f l[i] m[i] with
   |true =>
    simp only[Bool.not_true,Bool.false_eq_true,if_false,Bool.true_and,hf]
    rw[dO i (by omega)]
    exact PN l m f hlm hl hs he k (i+1) (by omega) (by omega)
   |false=>simp[hf]
  ·have:i=l.length:=by omega
   subst this
   rw[he,List.drop_eq_nil_of_le (Nat.le_refl _)];simp
theorem lne{α β:Type}(l:List α)(m:List β):((List.length l:Int) != (List.length m:Int))=!decide (l.length=m.length):=by
 by_cases h:l.length=m.length
 ·simp[h]
 ·rw[decide_eq_false h,Bool.not_false,bne_iff_ne];omega
theorem zg:∀(d n:Nat)(a b:Nd),Fit d a->Fit d b->100000+d<n->jJ n a b=some (sm8 d a b)
 |_,0,_,_,_,_,h=>by omega
 |0,n+1,_,_,h,_,_=>h.elim
 |d+1,n+1,a,b,hA,hB,hn=>by
  obtain⟨a1,a2,_,_,_,_,_,a8⟩:=hA
  obtain⟨b1,b2,_,_,_,_,_,b8⟩:=hB
  show oV (jJ n) n a b=_
  unfold oV sm8
  have e0:(a.av != b.av||!(a.aC==b.aC))=!(a.av==b.av&&a.aC==b.aC):=by
   rw[bne];cases a.av==b.av<;>cases a.aC==b.aC<;>rfl
  simp only[aQ,xY,Gw,e0]
  cases e1:(a.av==b.av&&a.aC==b.aC) with
  |false=>simp only[Bool.not_false,Bool.true_or,show((true:Bool)==false)=false from rfl,Bool.false_eq_true,if_false,Option.bind_some,if_true,Bool.false_and]
  |true =>
   rw[if_pos (by rfl),Js n _ _ (by omega) (by omega),Option.bind_some,lne]
   cases e2:decide (a.ak=b.ak) with
   |false=>rfl
   |true =>
    cases e3:decide (a.aj.length=b.aj.length) with
    |false=>rfl
    |true =>
     have hlm:=of_decide_eq_true e3
     have:=PN (L:=jO (jJ n) n a b) a.aj b.aj (sm8 d) hlm (by omega)
      (fun k i h h'=>by
       rw[jO,if_pos (bZ h),if_pos (aO h),if_pos (aO h'),bW h,bW h',zg d n _ _ (a8 _ (List.getElem_mem h)) (b8 _ (List.getElem_mem h')) (by omega)];rfl)
      (fun k=>by rw[jO,bV];rfl) n 0 (by omega) (by omega)
     rw[List.drop_zero,List.drop_zero] at this
     have this:jO (jJ n) n a b n 0=_:=this
     rw[this]
     cases (a.aj.zip b.aj).all (fun p=>sm8 d p.1 p.2)<;>rfl
def look(s:BS):List BS->List Nd->Option Nd
 |k::ks,x::xs=>if k=s then some x else look s ks xs
 |_,_=>none
def iZ(s:BS)(v:Nd):List BS->List Nd->List Nd
 |k::ks,x::xs=>(if k=s then v else x)::iZ s v ks xs
 |_,_=>[]
def fil(s:BS):List BS->List Nd->List Nd
 |k::ks,x::xs=>if k=s then fil s ks xs else x::fil s ks xs
 |_,_=>[]
def tY(s:BS):List BS->List BS
 |k::ks=>if k=s then tY s ks else k::tY s ks
 |[]=>[]
theorem Ky(s x:BS)(i:Nat)(l:List BS):at1 s i (x::l)=if x=s then some (i:Int) else at1 s (i+1) l:=by
 by_cases h:x=s
 ·subst h;simp[at1,vC]
 ·have:(s==x)=false:=by rw[beq_eq_false_iff_ne];exact fun e=>h e.symm
  rw[if_neg h];simp[at1,vC,this]
theorem jZ{s:BS}{v:Nd}:∀{ks:List BS}{xs:List Nd},ks.length=xs.length->s∉ks->iZ s v ks xs=xs/\fil s ks xs=xs/\tY s ks=ks/\look s ks xs=none
 |[],[],_,_=>⟨rfl,rfl,rfl,rfl⟩
 |[],_::_,h,_=>by simp at h
 |_::_,[],h,_=>by simp at h
 |k::ks,x::xs,h,hm=>by
  rw[List.mem_cons,not_or] at hm
  obtain⟨h1,h2,h3,h4⟩:=jZ (v:=v) (ks:=ks) (xs:=xs) (by simpa using h) hm.2
  have hk:¬k=s:=fun e=>hm.1 e.symm
  unfold iZ fil tY look
  rw[if_neg hk,if_neg hk,if_neg hk,if_neg hk,h1,h2,h3,h4]
  exact⟨rfl,rfl,rfl,rfl⟩
theorem BD{s:BS}:∀{ks:List BS}{i:Nat},at1 s i ks=none->s∉ks
 |[],_,_=>by simp
 |k::ks,i,h=>by
  rw[Ky] at h
  by_cases hk:k=s
  ·rw[if_pos hk] at h;cases h
  ·rw[if_neg hk] at h
   rw[List.mem_cons,not_or]
   exact⟨fun e=>hk e.symm,BD h⟩
theorem BH{s:BS}{v:Nd}:∀{ks:List BS}{xs:List Nd}{i:Nat}{r:Int},ks.Nodup->ks.length=xs.length->at1 s i ks=some r ->
  ∃(j:Nat)(h:j<xs.length),r=((i+j:Nat):Int)/\look s ks xs=some xs[j]/\iZ s v ks xs=xs.set j v/\fil s ks xs=xs.take j++xs.drop (j+1)/\tY s ks=ks.take j++ks.drop (j+1)/\s∈ks
 |[],_,_,_,_,_,h=>by cases h
 |_::_,[],_,_,_,h,_=>by simp at h
 |k::ks,x::xs,i,r,hn,hl,h=>by
  obtain⟨n1,n2⟩:=List.nodup_cons.1 hn
  have hl':ks.length=xs.length:=by simpa using hl
  rw[Ky] at h
  by_cases hk:k=s
  ·subst hk
   rw[if_pos rfl] at h
   cases h
   obtain⟨h1,h2,h3,_⟩:=jZ (v:=v) hl' n1
   refine⟨0,by simp,rfl,?_,?_,?_,?_,by simp⟩
   ·unfold look;rw[if_pos rfl];rfl
   ·unfold iZ;rw[if_pos rfl,h1];rfl
   ·unfold fil;rw[if_pos rfl,h2];rfl
   ·unfold tY;rw[if_pos rfl,h3];rfl
  ·rw[if_neg hk] at h
   obtain⟨j,hj,e,g1,g2,g3,g4,g5⟩:=BH (v:=v) n2 hl' h
   refine⟨j+1,by simp;omega,by rw[e];congr 1;omega,?_,?_,?_,?_,by simp[g5]⟩
   ·unfold look;rw[if_neg hk,g1];rfl
   ·unfold iZ;rw[if_neg hk,g2];rfl
   ·unfold fil;rw[if_neg hk,g3];rfl
   ·unfold tY;rw[if_neg hk,g4];rfl
theorem ua{s:BS}{v:Nd}:∀{ks:List BS}{xs:List Nd},ks.length=xs.length->(iZ s v ks xs).length=xs.length
 |[],[],_=>rfl
 |[],_::_,h=>by simp at h
 |_::_,[],h=>by simp at h
 |k::ks,x::xs,h=>by unfold iZ;rw[List.length_cons,ua (by simpa using h),List.length_cons]
theorem ET{s:BS}{v y:Nd}:∀{ks:List BS}{xs:List Nd},y∈iZ s v ks xs->y=v\/y∈xs
 |[],_,h=>by unfold iZ at h;cases h
 |_::_,[],h=>by unfold iZ at h;cases h
 |k::ks,x::xs,h=>by
  unfold iZ at h
  rcases List.mem_cons.1 h with h|h
  ·split at h
   ·exact .inl h
   ·exact .inr (by simp[h])
  ·rcases ET h with h|h
   ·exact .inl h
   ·exact .inr (by simp[h])
theorem Ni{s:BS}:∀{ks:List BS}{xs:List Nd},ks.length=xs.length->(tY s ks).length=(fil s ks xs).length
 |[],[],_=>rfl
 |[],_::_,h=>by simp at h
 |_::_,[],h=>by simp at h
 |k::ks,x::xs,h=>by
  have:=Ni (s:=s) (ks:=ks) (xs:=xs) (by simpa using h)
  unfold fil tY
  split
  ·exact this
  ·rw[List.length_cons,List.length_cons,this]
theorem Ib{s:BS}{y:Nd}:∀{ks:List BS}{xs:List Nd},y∈fil s ks xs->y∈xs
 |[],_,h=>by unfold fil at h;cases h
 |_::_,[],h=>by unfold fil at h;cases h
 |k::ks,x::xs,h=>by
  unfold fil at h
  split at h
  ·exact List.mem_cons_of_mem _ (Ib h)
  ·rcases List.mem_cons.1 h with h|h
   ·simp[h]
   ·exact List.mem_cons_of_mem _ (Ib h)
theorem yA(s:BS):∀ks:List BS,(tY s ks).Sublist ks
 |[]=>.slnil
 |k::ks=>by
  unfold tY
  split
  ·exact .cons _ (yA s ks)
  ·exact .cons_cons _ (yA s ks)
theorem Ji{s:BS}{v:Nd}:∀{ks:List BS}{xs:List Nd},ks.length=xs.length->s∈ks->look s ks (iZ s v ks xs)=some v
 |[],_,_,h=>by cases h
 |_::_,[],h,_=>by simp at h
 |k::ks,x::xs,h,hm=>by
  unfold iZ look
  by_cases hk:k=s
  ·rw[if_pos hk,if_pos hk]
  ·rw[if_neg hk,Ji (by simpa using h)]
   rcases List.mem_cons.1 hm with e|e
   ·exact(hk e.symm).elim
   ·exact e
theorem wI{s s':BS}{v:Nd}(hs:s'≠s):∀{ks:List BS}{xs:List Nd},look s' ks (iZ s v ks xs)=look s' ks xs
 |[],_=>rfl
 |_::_,[]=>rfl
 |k::ks,x::xs=>by
  unfold iZ look
  by_cases hk:k=s'
  ·rw[if_pos hk,if_pos hk,if_neg (fun e=>hs (hk.symm.trans e))]
  ·rw[if_neg hk,if_neg hk,wI hs]
theorem DL{s:BS}(s':BS)(v:Nd):∀{ks:List BS}{xs:List Nd},ks.length=xs.length->look s (ks++[s']) (xs++[v])=(look s ks xs).or (if s'=s then some v else none)
 |[],[],_=>by
  show look s [s'] [v]=_
  unfold look look
  simp[look]
 |[],_::_,h=>by simp at h
 |_::_,[],h=>by simp at h
 |k::ks,x::xs,h=>by
  have ih:=DL (s:=s) s' v (ks:=ks) (xs:=xs) (by simpa using h)
  show look s (k::(ks++[s'])) (x::(xs++[v]))=_
  unfold look
  rw[ih]
  by_cases hk:k=s
  ·rw[if_pos hk,if_pos hk];rfl
  ·rw[if_neg hk,if_neg hk]
theorem wj{s:BS}{x:Nd}:∀{ks:List BS}{xs:List Nd},look s ks xs=some x->x∈xs
 |[],_,h=>by cases h
 |_::_,[],h=>by cases h
 |k::ks,y::xs,h=>by
  unfold look at h
  split at h
  ·cases h;simp
  ·exact List.mem_cons_of_mem _ (wj h)
theorem lZ:∀{d:Nat}{t:Nd},Fit d t->Fit (d+1) t
 |0,_,h=>h.elim
 |d+1,t,⟨a1,a2,a3,a4,a5,a6,a7,a8⟩=>⟨a1,a2,a3,a4,a5,a6,a7,fun x hx=>lZ (a8 x hx)⟩
theorem jv{t:Nd}{d:Nat}(h:Fit d t):∀e,d<=e->Fit e t
 |0,he=>by
  have:d=0:=by omega
  subst this;exact h
 |e+1,he=>by
  by_cases hd:d=e+1
  ·subst hd;exact h
  ·exact lZ (jv h e (by omega))
theorem ju:Fit 1 Z8:=⟨by decide,by decide,fun _=>rfl,fun _=>rfl,fun h=>absurd h (by decide),fun _=>rfl,⟨by decide,by decide⟩,fun x h=>absurd h (by simp)⟩
theorem fe{d:Nat}{t:Nd}(h:Fit d t)(hk:t.av=3\/t.av=0):t.ak.length=t.aj.length/\t.ak.Nodup/\t.aC=[]:=by
 cases d with
 |zero=>exact h.elim
 |succ d =>
  obtain⟨a1,a2,a3,a4,a5,a6,a7,a8⟩:=h
  rcases hk with hk|hk
  ·exact⟨(a5 hk).1,(a5 hk).2,a3 (by omega)⟩
  ·rw[a4 (by omega),a6 (by omega)]
   exact⟨rfl,.nil,a3 (by omega)⟩
theorem gi{d:Nat}{t:Nd}(h:Fit d t):t.ak.length<=2000/\t.aj.length<=2000:=by
 cases d with
 |zero=>exact h.elim
 |succ d=>exact⟨h.2.1,h.1⟩
theorem jS{d:Nat}{t x:Nd}(h:Fit (d+1) t)(hx:x∈t.aj):Fit d x:=h.2.2.2.2.2.2.2 x hx
theorem xT{d:Nat}{t:Nd}(h:Fit d t):∃e,d=e+1:=by cases d with|zero=>exact h.elim|succ d=>exact⟨d,rfl⟩
theorem Ta:∀{d:Nat}{t:Nd}{m:Nat},Fit d t->sz8 d t<=m->t.aj.length<m
 |0,_,_,h,_=>h.elim
 |d+1,t,m,_,h=>by
  have hs:∀l:List Nd,l.length<=(l.map (sz8 d)).sum:=by
   intro l
   induction l with
   |nil=>exact Nat.le_refl 0
   |cons x l ih=>rw[List.map_cons,List.sum_cons,List.length_cons];have:=yh d x;omega
  have:=hs t.aj
  unfold sz8 at h;omega
def fE(t:Nd)(s:BS):Option Nd:=if t.av=3 then look s t.ak t.aj else none
def xG:Option Nd->Nd×Bool|some x=>(x,true)|none=>(Z8,false)
theorem D5(n:Nat)(tx:BS)(ks:List BS)(xs:List Nd)(s:BS)(hl:ks.length=xs.length)(h:ks.length<10000)(hn:100000<=n):jE n (af.mk 3 tx ks xs) s=some ((at1 s 0 ks).getD (-1)):=by
 unfold jE
 have e:(bif ((3:Int) != 3) then true else((List.length ks:Int) != (List.length xs:Int)))=false:=by rw[lne,decide_eq_true hl];rfl
 show(if(bif ((3:Int) != 3) then true else((List.length ks:Int) != (List.length xs:Int)))=true then some (-1) else(vR n ks s).bind fun r1=>some r1)=_
 rw[e,if_neg Bool.false_ne_true,OC n ks s h hn];rfl
theorem Kw{t:Nd}(h:t.av=3):t=af.mk 3 t.aC t.ak t.aj:=by cases t;simp_all
theorem Kt(n:Nat)(t:Nd)(s:BS)(h:¬t.av=3):jE n t s=some (-1):=by
 unfold jE
 have e:(t.av != 3)=true:=by rw[bne_iff_ne];exact h
 rw[e];rfl
theorem Du{d n:Nat}{t:Nd}(s:BS)(hF:Fit d t)(hn:100000<=n):uv n t s=some (xG (fE t s)):=by
 unfold uv fE
 by_cases h3:t.av=3
 ·obtain⟨l1,l2,_⟩:=fe hF (.inl h3)
  have l3:=gi hF
  have hp:jE n t s=some ((at1 s 0 t.ak).getD (-1)):=by rw[Kw h3];exact D5 n _ _ _ s l1 (by show t.ak.length<_;omega) hn
  rw[hp,if_pos h3,Option.bind_some]
  cases ha:at1 s 0 t.ak with
  |none=>rw[(jZ (v:=Z8) l1 (BD ha)).2.2.2];rfl
  |some r =>
   obtain⟨j,hj,e,g1,_⟩:=BH (v:=Z8) l2 l1 ha
   rw[Nat.zero_add] at e
   subst e
   rw[g1,Option.getD_some,if_neg (by rw[decide_eq_true_eq];omega),if_pos (aO hj),bW hj];rfl
 ·rw[Kt n t s h3,if_neg h3];rfl
theorem GK(n:Nat)(s:BS)(t:Nd)(hl:t.ak.length=t.aj.length)(hs:t.ak.length<=2000):∀(k i:Nat),i<=t.ak.length->t.ak.length-i<k ->
  j5 n s t k (i:Int) Z8=some (match look s (t.ak.drop i) (t.aj.drop i) with|some x=>.inr (true,x)|none=>.inl Z8)
 |0,i,_,h=>by omega
 |k+1,i,hi,hk=>by
  by_cases h:i<t.ak.length
  ·have h':i<t.aj.length:=by omega
   rw[j5,if_pos (bZ h),if_pos (aO h),bW h,drop_at h,drop_at h',if_pos (aO h'),bW h',dO i (by omega)]
   unfold look
   by_cases hk:t.ak[i]=s
   ·rw[if_pos hk,if_pos (by rw[hk];exact beq_self_eq_true s)]
   ·rw[if_neg hk,if_neg (by rw[beq_iff_eq];exact hk)]
    exact GK n s t hl hs k (i+1) (by omega) (by omega)
  ·have:i=t.ak.length:=by omega
   subst this
   rw[j5,bV,List.drop_eq_nil_of_le (Nat.le_refl _)];rfl
theorem iP{d n:Nat}{t:Nd}(s:BS)(hF:Fit d t)(hn:100000<=n):gZ n t s=some (xG (fE t s)):=by
 unfold gZ ta fE
 by_cases h3:t.av=3
 ·obtain⟨l1,l2,_⟩:=fe hF (.inl h3)
  have l3:=gi hF
  have h:=GK n s t l1 l3.1 n 0 (by omega) (by omega)
  have h:j5 n s t n 0 Z8=_:=h
  rw[if_pos (by rw[h3];rfl),if_pos h3,h,List.drop_zero,List.drop_zero]
  cases look s t.ak t.aj<;>rfl
 ·rw[if_neg (by rw[beq_iff_eq];exact h3),if_neg h3];rfl
def OJ(t:Nd)(p:BS):Option Nd:=if t.av=2 then(if isNum p=true/\vl 0 p<t.aj.length then t.aj[vl 0 p]? else none) else fE t p
theorem uM{a b:Nat}(h:a+b<=1000000000):decide ((a+b)*(72+1)<=limit)=true:=decide_eq_true (by show(a+b)*(72+1)<=140737488355328;omega)
theorem P8(n:Nat)(a b:List BS)(h:a.length+b.length<=10000)(hn:100<=n):fY n [a,b]=some (a++b):=by
 obtain⟨m,rfl⟩:∃m,n=m+3:=⟨n-3,by omega⟩
 have l1:bf (m+3) [a,b] [a,b] (List.length [a,b]:Int) (m+3) 0 0=some ((a.length+b.length:Nat):Int):=by
  have s0:bf (m+3) [a,b] [a,b] 2 (m+3) 0 0=bf (m+3) [a,b] [a,b] 2 (m+2) (a.length:Int) 1:=by
   rw[bf,if_pos (by rfl),eH,if_pos (by rfl)]
   show Option.bind (if decide (IntKind.wrap .i64 (0+(a.length:Int))<0)=true then none else some (IntKind.wrap .i64 (0+(a.length:Int)))) _=_
   rw[fC _ (by omega) (by omega),if_neg (by rw[decide_eq_true_eq];omega),Int.zero_add];rfl
  have s1:bf (m+3) [a,b] [a,b] 2 (m+2) (a.length:Int) 1=bf (m+3) [a,b] [a,b] 2 (m+1) ((a.length+b.length:Nat):Int) 2:=by
   rw[bf,if_pos (by rfl),eH,if_pos (by rfl)]
   show Option.bind (if decide (IntKind.wrap .i64 ((a.length:Int)+(b.length:Int))<0)=true then none else some (IntKind.wrap .i64 ((a.length:Int)+(b.length:Int)))) _=_
   rw[fC _ (by omega) (by omega),if_neg (by rw[decide_eq_true_eq];omega),show(a.length:Int)+(b.length:Int)=((a.length+b.length:Nat):Int) from by omega];rfl
  show bf (m+3) [a,b] [a,b] 2 (m+3) 0 0=_
  rw[s0,s1,bf,if_neg (by decide)]
 have l3:aT (m+3) [a,b] (List.length [a,b]:Int) (m+3) ([]:List BS) 0=some (a++b):=by
  have s0:aT (m+3) [a,b] 2 (m+3) ([]:List BS) 0=aT (m+3) [a,b] 2 (m+2) a 1:=by
   rw[aT,if_pos (by rfl),if_pos (by rfl)]
   show(if decide ((([]:List BS).length+a.length)*(16+1)<=limit)=true then aT (m+3) [a,b] 2 (m+2) ([]++a) (IntKind.wrap .i64 (0+1)) else none)=_
   rw[if_pos (gX (by simp;omega))];rfl
  have s1:aT (m+3) [a,b] 2 (m+2) a 1=aT (m+3) [a,b] 2 (m+1) (a++b) 2:=by
   rw[aT,if_pos (by rfl),if_pos (by rfl)]
   show(if decide ((a.length+b.length)*(16+1)<=limit)=true then aT (m+3) [a,b] 2 (m+1) (a++b) (IntKind.wrap .i64 (1+1)) else none)=_
   rw[if_pos (gX (by omega))];rfl
  show aT (m+3) [a,b] 2 (m+3) ([]:List BS) 0=_
  rw[s0,s1,aT,if_neg (by decide)]
 unfold fY
 rw[l1,Option.bind_some,if_pos (show decide (0<=((a.length+b.length:Nat):Int)/\((a.length+b.length:Nat):Int)*17<=(limit:Int))=true from decide_eq_true ⟨by omega,by show _<=((140737488355328:Nat):Int);omega⟩),l3];rfl
theorem MP(n:Nat)(a b:List Nd)(h:a.length+b.length<=10000)(hn:100<=n):dU n [a,b]=some (a++b):=by
 obtain⟨m,rfl⟩:∃m,n=m+3:=⟨n-3,by omega⟩
 have l1:aV (m+3) [a,b] [a,b] (List.length [a,b]:Int) (m+3) 0 0=some ((a.length+b.length:Nat):Int):=by
  have s0:aV (m+3) [a,b] [a,b] 2 (m+3) 0 0=aV (m+3) [a,b] [a,b] 2 (m+2) (a.length:Int) 1:=by
   rw[aV,if_pos (by rfl),dI,if_pos (by rfl)]
   show Option.bind (if decide (IntKind.wrap .i64 (0+(a.length:Int))<0)=true then none else some (IntKind.wrap .i64 (0+(a.length:Int)))) _=_
   rw[fC _ (by omega) (by omega),if_neg (by rw[decide_eq_true_eq];omega),Int.zero_add];rfl
  have s1:aV (m+3) [a,b] [a,b] 2 (m+2) (a.length:Int) 1=aV (m+3) [a,b] [a,b] 2 (m+1) ((a.length+b.length:Nat):Int) 2:=by
   rw[aV,if_pos (by rfl),dI,if_pos (by rfl)]
   show Option.bind (if decide (IntKind.wrap .i64 ((a.length:Int)+(b.length:Int))<0)=true then none else some (IntKind.wrap .i64 ((a.length:Int)+(b.length:Int)))) _=_
   rw[fC _ (by omega) (by omega),if_neg (by rw[decide_eq_true_eq];omega),show(a.length:Int)+(b.length:Int)=((a.length+b.length:Nat):Int) from by omega];rfl
  show aV (m+3) [a,b] [a,b] 2 (m+3) 0 0=_
  rw[s0,s1,aV,if_neg (by decide)]
 have l3:aN (m+3) [a,b] (List.length [a,b]:Int) (m+3) ([]:List Nd) 0=some (a++b):=by
  have s0:aN (m+3) [a,b] 2 (m+3) ([]:List Nd) 0=aN (m+3) [a,b] 2 (m+2) a 1:=by
   rw[aN,if_pos (by rfl),if_pos (by rfl)]
   show(if decide ((([]:List Nd).length+a.length)*(72+1)<=limit)=true then aN (m+3) [a,b] 2 (m+2) ([]++a) (IntKind.wrap .i64 (0+1)) else none)=_
   rw[if_pos (uM (by simp;omega))];rfl
  have s1:aN (m+3) [a,b] 2 (m+2) a 1=aN (m+3) [a,b] 2 (m+1) (a++b) 2:=by
   rw[aN,if_pos (by rfl),if_pos (by rfl)]
   show(if decide ((a.length+b.length)*(72+1)<=limit)=true then aN (m+3) [a,b] 2 (m+1) (a++b) (IntKind.wrap .i64 (1+1)) else none)=_
   rw[if_pos (uM (by omega))];rfl
  show aN (m+3) [a,b] 2 (m+3) ([]:List Nd) 0=_
  rw[s0,s1,aN,if_neg (by decide)]
 unfold dU
 rw[l1,Option.bind_some,if_pos (show decide (0<=((a.length+b.length:Nat):Int)/\((a.length+b.length:Nat):Int)*73<=(limit:Int))=true from decide_eq_true ⟨by omega,by show _<=((140737488355328:Nat):Int);omega⟩),l3];rfl
theorem Ur{s a:BS}(l:List BS)(h:¬s=a):decide (s∈a::l)=decide (s∈l):=by simp[h]
def gp(t:Nd)(s:BS)(v:Nd):Nd:=if t.av=3\/t.av=0 then af.mk 3 [] (t.ak++if s∈t.ak then [] else [s]) (iZ s v t.ak t.aj++if s∈t.ak then [] else [v]) else t
theorem zB{d n:Nat}{t:Nd}(s:BS)(v:Nd)(hF:Fit d t)(hn:100000<=n):rJ n t s v=some (gp t s v):=by
 unfold rJ gp
 have l3:=gi hF
 by_cases hk:t.av=3\/t.av=0
 ·obtain⟨l1,l2,_⟩:=fe hF hk
  have e:(bif (t.av != 3) then(t.av != 0) else false)=false:=by rcases hk with h|h<;>rw[h]<;>rfl
  have c1:dn n t.ak=some t.ak:=by
   unfold dn;rw[if_pos (gX (by simp;omega))];rfl
  have c2:dN n t.aj=some t.aj:=by
   unfold dN;rw[if_pos (uM (by simp;omega))];rfl
  rw[e,if_neg Bool.false_ne_true,if_pos hk,c1,Option.bind_some,c2,Option.bind_some,D5 n [] t.ak t.aj s l1 (by omega) hn,Option.bind_some]
  cases ha:at1 s 0 t.ak with
  |none =>
   have hs:=BD ha
   obtain⟨g1,_⟩:=jZ (v:=v) l1 hs
   rw[if_neg hs,if_neg hs,g1,Option.getD_none,if_neg (by decide),if_pos (gX (by simp;omega)),if_pos (uM (by simp;omega))]
  |some r =>
   obtain⟨j,hj,e,_,g2,_,_,g5⟩:=BH (v:=v) l2 l1 ha
   rw[Nat.zero_add] at e
   subst e
   rw[if_pos g5,if_pos g5,g2,Option.getD_some,if_pos (show decide ((j:Int)>=0)=true from decide_eq_true (by omega)),if_pos (aO hj),List.append_nil,List.append_nil,Int.toNat_natCast]
 ·have e:(bif (t.av != 3) then(t.av != 0) else false)=true:=by
   rw[not_or] at hk
   rw[xY,Bool.and_eq_true,bne_iff_ne,bne_iff_ne];exact hk
  rw[e,if_pos rfl,if_neg hk]
theorem LH(n:Nat)(s:BS)(t v z:Nd)(hl:t.ak.length=t.aj.length)(hs:t.ak.length<=2000):∀(k i:Nat)(fnd:Bool)(ks:List BS)(xs:List Nd),ks.length=i->xs.length=i->i<=t.ak.length->t.ak.length-i<k ->
  iU n s t v z k fnd (i:Int) (af.mk 3 [] ks xs)=some (fnd||decide (s∈t.ak.drop i),af.mk 3 [] (ks++t.ak.drop i) (xs++iZ s v (t.ak.drop i) (t.aj.drop i)))
 |0,i,_,_,_,_,_,_,h=>by omega
 |k+1,i,fnd,ks,xs,hks,hxs,hi,hk=>by
  by_cases h:i<t.ak.length
  ·have h':i<t.aj.length:=by omega
   rw[iU,if_pos (bZ h),rm,if_pos (aO h),bW h,if_pos (gX (by show ks.length+1<=_;omega)),if_pos (aO h),if_pos (aO h'),bW h',
    if_pos (show decide ((List.length (af.mk 3 [] ks xs).aj+List.length [v])*(72+1)<=limit)=true from uM (by show xs.length+1<=_;omega)),
    if_pos (show decide ((List.length (af.mk 3 [] ks xs).aj+List.length [t.aj[i]])*(72+1)<=limit)=true from uM (by show xs.length+1<=_;omega)),dO i (by omega),drop_at h,drop_at h']
   conv=>rhs;unfold iZ
   by_cases hk:t.ak[i]=s
   ·rw[if_pos (by rw[hk];exact beq_self_eq_true s),if_pos hk,Option.bind_some]
    show iU n s t v z k true ((i+1:Nat):Int) (af.mk 3 [] (ks++[t.ak[i]]) (xs++[v]))=_
    rw[LH n s t v z hl hs k (i+1) true _ _ (by simp[hks]) (by simp[hxs]) (by omega) (by omega)]
    simp[hk]
   ·rw[if_neg (by rw[beq_iff_eq];exact hk),if_neg hk]
    simp only[aQ,Option.bind_some]
    rw[LH n s t v z hl hs k (i+1) fnd _ _ (by simp[hks]) (by simp[hxs]) (by omega) (by omega)]
    have hk':¬s=t.ak[i]:=fun e=>hk e.symm
    rw[Ur _ hk',List.append_assoc,List.append_assoc];rfl
  ·have:i=t.ak.length:=by omega
   subst this
   rw[iU,bV,List.drop_eq_nil_of_le (Nat.le_refl _)]
   simp[iZ]
theorem dV{d n:Nat}{t:Nd}(s:BS)(v:Nd)(hF:Fit d t)(hn:100000<=n):dK n t s v=some (gp t s v):=by
 unfold dK gp
 have l3:=gi hF
 by_cases hk:t.av=3\/t.av=0
 ·obtain⟨l1,l2,_⟩:=fe hF hk
  have e:(bif (t.av != 0) then(t.av != 3) else false)=false:=by rcases hk with h|h<;>rw[h]<;>rfl
  have hr:=ua (s:=s) (v:=v) l1
  have h:=LH n s t v (af.mk 0 [] [] []) l1 l3.1 n 0 false [] [] rfl rfl (by omega) (by omega)
  rw[List.drop_zero,List.drop_zero] at h
  have h:iU n s t v (af.mk 0 [] [] []) n false 0 (af.mk 3 [] [] [])=_:=h
  rw[e,if_neg Bool.false_ne_true,if_pos hk,h,Option.bind_some]
  unfold qZ
  by_cases hs:s∈t.ak
  ·rw[if_pos hs,if_pos hs,decide_eq_true hs]
   simp
  ·rw[if_neg hs,if_neg hs,decide_eq_false hs]
   simp only[Bool.false_or,Bool.not_false,if_true,List.nil_append]
   rw[if_pos (gX (by simp;omega)),if_pos (uM (by simp;omega))]
   rfl
 ·have e:(bif (t.av != 0) then(t.av != 3) else false)=true:=by
   rw[not_or] at hk
   rw[xY,Bool.and_eq_true,bne_iff_ne,bne_iff_ne];exact⟨hk.2,hk.1⟩
  rw[e,if_pos rfl,if_neg hk]
def jj(t:Nd)(s:BS):Nd:=if t.av=3 then af.mk 3 [] (tY s t.ak) (fil s t.ak t.aj) else t
theorem K5{d n:Nat}{t:Nd}(s:BS)(hF:Fit d t)(hn:100000<=n):uZ n t s=some (jj t s):=by
 unfold uZ jj
 have l3:=gi hF
 by_cases h3:t.av=3
 ·obtain⟨l1,l2,l4⟩:=fe hF (.inl h3)
  have hp:jE n t s=some ((at1 s 0 t.ak).getD (-1)):=by
   have:=D5 n t.aC t.ak t.aj s l1 (by omega) hn
   rwa[<-Kw h3] at this
  rw[hp,if_pos h3,Option.bind_some]
  cases ha:at1 s 0 t.ak with
  |none =>
   obtain⟨_,g2,g3,_⟩:=jZ (v:=Z8) l1 (BD ha)
   rw[Option.getD_none,if_pos (by decide),g2,g3]
   have:=Kw h3
   rw[l4] at this
   exact congrArg some this
  |some r =>
   obtain⟨j,hj,e,_,_,g3,g4,_⟩:=BH (v:=Z8) l2 l1 ha
   rw[Nat.zero_add] at e
   subst e
   rw[Option.getD_some,if_neg (by rw[decide_eq_true_eq];omega),dO j (by omega),Int.toNat_natCast,Int.toNat_natCast,
    if_pos (show decide (0<=(j:Int)/\(j:Int)<=(List.length t.ak:Int))=true from decide_eq_true (by omega)),
    if_pos (show decide (0<=((j+1:Nat):Int)/\((j+1:Nat):Int)<=(List.length t.ak:Int))=true from decide_eq_true (by omega)),
    P8 n _ _ (by simp;omega) (by omega),Option.bind_some,
    if_pos (show decide (0<=(j:Int)/\(j:Int)<=(List.length t.aj:Int))=true from decide_eq_true (by omega)),
    if_pos (show decide (0<=((j+1:Nat):Int)/\((j+1:Nat):Int)<=(List.length t.aj:Int))=true from decide_eq_true (by omega)),
    MP n _ _ (by simp;omega) (by omega),Option.bind_some,g3,g4]
 ·rw[Kt n t s h3,if_neg h3];rfl
theorem D1{d:Nat}{t:Nd}(s:BS)(hF:Fit d t):Fit d (jj t s):=by
 unfold jj
 split
 ·rename_i h3
  obtain⟨l1,l2,_⟩:=fe hF (.inl h3)
  have l3:=gi hF
  have f1:=Ni (s:=s) l1
  have f2:=(yA s t.ak).length_le
  obtain⟨e,rfl⟩:=xT hF
  refine⟨?_,?_,fun _=>rfl,fun h=>(h rfl).elim,fun _=>⟨f1,(yA s t.ak).nodup l2⟩,fun h=>absurd (show(3:Int)<2 from h) (by decide),⟨show(0:Int)<=3 by decide,show(3:Int)<=3 by decide⟩,fun x hx=>jS hF (Ib hx)⟩
  ·show(fil s t.ak t.aj).length<=2000;omega
  ·show(tY s t.ak).length<=2000;omega
 ·exact hF
theorem TJ{d:Nat}{t x:Nd}{s:BS}(hF:Fit d t)(h:fE t s=some x):∃e,e<=d/\Fit e x:=by
 obtain⟨e,rfl⟩:=xT hF
 unfold fE at h
 split at h
 ·exact⟨e,by omega,jS hF (wj h)⟩
 ·cases h
theorem Ql{d n:Nat}{x:Nd}(hF:Fit d x)(hd:d<=20)(hn:200000<=n):jJ n x x=some true:=by rw[zg d n x x hF hF (by omega),Nv]
theorem Le{t v:Nd}{s:BS}{d:Nat}(hF:Fit d t)(hk:t.av=3\/t.av=0):fE (gp t s v) s=some v:=by
 obtain⟨l1,l2,_⟩:=fe hF hk
 unfold fE gp
 rw[if_pos hk]
 show(if(3:Int)=3 then look s (t.ak++_) (iZ s v t.ak t.aj++_) else none)=_
 rw[if_pos rfl]
 by_cases hs:s∈t.ak
 ·rw[if_pos hs,if_pos hs,List.append_nil,List.append_nil];exact Ji l1 hs
 ·rw[if_neg hs,if_neg hs,DL s v (by rw[ua l1,l1]),if_pos rfl,(jZ (v:=v) l1 hs).1,(jZ (v:=v) l1 hs).2.2.2];rfl
theorem L8{t v:Nd}{s s':BS}{d:Nat}(hs':s'≠s)(hF:Fit d t)(hk:t.av=3\/t.av=0):fE (gp t s v) s'=fE t s':=by
 obtain⟨l1,l2,_⟩:=fe hF hk
 have e1:fE (gp t s v) s'=look s' t.ak t.aj:=by
  unfold fE gp
  rw[if_pos hk]
  show(if(3:Int)=3 then look s' (t.ak++_) (iZ s v t.ak t.aj++_) else none)=_
  rw[if_pos rfl]
  by_cases hs:s∈t.ak
  ·rw[if_pos hs,if_pos hs,List.append_nil,List.append_nil];exact wI hs'
  ·rw[if_neg hs,if_neg hs,DL s v (by rw[ua l1,l1]),if_neg (fun e=>hs' e.symm),wI hs',Option.or_none]
 rw[e1]
 unfold fE
 rcases hk with h|h
 ·rw[if_pos h]
 ·rw[if_neg (by omega)]
  obtain⟨e,rfl⟩:=xT hF
  rw[hF.2.2.2.1 (by omega)];rfl
theorem zZ{t v:Nd}{s:BS}(hk:t.av=3\/t.av=0):(gp t s v).av=3:=by unfold gp;rw[if_pos hk]
theorem PZ:∀{l:List Nd}{d:Nat}{x:Nd},x∈l->sz8 d x<=(l.map (sz8 d)).sum
 |[],_,_,h=>by cases h
 |y::l,d,x,h=>by
  rw[List.map_cons,List.sum_cons]
  rcases List.mem_cons.1 h with rfl|h
  ·omega
  ·have:=PZ (d:=d) h;omega
def so8:Nat->Nd->Nd
 |0,t=>t
 |d+1,t=>if t.av=3 then af.mk 3 t.aC (srt t.ak) ((srt t.ak).map fun k=>so8 d ((look k t.ak t.aj).getD Z8)) else af.mk t.av t.aC t.ak (t.aj.map (so8 d))
theorem yV{s:BS}:∀{ks:List BS}{xs:List Nd},ks.length=xs.length->s∈ks->∃x,look s ks xs=some x/\x∈xs
 |[],_,_,h=>by cases h
 |_::_,[],h,_=>by simp at h
 |k::ks,x::xs,h,hm=>by
  unfold look
  by_cases hk:k=s
  ·rw[if_pos hk];exact⟨x,rfl,by simp⟩
  ·rw[if_neg hk]
   rcases List.mem_cons.1 hm with e|e
   ·exact(hk e.symm).elim
   ·obtain⟨y,h1,h2⟩:=yV (xs:=xs) (by simpa using h) e
    exact⟨y,h1,List.mem_cons_of_mem _ h2⟩
theorem kx:∀(d n:Nat)(t:Nd),Fit d t->100000+d<n->dH n t=some (so8 d t)
 |_,0,_,_,h=>by omega
 |0,n+1,_,h,_=>h.elim
 |d+1,n+1,t,hF,hn=>by
  have a8:=fun x hx=>jS hF (x:=x) hx
  have l3:=gi hF
  have hF':=hF
  obtain⟨a1,a2,a3,a4,a5,a6,a7,_⟩:=hF'
  show ng (dH n) n t=_
  unfold ng so8
  by_cases h3:t.av=3
  ·rw[if_pos (show(t.av==3)=true by rw[h3];rfl),if_pos h3,sS n _ (by omega) (by omega),Option.bind_some]
   obtain⟨l1,l2⟩:=a5 h3
   have hsl:=fB t.ak
   have:=gather (L:=fun k (s:List BS×List Nd) i=>fN (dH n) n (srt t.ak) t Z8 k i (af.mk t.av t.aC s.1 s.2)) (srt t.ak) (fun acc k=>(acc.1++[k],acc.2++[so8 d ((look k t.ak t.aj).getD Z8)])) (fun s=>af.mk t.av t.aC s.1 s.2) (fun i s=>s.1.length=i/\s.2.length=i) (by omega)
    (fun k s i h hi=>by
     show fN _ _ _ _ _ _ _ _=_
     obtain⟨i1,i2⟩:=hi
     have hm:(srt t.ak)[i]∈t.ak:=iz.1 (List.getElem_mem h)
     obtain⟨x,x1,x2⟩:=yV l1 hm
     have hg:fE t (srt t.ak)[i]=some x:=by unfold fE;rw[if_pos h3,x1]
     rw[fN,if_pos (bZ h),if_pos (aO h),bW h,iP _ hF (by omega),Option.bind_some,hg,x1,if_pos (aO h),if_pos (show decide ((List.length (af.mk t.av t.aC s.1 s.2).ak+List.length [(srt t.ak)[i]])*(16+1)<=limit)=true from gX (by show s.1.length+1<=_;omega))]
     show((dH n x).bind fun r4=>_)=_
     rw[kx d n x (a8 x x2) (by omega),Option.bind_some,if_pos (show decide ((List.length (af.mk t.av t.aC s.1 s.2).aj+List.length [so8 d x])*(72+1)<=limit)=true from uM (by show s.2.length+1<=_;omega))];rfl)
    (fun s i h hi=>by simp[hi.1,hi.2]) (fun k s _=>by show fN _ _ _ _ _ _ _ _=_;rw[fN,bV];rfl) n 0 ([],[]) (by omega) (by omega) ⟨rfl,rfl⟩
   have hz:fN (dH n) n (srt t.ak) t (af.mk 0 [] [] []) n 0 (af.mk t.av t.aC [] [])=_:=this.1
   have fa:∀(l:List BS)(p:List BS×List Nd),l.foldl (fun acc k=>(acc.1++[k],acc.2++[so8 d ((look k t.ak t.aj).getD Z8)])) p=(p.1++l,p.2++l.map fun k=>so8 d ((look k t.ak t.aj).getD Z8)):=by
    intro l
    induction l with
    |nil=>intro p;simp
    |cons x l ih=>intro p;rw[List.foldl_cons,ih];simp
   rw[List.drop_zero,fa,List.nil_append,List.nil_append] at hz
   rw[hz,h3,Option.bind_some]
  ·rw[if_neg (show ¬(t.av==3)=true by rw[beq_iff_eq];exact h3),if_neg h3]
   have:=gather (L:=fun k s i=>fP (dH n) n t Z8 k i (af.mk t.av t.aC [] s)) t.aj (fun acc x=>acc++[so8 d x]) (fun s=>af.mk t.av t.aC [] s) (fun i s=>s.length=i) (by omega)
    (fun k s i h hi=>by
     show fP _ _ _ _ _ _ _=_
     rw[fP,if_pos (bZ h),if_pos (aO h),bW h,kx d n _ (a8 _ (List.getElem_mem h)) (by omega),Option.bind_some,if_pos (show decide ((List.length (af.mk t.av t.aC [] s).aj+List.length [so8 d t.aj[i]])*(72+1)<=limit)=true from uM (by show s.length+1<=_;omega))])
    (fun s i h hi=>by simp[hi]) (fun k s _=>by show fP _ _ _ _ _ _ _=_;rw[fP,bV];rfl) n 0 [] (by omega) (by omega) rfl
   have hz:fP (dH n) n t (af.mk 0 [] [] []) n 0 (af.mk t.av t.aC [] [])=_:=this.1
   have fa:=AP (fun x:Nd=>[so8 d x]) t.aj []
   rw[List.drop_zero,fa,List.nil_append] at hz
   rw[hz,Option.bind_some,a4 h3,List.map_eq_flatMap]
theorem JU{s:BS}(f:BS->Nd):∀{ks:List BS},look s ks (ks.map f)=if s∈ks then some (f s) else none
 |[]=>rfl
 |k::ks=>by
  rw[List.map_cons]
  unfold look
  rw[JU f]
  by_cases hk:k=s
  ·subst hk;simp
  ·have hk':¬s=k:=fun e=>hk e.symm
   rw[if_neg hk];simp[hk']
theorem Rh{s:BS}{ks:List BS}{xs:List Nd}(hl:ks.length=xs.length)(h:s∉ks):look s ks xs=none:=(jZ (v:=Z8) hl h).2.2.2
theorem Ua{d:Nat}{t:Nd}(p:BS)(hF:Fit (d+1) t):OJ (so8 (d+1) t) p=(OJ t p).map (so8 d):=by
 have a8:=fun x hx=>jS hF (x:=x) hx
 obtain⟨a1,a2,a3,a4,a5,a6,a7,_⟩:=hF
 unfold OJ fE
 conv=>lhs;unfold so8
 by_cases h3:t.av=3
 ·rw[if_pos h3,if_neg (show ¬t.av=2 by omega),if_pos h3]
  show(if(3:Int)=2 then _ else if(3:Int)=3 then look p (srt t.ak) _ else none)=_
  rw[if_neg (by decide),if_pos rfl]
  show look p (srt t.ak) ((srt t.ak).map fun k=>so8 d ((look k t.ak t.aj).getD Z8))=_
  rw[JU]
  by_cases hp:p∈t.ak
  ·obtain⟨y,y1,y2⟩:=yV (a5 h3).1 hp
   rw[if_pos (iz.2 hp),y1];rfl
  ·rw[if_neg (fun e=>hp (iz.1 e)),Rh (a5 h3).1 hp];rfl
 ·rw[if_neg h3]
  show(if t.av=2 then(if isNum p=true/\vl 0 p<(t.aj.map (so8 d)).length then(t.aj.map (so8 d))[vl 0 p]? else none) else if t.av=3 then _ else none)=_
  rw[List.length_map,List.getElem?_map]
  by_cases h2:t.av=2
  ·rw[if_pos h2,if_pos h2]
   split<;>rfl
  ·rw[if_neg h2,if_neg h3,if_neg h2,if_neg h3];rfl
end Go.Proofs.YtpmmhhmhckpnfaaGreat.M
namespace Go.Proofs.YtpmmhhmhckpnfaaGreat.M
open Go Go.Proofs.YtpmmhhmhckpnfaaGreat.RX Go.Proofs.YtpmmhhmhckpnfaaGreat.PL
set_option maxRecDepth 100000
theorem KV{d:Nat}{t:Nd}(h:Fit d t)(h1:t.av=1):Fit 1 t:=by
 obtain⟨e,rfl⟩:=xT h
 obtain⟨a1,a2,a3,a4,a5,a6,a7,a8⟩:=h
 exact⟨a1,a2,a3,a4,a5,a6,a7,fun x hx=>by rw[a6 (by omega)] at hx;cases hx⟩
theorem jC(x:BS):Fit 1 (af.mk 1 x [] []):=⟨by simp,by simp,fun h=>absurd rfl h,fun _=>rfl,fun h=>absurd h (show ¬(1:Int)=3 by decide),fun _=>rfl,⟨show(0:Int)<=1 by decide,show(1:Int)<=3 by decide⟩,fun x h=>by cases h⟩
theorem PX(n:Nat)(t:Nd)(w:Int){d:Nat}(hF:Fit d t)(ht:t.aC.length<=10000)(hn:200000<=n):∃r,u9 n t w=some r/\Fit 1 r.1:=by
 unfold u9
 by_cases h1:t.av=1
 ·rw[if_neg (by simp[h1])]
  have hl:=KV hF h1
  have hj:∃r,pw n w (w==0) t (af.mk 0 [] [] [])=some r/\Fit 1 r.2:=by
   unfold pw
   split
   ·obtain⟨r,hr⟩:=QG n t.aC (by omega) hn
    rw[hr];exact⟨_,rfl,hl⟩
   ·split
    ·obtain⟨r,hr⟩:=PQ n t.aC ht hn
     rw[hr];exact⟨_,rfl,hl⟩
    ·split
     ·obtain⟨r,hr⟩:=MR n t.aC ht hn
      obtain⟨q,hq,_⟩:=Oj n r.1 hn
      rw[hr,Option.bind_some,hq];exact⟨_,rfl,jC q⟩
     ·split
      ·obtain⟨r,hr⟩:=zx n t.aC 8 (by omega) hn
       rw[hr];exact⟨_,rfl,hl⟩
      ·exact⟨_,rfl,hl⟩
  obtain⟨r,hr,h2⟩:=hj
  rw[hr,Option.bind_some]
  split
  ·exact⟨_,rfl,ju⟩
  ·exact⟨_,rfl,h2⟩
 ·rw[if_pos (by simp[h1])];exact⟨_,rfl,ju⟩
theorem xu(n:Nat)(t:Nd)(hn:200000<=n):∃r,fM n t=some r/\r.1.length<=32:=by
 unfold fM
 split
 ·exact⟨_,rfl,by simp⟩
 ·rename_i h
  have h32:t.aj.length<=32:=by
   cases hk:(t.av != 2) with
   |true=>rw[hk] at h;exact absurd rfl h
   |false=>rw[hk] at h;simp at h;omega
  have hl:=ji (L:=fun k (v:List BS) i=>bT n t k v i) t.aj.length (fun(i:Nat) (v:List BS)=>v.length<=i) (fun r=>(Sum.elim (fun v=>v) (fun p=>p.1) r).length<=32) (by omega) (fun k v i h hI=>by
   by_cases h1:(t.aj[i]'h).av=1
   ·right
    refine⟨v++[(t.aj[i]'h).aC],by simp;omega,?_⟩
    show bT n t (k+1) v (i:Int)=_
    rw[bT,if_pos (bZ h),if_pos (aO h),bW h,if_neg (by simp[h1]),if_pos (aO h),if_pos (gX (by simp;omega))]
   ·left
    refine⟨.inr (v,false),?_,by show v.length<=32;omega⟩
    show bT n t (k+1) v (i:Int)=_
    rw[bT,if_pos (bZ h),if_pos (aO h),bW h,if_pos (by simp[h1])]) (fun k v hI=>⟨.inl v,by show bT n t (k+1) v _=_;rw[bT,bV];rfl,by show v.length<=32;omega⟩) n 0 [] (Nat.zero_le _) (by omega) (by simp)
  obtain⟨r,hr,h2⟩:=hl
  have hr:bT n t n [] 0=some r:=hr
  rw[hr,Option.bind_some]
  cases r<;>exact⟨_,rfl,h2⟩
theorem MU(n:Nat)(l:List BS)(z:Nd)(hl:l.length<=1000)(hn:200000<=n):∃r,gJ n l z n 0 (af.mk 2 [] [] [])=some r/\r.av=2/\r.ak=[]/\r.aC=[]/\r.aj.length=l.length/\∀x∈r.aj,Fit 1 x:=by
 have hl:=ji (L:=fun k (b:Nd) i=>gJ n l z k i b) l.length (fun(i:Nat) (r:Nd)=>r.av=2/\r.ak=[]/\r.aC=[]/\r.aj.length=i/\∀x∈r.aj,Fit 1 x) (fun(r:Nd)=>r.av=2/\r.ak=[]/\r.aC=[]/\r.aj.length=l.length/\∀x∈r.aj,Fit 1 x) (by omega) (fun k b i h hI=>by
  obtain⟨a1,a2,a3,a4,a5⟩:=hI
  right
  refine⟨af.mk b.av b.aC b.ak (b.aj++[af.mk 1 (l[i]'h) [] []]),⟨a1,a2,a3,by simp[a4],fun x hx=>?_⟩,?_⟩
  ·rcases List.mem_append.1 hx with hx|hx
   ·exact a5 x hx
   ·rw[List.mem_singleton.1 hx];exact jC _
  ·show gJ n l z (k+1) (i:Int) b=_
   rw[gJ,if_pos (bZ h),if_pos (aO h),bW h]
   simp only[aQ]
   rw[if_pos (uM (by simp;omega))]
   rfl) (fun k b hI=>⟨b,by show gJ n l z (k+1) _ b=_;rw[gJ,bV];rfl,hI⟩) n 0 (af.mk 2 [] [] []) (Nat.zero_le _) (by omega) ⟨rfl,rfl,rfl,rfl,fun x h=>by cases h⟩
 exact hl
theorem MF(n:Nat)(t:Nd)(ht:t.aC.length<=10000)(hn:200000<=n):∃r,qD n t=some r/\Fit 2 r.1:=by
 unfold qD
 obtain⟨r,hr,h1⟩:=xu n t hn
 have hj:∃q,nu n r.1 r.2 (t.av==1) t (af.mk 0 [] [] [])=some q/\q.1.length<=32:=by
  unfold nu
  split
  ·obtain⟨q,hq,h2,_⟩:=Me n t.aC ht hn
   rw[hq];exact⟨_,rfl,h2⟩
  ·exact⟨_,rfl,h1⟩
 obtain⟨q,hq,h2⟩:=hj
 rw[hr,Option.bind_some,hq,Option.bind_some]
 split
 ·exact⟨_,rfl,lZ ju⟩
 ·obtain⟨w,hw,b1,b2,b3,b4,b5⟩:=MU n q.1 (af.mk 0 [] [] []) (by omega) hn
  rw[hw]
  exact⟨_,rfl,by show w.aj.length<=2000;omega,by show w.ak.length<=2000;rw[b2];simp,fun _=>b3,fun _=>b2,fun(h:w.av=3)=>by omega,fun(h:w.av<2)=>by omega,by show 0<=w.av/\w.av<=3;omega,b5⟩
theorem ID(n:Nat)(s:BS)(b:Bool)(hn:200000<=n):∃r,rQ n s b=some r:=by
 unfold rQ
 split
 ·obtain⟨r,hr,_⟩:=KA n s hn
  rw[hr];exact⟨_,rfl⟩
 ·obtain⟨r,hr,_⟩:=oC n s hn
  rw[hr];exact⟨_,rfl⟩
theorem M9(x:BS):∀l:List BS,l.findSome? (fun y=>if y=x then some true else none)=if x∈l then some true else none
 |[]=>by simp
 |y::l=>by
  rw[List.findSome?_cons]
  by_cases e:y=x
  ·rw[if_pos e,if_pos (by rw[e];exact List.mem_cons_self)]
  ·rw[if_neg e]
   simp only
   rw[M9 x l]
   have:(x∈y::l)↔x∈l:=by rw[List.mem_cons];exact⟨fun h=>h.resolve_left fun e'=>e e'.symm,.inr⟩
   by_cases c:x∈l
   ·rw[if_pos c,if_pos (this.2 c)]
   ·rw[if_neg c,if_neg (fun h=>c (this.1 h))]
theorem rIn(n:Nat)(l:List BS)(x:BS)(hl:l.length<=100000)(hn:200000<=n):mo n l x=some (decide (x∈l)):=by
 have h:=yp (L:=fun k i=>kH n l x k i) l (fun y=>if y=x then some true else none) 0 (by omega) (fun k i h _=>by
  rw[kH,bZ h,if_pos rfl,aO h,if_pos rfl,bW h]
  by_cases c:l[i]=x
  ·rw[if_pos (by simpa using c),if_pos c]
  ·rw[if_neg (by simpa using c),if_neg c]) (fun k=>by rw[kH,bV];rfl) n 0 (Nat.le_refl _) (Nat.zero_le _) (by omega)
 have h:kH n l x n 0=some (Aw ((l.drop 0).findSome? (fun y=>if y=x then some true else none))):=h
 unfold mo
 rw[h,List.drop_zero,M9]
 by_cases c:x∈l
 ·rw[if_pos c,decide_eq_true c];rfl
 ·rw[if_neg c,decide_eq_false c];rfl
theorem xN:∀(d:Nat)(t:Nd),Fit d t->Fit d (so8 d t)
 |0,_,h=>h.elim
 |d+1,t,hF=>by
  have a8:=fun x hx=>jS hF (x:=x) hx
  obtain⟨a1,a2,a3,a4,a5,a6,a7,_⟩:=hF
  unfold so8
  split
  ·rename_i h3
   obtain⟨l1,_⟩:=a5 h3
   have hsl:=fB t.ak
   have hk:∀x∈(srt t.ak).map (fun k=>so8 d ((look k t.ak t.aj).getD Z8)),Fit d x:=fun x hx=>by
    obtain⟨k,k1,rfl⟩:=List.mem_map.1 hx
    obtain⟨y,y1,y2⟩:=yV l1 (iz.1 k1)
    rw[y1]
    exact xN d y (a8 y y2)
   exact⟨by show((srt t.ak).map _).length<=2000;rw[List.length_map];omega,by show(srt t.ak).length<=2000;omega,fun _=>a3 (by omega),fun h=>absurd rfl h,fun _=>⟨by show _=((srt t.ak).map _).length;rw[List.length_map],zK (by rw[NR (vO _)])⟩,fun h=>absurd h (show ¬(3:Int)<2 by decide),⟨show(0:Int)<=3 by decide,show(3:Int)<=3 by decide⟩,hk⟩
  ·rename_i h3
   exact⟨by show(t.aj.map _).length<=2000;rw[List.length_map];exact a1,a2,a3,a4,fun h=>absurd h h3,fun h=>by show t.aj.map _=[];rw[a6 h];rfl,a7,fun x hx=>by
    obtain⟨y,y1,rfl⟩:=List.mem_map.1 hx
    exact xN d y (a8 y y1)⟩
theorem yW(n d:Nat)(t:Nd)(b:Bool)(hF:b=true->Fit (d+1) (af.mk 3 t.aC t.ak t.aj))(hd:d<=100)(hn:200000<=n):∃r,eO n t b=some r/\Fit (d+1) r.1:=by
 unfold eO
 cases b with
 |false=>exact⟨_,rfl,jv ju _ (by omega)⟩
 |true =>
  split
  ·exact⟨_,rfl,jv ju _ (by omega)⟩
  ·rw[kx (d+1) n _ (hF rfl) (by omega)]
   exact⟨_,rfl,xN _ _ (hF rfl)⟩
theorem tK(n:Nat)(t:Nd)(l:List BS)(ht:t.ak.length<=2000)(hl:l.length<=1000)(hn:200000<=n):∃r,jI n t l=some r:=by
 unfold jI
 split
 ·exact⟨_,rfl⟩
 ·have hl:=oP (L:=jL n l t) t.ak.length (fun _=>True) (by omega) (fun k i h=>by
   rw[jL,if_pos (bZ h),if_pos (aO h),bW h,rIn n l _ (by omega) hn,Option.bind_some]
   split
   ·exact .inl ⟨_,rfl,trivial⟩
   ·exact .inr rfl) (fun k=>⟨.inl (),by rw[jL,bV];rfl,trivial⟩) n 0 (Nat.zero_le _) (by omega)
  obtain⟨r,hr,_⟩:=hl
  have hr:jL n l t n 0=some r:=hr
  rw[hr,Option.bind_some]
  cases r<;>exact⟨_,rfl⟩
theorem iR(n d m:Nat)(t:Nd)(s z:BS)(hF:Fit d t)(hx:∀x∈t.aj,x.aC.length<=m)(hz:z.length<=m)(hn:200000<=n):∃r,eX n t s z=some r/\r.1.length<=m:=by
 unfold eX
 rw[iP s hF (by omega),Option.bind_some]
 unfold fE
 split
 ·cases hg:look s t.ak t.aj with
  |none=>exact⟨_,rfl,hz⟩
  |some x=>exact⟨_,rfl,hx x (wj hg)⟩
 ·exact⟨_,rfl,hz⟩
theorem wG(n d:Nat)(t:Nd)(s:BS)(hF:Fit d t)(hx:∀x∈t.aj,x.aC.length<=10000)(hn:200000<=n):∃r,lF n t s=some r:=by
 unfold lF
 rw[iP s hF (by omega),Option.bind_some]
 split
 ·exact⟨_,rfl⟩
 ·obtain⟨r,hr,h1⟩:=iR n d 10000 t s [] hF hx (by simp) hn
  obtain⟨q,hq⟩:=zx n r.1 65536 (by omega) hn
  rw[hr,Option.bind_some,hq]
  exact⟨_,rfl⟩
theorem ze(n d:Nat)(t:Nd)(hF:Fit d t)(ht:t.aC.length<=900)(hx:∀x∈t.aj,x.aC.length<=900)(hn:2000000<=n):∃r,lN n t=some r:=by
 unfold lN
 split
 ·rw[Po n _ (by omega) hn,Option.bind_some]
  split
  ·exact⟨_,rfl⟩
  ·cases hp:parse t.aC with
   |none=>rename_i h;rw[hp] at h;exact absurd rfl h
   |some p =>
    have:=(MN hp).2
    rw[show(Oz (some p)).1=p from rfl,F6 n p (by omega) hn]
    exact⟨_,rfl⟩
 ·obtain⟨b,hb⟩:=tK n t ([oD,uA,uL,uH]) (gi hF).1 (by decide) (by omega)
  rw[hb,Option.bind_some]
  split
  ·exact⟨_,rfl⟩
  ·obtain⟨r4,h4⟩:=wG n d t oD hF (fun x h=>by have:=hx x h;omega) (by omega)
   obtain⟨r5,h5⟩:=wG n d t uA hF (fun x h=>by have:=hx x h;omega) (by omega)
   obtain⟨r6,h6,g6⟩:=iR n d 900 t uL [] hF hx (by simp) (by omega)
   obtain⟨r7,h7,_⟩:=iR n d 900 t uH lC hF hx (by simp) (by omega)
   rw[h4,Option.bind_some,h5,Option.bind_some,h6,Option.bind_some,h7,Option.bind_some]
   split
   ·exact⟨_,rfl⟩
   ·rw[F6 n _ (by show r6.1.length<=1000;omega) hn]
    exact⟨_,rfl⟩
def Grow(d c:Nat)(t:Nd):Prop:=Fit (d+1) t/\(t.av=3\/t.av=0)/\t.aj.length<=c
theorem sK(d:Nat):Grow d 0 Z8:=⟨jv ju _ (by omega),.inr rfl,Nat.le_refl _⟩
theorem iJ{d c:Nat}{t v:Nd}(s:BS)(h:Grow d c t)(hv:Fit d v)(hc:c<=1000):Grow d (c+1) (gp t s v):=by
 obtain⟨hF,hk3,hk⟩:=h
 obtain⟨l1,l2,_⟩:=fe hF hk3
 have hr:=ua (s:=s) (v:=v) l1
 unfold gp
 rw[if_pos hk3]
 have hlen:(iZ s v t.ak t.aj++if s∈t.ak then [] else [v]).length<=c+1:=by
  rw[List.length_append,hr];split<;>simp<;>omega
 refine⟨⟨?_,?_,fun _=>rfl,fun h=>(h rfl).elim,fun _=>⟨?_,?_⟩,fun h=>absurd (show(3:Int)<2 from h) (by decide),⟨show(0:Int)<=3 by decide,show(3:Int)<=3 by decide⟩,?_⟩,.inl rfl,hlen⟩
 ·exact Nat.le_trans hlen (by omega)
 ·show(t.ak++_).length<=2000
  rw[List.length_append];split<;>simp<;>omega
 ·show(t.ak++_).length=(iZ s v t.ak t.aj++_).length
  rw[List.length_append,List.length_append,hr,l1];split<;>rfl
 ·show(t.ak++_).Nodup
  split
  ·rw[List.append_nil];exact l2
  ·rename_i hs
   refine List.nodup_append.2 ⟨l2,by simp,?_⟩
   intro a ha b hb e
   rw[List.mem_singleton] at hb
   subst hb;subst e;exact hs ha
 ·intro x hx
  have hx:x∈iZ s v t.ak t.aj++if s∈t.ak then [] else [v]:=hx
  rcases List.mem_append.1 hx with hx|hx
  ·rcases ET hx with rfl|hx
   ·exact hv
   ·exact jS hF hx
  ·split at hx
   ·cases hx
   ·rw[List.mem_singleton] at hx;subst hx;exact hv
theorem Ag{d c n:Nat}{t:Nd}(h:Grow d c t)(hd:d<=100)(hn:200000<=n):∃r,eO n t true=some r/\Fit (d+1) r.1:=by
 refine yW n d t true (fun _=>?_) hd hn
 obtain⟨hF,hk3,hk⟩:=h
 obtain⟨l1,l2,l3⟩:=fe hF hk3
 obtain⟨a1,a2,a3,a4,a5,a6,a7,a8⟩:=hF
 exact⟨a1,a2,fun _=>l3,fun h=>absurd rfl h,fun _=>⟨l1,l2⟩,fun h=>absurd (show(3:Int)<2 from h) (by decide),⟨show(0:Int)<=3 by decide,show(3:Int)<=3 by decide⟩,a8⟩
theorem uK(n d m:Nat)(t:Nd)(s z:BS)(hF:Fit d t)(hx:∀x∈t.aj,x.aC.length<=m)(hz:z.length<=m)(hn:200000<=n):∃r,kQ n t s z=some r/\r.1.length<=m:=by
 unfold kQ
 obtain⟨r,hr,h1⟩:=iR n d m t s z hF hx hz hn
 rw[hr]
 exact⟨_,rfl,h1⟩
theorem KR(n d i:Nat)(t z1 z2:Nd)(hF:Fit (d+1) t)(h2:2<=t.av)(hi:i<t.aj.length)(hk:∀k∈t.ak,k.length<=900)(hx:∀x∈t.aj,x.aC.length<=900/\∀y∈x.aj,y.aC.length<=900)(hn:2000000<=n):∃r,mX n (i:Int) [] (t.av==2) t z1 z2=some r:=by
 unfold mX
 have hm:=List.getElem_mem hi
 split
 ·rw[if_pos (aO hi),bW hi]
  obtain⟨r,hr⟩:=ze n d _ (jS hF hm) (hx _ hm).1 (hx _ hm).2 hn
  rw[hr];exact⟨_,rfl⟩
 ·rename_i h
  have h3:t.av=3:=by
   have:=hF.2.2.2.2.2.2.1
   have:¬t.av=2:=by simpa using h
   omega
  obtain⟨l1,_,_⟩:=fe hF (.inl h3)
  have hi':i<t.ak.length:=by omega
  rw[if_pos (aO hi),if_pos (by rw[aO hi',Bool.or_true]),bW hi,bW hi']
  simp only[aQ]
  obtain⟨r,hr⟩:=ze n 1 (dA (t.ak[i])) (jC _) (hk _ (List.getElem_mem hi')) (fun x h=>by cases h) hn
  rw[hr]
  split
  ·rw[Option.bind_some]
   split
   ·rw[if_pos (aO hi')];exact⟨_,rfl⟩
   ·exact⟨_,rfl⟩
  ·rw[Option.bind_some]
   split
   ·rw[if_pos (aO hi')];exact⟨_,rfl⟩
   ·exact⟨_,rfl⟩
theorem MH(n d:Nat)(t:Nd)(hF:Fit (d+1) t)(hk:∀k∈t.ak,k.length<=900)(hx:∀x∈t.aj,x.aC.length<=900/\∀y∈x.aj,y.aC.length<=900)(hn:2000000<=n):∃r,qM n t=some r/\Fit 2 r.1:=by
 unfold qM
 split
 ·exact⟨_,rfl,lZ ju⟩
 ·rename_i h
  have h32:t.aj.length<=32/\2<=t.av:=by
   cases hc:decide ((t.aj.length:Int)>32) with
   |true=>rw[hc] at h;exact absurd rfl h
   |false=>rw[hc] at h;simp at h hc;omega
  have hl:=ji (L:=fun k (b:Nd×Nd) i=>dL n t k i b.1 b.2) t.aj.length (fun(i:Nat) (b:Nd×Nd)=>Grow 1 i b.2) (fun r=>Sum.elim (fun b=>∃c,Grow 1 c b.2) (fun b=>Fit 2 b.2) r) (by omega) (fun k b i h hI=>by
   obtain⟨r,hr⟩:=KR n d i t b.1 b.2 hF h32.2 h hk hx hn
   have hst:dL n t (k+1) (i:Int) b.1 b.2=(kW n (i:Int) t b.1 b.2).bind fun o1=>Sum.elim (fun o2=>dL n t k (IntKind.wrap .i64 ((i:Int)+1)) o2.1 o2.2) (fun o2=>some (.inr (o2.1,o2.2))) o1:=by
    rw[dL,if_pos (bZ h)]
   by_cases hz:(r==[])=true
   ·left
    refine⟨.inr (false,Z8),?_,lZ ju⟩
    show dL n t (k+1) (i:Int) b.1 b.2=_
    rw[hst]
    unfold kW
    rw[hr,Option.bind_some,if_pos hz];rfl
   ·right
    refine⟨(b.1,gp b.2 r Z8),iJ r hI ju (by omega),?_⟩
    show dL n t (k+1) (i:Int) b.1 b.2=_
    rw[hst]
    unfold kW
    rw[hr,Option.bind_some,if_neg hz,dV r Z8 hI.1 (by omega)];rfl) (fun k b hI=>⟨.inl b,by show dL n t (k+1) _ b.1 b.2=_;rw[dL,bV];rfl,⟨_,hI⟩⟩) n 0 (Z8,Z8) (Nat.zero_le _) (by omega) (sK 1)
  obtain⟨r,hr,h2⟩:=hl
  have hr:dL n t n 0 Z8 Z8=some r:=hr
  rw[show(af.mk 0 [] [] [])=Z8 from rfl,hr,Option.bind_some]
  cases r with
  |inl b =>
   obtain⟨c,hc⟩:=h2
   obtain⟨q,hq,h4⟩:=Ag (n:=n) hc (by omega) (by omega)
   exact⟨_,by show(eO n b.2 true).bind _=_;rw[hq];rfl,h4⟩
  |inr b=>exact⟨_,rfl,h2⟩
theorem KZ(n:Nat)(v1:Bool)(t:Nd)(hl:t.ak.length=t.aj.length)(h2:t.ak.length<=1000)(hn:200000<=n):∃r,dY n v1 t n 0 Z8 Z8=some r/\Sum.elim (fun b=>∃c,Grow 1 c b.2) (fun b=>Fit 2 b.2) r:=by
 have hl:=ji (L:=fun k (b:Nd×Nd) i=>dY n v1 t k i b.1 b.2) t.ak.length (fun(i:Nat) (b:Nd×Nd)=>Grow 1 i b.2) (fun r=>Sum.elim (fun b=>∃c,Grow 1 c b.2) (fun b=>Fit 2 b.2) r) (by omega) (fun k b i h hI=>by
  obtain⟨r,hr⟩:=ID n (t.ak[i]'h) v1 hn
  have hi:i<t.aj.length:=by omega
  by_cases hz:(bif (!r) then true else(decide ((t.aj[i]'hi).av>1)))=true
  ·left
   refine⟨.inr (false,Z8),?_,lZ ju⟩
   show dY n v1 t (k+1) (i:Int) b.1 b.2=_
   rw[dY,if_pos (bZ h),if_pos (aO h),bW h,hr,Option.bind_some,if_pos (by rw[aO hi,Bool.or_true]),bW hi,if_pos hz]
  ·right
   refine⟨(b.1,gp b.2 (t.ak[i]'h) (dA (t.aj[i]'hi).aC)),iJ _ hI (jC _) (by omega),?_⟩
   show dY n v1 t (k+1) (i:Int) b.1 b.2=_
   rw[dY,if_pos (bZ h),if_pos (aO h),bW h,hr,Option.bind_some,if_pos (by rw[aO hi,Bool.or_true]),bW hi,if_neg hz,if_pos (aO h),if_pos (aO hi)]
   simp only[aQ]
   rw[dV _ _ hI.1 (by omega)];rfl) (fun k b hI=>⟨.inl b,by show dY n v1 t (k+1) _ b.1 b.2=_;rw[dY,bV];rfl,⟨_,hI⟩⟩) n 0 (Z8,Z8) (Nat.zero_le _) (by omega) (sK 1)
 exact hl
theorem Am(n:Nat)(v1:Bool)(l:List BS)(i:Nat)(hi:i<l.length)(hw:(l[i]'hi).length<=10000)(b4 b6:Nd):∀(k j:Nat),j<=(l[i]'hi).length->(l[i]'hi).length-j<k->∃m:Nat,jU n v1 l (i:Int) b4 b6 k (j:Int)=some (m:Int)/\m<=(l[i]'hi).length
 |0,_,_,h=>by omega
 |k+1,j,h1,h2=>by
  rw[jU,if_pos (aO hi),bW hi,if_pos (by rw[aO hi,Bool.or_true]),if_pos (uD _ j)]
  simp only[aQ]
  by_cases h:j<(l[i]'hi).length
  ·split
   ·rw[dO j (by omega)]
    exact Am n v1 l i hi hw b4 b6 k (j+1) (by omega) (by omega)
   ·exact⟨j,rfl,h1⟩
  ·rw[JO (by omega)]
   exact⟨j,rfl,h1⟩
theorem J3(n:Nat)(v1:Bool)(l:List BS)(i c:Nat)(hi:i<l.length)(hw:(l[i]'hi).length<=10000)(b4 b6:Nd)(hG:Grow 1 c b6)(hc:c<=1000)(hn:200000<=n):∃r,mQ n v1 l (i:Int) b4 b6=some r/\Sum.elim (fun b=>Grow 1 (c+1) b.2) (fun b=>Fit 2 b.2) r:=by
 unfold mQ
 obtain⟨m,hm,hm2⟩:=Am n v1 l i hi hw b4 b6 n 0 (by omega) (by omega)
 have hm:jU n v1 l (i:Int) b4 b6 n 0=some (m:Int):=hm
 rw[hm,Option.bind_some,if_pos (aO hi),bW hi]
 have hj:∃x,mV n v1 l (i:Int) (m:Int) [] (decide ((m:Int)<((l[i]'hi).length:Int))) b4 b6=some x:=by
  unfold mV
  split
  ·rename_i h
   have h:(m:Int)<((l[i]'hi).length:Int):=by simpa using h
   rw[if_pos (aO hi),bW hi,dO m (by omega),if_pos (decide_eq_true ⟨by omega,by omega⟩)]
   exact⟨_,rfl⟩
  ·exact⟨_,rfl⟩
 obtain⟨x,hx⟩:=hj
 rw[hx,Option.bind_some,if_pos (aO hi),if_pos (decide_eq_true ⟨by omega,by omega⟩)]
 obtain⟨r4,h4⟩:=ID n (List.take (Int.toNat (m:Int)) (l[i]'hi)) v1 hn
 rw[h4,Option.bind_some]
 have hks:=(gi hG.1).1
 have h5:∃r5,(if((!r4)==false)=true then mo n b6.ak (List.take (Int.toNat (m:Int)) (l[i]'hi)) else some false)=some r5:=by
  split
  ·rw[rIn n _ _ (by omega) hn];exact⟨_,rfl⟩
  ·exact⟨_,rfl⟩
 obtain⟨r5,h5⟩:=h5
 rw[h5,Option.bind_some]
 split
 ·exact⟨_,rfl,lZ ju⟩
 ·simp only[aQ]
  rw[dV _ _ hG.1 (by omega)]
  exact⟨_,rfl,iJ _ hG (jC _) hc⟩
theorem JS(n:Nat)(v1:Bool)(l:List BS)(hl:l.length<=32)(hw:∀w∈l,w.length<=10000)(hn:200000<=n):∃r,dZ n v1 l n 0 Z8 Z8=some r/\Sum.elim (fun b=>∃c,Grow 1 c b.2) (fun b=>Fit 2 b.2) r:=by
 have hl:=ji (L:=fun k (b:Nd×Nd) i=>dZ n v1 l k i b.1 b.2) l.length (fun(i:Nat) (b:Nd×Nd)=>Grow 1 i b.2) (fun r=>Sum.elim (fun b=>∃c,Grow 1 c b.2) (fun b=>Fit 2 b.2) r) (by omega) (fun k b i h hI=>by
  obtain⟨r,hr,hr2⟩:=J3 n v1 l i i h (hw _ (List.getElem_mem h)) b.1 b.2 hI (by omega) hn
  cases r with
  |inr q=>exact .inl ⟨.inr (q.1,q.2),by show dZ n v1 l (k+1) (i:Int) b.1 b.2=_;rw[dZ,if_pos (bZ h),hr];rfl,hr2⟩
  |inl q=>exact .inr ⟨q,hr2,by show dZ n v1 l (k+1) (i:Int) b.1 b.2=_;rw[dZ,if_pos (bZ h),hr];rfl⟩) (fun k b hI=>⟨.inl b,by show dZ n v1 l (k+1) _ b.1 b.2=_;rw[dZ,bV];rfl,⟨_,hI⟩⟩) n 0 (Z8,Z8) (Nat.zero_le _) (by omega) (sK 1)
 exact hl
theorem Az(n m:Nat)(t:Nd)(hx:∀x∈t.aj,x.aC.length<=m)(hn:200000<=n):∃r,fM n t=some r/\r.1.length<=32/\∀w∈r.1,w.length<=m:=by
 unfold fM
 split
 ·exact⟨_,rfl,by simp,fun w hw=>by cases hw⟩
 ·rename_i h
  have h32:t.aj.length<=32:=by
   cases hk:(t.av != 2) with
   |true=>rw[hk] at h;exact absurd rfl h
   |false=>rw[hk] at h;simp at h;omega
  have hl:=ji (L:=fun k (v:List BS) i=>bT n t k v i) t.aj.length (fun(i:Nat) (v:List BS)=>v.length<=i/\∀w∈v,w.length<=m) (fun r=>(Sum.elim (fun v=>v) (fun p=>p.1) r).length<=32/\∀w∈Sum.elim (fun v=>v) (fun p=>p.1) r,w.length<=m) (by omega) (fun k v i h hI'=>by
   obtain⟨hI,hJ⟩:=hI'
   by_cases h1:(t.aj[i]'h).av=1
   ·right
    refine⟨v++[(t.aj[i]'h).aC],⟨by simp;omega,fun w hw=>by
     rcases List.mem_append.1 hw with hw|hw
     ·exact hJ w hw
     ·rw[List.mem_singleton.1 hw];exact hx _ (List.getElem_mem h)⟩,?_⟩
    show bT n t (k+1) v (i:Int)=_
    rw[bT,if_pos (bZ h),if_pos (aO h),bW h,if_neg (by simp[h1]),if_pos (aO h),if_pos (gX (by simp;omega))]
   ·left
    refine⟨.inr (v,false),?_,by show v.length<=32;omega,hJ⟩
    show bT n t (k+1) v (i:Int)=_
    rw[bT,if_pos (bZ h),if_pos (aO h),bW h,if_pos (by simp[h1])]) (fun k v hI=>⟨.inl v,by show bT n t (k+1) v _=_;rw[bT,bV];rfl,by show v.length<=32;exact Nat.le_trans hI.1 h32,hI.2⟩) n 0 [] (Nat.zero_le _) (by omega) ⟨by simp,fun w hw=>by cases hw⟩
  obtain⟨r,hr,h2⟩:=hl
  have hr:bT n t n [] 0=some r:=hr
  rw[hr,Option.bind_some]
  cases r<;>exact⟨_,rfl,h2⟩
theorem M1(n d:Nat)(t:Nd)(v1:Bool)(hF:Fit d t)(h2:t.ak.length<=1000)(hx:∀x∈t.aj,x.aC.length<=900)(hn:200000<=n):∃r,qG n t v1=some r/\Fit 2 r.1:=by
 unfold qG
 obtain⟨w,hw,w1,w2⟩:=Az n 900 t hx hn
 rw[hw,Option.bind_some,show(af.mk 0 [] [] [])=Z8 from rfl]
 split
 ·obtain⟨r,hr,h3⟩:=JS n v1 w.1 w1 (fun x hx=>by have:=w2 x hx;omega) hn
  rw[hr,Option.bind_some]
  cases r with
  |inl b =>
   obtain⟨c,hc⟩:=h3
   obtain⟨q,hq,h4⟩:=Ag (n:=n) hc (by omega) hn
   exact⟨_,by show(eO n b.2 true).bind _=_;rw[hq];rfl,h4⟩
  |inr b=>exact⟨_,rfl,h3⟩
 ·split
  ·exact⟨_,rfl,lZ ju⟩
  ·rename_i h3
   have h3:t.av=3:=by simpa using h3
   obtain⟨r,hr,h3⟩:=KZ n v1 t (fe hF (.inl h3)).1 h2 hn
   rw[hr,Option.bind_some]
   cases r with
   |inl b =>
    obtain⟨c,hc⟩:=h3
    obtain⟨q,hq,h4⟩:=Ag (n:=n) hc (by omega) hn
    exact⟨_,by show(eO n b.2 true).bind _=_;rw[hq];rfl,h4⟩
   |inr b=>exact⟨_,rfl,h3⟩
end Go.Proofs.YtpmmhhmhckpnfaaGreat.M
namespace Go.Proofs.YtpmmhhmhckpnfaaGreat.M
open Go Go.Proofs.YtpmmhhmhckpnfaaGreat.RX Go.Proofs.YtpmmhhmhckpnfaaGreat.PL
set_option maxRecDepth 100000
theorem bq{α β:Type}{x:Option α}{f:α->Option β}{Q:α->Prop}{P:β->Prop}(h:∃r,x=some r/\Q r)(k:∀r,Q r->∃q,f r=some q/\P q):∃q,x.bind f=some q/\P q:=by
 obtain⟨r,rfl,hr⟩:=h
 exact k r hr
theorem gU{α β:Type}{x:Option α}{f:α->Option β}{P:β->Prop}(h:∃r,x=some r)(k:∀r,∃q,f r=some q/\P q):∃q,x.bind f=some q/\P q:=by
 obtain⟨r,rfl⟩:=h
 exact k r
theorem mC{α:Type}{c:Prop}[Decidable c]{x y:Option α}(h1:∃r,x=some r)(h2:∃r,y=some r):∃r,(if c then x else y)=some r:=by
 split
 ·exact h1
 ·exact h2
theorem LG{α:Type}{x:Option α}{Q:α->Prop}(h:∃r,x=some r/\Q r):∃r,x=some r:=h.imp fun _ h=>h.1
theorem LP{n:Nat}{t:Nd}{l:List BS}(h:jI n t l=some true):t.av=3:=by
 unfold jI at h
 by_cases h3:t.av=3
 ·exact h3
 ·rw[if_pos (by rw[bne_iff_ne];exact h3)] at h
  cases h
theorem Ob(n:Nat)(t:Nd)(h:¬t.av=2):fM n t=some ([],false):=by
 unfold fM
 rw[show(t.av != 2)=true by rw[bne_iff_ne];exact h];rfl
theorem QB{d c:Nat}{t:Nd}(h:Grow d c t):Fit (d+1) (af.mk 3 t.aC t.ak t.aj):=by
 obtain⟨hF,hk3,hk⟩:=h
 obtain⟨l1,l2,l3⟩:=fe hF hk3
 obtain⟨a1,a2,a3,a4,a5,a6,a7,a8⟩:=hF
 exact⟨a1,a2,fun _=>l3,fun h=>absurd rfl h,fun _=>⟨l1,l2⟩,fun h=>absurd (show(3:Int)<2 from h) (by decide),⟨show(0:Int)<=3 by decide,show(3:Int)<=3 by decide⟩,a8⟩
theorem vF{d c n:Nat}{t:Nd}(b:Bool)(h:Grow d c t)(hd:d<=100)(hn:200000<=n):∃r,eO n t b=some r/\Fit (d+1) r.1 :=
 yW n d t b (fun _=>QB h) hd hn
theorem nA{d c e:Nat}{t:Nd}(h:Grow d c t)(he:c<=e):Grow d e t:=⟨h.1,h.2.1,Nat.le_trans h.2.2 he⟩
theorem RV(d:Nat):Fit (d+1) (af.mk 3 [] [] []):=⟨by simp,by simp,fun _=>rfl,fun h=>absurd rfl h,fun _=>⟨rfl,.nil⟩,fun h=>absurd (show(3:Int)<2 from h) (by decide),⟨show(0:Int)<=3 by decide,show(3:Int)<=3 by decide⟩,fun x h=>by cases h⟩
theorem N1(n:Nat)(l:List BS)(t z:Nd)(v5:Bool)(hk:t.aj.length<=2000)(hn:200000<=n):∃r,iQ n l t z n v5 0=some r:=by
 have hl:=ji (L:=fun k (b:Bool) i=>iQ n l t z k b i) t.aj.length (fun _ _=>True) (fun _=>True) (by omega) (fun k b i h _=>by
  right
  have:∃o,po n l b (i:Int) t z=some o:=by
   unfold po
   rw[if_pos (aO h),if_pos (by rw[aO h,Bool.or_true]),if_pos (by rw[aO h,Bool.or_true])]
   simp only[aQ]
   split<;>exact⟨_,rfl⟩
  obtain⟨o,ho⟩:=this
  exact⟨o,trivial,by show iQ n l t z (k+1) b (i:Int)=_;rw[iQ,if_pos (bZ h),ho];rfl⟩) (fun k b _=>⟨b,by show iQ n l t z (k+1) b _=_;rw[iQ,bV];rfl,trivial⟩) n 0 v5 (Nat.zero_le _) (by omega) trivial
 exact LG hl
theorem Ov(n:Nat)(l:List BS)(z:Nd)(v5:Bool)(hl:l.length<=32)(hn:200000<=n):∃r,gu n l z n v5 0 Z8=some r/\∃c,Grow 1 c r.2:=by
 have hl:=ji (L:=fun k (b:Bool×Nd) i=>gu n l z k b.1 i b.2) l.length (fun i b=>Grow 1 i b.2) (fun r=>∃c,Grow 1 c r.2) (by omega) (fun k b i h hI=>by
  obtain⟨v,t⟩:=b
  cases v with
  |false=>exact .inl ⟨(false,t),by show gu n l z (k+1) false (i:Int) t=_;rw[gu,bZ h];rfl,_,hI⟩
  |true =>
   right
   obtain⟨r3,h3,_⟩:=oC n (l[i]'h) hn
   refine⟨(r3,gp t (l[i]'h) Z8),iJ _ hI ju (by omega),?_⟩
   show gu n l z (k+1) true (i:Int) t=_
   rw[gu,bZ h,if_pos (by rfl),if_pos (aO h),bW h,h3,Option.bind_some,if_pos (aO h),dV _ _ hI.1 (by omega)];rfl) (fun k b hI=>⟨b,by show gu n l z (k+1) b.1 _ b.2=_;rw[gu,bV];rfl,_,hI⟩) n 0 (v5,Z8) (Nat.zero_le _) (by omega) (sK 1)
 exact hl
theorem Jb(n d:Nat)(t:Nd)(hF:Fit d t)(hn:200000<=n):∃r,rN n t=some r/\Fit 2 r.1:=by
 unfold rN
 refine bq (xu n t hn) fun w hw=>?_
 have hj:∃o,oU n w.1 w.2 (bif (t.av==3) then(decide ((List.length t.ak:Int)<=32)) else false) t (af.mk 0 [] [] [])=some o/\o.1.length<=32:=by
  unfold oU
  split
  ·rename_i h
   have h32:t.ak.length<=32:=by
    cases hk:(t.av==3) with
    |false=>rw[hk] at h;exact(Bool.false_ne_true h).elim
    |true=>rw[hk] at h;simp at h;omega
   exact gU (N1 n _ t _ true (gi hF).2 hn) fun r=>⟨_,rfl,h32⟩
  ·exact⟨_,rfl,hw⟩
 refine bq hj fun o ho=>?_
 refine bq (Ov n o.1 (af.mk 0 [] [] []) o.2 ho hn) fun q hq=>?_
 obtain⟨c,hc⟩:=hq
 exact bq (vF q.1 hc (by omega) hn) fun r hr=>⟨_,rfl,hr⟩
theorem OO(n d:Nat)(t:Nd)(hF:Fit (d+1) t)(hx:∀x∈t.aj,x.aC.length<=900)(hn:200000<=n):∃r,rY n t=some r/\Fit 2 r.1:=by
 unfold rY
 have hj:∃o,nV n (t.av==0) t (af.mk 0 [] [] [])=some o/\Fit (d+1) o/\∀x∈o.aj,x.aC.length<=900:=by
  unfold nV
  split
  ·exact⟨_,rfl,RV d,fun x h=>by cases h⟩
  ·exact⟨_,rfl,hF,hx⟩
 refine bq hj fun o ho=>?_
 obtain⟨hF',hx'⟩:=ho
 refine gU (tK n o _ (gi hF').1 (by decide) hn) fun b=>?_
 split
 ·exact⟨_,rfl,lZ ju⟩
 ·refine bq (iR n (d+1) 900 o _ _ hF' hx' (by decide) hn) fun r3 g3=>?_
  refine bq (uK n (d+1) 900 o _ _ hF' hx' (by decide) hn) fun r4 g4=>?_
  refine bq (uK n (d+1) 900 o _ _ hF' hx' (by decide) hn) fun r5 g5=>?_
  simp only[aQ]
  refine⟨_,rfl,by simp,by simp,fun _=>rfl,fun h=>absurd rfl h,fun _=>⟨rfl,(by decide:([rG,nK,mB]:List BS).Nodup)⟩,fun h=>absurd (show(3:Int)<2 from h) (by decide),⟨show(0:Int)<=3 by decide,show(3:Int)<=3 by decide⟩,fun x hx=>?_⟩
  rcases List.mem_cons.1 hx with rfl|hx
  ·exact jC _
  ·rcases List.mem_cons.1 hx with rfl|hx
   ·exact jC _
   ·rw[List.mem_singleton.1 hx];exact jC _
theorem M6(n d i c:Nat)(t z b6:Nd)(l:List BS)(hi:i<l.length)(hk:t.av=3->i<t.aj.length)(hF:Fit (d+2) t)(hx:∀x∈t.aj,∀y∈x.aj,y.aC.length<=900)(hG:Grow 2 c b6)(hc:c<=1000)(hn:200000<=n):∃r,nT n l (i:Int) t z b6=some r/\Grow 2 (c+1) r.2:=by
 unfold nT
 have hj:∃o,nX n l (i:Int) (t.av==3) t z b6 (af.mk 0 [] [] [])=some o/\Fit (d+1) o/\∀y∈o.aj,y.aC.length<=900:=by
  unfold nX
  split
  ·rename_i h
   have hi':=hk (by simpa using h)
   rw[if_pos (aO hi'),bW hi']
   exact⟨_,rfl,jS hF (List.getElem_mem hi'),hx _ (List.getElem_mem hi')⟩
  ·exact⟨_,rfl,jv ju _ (by omega),fun y h=>by cases h⟩
 refine bq hj fun o ho=>?_
 refine bq (OO n d o ho.1 ho.2 hn) fun r4 g4=>?_
 rw[if_pos (by rw[aO hi,Bool.or_true]),bW hi]
 refine gU (mC (LG (oC n _ hn)) ⟨_,rfl⟩) fun r5=>?_
 rw[if_pos (aO hi),dV _ _ hG.1 (by omega)]
 exact⟨_,rfl,iJ _ hG g4 hc⟩
theorem MB(n d:Nat)(t z:Nd)(l:List BS)(v5:Bool)(hl:l.length<=32)(hk:t.av=3->l.length<=t.aj.length)(hF:Fit (d+2) t)(hx:∀x∈t.aj,∀y∈x.aj,y.aC.length<=900)(hn:200000<=n):∃r,fA n l t z n v5 0 Z8=some r/\∃c,Grow 2 c r.2:=by
 have hl:=ji (L:=fun k (b:Bool×Nd) i=>fA n l t z k b.1 i b.2) l.length (fun i b=>Grow 2 i b.2) (fun r=>∃c,Grow 2 c r.2) (by omega) (fun k b i h hI=>by
  obtain⟨v,u⟩:=b
  cases v with
  |false=>exact .inl ⟨(false,u),by show fA n l t z (k+1) false (i:Int) u=_;rw[fA,bZ h];rfl,_,hI⟩
  |true =>
   right
   obtain⟨r,hr,h2⟩:=M6 n d i i t z u l h (fun h3=>by have:=hk h3;omega) hF hx hI (by omega) hn
   refine⟨r,h2,?_⟩
   show fA n l t z (k+1) true (i:Int) u=_
   rw[fA,bZ h,if_pos (by rfl),hr];rfl) (fun k b hI=>⟨b,by show fA n l t z (k+1) b.1 _ b.2=_;rw[fA,bV];rfl,_,hI⟩) n 0 (v5,Z8) (Nat.zero_le _) (by omega) (sK 2)
 exact hl
theorem NQ(n d:Nat)(t:Nd)(hF:Fit (d+2) t)(hx:∀x∈t.aj,∀y∈x.aj,y.aC.length<=900)(hn:200000<=n):∃r,sM n t=some r/\Fit 3 r.1:=by
 unfold sM
 have ht:∃w,fM n t=some w/\(w.1.length<=32/\(t.av=3->w.1=[])):=by
  obtain⟨w,hw,h1⟩:=xu n t hn
  refine⟨w,hw,h1,fun h3=>?_⟩
  rw[Ob n t (by omega)] at hw
  cases hw;rfl
 refine bq ht fun w hw=>?_
 have hj:∃o,nN n w.1 w.2 (bif (t.av==3) then(decide ((List.length t.ak:Int)<=32)) else false) t (af.mk 0 [] [] [])=some o/\(o.1.length<=32/\(t.av=3->o.1.length<=t.aj.length)):=by
  unfold nN
  split
  ·rename_i h
   have h32:t.ak.length<=32:=by
    cases hk:(t.av==3) with
    |false=>rw[hk] at h;exact(Bool.false_ne_true h).elim
    |true=>rw[hk] at h;simp at h;omega
   exact⟨_,rfl,h32,fun h3=>Nat.le_of_eq (fe hF (.inl h3)).1⟩
  ·exact⟨_,rfl,hw.1,fun h3=>by rw[hw.2 h3];exact Nat.zero_le _⟩
 refine bq hj fun o ho=>?_
 refine bq (MB n d t (af.mk 0 [] [] []) o.1 o.2 ho.1 ho.2 hF hx hn) fun q hq=>?_
 obtain⟨c,hc⟩:=hq
 exact bq (vF q.1 hc (by omega) hn) fun r hr=>⟨_,rfl,hr⟩
theorem Ht(n d:Nat)(t:Nd)(hF:Fit d t)(ht:t.aC.length<=900)(hx:∀x∈t.aj,x.aC.length<=900)(hn:200000<=n):∃r,mY n t=some r/\r.1.aZ.length<=10000/\r.1.cY.length<=10000:=by
 unfold mY
 split
 ·exact bq (MC n t.aC (by omega) hn) fun r hr=>⟨_,rfl,hr⟩
 ·refine gU (tK n t _ (gi hF).1 (by decide) hn) fun b=>?_
  split
  ·exact⟨_,rfl,by show(0:Nat)<=10000;omega,by show(0:Nat)<=10000;omega⟩
  ·refine bq (iR n d 900 t _ _ hF hx (by decide) hn) fun r3 g3=>?_
   refine bq (iR n d 900 t _ _ hF hx (by decide) hn) fun r4 g4=>?_
   refine bq (uK n d 900 t _ _ hF hx (by decide) hn) fun r5 g5=>?_
   refine bq (iR n d 900 t _ _ hF hx (by decide) hn) fun r6 g6=>?_
   refine gU (mC (LG (xI n _ (by show r3.1.length<=10000;omega) (by show r4.1.length<=10000;omega) hn)) ⟨_,rfl⟩) fun r7=>?_
   simp only[aQ]
   exact⟨_,rfl,by show r3.1.length<=10000;omega,by show r4.1.length<=10000;omega⟩
theorem Lq(n d:Nat)(t:Nd)(hF:Fit (d+1) t)(hx:∀x∈t.aj,x.aC.length<=900/\∀y∈x.aj,y.aC.length<=900)(hn:200000<=n):∃r,pI n t=some r/\Fit 2 r.1:=by
 unfold pI
 split
 ·exact⟨_,rfl,lZ ju⟩
 ·rename_i h
  have h32:t.aj.length<=32/\2<=t.av:=by
   cases hc:decide ((t.aj.length:Int)>32) with
   |true=>rw[hc] at h;exact absurd rfl h
   |false=>rw[hc] at h;simp at h hc;omega
  have hl:=ji (L:=fun k (b:Nd×Nd) i=>dF n t k i b.1 b.2) t.aj.length (fun(i:Nat) (b:Nd×Nd)=>Grow 1 i b.2) (fun r=>Sum.elim (fun b=>∃c,Grow 1 c b.2) (fun b=>Fit 2 b.2) r) (by omega) (fun k b i h hI=>by
   obtain⟨r1,h1,g1,g2⟩:=Ht n d _ (jS hF (List.getElem_mem h)) (hx _ (List.getElem_mem h)).1 (hx _ (List.getElem_mem h)).2 hn
   obtain⟨r2,h2,_⟩:=N2 n r1.1 g1 g2 hn
   have hc:∀x y:Bool,((!((x==false)&&(((t.av==3)==true)&&(y==false)))||decide (0<=(i:Int)/\(i:Int)<(List.length t.ak:Int))))=true:=fun x y=>by
    by_cases h3:t.av=3
    ·rw[aO (show i<t.ak.length by have:=(fe hF (.inl h3)).1;omega),Bool.or_true]
    ·rw[show(t.av==3)=false by simpa using h3];cases x<;>cases y<;>rfl
   have hst:dF n t (k+1) (i:Int) b.1 b.2=if(bif (!r1.2) then true else(bif (t.av==3) then(bif (bif ((((t.aj)[i]'h).av) != 1) then true else(!((((t.aj)[i]'h).aC)==r2))) then true else(!(((t.ak)[Int.toNat (i:Int)]?.getD [])==r1.1.cY))) else false))=true then(some (.inr (false,(af.mk 0 [] [] []))))
     else((dK n b.2 r1.1.cY (dA r2)).bind fun r5=>dF n t k (IntKind.wrap .i64 ((i:Int)+1)) b.1 r5):=by
    rw[dF,if_pos (bZ h),if_pos (aO h),bW h,h1,Option.bind_some,h2,Option.bind_some,if_pos (by rw[aO h,Bool.or_true]),if_pos (by rw[aO h,Bool.or_true]),if_pos (hc _ _)]
    rfl
   by_cases hz:(bif (!r1.2) then true else(bif (t.av==3) then(bif (bif ((((t.aj)[i]'h).av) != 1) then true else(!((((t.aj)[i]'h).aC)==r2))) then true else(!(((t.ak)[Int.toNat (i:Int)]?.getD [])==r1.1.cY))) else false))=true
   ·left
    refine⟨.inr (false,Z8),?_,lZ ju⟩
    show dF n t (k+1) (i:Int) b.1 b.2=_
    rw[hst,if_pos hz]
   ·right
    refine⟨(b.1,gp b.2 r1.1.cY (dA r2)),iJ _ hI (jC _) (by omega),?_⟩
    show dF n t (k+1) (i:Int) b.1 b.2=_
    rw[hst,if_neg hz,dV _ _ hI.1 (by omega)];rfl) (fun k b hI=>⟨.inl b,by show dF n t (k+1) _ b.1 b.2=_;rw[dF,bV];rfl,⟨_,hI⟩⟩) n 0 (Z8,Z8) (Nat.zero_le _) (by omega) (sK 1)
  have hl:∃r,dF n t n 0 Z8 Z8=some r/\Sum.elim (fun b=>∃c,Grow 1 c b.2) (fun b=>Fit 2 b.2) r:=hl
  refine bq hl fun r hr=>?_
  cases r with
  |inl b =>
   obtain⟨c,hc⟩:=hr
   exact bq (vF true hc (by omega) hn) fun r hr=>⟨_,rfl,hr⟩
  |inr b=>exact⟨_,rfl,hr⟩
theorem N3(n:Nat)(t:Nd)(hx:∀x∈t.aj,x.aC.length<=900)(hn:200000<=n):∃r,tP n t=some r:=by
 unfold tP
 refine mC ⟨_,rfl⟩ ?_
 obtain⟨w,hw,w1,w2⟩:=Az n 900 t hx hn
 rw[hw,Option.bind_some]
 split
 ·exact⟨_,rfl⟩
 ·rename_i h
  have h0:1<=w.1.length:=by
   cases hc:(w.1.length:Int)==0 with
   |true=>rw[hc] at h;simp at h
   |false=>simp at hc;cases hw1:w.1 with
    |nil=>exact absurd hw1 hc
    |cons a b=>simp
  have e0:decide (0<=(0:Int)/\(0:Int)<(List.length w.1:Int))=true:=decide_eq_true ⟨by omega,by omega⟩
  rw[if_pos e0]
  split
  ·exact⟨_,rfl⟩
  ·simp only[aQ]
   split
   ·rename_i h2
    have h2:(w.1.length:Int)=2:=by
     cases hc:(w.1.length:Int)==2 with
     |true=>simpa using hc
     |false=>rw[hc] at h2;simp at h2
    rw[if_pos (decide_eq_true ⟨by omega,by omega⟩)]
    exact⟨_,rfl⟩
   ·split
    ·rw[if_pos (decide_eq_true ⟨by omega,by omega⟩)]
     obtain⟨q,hq,_⟩:=O8 n (List.drop (Int.toNat 1) w.1) (by rw[List.length_drop];omega) (fun x hx=>by have:=w2 x (List.mem_of_mem_drop hx);omega) hn
     rw[hq];exact⟨_,rfl⟩
    ·exact⟨_,rfl⟩
theorem FP(n d:Nat)(t:Nd)(s:BS)(a:Int)(hF:Fit d t)(hx:∀x∈t.aj,x.aC.length<=900)(hn:200000<=n):∃r,pT n t s a=some r:=by
 unfold pT
 rw[iP s hF (by omega),Option.bind_some]
 refine mC ⟨_,rfl⟩ ?_
 obtain⟨r,hr,h1⟩:=iR n d 900 t s [] hF hx (by simp) hn
 obtain⟨q,hq⟩:=M5 n r.1 (by omega) hn
 obtain⟨p,hp,_⟩:=OP n q.1 hn
 rw[hr,Option.bind_some,hq,Option.bind_some,hp]
 exact⟨_,rfl⟩
theorem SJ:Fit 2 (af.mk 3 [] ([mW]) [dA nJ]):=⟨by simp,by simp,fun _=>rfl,fun h=>absurd rfl h,fun _=>⟨rfl,by decide⟩,fun h=>absurd (show(3:Int)<2 from h) (by decide),⟨show(0:Int)<=3 by decide,show(3:Int)<=3 by decide⟩,fun x hx=>by rw[List.mem_singleton.1 hx];exact jC _⟩
theorem UO{a b:Bool}(h:¬(bif a then true else b)=true):a=false/\b=false:=by cases a<;>cases b<;>simp_all
theorem Tz{d:Nat}{t:Nd}(s:BS)(hF:Fit (d+1) t)(hx:∀x∈t.aj,∀y∈x.aj,y.aC.length<=900):∀y∈(xG (fE t s)).1.aj,y.aC.length<=900:=by
 cases hg:fE t s with
 |none=>intro y hy;cases hy
 |some x =>
  unfold fE at hg
  split at hg
  ·exact hx x (wj hg)
  ·cases hg
theorem JY(n d:Nat)(t:Nd)(hF:Fit (d+1) t)(hx:∀x∈t.aj,x.aC.length<=900)(hy:∀x∈t.aj,∀y∈x.aj,y.aC.length<=900)(hn:200000<=n):∃r,pJ n t=some r/\Fit 2 r.1:=by
 unfold pJ
 refine gU (tK n t _ (gi hF).1 (by decide) hn) fun b=>?_
 split
 ·exact⟨_,rfl,lZ ju⟩
 ·refine bq (uK n (d+1) 900 t _ _ hF hx (by decide) hn) fun r2 g2=>?_
  rw[iP _ hF (by omega),Option.bind_some]
  have hj:∀a b c e f g,∃o,lT n a b c e f Z8 (xG (fE t g)).1=some o/\Sum.elim (fun o=>Grow 1 1 o.2.2) (fun o=>Fit 2 o.2) o:=fun a b c e f g=>by
   unfold lT
   split
   ·refine gU (N3 n _ (Tz g hF hy) hn) fun r4=>?_
    split
    ·exact⟨_,rfl,lZ ju⟩
    ·have hj2:∃o,lV n a b r4.1 (r4.2==2) e f Z8=some o:=by
      unfold lV
      exact mC ⟨_,rfl⟩ ⟨_,rfl⟩
     refine gU hj2 fun o5=>?_
     simp only[aQ]
     rw[dV _ _ (sK 1).1 (by omega)]
     exact⟨_,rfl,iJ _ (sK 1) (jC _) (by omega)⟩
   ·exact⟨_,rfl,nA (sK 1) (by omega)⟩
  refine bq (hj _ _ _ _ _ _) fun o4 g4=>?_
  cases o4 with
  |inr o=>exact⟨_,rfl,g4⟩
  |inl o =>
   refine gU (FP n (d+1) t _ _ hF hx hn) fun r5=>?_
   refine gU (FP n (d+1) t _ _ hF hx hn) fun r6=>?_
   refine gU (wG n (d+1) t _ hF (fun x h=>by have:=hx x h;omega) hn) fun r7=>?_
   simp only[aQ]
   split
   ·exact⟨_,rfl,lZ ju⟩
   ·rename_i h10
    have h10:r7.1<=10:=by
     have:=(UO h10).2
     simpa using this
    split
    ·exact⟨_,rfl,SJ⟩
    ·have h3:∃q,l9 n r5.1 r6.1 r7.1 (!(r5.1==[])) o.2.1 o.2.2=some q/\Grow 1 2 q:=by
      unfold l9
      split
      ·simp only[aQ]
       rw[dV _ _ g4.1 (by omega)]
       exact⟨_,rfl,iJ _ g4 (jC _) (by omega)⟩
      ·exact⟨_,rfl,nA g4 (by omega)⟩
     refine bq h3 fun o10 g10=>?_
     have h4:∃q,l7 n r6.1 r7.1 (!(r6.1==[])) o.2.1 o10=some q/\Grow 1 3 q:=by
      unfold l7
      split
      ·simp only[aQ]
       rw[dV _ _ g10.1 (by omega)]
       exact⟨_,rfl,iJ _ g10 (jC _) (by omega)⟩
      ·exact⟨_,rfl,nA g10 (by omega)⟩
     refine bq h4 fun o11 g11=>?_
     have h5:∃q,lU n r7.1 (decide (r7.1>0)) o.2.1 o11=some q/\Grow 1 4 q:=by
      unfold lU
      split
      ·rename_i h0
       have h0:r7.1>0:=by simpa using h0
       refine bq (yB n r7.1 (by omega) (by omega) hn) fun r12 g12=>?_
       simp only[aQ]
       rw[dV _ _ g11.1 (by omega)]
       exact⟨_,rfl,iJ _ g11 (jC _) (by omega)⟩
      ·exact⟨_,rfl,nA g11 (by omega)⟩
     refine bq h5 fun o12 g12=>?_
     exact bq (vF true g12 (by omega) hn) fun r hr=>⟨_,rfl,hr⟩
theorem JC(n d:Nat)(t:Nd)(hF:Fit (d+2) t)(ht:t.aC.length<=900)(hx:∀x∈t.aj,x.aC.length<=900)(hd:d<=90)(hn:200000<=n):∃r,nP n t=some r/\Fit (d+2) r.1:=by
 unfold nP
 have hj:∃o,lG n (t.av==1) t (af.mk 0 [] [] [])=some o/\(Fit (d+2) o/\∀x∈o.aj,x.aC.length<=900):=by
  unfold lG
  split
  ·rename_i h
   have h1:t.av=1:=by simpa using h
   refine⟨_,rfl,⟨by simp,by simp,fun _=>rfl,fun h=>absurd rfl h,fun _=>⟨rfl,by simp⟩,fun h=>absurd (show(3:Int)<2 from h) (by decide),⟨show(0:Int)<=3 by decide,show(3:Int)<=3 by decide⟩,fun x hx=>?_⟩,fun x hx=>?_⟩
   ·rw[List.mem_singleton.1 hx];exact jv (KV hF h1) _ (by omega)
   ·rw[List.mem_singleton.1 hx];exact ht
  ·exact⟨_,rfl,hF,hx⟩
 refine bq hj fun o ho=>?_
 obtain⟨hF',hx'⟩:=ho
 obtain⟨b,hb⟩:=tK n o ([lK,vJ]) (gi hF').1 (by decide) hn
 rw[hb,Option.bind_some]
 cases b with
 |false=>exact⟨_,rfl,jv ju _ (by omega)⟩
 |true =>
  have h3:=LP hb
  rw[if_neg (by decide)]
  refine bq (iR n (d+2) 900 o _ _ hF' hx' (by decide) hn) fun r3 g3=>?_
  refine bq (iR n (d+2) 900 o _ _ hF' hx' (by decide) hn) fun r4 g4=>?_
  refine gU (mC (LG (oC n _ hn)) ⟨_,rfl⟩) fun r5=>?_
  simp only[aQ]
  split
  ·exact⟨_,rfl,jv ju _ (by omega)⟩
  ·refine bq (yW n (d+1) o true (fun _=>?_) (by omega) hn) fun r hr=>⟨_,rfl,hr⟩
   have e:af.mk 3 o.aC o.ak o.aj=o:=by rw[<-h3];cases o;rfl
   rw[e];exact hF'
theorem Jv(n d:Nat)(t:Nd)(a:Int)(hF:Fit (d+3) t)(hS:Iw (d+3) t)(hk:t.ak.length<=1000)(hd:d<=80)(hn:2000000<=n):∃r,qS n t a=some r/\Fit (d+3) r.1:=by
 obtain⟨s1,s2,s3⟩:=hS
 have x1:∀x∈t.aj,x.aC.length<=900:=fun x hx=>by have:=(s3 x hx).1;omega
 have x2:∀x∈t.aj,∀y∈x.aj,y.aC.length<=900:=fun x hx y hy=>by have:=((s3 x hx).2.2 y hy).1;omega
 have x3:∀k∈t.ak,k.length<=900:=fun k hk=>by have:=s2 k hk;omega
 have hks:=gi hF
 unfold qS
 split
 ·exact bq (PX n t a hF (by omega) (by omega)) fun r hr=>⟨_,rfl,jv hr _ (by omega)⟩
 split
 ·exact bq (MF n t (by omega) (by omega)) fun r hr=>⟨_,rfl,jv hr _ (by omega)⟩
 split
 ·exact bq (M1 n (d+3) t _ hF hk x1 (by omega)) fun r hr=>⟨_,rfl,jv hr _ (by omega)⟩
 split
 ·exact bq (Jb n (d+3) t hF (by omega)) fun r hr=>⟨_,rfl,jv hr _ (by omega)⟩
 split
 ·exact bq (MH n (d+2) t hF x3 (fun x hx=>⟨x1 x hx,x2 x hx⟩) hn) fun r hr=>⟨_,rfl,jv hr _ (by omega)⟩
 split
 ·exact bq (Lq n (d+2) t hF (fun x hx=>⟨x1 x hx,x2 x hx⟩) (by omega)) fun r hr=>⟨_,rfl,jv hr _ (by omega)⟩
 split
 ·exact bq (NQ n (d+1) t hF x2 (by omega)) fun r hr=>⟨_,rfl,jv hr _ (by omega)⟩
 split
 ·exact bq (JC n (d+1) t hF (by omega) x1 (by omega) (by omega)) fun r hr=>⟨_,rfl,jv hr _ (by omega)⟩
 ·exact bq (JY n (d+2) t hF x1 x2 (by omega)) fun r hr=>⟨_,rfl,jv hr _ (by omega)⟩
end Go.Proofs.YtpmmhhmhckpnfaaGreat.M
namespace Go.Proofs.YtpmmhhmhckpnfaaGreat.M
open Go Go.Proofs.YtpmmhhmhckpnfaaGreat.RX Go.Proofs.YtpmmhhmhckpnfaaGreat.PL
set_option maxRecDepth 100000
theorem Q6(n:Nat)(t:Nd)(hn:200000<=n):∃b,jY n t=some b/\(b=true->Fit 12 t/\sz8 12 t<=2000):=by
 obtain⟨r,h1,h2⟩:=left_eq 12 n t 1 2000 rfl (by decide) (by decide) (by omega)
 have h1:dD n t 1 2000=some r:=h1
 unfold jY
 rw[h1,Option.bind_some]
 rcases h2 with rfl|⟨q,rfl,hF,hq⟩
 ·exact⟨_,rfl,fun h=>absurd h (by decide)⟩
 ·exact⟨_,rfl,fun _=>⟨hF,by omega⟩⟩
def xw(d:Nat)(t:Nd):Prop:=Fit d t/\Iw d t/\sz8 d t<=300
theorem Eb{d:Nat}{t x:Nd}(h:xw (d+1) t)(hx:x∈t.aj):xw d x:=by
 obtain⟨h1,h2,h3⟩:=h
 refine⟨jS h1 hx,h2.2.2 x hx,?_⟩
 have:=PZ (d:=d) hx
 unfold sz8 at h3
 omega
theorem xe{d:Nat}{t:Nd}(h:xw d t):t.ak.length<=300/\t.aj.length<=300:=by
 obtain⟨e,rfl⟩:=xT h.1
 have h1:=Ta h.1 h.2.2
 obtain⟨a1,a2,a3,a4,a5,a6,a7,a8⟩:=h.1
 refine⟨?_,by omega⟩
 by_cases h3:t.av=3
 ·rw[(a5 h3).1];omega
 ·rw[a4 h3];simp
theorem KG{d:Nat}{t:Nd}{k:BS}(h:xw (d+1) t)(hk:k∈t.ak):k.length<=200:=h.2.1.2.1 k hk
theorem Oi{α β:Type}{x:Option α}{f:α->Option β}(h:∃r,x=some r)(k:∀r,∃q,f r=some q):∃q,x.bind f=some q:=by
 obtain⟨r,rfl⟩:=h
 exact k r
theorem Dl(n:Nat)(s:BS):∃b,lQ n s=some b:=by
 unfold lQ
 have e:((!((decide ((List.length s:Int)>=2))==true)||decide (0<=(2:Int)/\(2:Int)<=(List.length s:Int))))=true:=by
  by_cases h:(List.length s:Int)>=2
  ·rw[show decide (0<=(2:Int)/\(2:Int)<=(List.length s:Int))=true from decide_eq_true ⟨by decide,h⟩,Bool.or_true]
  ·rw[show decide ((List.length s:Int)>=2)=false from decide_eq_false h];rfl
 rw[if_pos e]
 exact⟨_,rfl⟩
theorem J7(n:Nat)(s:BS)(hn:200000<=n):∃b,pg n s=some b:=by
 have hl:∀l:List BS,l.length<=1000->∃r,iH n s l n 0=some r:=fun l hl=>by
  have h:=oP (L:=iH n s l) l.length (fun _=>True) (by omega) (fun k i h=>by
   rw[iH,if_pos (bZ h),if_pos (aO h)]
   split
   ·exact .inl ⟨_,rfl,trivial⟩
   ·exact .inr rfl) (fun k=>⟨.inl (),by rw[iH,bV];rfl,trivial⟩) n 0 (Nat.zero_le _) (by omega)
  exact LG h
 unfold pg
 simp only[aQ]
 refine Oi (hl _ (by decide)) fun r=>?_
 cases r with
 |inl u=>exact mC ⟨_,rfl⟩ ⟨_,rfl⟩
 |inr u=>exact⟨_,rfl⟩
theorem FZ(d:Nat):Grow d 0 (af.mk 3 [] [] []):=⟨RV d,.inl rfl,Nat.le_refl _⟩
theorem BB(d:Nat)(t:Nd):(so8 (d+1) t).av=t.av:=by
 unfold so8
 split
 ·rename_i h;exact h.symm
 ·rfl
theorem Im(n d i c:Nat)(t b3:Nd)(b2:aB)(hT:xw (d+4) t)(hl:t.ak.length=t.aj.length)(hi:i<t.ak.length)(hG:Grow (d+3) c b3)(h3:b3.av=3)(hc:c<=1000)(hd:d<=70)(hn:2000000<=n):∃r,lD n (i:Int) t b2 b3=some r/\Sum.elim (fun o=>Grow (d+3) (c+1) o.2/\o.2.av=3) (fun o=>o.f_E≠0/\o.lH.length<=200) r:=by
 unfold lD
 have hi':i<t.aj.length:=by omega
 have hkey:=KG hT (List.getElem_mem hi)
 rw[if_pos (aO hi),bW hi]
 refine gU (Dl n _) fun r1=>?_
 split
 ·exact⟨_,rfl,nA hG (by omega),h3⟩
 ·rw[if_pos (aO hi)]
  refine gU (J7 n _ (by omega)) fun r2=>?_
  split
  ·rw[if_pos (aO hi)]
   exact⟨_,rfl,(by decide:¬(10:Int)=0),hkey⟩
  ·rw[if_pos (aO hi'),bW hi']
   split
   ·exact⟨_,rfl,nA hG (by omega),h3⟩
   ·rw[if_pos (aO hi')]
    have hK:=Eb hT (List.getElem_mem hi')
    refine bq (Jv n d _ r2 hK.1 hK.2.1 (by have:=(xe hK).1;omega) (by omega) hn) fun r4 g4=>?_
    split
    ·rw[if_pos (aO hi)]
     exact⟨_,rfl,(by decide:¬(10:Int)=0),hkey⟩
    ·rw[if_pos (aO hi),dV _ _ hG.1 (by omega)]
     exact⟨_,rfl,iJ _ hG g4 hc,zZ (.inl h3)⟩
theorem Jm(n d:Nat)(t:Nd)(hT:xw (d+4) t)(hd:d<=70)(hn:2000000<=n):∃r,nO n t=some r/\r.lH.length<=200/\(r.f_E=0->Fit (d+4) r.f_N):=by
 unfold nO
 split
 ·exact⟨_,rfl,by show(0:Nat)<=200;omega,fun h=>absurd h (by decide:¬(10:Int)=0)⟩
 ·rename_i h
  have hk:t.av=3\/t.av=0:=by
   by_cases h0:t.av=0
   ·exact .inr h0
   ·by_cases h3:t.av=3
    ·exact .inl h3
    ·rw[show(t.av != 0)=true by rw[bne_iff_ne];exact h0,show(t.av != 3)=true by rw[bne_iff_ne];exact h3] at h
     exact absurd rfl h
  have hlen:=(fe hT.1 hk).1
  have hks:=(xe hT).1
  have hl:=ji (L:=fun k (b:aB×Nd) i=>dP n t k i b.1 b.2) t.ak.length (fun(i:Nat) (b:aB×Nd)=>Grow (d+3) i b.2/\b.2.av=3) (fun r=>Sum.elim (fun o=>∃c,Grow (d+3) c o.2) (fun o=>o.f_E≠0/\o.lH.length<=200) r) (by omega) (fun k b i h hI=>by
   obtain⟨r,hr,hr2⟩:=Im n d i i t b.2 b.1 hT hlen h hI.1 hI.2 (by omega) hd hn
   cases r with
   |inr q=>exact .inl ⟨.inr q,by show dP n t (k+1) (i:Int) b.1 b.2=_;rw[dP,if_pos (bZ h),hr];rfl,hr2⟩
   |inl q=>exact .inr ⟨q,hr2,by show dP n t (k+1) (i:Int) b.1 b.2=_;rw[dP,if_pos (bZ h),hr];rfl⟩) (fun k b hI=>⟨.inl b,by show dP n t (k+1) _ b.1 b.2=_;rw[dP,bV];rfl,_,hI.1⟩) n 0 (aB.mk (af.mk 0 [] [] []) [] 0,af.mk 3 [] [] []) (Nat.zero_le _) (by omega) ⟨FZ _,rfl⟩
  refine bq hl fun r hr=>?_
  cases r with
  |inr o=>exact⟨_,rfl,hr.2,fun h=>absurd h hr.1⟩
  |inl o =>
   obtain⟨c,hc⟩:=hr
   show ∃q,(dH n o.2).bind _=some q/\_
   rw[kx (d+4) n _ hc.1 (by omega)]
   exact⟨_,rfl,by show(0:Nat)<=200;omega,fun _=>xN _ _ hc.1⟩
theorem Gs(n:Nat)(v7:BS)(v:Bool)(b2 b6:aB)(h1:v7.length<=10000)(h2:b6.lH.length<=10000):∃r,kD n v7 v b2 b6=some r:=by
 unfold kD
 refine mC ?_ ⟨_,rfl⟩
 have e:([46]:Bs).length=1:=rfl
 rw[if_pos (decide_eq_true (by omega)),if_pos (decide_eq_true (by rw[List.length_append];omega))]
 exact⟨_,rfl⟩
def O7(x:Nd):Prop:=x.av=3/\x.ak.length<=16
theorem NP(d:Nat){t:Nd}(h:t.av=3):(so8 (d+1) t).ak.length<=t.ak.length:=by
 unfold so8
 rw[if_pos h]
 exact fB _
theorem FT(n d:Nat)(t:Nd)(hT:xw (d+5) t)(hl:t.ak.length=t.aj.length)(hd:d<=70)(hn:2000000<=n):∃r,cu n t n 0 (aB.mk (af.mk 0 [] [] []) [] 0) (af.mk 3 [] [] [])=some r/\Sum.elim (fun o=>∃c,Grow (d+4) c o.2/\o.2.av=3) (fun o=>o.f_E≠0) r:=by
 have hks:=(xe hT).1
 have hl:=ji (L:=fun k (b:aB×Nd) i=>cu n t k i b.1 b.2) t.ak.length (fun(i:Nat) (b:aB×Nd)=>Grow (d+4) i b.2/\b.2.av=3) (fun r=>Sum.elim (fun o=>∃c,Grow (d+4) c o.2/\o.2.av=3) (fun o=>o.f_E≠0) r) (by omega) (fun k b i h hI=>by
  have hi':i<t.aj.length:=by omega
  have hkey:=KG hT (List.getElem_mem h)
  have e9:(decide (((List.length (uC:Bs)+List.length (t.ak[i]'h):Nat):Int)<=9223372036854775807))=true:=by
   refine decide_eq_true ?_
   have e:(uC:Bs).length=9:=rfl
   omega
  obtain⟨r1,h1,_⟩:=oC n (t.ak[i]'h) (by omega)
  cases r1 with
  |false =>
   left
   have hj:∃o,kE n ((uC:Bs)++(t.ak[i]'h)) ((t.ak[i]'h)==[]) b.1=some o:=by
    unfold kE
    exact mC ⟨_,rfl⟩ ⟨_,rfl⟩
   obtain⟨o,ho⟩:=hj
   refine⟨.inr (aB.mk (af.mk 0 [] [] []) o 10),?_,(by decide:¬(10:Int)=0)⟩
   show cu n t (k+1) (i:Int) b.1 b.2=_
   rw[cu,if_pos (bZ h),if_pos (aO h),bW h,h1,Option.bind_some,if_pos (by rfl),if_pos (aO h),if_pos e9,if_pos (aO h),ho];rfl
  |true =>
   obtain⟨r6,h6,g6,g7⟩:=Jm n d _ (Eb hT (List.getElem_mem hi')) hd hn
   by_cases he:r6.f_E=0
   ·right
    refine⟨(b.1,gp b.2 (t.ak[i]'h) r6.f_N),⟨iJ _ hI.1 (g7 he) (by omega),zZ (.inl hI.2)⟩,?_⟩
    show cu n t (k+1) (i:Int) b.1 b.2=_
    rw[cu,if_pos (bZ h),if_pos (aO h),bW h,h1,Option.bind_some,if_neg (by decide),if_pos (aO hi'),bW hi',h6,Option.bind_some,if_neg (by simp[he]),if_pos (aO h),dV _ _ hI.1.1 (by omega)];rfl
   ·left
    obtain⟨o,ho⟩:=Gs n ((uC:Bs)++(t.ak[i]'h)) (!(r6.lH==[])) b.1 r6 (by
     have e:(uC:Bs).length=9:=rfl
     rw[List.length_append];omega) (by omega)
    refine⟨.inr (aB.mk (af.mk 0 [] [] []) o r6.f_E),?_,he⟩
    show cu n t (k+1) (i:Int) b.1 b.2=_
    rw[cu,if_pos (bZ h),if_pos (aO h),bW h,h1,Option.bind_some,if_neg (by decide),if_pos (aO hi'),bW hi',h6,Option.bind_some,if_pos (by rw[bne_iff_ne];exact he),if_pos (aO h),if_pos e9,ho];rfl) (fun k b hI=>⟨.inl b,by show cu n t (k+1) _ b.1 b.2=_;rw[cu,bV];rfl,_,hI⟩) n 0 (aB.mk (af.mk 0 [] [] []) [] 0,af.mk 3 [] [] []) (Nat.zero_le _) (by omega) ⟨FZ _,rfl⟩
 exact hl
theorem Iu(n d:Nat)(t:Nd)(hT:xw (d+5) t)(hd:d<=70)(hn:2000000<=n):∃r,mZ n t=some r/\(r.f_E=0->Fit (d+5) r.f_N/\O7 r.f_N):=by
 unfold mZ
 split
 ·exact⟨_,rfl,fun h=>absurd h (by decide:¬(10:Int)=0)⟩
 ·rename_i h
  have h3:t.av=3:=by simpa using h
  refine bq (FT n d t hT (fe hT.1 (.inl h3)).1 hd hn) fun r hr=>?_
  cases r with
  |inr o=>exact⟨_,rfl,fun h=>absurd h hr⟩
  |inl o =>
   obtain⟨c,hc,hc3⟩:=hr
   show ∃q,(if(decide ((List.length o.2.ak:Int)>16))=true then _ else _)=some q/\_
   split
   ·exact⟨_,rfl,fun h=>absurd h (by decide:¬(9:Int)=0)⟩
   ·rename_i h16
    have h16':∀{a:Nat},¬decide ((a:Int)>16)=true->a<=16:=fun {a} h=>by
     have h:(a:Int)<=16:=by simpa using h
     omega
    rw[kx (d+5) n _ hc.1 (by omega)]
    exact⟨_,rfl,fun _=>⟨xN _ _ hc.1,(BB _ _).trans hc3,Nat.le_trans (NP _ hc3) (h16' h16)⟩⟩
def u7(t:Nd):Prop:=∀x,fE t svc=some x->O7 x
theorem TT{d:Nat}{t:Nd}(hF:Fit (d+2) t)(h3:t.av=3)(hV:u7 t):u7 (so8 (d+2) t):=fun x hx=>by
 have e:=Ua svc hF
 unfold OJ at e
 rw[if_neg (by rw[BB];omega),if_neg (by omega)] at e
 rw[e] at hx
 cases hg:fE t svc with
 |none=>rw[hg] at hx;cases hx
 |some y =>
  rw[hg] at hx
  cases hx
  exact⟨(BB _ _).trans (hV y hg).1,Nat.le_trans (NP _ (hV y hg).1) (hV y hg).2⟩
theorem MY(n d i c:Nat)(t b3:Nd)(b2:aB)(hT:xw (d+6) t)(hl:t.ak.length=t.aj.length)(hi:i<t.ak.length)(hG:Grow (d+5) c b3)(h3:b3.av=3)(hV:u7 b3)(hc:c<=1000)(hd:d<=70)(hn:2000000<=n):∃r,ot n (i:Int) t b2 b3=some r/\Sum.elim (fun o=>Grow (d+5) (c+1) o.2/\o.2.av=3/\u7 o.2) (fun o=>o.f_E≠0) r:=by
 unfold ot
 have hi':i<t.aj.length:=by omega
 rw[if_pos (aO hi),if_pos (aO hi'),bW hi,bW hi']
 refine gU (Dl n _) fun r1=>?_
 split
 ·exact⟨_,rfl,nA hG (by omega),h3,hV⟩
 ·simp only[aQ]
  split
  ·exact⟨_,rfl,(by decide:¬(10:Int)=0)⟩
  ·split
   ·exact⟨_,rfl,nA hG (by omega),h3,hV⟩
   ·have hK:=Eb hT (List.getElem_mem hi')
    have hj:∀s v,∃o,ou n (i:Int) s v t b2 b3 (t.aj[i]'hi')=some o/\Sum.elim (fun o=>Fit (d+5) o.2/\(v=true->O7 o.2)) (fun o=>o.f_E≠0) o:=fun s v=>by
     unfold ou
     split
     ·refine bq (Iu n d _ hK hd hn) fun r3 g3=>?_
      split
      ·rename_i h;exact⟨_,rfl,by rw[bne_iff_ne] at h;exact h⟩
      ·rename_i h;exact⟨_,rfl,(g3 (by simpa using h)).1,fun _=>(g3 (by simpa using h)).2⟩
     ·rename_i hv
      split
      ·refine gU (mC (LX n _ (by omega)) ⟨_,rfl⟩) fun r4=>?_
       split
       ·exact⟨_,rfl,(by decide:¬(10:Int)=0)⟩
       ·exact⟨_,rfl,hK.1,fun h=>absurd h hv⟩
      ·refine bq (Jb n (d+5) _ hK.1 (by omega)) fun r5 g5=>?_
       split
       ·exact⟨_,rfl,(by decide:¬(10:Int)=0)⟩
       ·exact⟨_,rfl,jv g5 _ (by omega),fun h=>absurd h hv⟩
    refine bq (hj _ _) fun o3 g3=>?_
    cases o3 with
    |inr o=>exact⟨_,rfl,g3⟩
    |inl o =>
     show ∃q,(dK n b3 _ o.2).bind _=some q/\_
     rw[dV _ _ hG.1 (by omega)]
     refine⟨_,rfl,iJ _ hG g3.1 hc,zZ (.inl h3),fun x hx=>?_⟩
     by_cases hk:(t.ak[i]'hi)=svc
     ·have hx:fE (gp b3 (t.ak[i]'hi) o.2) svc=some x:=hx
      rw[hk,Le hG.1 (.inl h3)] at hx
      cases hx
      exact g3.2 (by rw[hk];rfl)
     ·exact hV x ((L8 (fun e=>hk e.symm) hG.1 (.inl h3)).symm.trans hx)
theorem OE(n d:Nat)(t:Nd)(hT:xw (d+6) t)(hd:d<=70)(hn:2000000<=n):∃r,sW n t=some r/\(r.f_E=0->Fit 12 r.f_N/\r.f_N.av=3/\sz8 12 r.f_N<=2000/\u7 r.f_N):=by
 unfold sW
 split
 ·exact⟨_,rfl,fun h=>absurd h (by decide:¬(10:Int)=0)⟩
 ·rename_i h
  have hk:t.av=3\/t.av=0:=by
   by_cases h0:t.av=0
   ·exact .inr h0
   ·by_cases h3:t.av=3
    ·exact .inl h3
    ·rw[show(t.av != 0)=true by rw[bne_iff_ne];exact h0,show(t.av != 3)=true by rw[bne_iff_ne];exact h3] at h
     exact absurd rfl h
  have hlen:=(fe hT.1 hk).1
  have hks:=(xe hT).1
  have hl:=ji (L:=fun k (b:aB×Nd) i=>gB n t k i b.1 b.2) t.ak.length (fun(i:Nat) (b:aB×Nd)=>Grow (d+5) i b.2/\b.2.av=3/\u7 b.2) (fun r=>Sum.elim (fun o=>∃c,Grow (d+5) c o.2/\o.2.av=3/\u7 o.2) (fun o=>o.f_E≠0) r) (by omega) (fun k b i h hI=>by
   obtain⟨r,hr,hr2⟩:=MY n d i i t b.2 b.1 hT hlen h hI.1 hI.2.1 hI.2.2 (by omega) hd hn
   cases r with
   |inr q=>exact .inl ⟨.inr q,by show gB n t (k+1) (i:Int) b.1 b.2=_;rw[gB,if_pos (bZ h),hr];rfl,hr2⟩
   |inl q=>exact .inr ⟨q,hr2,by show gB n t (k+1) (i:Int) b.1 b.2=_;rw[gB,if_pos (bZ h),hr];rfl⟩) (fun k b hI=>⟨.inl b,by show gB n t (k+1) _ b.1 b.2=_;rw[gB,bV];rfl,_,hI⟩) n 0 (aB.mk (af.mk 0 [] [] []) [] 0,af.mk 3 [] [] []) (Nat.zero_le _) (by omega) ⟨FZ _,rfl,fun x hx=>by cases hx⟩
  refine bq hl fun r hr=>?_
  cases r with
  |inr o=>exact⟨_,rfl,fun h=>absurd h hr⟩
  |inl o =>
   obtain⟨c,hc,h3,hV⟩:=hr
   show ∃q,(dH n o.2).bind _=some q/\_
   rw[kx (d+6) n _ hc.1 (by omega),Option.bind_some]
   obtain⟨b,hb,hb2⟩:=Q6 n (so8 (d+6) o.2) (by omega)
   rw[hb,Option.bind_some]
   cases b with
   |false=>exact⟨_,rfl,fun h=>absurd h (by decide:¬(9:Int)=0)⟩
   |true=>exact⟨_,rfl,fun _=>⟨(hb2 rfl).1,by show(so8 (d+6) o.2).av=3;rw[BB];exact h3,(hb2 rfl).2,TT hc.1 h3 hV⟩⟩
end Go.Proofs.YtpmmhhmhckpnfaaGreat.M
namespace Go.Proofs.YtpmmhhmhckpnfaaGreat.M
open Go Go.Proofs.YtpmmhhmhckpnfaaGreat.RX Go.Proofs.YtpmmhhmhckpnfaaGreat.PL
set_option maxRecDepth 100000
abbrev prf:BS:=sG
def pr8(x:Nd):List BS:=(xG (fE x prf)).1.ak
def on8(p:List BS)(x:Nd):Bool:=decide (pr8 x=[])||(pr8 x).any (fun k=>decide (k∈p))
theorem Bh{d:Nat}{x:Nd}(hF:Fit d x):(pr8 x).length<=2000:=by
 unfold pr8
 cases hg:fE x prf with
 |none=>show(0:Nat)<=2000;omega
 |some y =>
  obtain⟨e,_,he⟩:=TJ hF hg
  exact(gi he).1
theorem ru{d n:Nat}{x:Nd}(hF:Fit d x)(hn:200000<=n):kz n x=some (pr8 x):=by
 unfold kz
 rw[Du _ hF (by omega)];rfl
theorem Ao{α:Type}(q:α->Bool):∀(l:List α)(i:Nat),decide (((vC (fun(i:Nat) y=>if q y=true then some (i:Int) else none) i l).getD (-1))>=0)=l.any q
 |[],i=>rfl
 |y::l,i=>by
  rw[vC,List.any_cons]
  cases h:q y with
  |true=>show decide ((i:Int)>=0)=(true||l.any q);simp
  |false=>exact Ao q l (i+1)
theorem NM(o:Option Int):(Sum.elim (fun _=>some (-1:Int)) (fun(r:Int)=>some r)) (Aw o)=some (o.getD (-1)):=by cases o<;>rfl
theorem contains_eq(n:Nat)(l:List BS)(s:BS)(hl:l.length<100000)(hn:200000<=n):dJ n l s=some (decide (s∈l)):=by
 unfold dJ dW
 have:=JL (L:=bC n l s (List.length l:Int)) l (fun(i:Nat) x=>if(s==x)=true then some (i:Int) else none) 0 (by omega)
  (fun k i h _=>by
   rw[bC,if_pos (bZ h),if_pos (aO h),bW h]
   cases s==l[i]<;>rfl)
  (fun k=>by rw[bC,bV];rfl) n 0 (by omega) (by omega) (by omega)
 have this:bC n l s (List.length l:Int) n 0=_:=this
 rw[this,List.drop_zero,Option.bind_some,NM,Option.bind_some,Ao]
 congr 1
 rw[Bool.eq_iff_iff,List.any_eq_true,decide_eq_true_eq]
 exact⟨fun⟨x,h1,h2⟩=>by rw[beq_iff_eq.1 h2];exact h1,fun h=>⟨s,h,by simp⟩⟩
theorem SN(n:Nat)(v p:List BS)(hv:v.length<=2000)(hp:p.length<100000)(hn:200000<=n):bX n v p=some (v.any fun k=>decide (k∈p)):=by
 unfold bX dC
 have:=JL (L:=bn n v p (List.length v:Int)) v (fun(i:Nat) x=>if(decide (x∈p))=true then some (i:Int) else none) 0 (by omega)
  (fun k i h _=>by
   rw[bn,if_pos (bZ h),if_pos (aO h),bW h,sV,contains_eq n p _ hp hn]
   show(if decide (v[i]∈p)=true then _ else _)=_
   cases decide (v[i]∈p)<;>rfl)
  (fun k=>by rw[bn,bV];rfl) n 0 (by omega) (by omega) (by omega)
 have this:bn n v p (List.length v:Int) n 0=_:=this
 rw[this,List.drop_zero,Option.bind_some,NM,Option.bind_some,Ao (fun x=>decide (x∈p))]
theorem U6(l:List BS):((List.length l:Int)==0)=decide (l=[]):=by cases l<;>simp<;>omega
theorem yS{d n:Nat}{x:Nd}(p:List BS)(hF:Fit d x)(hp:p.length<100000)(hn:200000<=n):uj n x p=some (on8 p x):=by
 unfold uj on8
 rw[ru hF hn,Option.bind_some,U6]
 by_cases h:pr8 x=[]
 ·rw[decide_eq_true h];rfl
 ·rw[decide_eq_false h,if_pos (by rfl),SN n _ p (Bh hF) hp hn];rfl
def ff(N:Nd):Prop:=Fit 12 N/\N.av=3/\sz8 12 N<=2000/\u7 N
def sv8(N:Nd):Nd:=(xG (fE N svc)).1
theorem j6{N:Nd}(h:ff N):Fit 11 (sv8 N)/\(sv8 N).ak.length=(sv8 N).aj.length/\(sv8 N).ak.Nodup/\(sv8 N).ak.length<=16/\(sv8 N=Z8\/(sv8 N).av=3/\fE N svc=some (sv8 N)):=by
 obtain⟨h1,h2,h3,h4⟩:=h
 unfold sv8
 cases hg:fE N svc with
 |none=>exact⟨jv ju _ (by omega),rfl,.nil,by show(0:Nat)<=16;omega,.inl rfl⟩
 |some x =>
  have hx:Fit 11 x:=by
   unfold fE at hg
   rw[if_pos h2] at hg
   exact jS h1 (wj hg)
  obtain⟨k1,k2⟩:=h4 x hg
  obtain⟨l1,l2,_⟩:=fe hx (.inl k1)
  exact⟨hx,l1,l2,k2,.inr ⟨k1,rfl⟩⟩
def ps8(N:Nd):List (BS×Nd):=(sv8 N).ak.zip (sv8 N).aj
theorem sq{N:Nd}(h:ff N):(ps8 N).length=(sv8 N).ak.length/\(ps8 N).length=(sv8 N).aj.length/\(ps8 N).length<=16:=by
 obtain⟨_,h1,_,h3,_⟩:=j6 h
 unfold ps8
 rw[List.length_zip];omega
theorem AV{N:Nd}(h:ff N):(ps8 N).map (·.1)=(sv8 N).ak:=by
 unfold ps8
 exact List.map_fst_zip (Nat.le_of_eq (j6 h).2.1)
theorem Uf{N:Nd}(h:ff N):(ps8 N).map (·.2)=(sv8 N).aj:=by
 unfold ps8
 exact List.map_snd_zip (Nat.le_of_eq (j6 h).2.1.symm)
theorem xO{N:Nd}(h:ff N):∀q∈ps8 N,Fit 10 q.2:=fun q hq=>jS (j6 h).1 (List.of_mem_zip (show(q.1,q.2)∈_ from hq)).2
theorem yO{N:Nd}(n:Nat)(h:ff N)(hn:200000<=n):mg n N=some (ps8 N):=by
 unfold mg
 obtain⟨f1,f2,f3,f4,f5⟩:=j6 h
 rw[Du _ h.1 (by omega),Option.bind_some]
 show(if decide ((sv8 N).ak.length<=limit)=true then some (uo (sv8 N)) else none)=_
 rw[if_pos (decide_eq_true (by show _<=140737488355328;omega))]
 unfold uo
 split
 ·rfl
 ·rename_i hk
  rcases f5 with f5|f5
  ·unfold ps8;rw[f5];rfl
  ·exact absurd f5.1 hk
def acts(p:List BS)(N:Nd):List (BS×Nd):=(ps8 N).filter fun q=>on8 p q.2
def qx(p:List BS)(N:Nd):List (BS×Nd):=(ps8 N).filter fun q=>!on8 p q.2
def mkA(l:List (BS×Nd)):Nd:=af.mk 3 [] (l.map (·.1)) (l.map fun q=>jj q.2 prf)
def wO(p:List BS)(s:List BS×Nd)(q:BS×Nd):List BS×Nd:=if on8 p q.2=true then(s.1,gp s.2 q.1 (jj q.2 prf)) else(s.1++[q.1],s.2)
theorem NF{p:List BS}{s:List BS×Nd}{q:BS×Nd}(h:on8 p q.2=true):wO p s q=(s.1,gp s.2 q.1 (jj q.2 prf)):=by unfold wO;rw[if_pos h]
theorem NH{p:List BS}{s:List BS×Nd}{q:BS×Nd}(h:on8 p q.2=false):wO p s q=(s.1++[q.1],s.2):=by unfold wO;rw[h];rfl
theorem Re(l:List (BS×Nd))(q:BS×Nd)(h:q.1∉l.map (·.1)):gp (mkA l) q.1 (jj q.2 prf)=mkA (l++[q]):=by
 unfold gp
 rw[if_pos (.inl rfl)]
 have hl:(mkA l).ak.length=(mkA l).aj.length:=by show(l.map _).length=(l.map _).length;simp
 have h':q.1∉(mkA l).ak:=h
 rw[(jZ (v:=jj q.2 prf) hl h).1,if_neg h',if_neg h']
 unfold mkA
 simp
theorem DR(p:List BS):∀(l:List (BS×Nd))(a:List BS)(m:List (BS×Nd)),((m++l).map (·.1)).Nodup->l.foldl (wO p) (a,mkA m)=(a++(l.filter fun q=>!on8 p q.2).map (·.1),mkA (m++l.filter fun q=>on8 p q.2))
 |[],a,m,_=>by simp
 |q::l,a,m,h=>by
  rw[List.foldl_cons]
  have hs:((m++l).map (·.1)).Nodup:=h.sublist (by
   rw[List.map_append,List.map_append,List.map_cons]
   exact List.Sublist.append (List.Sublist.refl _) (List.sublist_cons_self _ _))
  cases ho:on8 p q.2 with
  |true =>
   have hq:q.1∉m.map (·.1):=by
    rw[List.map_append,List.map_cons,List.nodup_append] at h
    intro hq
    exact h.2.2 _ hq _ List.mem_cons_self rfl
   rw[NF ho,Re m q hq,DR p l a (m++[q]) (by rw[List.append_assoc];exact h)]
   simp[ho]
  |false =>
   rw[NH ho,DR p l (a++[q.1]) m hs]
   simp[ho]
def dS(p:List BS)(N:Nd):Nd×List BS:=(if ps8 N=[] then N else gp N svc (mkA (acts p N)),srt ((qx p N).map (·.1)))
theorem Tt{N:Nd}(p:List BS)(h:ff N):(ps8 N).foldl (wO p) ([],mkA [])=((qx p N).map (·.1),mkA (acts p N)):=by
 have:=DR p (ps8 N) [] [] (by rw[List.nil_append,AV h];exact(j6 h).2.2.1)
 rw[this];rfl
theorem SQ{d:Nat}(l:List (BS×Nd))(hl:l.length<=1000)(hd:(l.map (·.1)).Nodup)(hf:∀q∈l,Fit d q.2):Fit (d+1) (mkA l):=by
 refine⟨by show(l.map _).length<=2000;rw[List.length_map];omega,by show(l.map _).length<=2000;rw[List.length_map];omega,fun _=>rfl,fun h=>absurd rfl h,fun _=>⟨by show(l.map _).length=(l.map _).length;simp,hd⟩,fun h=>absurd (show(3:Int)<2 from h) (by decide),⟨show(0:Int)<=3 by decide,show(3:Int)<=3 by decide⟩,fun x hx=>?_⟩
 obtain⟨q,hq,rfl⟩:=List.mem_map.1 hx
 exact D1 prf (hf q hq)
theorem qw(n:Nat)(p:List BS)(N z:Nd)(hp:p.length<100000)(hn:200000<=n):∀(l:List (BS×Nd))(a:List BS)(m:Nd)(b:Bool)(c:Nat),(∀q∈l,Fit 10 q.2)->Grow 10 c m->c+l.length<=100->a.length+l.length<=1000 ->
  gI n N p z l a m b=some ((l.foldl (wO p) (a,m)).1,(l.foldl (wO p) (a,m)).2,(b||!l.isEmpty))
 |[],a,m,b,c,_,_,_,_=>by rw[gI];simp
 |q::l,a,m,b,c,hF,hG,hc,ha=>by
  have hq:=hF q List.mem_cons_self
  have hF':=fun x hx=>hF x (List.mem_cons_of_mem q hx)
  rw[gI,qm,yS p hq hp hn,Option.bind_some,List.foldl_cons]
  rw[List.length_cons] at hc ha
  cases ho:on8 p q.2 with
  |true =>
   rw[NF ho,if_neg (by decide),K5 _ hq (by omega),Option.bind_some,zB _ _ hG.1 (by omega),Option.bind_some,Option.bind_some]
   rw[qw n p N z hp hn l a _ true (c+1) hF' (iJ _ hG (D1 prf hq) (by omega)) (by omega) (by omega)]
   simp
  |false =>
   rw[NH ho,if_pos (by rfl),if_pos (gX (by simp;omega)),Option.bind_some]
   rw[qw n p N z hp hn l _ m true c hF' hG (by omega) (by simp;omega)]
   simp
theorem pW{N:Nd}(n:Nat)(p:List BS)(h:ff N)(hp:p.length<100000)(hn:200000<=n):kK n N p=some (dS p N):=by
 unfold kK
 obtain⟨l1,l2,l3⟩:=sq h
 rw[yO n h hn,Option.bind_some,show(af.mk 3 [] [] [])=mkA [] from rfl,qw n p N _ hp hn (ps8 N) [] (mkA []) false 0 (xO h) (FZ _) (by omega) (by simp;omega),Option.bind_some,Tt p h]
 have hj:∀z a,lg n (false||!(ps8 N).isEmpty) N z a (mkA (acts p N))=some (if ps8 N=[] then N else gp N svc (mkA (acts p N))):=fun z a=>by
  unfold lg
  cases hps:ps8 N with
  |nil=>rfl
  |cons q l =>
   rw[if_pos (by rfl),if_neg (by simp),zB _ _ h.1 (by omega)];rfl
 show Option.bind (lg n (false||!(ps8 N).isEmpty) N _ ((qx p N).map (·.1)) (mkA (acts p N))) _=_
 rw[hj,Option.bind_some]
 have ho:((qx p N).map (·.1)).length<=16:=by
  rw[List.length_map]
  exact Nat.le_trans (List.length_filter_le _ _) l3
 show Option.bind (kL n ((qx p N).map (·.1))) _=_
 rw[uw n _ (by omega)];rfl
end Go.Proofs.YtpmmhhmhckpnfaaGreat.M
