import Derived.Test.YtpmmhhmhckpnfaaGreatQP23D
set_option linter.all false
namespace Go.Proofs.YtpmmhhmhckpnfaaGreat.M
open Go Go.Proofs.YtpmmhhmhckpnfaaGreat.RX Go.Proofs.YtpmmhhmhckpnfaaGreat.PL
set_option maxRecDepth 100000
theorem Es(n:Nat)(l:List BS)(hl:l.length<100000)(hn:100000<=n):jH n l=some (srt l):=by
 unfold jH
 have:=OZ n l hl hn n 0 (by omega) (by have:=fB l;omega)
 rw[List.take_zero] at this
 rw[this];rfl
theorem Ie(n:Nat)(a b:List BS)(ha:a.length+b.length<90000)(hn:100000<=n):sL n a b=some (srt (a++b)):=by
 unfold sL
 have h1:=(gather (L:=kC n a b) a (fun acc x=>acc++[x]) id (fun i s=>s.length<=i) (by omega)
  (fun k s i h hs=>by rw[kC,if_pos (bZ h),if_pos (aO h),bW h,if_pos (gX (by simp;omega))])
  (fun s i h hs=>by simp;omega) (fun k s _=>by rw[kC,bV];rfl) n 0 [] (by omega) (by omega) (by simp)).1
 have h2:=(gather (L:=kB n b) b (fun acc x=>acc++[x]) id (fun i s=>s.length<=a.length+i) (by omega)
  (fun k s i h hs=>by rw[kB,if_pos (bZ h),if_pos (aO h),bW h,if_pos (gX (by simp;omega))])
  (fun s i h hs=>by simp;omega) (fun k s _=>by rw[kB,bV];rfl) n 0 a (by omega) (by omega) (by simp)).1
 rw[List.drop_zero,AP (fun x=>[x])] at h1 h2
 have hf:∀l:List BS,l.flatMap (fun x=>[x])=l:=fun l=>by induction l<;>simp_all
 rw[hf] at h1 h2
 simp only[id,List.nil_append] at h1 h2
 rw[show(0:Int)=((0:Nat):Int) from rfl,h1,Option.bind_some,h2,Option.bind_some,Es n _ (by simp;omega) hn];rfl
theorem Rf{l m:List BS}{i:Nat}(h1:i<l.length)(h2:i<m.length):(l.drop i=m.drop i)↔l[i]=m[i]/\l.drop (i+1)=m.drop (i+1):=by
 rw[drop_at h1,drop_at h2,List.cons.injEq]
theorem NN{L:Nat->Int->Option (Sum Unit Bool)}(l m:List BS)(hlm:l.length=m.length)(hl:l.length<100000)
  (hs:∀k i (h:i<l.length) (h':i<m.length),L (k+1) (i:Int)=if(!(l[i]==m[i]))=true then some (.inr false) else L k (IntKind.wrap .i64 ((i:Int)+1)))
  (he:∀k,L (k+1) (l.length:Int)=some (.inl ())):∀k i,i<=l.length->l.length-i<k->L k (i:Int)=some (if l.drop i=m.drop i then .inl () else .inr false)
 |0,i,_,h=>by omega
 |k+1,i,h1,h2=>by
  by_cases h:i<l.length
  ·have h':i<m.length:=by omega
   rw[hs k i h h']
   simp only[Rf h h']
   by_cases e:l[i]=m[i]
   ·simp only[e,beq_self_eq_true,Bool.not_true,Bool.false_eq_true,if_false,true_and]
    rw[dO i (by omega)]
    exact NN l m hlm hl hs he k (i+1) (by omega) (by omega)
   ·simp[e]
  ·have:i=l.length:=by omega
   subst this
   rw[he,List.drop_eq_nil_of_le (Nat.le_refl _),List.drop_eq_nil_of_le (by omega),if_pos rfl]
theorem yd(n:Nat)(l m:List BS)(hl:l.length<100000)(hn:200000<=n):kG n l m=some (decide (l=m)):=by
 unfold kG
 by_cases hlm:l.length=m.length
 ·have e:((List.length l:Int) != (List.length m:Int))=false:=by simp[hlm]
  have:=NN (L:=ij n l m) l m hlm hl
   (fun k i h h'=>by rw[ij,if_pos (bZ h),if_pos (aO h),if_pos (aO h'),bW h,bW h'])
   (fun k=>by rw[ij,bV];rfl) n 0 (by omega) (by omega)
  rw[e,if_neg Bool.false_ne_true,show(0:Int)=((0:Nat):Int) from rfl,this,List.drop_zero,List.drop_zero]
  by_cases h:l=m
  ·rw[if_pos h,decide_eq_true h];rfl
  ·rw[if_neg h,decide_eq_false h];rfl
 ·have e:((List.length l:Int) != (List.length m:Int))=true:=by simpa using fun h=>hlm (by omega)
  rw[e,if_pos rfl,decide_eq_false (fun h=>hlm (congrArg List.length h))]
theorem PT(n:Nat)(l:List BS)(m:Nat)(hm:m<=1000)(hn:100000<=n):∃b,nz n l (m:Int)=some b/\(b=true->l.length<=m):=by
 unfold nz
 by_cases h:(l.length:Int)>(m:Int)
 ·exact⟨false,by rw[if_pos (decide_eq_true h)],fun h=>by cases h⟩
 ·rw[if_neg (by simpa using h)]
  have:=yp (L:=ki n l) l (fun x=>if decide ((x.length:Int)>100)=true then some false else none) 0 (by omega)
   (fun k i h _=>by
    rw[ki,if_pos (bZ h),if_pos (aO h),bW h]
    cases decide ((l[i].length:Int)>100)<;>rfl)
   (fun k=>by rw[ki,bV];rfl) n 0 (by omega) (by omega) (by omega)
  have this:ki n l n 0=_:=this
  rw[this]
  generalize List.findSome? _ _=o
  cases o with
  |none=>exact⟨true,rfl,fun _=>by omega⟩
  |some r=>exact⟨r,rfl,fun _=>by omega⟩
theorem Q8(l:List (BS×Nd))(f:BS×Nd->List BS)(m:Nat)(h:∀q∈l,(f q).length<=m):(l.flatMap f).length<=m*l.length:=by
 induction l with
 |nil=>simp
 |cons q l ih =>
  have h1:=h q List.mem_cons_self
  have h2:=ih fun q hq=>h q (List.mem_cons_of_mem _ hq)
  rw[List.flatMap_cons,List.length_append,List.length_cons,Nat.mul_succ];omega
def yw(N:Nd):List BS:=srt ((ps8 N).flatMap fun q=>pr8 q.2)
theorem yc(n:Nat)(hn:200000<=n):∀(l:List (BS×Nd))(a:List BS),(∀q∈l,Fit 10 q.2)->a.length+2000*l.length<=1000000->jo n l a=some (a++l.flatMap fun q=>pr8 q.2)
 |[],a,_,_=>by rw[jo];simp
 |q::l,a,hF,ha=>by
  have hq:=hF q List.mem_cons_self
  have hl:=Bh hq
  rw[List.length_cons] at ha
  rw[jo,ru hq hn,Option.bind_some,if_pos (gX (by omega)),yc n hn l _ (fun x hx=>hF x (List.mem_cons_of_mem q hx)) (by rw[List.length_append];omega),List.flatMap_cons,List.append_assoc]
theorem Bq{N:Nd}(h:ff N)(f:BS×Nd->List BS)(hf:∀q∈ps8 N,(f q).length<=2000):((ps8 N).flatMap f).length<=32000:=by
 have:=Q8 (ps8 N) f 2000 hf
 have:=(sq h).2.2
 omega
theorem Ox{N:Nd}(h:ff N):∀q∈ps8 N,(pr8 q.2).length<=2000:=fun q hq=>Bh (xO h q hq)
theorem Di{N:Nd}(n:Nat)(h:ff N)(hn:200000<=n):rE n N=some (yw N):=by
 unfold rE
 have hl:=(sq h).2.2
 have hf:=Bq h (fun q=>pr8 q.2) (Ox h)
 rw[yO n h hn,Option.bind_some,yc n hn (ps8 N) [] (xO h) (by simp;omega),List.nil_append,Option.bind_some,uw n _ (by omega)];rfl
def wth(ns p:List BS)(q:BS×Nd):List BS:=if decide (q.1∈ns)=true/\on8 p q.2=false then pr8 q.2 else []
def xP(ns p:List BS)(N:Nd):List BS:=srt (p++(ps8 N).flatMap (wth ns p))
theorem Np{N:Nd}(h:ff N)(ns p:List BS):∀q∈ps8 N,(wth ns p q).length<=2000:=fun q hq=>by
 have:=Ox h q hq
 unfold wth
 split
 ·exact this
 ·simp
theorem oK(n:Nat)(ns p:List BS)(hns:ns.length<100000)(hp:p.length<100000)(hn:200000<=n):∀(l:List (BS×Nd))(a:List BS),(∀q∈l,Fit 10 q.2)->a.length+2000*l.length<=1000000->iL n ns p l a=some (a++l.flatMap (wth ns p))
 |[],a,_,_=>by rw[iL];simp
 |q::l,a,hF,ha=>by
  have hq:=hF q List.mem_cons_self
  have hl:=Bh hq
  have hF':=fun x hx=>hF x (List.mem_cons_of_mem q hx)
  rw[List.length_cons] at ha
  rw[iL,tV,contains_eq n ns _ hns hn,Option.bind_some,List.flatMap_cons]
  unfold wth
  cases hc:decide (q.1∈ns) with
  |false =>
   rw[if_neg (by decide),Option.bind_some,if_neg (by decide),Option.bind_some,oK n ns p hns hp hn l a hF' (by omega),if_neg (by simp)];rfl
  |true =>
   rw[if_pos (by rfl),yS p hq hp hn,Option.bind_some]
   cases ho:on8 p q.2 with
   |true =>
    rw[if_neg (by decide),Option.bind_some,oK n ns p hns hp hn l a hF' (by omega),if_neg (by simp)];rfl
   |false =>
    rw[if_pos (by rfl),ru hq hn,Option.bind_some,if_pos (gX (by omega)),Option.bind_some,oK n ns p hns hp hn l _ hF' (by rw[List.length_append];omega),if_pos ⟨rfl,rfl⟩,List.append_assoc];rfl
theorem K6{N:Nd}(n:Nat)(ns p:List BS)(h:ff N)(hns:ns.length<10000)(hp:p.length<10000)(hn:200000<=n):rP n N ns p=some (xP ns p N):=by
 unfold rP dn
 have hl:=(sq h).2.2
 have hf:=Bq h (wth ns p) (Np h ns p)
 rw[if_pos (gX (by simp;omega)),Option.bind_some,yO n h hn,Option.bind_some,List.nil_append,oK n ns p (by omega) (by omega) hn (ps8 N) p (xO h) (by omega),Option.bind_some,uw n _ (by rw[List.length_append];omega)];rfl
def OS(N:Nd)(s:BS)(p:List BS):Bool:=match look s (sv8 N).ak (sv8 N).aj with|some x=>on8 p x|none=>false
theorem y5(n:Nat)(s:BS)(p:List BS)(hp:p.length<100000)(hn:200000<=n)(b:Bool):∀(ks:List BS)(xs:List Nd),ks.length=xs.length->(∀x∈xs,Fit 10 x)->(iV n s p (ks.zip xs) b).bind (fun o=>Sum.elim (fun _=>some false) (fun r=>some r) o)=some (match look s ks xs with|some x=>on8 p x|none=>false)
 |[],[],_,_=>rfl
 |[],_::_,h,_=>by cases h
 |_::_,[],h,_=>by cases h
 |k::ks,x::xs,h,hF=>by
  show(iV n s p ((k,x)::ks.zip xs) b).bind _=_
  rw[iV]
  unfold look
  by_cases hk:k=s
  ·rw[if_pos (by simp[hk]),yS p (hF x List.mem_cons_self) hp hn,Option.bind_some,if_pos hk];rfl
  ·rw[if_neg (by simp[hk]),if_neg hk]
   exact y5 n s p hp hn b ks xs (by simpa using h) fun y hy=>hF y (List.mem_cons_of_mem _ hy)
theorem FY{N:Nd}(n:Nat)(s:BS)(p:List BS)(h:ff N)(hp:p.length<100000)(hn:200000<=n):vN n N s p=some (OS N s p):=by
 unfold vN
 rw[yO n h hn,Option.bind_some]
 exact y5 n s p hp hn false _ _ (j6 h).2.1 fun x hx=>jS (j6 h).1 hx
theorem PI{N:Nd}(h:ff N)(s:BS):fE (sv8 N) s=look s (sv8 N).ak (sv8 N).aj:=by
 rcases(j6 h).2.2.2.2 with e|e
 ·rw[e];rfl
 ·unfold fE;rw[if_pos e.1]
theorem Kq{s:BS}{x:Nd}:∀{ks:List BS}{xs:List Nd},look s ks xs=some x->s∈ks
 |[],_,h=>by cases h
 |_::_,[],h=>by cases h
 |k::ks,y::xs,h=>by
  unfold look at h
  split at h
  ·rename_i e;rw[e];exact List.mem_cons_self
  ·exact List.mem_cons_of_mem _ (Kq h)
theorem Dy{t v:Nd}{s:BS}(h3:t.av=3)(hs:s∈t.ak):gp t s v=af.mk 3 [] t.ak (iZ s v t.ak t.aj):=by
 unfold gp
 rw[if_pos (.inl h3),if_pos hs,if_pos hs,List.append_nil,List.append_nil]
theorem LJ{d:Nat}{t v:Nd}{s:BS}(h3:t.av=3)(hs:s∈t.ak)(hF:Fit (d+1) t)(hv:Fit d v):Fit (d+1) (gp t s v):=by
 rw[Dy h3 hs]
 obtain⟨l1,l2,l3⟩:=fe hF (.inl h3)
 have hk:=gi hF
 have hr:=ua (s:=s) (v:=v) l1
 exact⟨by show(iZ s v t.ak t.aj).length<=2000;omega,hk.1,fun _=>rfl,fun h=>absurd rfl h,fun _=>⟨by show t.ak.length=(iZ s v t.ak t.aj).length;omega,l2⟩,fun h=>absurd (show(3:Int)<2 from h) (by decide),⟨show(0:Int)<=3 by decide,show(3:Int)<=3 by decide⟩,fun x hx=>by
  rcases ET hx with rfl|hx
  ·exact hv
  ·exact jS hF hx⟩
theorem wz(p:List BS)(N:Nd):(acts p N).Sublist (ps8 N):=List.filter_sublist
theorem Ae{N:Nd}(h:ff N)(p:List BS):Fit 11 (mkA (acts p N)):=by
 refine SQ _ ?_ ?_ ?_
 ·have:=(wz p N).length_le
  have:=(sq h).2.2;omega
 ·refine List.Nodup.sublist ((wz p N).map _) ?_
  rw[AV h];exact(j6 h).2.2.1
 ·exact fun q hq=>xO h q ((wz p N).subset hq)
theorem Nh{N:Nd}(h:ff N)(hp:ps8 N≠[]):svc∈N.ak/\fE N svc=some (sv8 N):=by
 rcases(j6 h).2.2.2.2 with e|e
 ·exact absurd (by unfold ps8;rw[e];rfl) hp
 ·refine⟨?_,e.2⟩
  have:=e.2
  unfold fE at this
  rw[if_pos h.2.1] at this
  exact Kq this
theorem yq{N:Nd}(h:ff N)(p:List BS):Fit 12 (dS p N).1:=by
 unfold dS
 show Fit 12 (if ps8 N=[] then N else gp N svc (mkA (acts p N)))
 split
 ·exact h.1
 ·rename_i hp
  exact LJ h.2.1 (Nh h hp).1 h.1 (Ae h p)
end Go.Proofs.YtpmmhhmhckpnfaaGreat.M
namespace Go.Proofs.YtpmmhhmhckpnfaaGreat.M
open Go Go.Proofs.YtpmmhhmhckpnfaaGreat.RX Go.Proofs.YtpmmhhmhckpnfaaGreat.PL
set_option maxRecDepth 100000
theorem Nq{x:BS}:∀{l:List BS},x∉l->(ins x l).length=l.length+1
 |[],_=>rfl
 |y::l,h=>by
  unfold ins
  split
  ·simp
  ·split
   ·rename_i e;subst e;exact(h List.mem_cons_self).elim
   ·rw[List.length_cons,Nq fun hm=>h (List.mem_cons_of_mem _ hm),List.length_cons]
theorem IB:∀{l:List BS},l.Nodup->(srt l).length=l.length
 |[],_=>rfl
 |x::l,h=>by
  obtain⟨h1,h2⟩:=List.nodup_cons.1 h
  show(ins x (srt l)).length=_
  rw[Nq (fun hm=>h1 (iz.1 hm)),IB h2,List.length_cons]
theorem P6{d:Nat}:∀m:List Nd,m.length<=(m.map (sz8 d)).sum
 |[]=>by simp
 |x::m=>by rw[List.map_cons,List.sum_cons,List.length_cons];have:=yh d x;have:=P6 (d:=d) m;omega
theorem zi(R:Nd->Int->Int->Option Int)(n d:Nat)(dep:Int)(t:Nd)(hdep:0<=dep/\dep<100)
  (hR:∀x∈t.aj,∀l:Nat,l<=2000->sz8 d x<=l->R x (dep+1) (l:Int)=some ((l-sz8 d x:Nat):Int)) :
  ∀(k l i:Nat),l+1<k->i<=t.aj.length->i+l<=2000->((t.aj.drop i).map (sz8 d)).sum<=l ->
   cH R n dep t k (l:Int) (i:Int)=some (.inl ((l-((t.aj.drop i).map (sz8 d)).sum:Nat):Int))
 |0,l,i,h,_,_,_=>by omega
 |k+1,l,i,hk,hi,hil,hs=>by
  by_cases h:i<t.aj.length
  ·have e1:IntKind.wrap .i64 (dep+1)=dep+1:=fC _ (by omega) (by omega)
   rw[drop_at h,List.map_cons,List.sum_cons] at hs
   have hp:=yh d t.aj[i]
   have h1:=hR t.aj[i] (List.getElem_mem h) l (by omega) (by omega)
   rw[cH,if_pos (bZ h),if_pos (aO h),bW h,e1,h1,Option.bind_some,if_neg (by simp),dO i (by omega),zi R n d dep t hdep hR k (l-sz8 d t.aj[i]) (i+1) (by omega) (by omega) (by omega) (by omega),drop_at h,List.map_cons,List.sum_cons,Nat.sub_sub]
  ·have:i=t.aj.length:=by omega
   subst this
   rw[cH,bV,List.drop_eq_nil_of_le (Nat.le_refl _)];rfl
theorem KL:∀(d n:Nat)(t:Nd)(dep:Int)(l:Nat),dep+(d:Int)=13->0<=dep->l<=2000->100000+d<n->Fit d t->sz8 d t<=l->dD n t dep (l:Int)=some ((l-sz8 d t:Nat):Int)
 |_,0,_,_,_,_,_,_,h,_,_=>by omega
 |0,n+1,t,dep,l,hd,h0,hl,hn,hF,_=>hF.elim
 |d+1,n+1,t,dep,l,hd,h0,hl,hn,hF,hz=>by
  have hK:=fun x hx=>jS hF (x:=x) hx
  obtain⟨a1,a2,a3,a4,a5,a6,a7,a8⟩:=hF
  have hz':1+(t.aj.map (sz8 d)).sum<=l:=hz
  have hkl:=P6 (d:=d) t.aj
  show jD (dD n) n t dep (l:Int)=_
  unfold jD
  have e1:IntKind.wrap .i64 ((l:Int)-1)=(l:Int)-1:=fC _ (by omega) (by omega)
  simp only[aQ,e1,Gw,xY]
  have c1:(decide ((l:Int)-1<0)||decide (dep>12)||decide (t.av<0)||decide (t.av>3))=false:=by
   rw[decide_eq_false (by omega),decide_eq_false (by omega),decide_eq_false (by omega),decide_eq_false (by omega)];rfl
  have t1:(t.av != 1&&decide ((List.length t.aC:Int)>0))=false:=by
   by_cases h:t.av=1
   ·rw[h];rfl
   ·rw[a3 h];simp
  have t2:(t.av != 3&&decide ((List.length t.ak:Int)>0))=false:=by
   by_cases h:t.av=3
   ·rw[h];rfl
   ·rw[a4 h];simp
  have t3:(decide (t.av<2)&&decide ((List.length t.aj:Int)>0))=false:=by
   by_cases h:t.av<2
   ·rw[a6 h];simp
   ·rw[decide_eq_false h];rfl
  rw[c1,if_neg Bool.false_ne_true,t1,t2,t3,if_neg (by decide)]
  obtain⟨l,rfl⟩:∃l',l=l'+1:=⟨l-1,by omega⟩
  have e2:((l+1:Nat):Int)-1=(l:Int):=by omega
  rw[e2]
  have loop:=zi (dD n) n d dep t (by omega) (fun x hx l' hl' hz'=>KL d n x (dep+1) l' (by omega) (by omega) hl' (by omega) (hK x hx) hz') n l 0 (by omega) (Nat.zero_le _) (by omega) (by rw[List.drop_zero];omega)
  have loop:cH (dD n) n dep t n (l:Int) 0=_:=loop
  rw[List.drop_zero] at loop
  have fin:((cH (dD n) n dep t n (l:Int) 0).bind fun o5=>(Sum.elim (fun o5=>some o5) (fun o5=>some o5)) o5)=some ((l+1-sz8 (d+1) t:Nat):Int):=by
   rw[loop]
   show some _=some _
   congr 2
   show l-_=l+1-(1+_)
   omega
  by_cases h3:t.av=3
  ·have e3:(t.av==3)=true:=by rw[h3];rfl
   obtain⟨k1,k2⟩:=a5 h3
   have c3:((List.length t.ak:Int) != (List.length t.aj:Int)||decide ((List.length t.aj:Int)>(l:Int)))=false:=by
    rw[decide_eq_false (by omega),lne,decide_eq_true k1];rfl
   rw[e3,c3]
   have hso:=sS n t.ak (by omega) (by omega)
   simp only[beq_self_eq_true,Bool.and_self,if_true,hso,Option.bind_some,Bool.false_or,Bool.true_and]
   rw[if_neg (by rw[lne,IB k2];simp)]
   exact fin
  ·have e3:(t.av==3)=false:=by rw[beq_eq_false_iff_ne];exact h3
   rw[e3]
   simp only[Bool.false_and,Bool.and_false,Bool.false_eq_true,if_false,Option.bind_some,show(false==true)=false from rfl]
   exact fin
theorem IJ(n:Nat)(t:Nd)(hF:Fit 12 t)(hz:sz8 12 t<=2000)(hn:200000<=n):jY n t=some true:=by
 have h:=KL 12 n t 1 2000 rfl (by decide) (by decide) (by omega) hF hz
 have h:dD n t 1 2000=_:=h
 unfold jY
 rw[h,Option.bind_some,decide_eq_true (by omega)]
theorem NC(f:Nd->Nat){s:BS}:∀{ks:List BS}{xs:List Nd},((fil s ks xs).map f).sum<=(xs.map f).sum
 |[],_=>by unfold fil;simp
 |_::_,[]=>by unfold fil;simp
 |k::ks,x::xs=>by
  have:=NC f (s:=s) (ks:=ks) (xs:=xs)
  unfold fil
  split
  ·rw[List.map_cons,List.sum_cons];omega
  ·rw[List.map_cons,List.sum_cons,List.map_cons,List.sum_cons];omega
theorem Tn(d:Nat)(x:Nd)(s:BS):sz8 d (jj x s)<=sz8 d x:=by
 cases d with
 |zero=>exact Nat.le_refl _
 |succ d =>
  unfold jj
  split
  ·exact Nat.add_le_add_left (NC (sz8 d)) 1
  ·exact Nat.le_refl _
theorem KT(f:Nd->Nat){s:BS}{v x:Nd}(hv:f v<=f x):∀{ks:List BS}{xs:List Nd},ks.Nodup->ks.length=xs.length->look s ks xs=some x->((iZ s v ks xs).map f).sum<=(xs.map f).sum
 |[],_,_,_,h=>by cases h
 |_::_,[],_,_,h=>by cases h
 |k::ks,y::xs,hn,hl,h=>by
  obtain⟨n1,n2⟩:=List.nodup_cons.1 hn
  have hl':ks.length=xs.length:=by simpa using hl
  unfold iZ
  unfold look at h
  rw[List.map_cons,List.sum_cons,List.map_cons,List.sum_cons]
  by_cases hk:k=s
  ·rw[if_pos hk] at h
   cases h
   rw[if_pos hk,(jZ (v:=v) hl' (hk▸n1)).1];omega
  ·rw[if_neg hk] at h
   rw[if_neg hk]
   have:=KT f hv n2 hl' h
   omega
theorem FN{α:Type}(f g:α->Nat)(q:α->Bool)(hfg:∀x,f x<=g x):∀l:List α,((l.filter q).map f).sum<=(l.map g).sum
 |[]=>by simp
 |x::l=>by
  have:=FN f g q hfg l
  have:=hfg x
  rw[List.filter_cons]
  split
  ·rw[List.map_cons,List.sum_cons,List.map_cons,List.sum_cons];omega
  ·rw[List.map_cons,List.sum_cons];omega
theorem UB{N:Nd}(h:ff N)(p:List BS):sz8 11 (mkA (acts p N))<=sz8 11 (sv8 N):=by
 have e:((sv8 N).aj.map (sz8 10))=(ps8 N).map (fun q=>sz8 10 q.2):=by rw[<-Uf h,List.map_map];rfl
 have e2:((acts p N).map fun q=>jj q.2 prf).map (sz8 10)=(acts p N).map fun q=>sz8 10 (jj q.2 prf):=by rw[List.map_map];rfl
 show 1+(((acts p N).map fun q=>jj q.2 prf).map (sz8 10)).sum<=1+((sv8 N).aj.map (sz8 10)).sum
 rw[e,e2]
 have:=FN (fun q:BS×Nd=>sz8 10 (jj q.2 prf)) (fun q=>sz8 10 q.2) (fun q=>on8 p q.2) (fun q=>Tn 10 q.2 prf) (ps8 N)
 unfold acts
 omega
theorem Nb{N:Nd}(h:ff N)(p:List BS):sz8 12 (dS p N).1<=2000:=by
 unfold dS
 show sz8 12 (if ps8 N=[] then N else gp N svc (mkA (acts p N)))<=2000
 split
 ·exact h.2.2.1
 ·rename_i hp
  obtain⟨s1,s2⟩:=Nh h hp
  obtain⟨l1,l2,_⟩:=fe h.1 (.inl h.2.1)
  unfold fE at s2
  rw[if_pos h.2.1] at s2
  rw[Dy h.2.1 s1]
  have:=KT (sz8 11) (UB h p) l2 l1 s2
  have h3:1+(N.aj.map (sz8 11)).sum<=2000:=h.2.2.1
  show 1+((iZ svc (mkA (acts p N)) N.ak N.aj).map (sz8 11)).sum<=2000
  omega
theorem Fo{N:Nd}(h:ff N)(hp:ps8 N=[]):(sv8 N).ak=[]/\(sv8 N).aj=[]:=by
 obtain⟨l1,l2,_⟩:=sq h
 rw[hp] at l1 l2
 exact⟨List.eq_nil_of_length_eq_zero l1.symm,List.eq_nil_of_length_eq_zero l2.symm⟩
theorem E7{N:Nd}(h:ff N)(p:List BS):sv8 (dS p N).1=if ps8 N=[] then sv8 N else mkA (acts p N):=by
 show(xG (fE (if ps8 N=[] then N else gp N svc (mkA (acts p N))) svc)).1=_
 split
 ·rfl
 ·rw[Le h.1 (.inl h.2.1)];rfl
theorem QY{N:Nd}(h:ff N)(p:List BS):(sv8 (dS p N).1).ak=(acts p N).map (·.1):=by
 rw[E7 h]
 split
 ·rename_i hp
  rw[(Fo h hp).1];unfold acts;rw[hp];rfl
 ·rfl
theorem QM{N:Nd}(h:ff N)(p:List BS):(sv8 (dS p N).1).aj=(acts p N).map fun q=>jj q.2 prf:=by
 rw[E7 h]
 split
 ·rename_i hp
  rw[(Fo h hp).2];unfold acts;rw[hp];rfl
 ·rfl
theorem SH{N:Nd}(h:ff N)(p:List BS)(s:BS):fE (sv8 (dS p N).1) s=look s ((acts p N).map (·.1)) ((acts p N).map fun q=>jj q.2 prf):=by
 rw[E7 h]
 split
 ·rename_i hp
  rw[PI h,(Fo h hp).1,(Fo h hp).2];unfold acts;rw[hp];rfl
 ·show(if(mkA (acts p N)).av=3 then _ else _)=_
  rw[if_pos (show(mkA (acts p N)).av=3 from rfl)];rfl
theorem Og{N:Nd}(h:ff N)(p:List BS):Fit 11 (sv8 (dS p N).1):=by
 rw[E7 h]
 split
 ·exact(j6 h).1
 ·exact Ae h p
theorem xf{α:Type}(f:α->BS)(g:α->Nd):∀{l:List α}{q:α},(l.map f).Nodup->q∈l->look (f q) (l.map f) (l.map g)=some (g q)
 |[],_,_,h=>by cases h
 |y::l,q,hn,h=>by
  rw[List.map_cons] at hn
  obtain⟨n1,n2⟩:=List.nodup_cons.1 hn
  show(if f y=f q then some (g y) else look (f q) (l.map f) (l.map g))=_
  rcases List.mem_cons.1 h with rfl|h
  ·rw[if_pos rfl]
  ·rw[if_neg fun e=>n1 (by rw[e];exact List.mem_map_of_mem h)]
   exact xf f g n2 h
theorem JZ{s:BS}{x:Nd}:∀{ks:List BS}{xs:List Nd},look s ks xs=some x->(s,x)∈ks.zip xs
 |[],_,h=>by cases h
 |_::_,[],h=>by cases h
 |k::ks,y::xs,h=>by
  unfold look at h
  rw[List.zip_cons_cons]
  split at h
  ·rename_i e;cases h;rw[e];exact List.mem_cons_self
  ·exact List.mem_cons_of_mem _ (JZ h)
theorem Ho{p q:List BS}{x:Nd}(h:∀k∈p,k∈q)(ho:on8 p x=true):on8 q x=true:=by
 unfold on8 at *
 rw[Bool.or_eq_true,List.any_eq_true] at *
 rcases ho with ho|⟨k,h1,h2⟩
 ·exact .inl ho
 ·exact .inr ⟨k,h1,decide_eq_true (h k (of_decide_eq_true h2))⟩
theorem Pm{p:List BS}{x:Nd}(h:∀k∈pr8 x,k∈p):on8 p x=true:=by
 unfold on8
 rw[Bool.or_eq_true,List.any_eq_true,decide_eq_true_eq]
 cases hp:pr8 x with
 |nil=>exact .inl rfl
 |cons k l=>exact .inr ⟨k,List.mem_cons_self,decide_eq_true (h k (by rw[hp];exact List.mem_cons_self))⟩
theorem O0{N:Nd}(h:ff N)(p:List BS):((acts p N).map (·.1)).Nodup:=by
 refine List.Nodup.sublist ((wz p N).map _) ?_
 rw[AV h];exact(j6 h).2.2.1
theorem Ol{N:Nd}(h:ff N)(p:List BS):((qx p N).map (·.1)).Nodup:=by
 refine List.Nodup.sublist ((List.filter_sublist (l:=ps8 N)).map _) ?_
 rw[AV h];exact(j6 h).2.2.1
theorem LA{α:Type}(q:α->Bool):∀l:List α,(l.filter q).length+(l.filter fun x=>!q x).length=l.length
 |[]=>rfl
 |x::l=>by
  have:=LA q l
  rw[List.filter_cons,List.filter_cons]
  cases q x<;>simp<;>omega
theorem RH{N:Nd}(h:ff N)(p:List BS):(acts p N).length+(srt ((qx p N).map (·.1))).length=(sv8 N).ak.length:=by
 rw[IB (Ol h p),List.length_map,<-(sq h).1]
 exact LA _ _
theorem Uy{N:Nd}(h:ff N){q r:BS×Nd}(hq:q∈ps8 N)(hr:r∈ps8 N)(e:q.1=r.1):q=r:=by
 have hd:((ps8 N).map (·.1)).Nodup:=by rw[AV h];exact(j6 h).2.2.1
 have h1:=xf (·.1) (·.2) hd hq
 have h2:=xf (·.1) (·.2) hd hr
 have h1:look q.1 ((ps8 N).map (·.1)) ((ps8 N).map (·.2))=some q.2:=h1
 have h2:look r.1 ((ps8 N).map (·.1)) ((ps8 N).map (·.2))=some r.2:=h2
 rw[e,h2] at h1
 exact Prod.ext e (Option.some.inj h1).symm
theorem QU{N:Nd}(h:ff N):qx (yw N) N=[]:=by
 unfold qx
 rw[List.filter_eq_nil_iff]
 intro q hq
 rw[Pm (fun k hk=>?_)]
 ·decide
 ·unfold yw
  rw[iz]
  exact List.mem_flatMap.2 ⟨q,hq,hk⟩
theorem Tj{N:Nd}(h:ff N)(s:BS)(p:List BS):OS N s (xP [s] p N)=(look s (sv8 N).ak (sv8 N).aj).isSome:=by
 unfold OS
 cases hl:look s (sv8 N).ak (sv8 N).aj with
 |none=>rfl
 |some x =>
  show on8 _ x=true
  cases ho:on8 p x with
  |true=>exact Ho (fun k hk=>by unfold xP;rw[iz];exact List.mem_append_left _ hk) ho
  |false =>
   refine Pm fun k hk=>?_
   unfold xP
   rw[iz]
   refine List.mem_append_right _ (List.mem_flatMap.2 ⟨(s,x),JZ hl,?_⟩)
   unfold wth
   rw[if_pos ⟨decide_eq_true (by simp),ho⟩]
   exact hk
def QW:Nat->Nd->Bool
 |0,_=>false
 |d+1,t=>decide (t.aj.length<=2000)&&decide (t.ak.length<=2000)&&decide (t.av≠1->t.aC=[])&&decide (t.av≠3->t.ak=[])&&decide (t.av=3->t.ak.length=t.aj.length/\t.ak.Nodup)&&(decide (t.av>=2)||t.aj.isEmpty)&&decide (0<=t.av/\t.av<=3)&&t.aj.all (QW d)
theorem LD:∀(d:Nat)(t:Nd),QW d t=true->Fit d t
 |0,_,h=>by cases h
 |d+1,t,h=>by
  unfold QW at h
  simp only[Bool.and_eq_true,decide_eq_true_eq,List.all_eq_true,Bool.or_eq_true,List.isEmpty_iff] at h
  obtain⟨⟨⟨⟨⟨⟨⟨h1,h2⟩,h3⟩,h4⟩,h5⟩,h6⟩,h7⟩,h8⟩:=h
  exact⟨h1,h2,h3,h4,h5,fun h=>h6.resolve_left (by omega),h7,fun x hx=>LD d x (h8 x hx)⟩
end Go.Proofs.YtpmmhhmhckpnfaaGreat.M
namespace Go.Proofs.YtpmmhhmhckpnfaaGreat.M
open Go Go.Proofs.YtpmmhhmhckpnfaaGreat.RX Go.Proofs.YtpmmhhmhckpnfaaGreat.PL
set_option maxRecDepth 100000
abbrev dbg:BS:=mq
abbrev T23:Nd:=fZ svc (fZ [98] (fZ prf (fZ dbg (af.mk 0 [] [] []))))
theorem Ej:ff T23:=by
 refine⟨LD 12 _ (by decide),rfl,by decide,fun x hx=>?_⟩
 have hx:some (fZ [98] (fZ prf (fZ dbg (af.mk 0 [] [] []))))=some x:=hx
 cases hx
 exact⟨rfl,by decide⟩
theorem S7(n:Nat)(hn:2000000<=n):kM n=some true:=by
 unfold kM
 simp only[aQ]
 rw[show fZ jV (fZ [98] (fZ sG (fZ mq (af.mk 0 [] [] []))))=T23 from rfl]
 rw[pW n [] Ej (by decide) (by omega),Option.bind_some,show(dS [] T23).2=[[98]] by decide,yd n _ _ (by decide) (by omega),Option.bind_some,if_pos (by decide),FY n _ _ Ej (by decide) (by omega),show OS T23 [98] [mq]=true by decide,Option.bind_some,if_pos (by decide),Di n Ej (by omega),Option.bind_some,if_pos (by decide),show yw T23=[mq] by decide,yd n _ _ (by decide) (by omega)]
 rfl
theorem zr(a0:Nd)(_:sj a0)(a1:List BS)(_:rU a1)(a2:List BS)(_:rU a2)(a3:BS)(_:List.length a3<=maxLen):∃n,qj n a0 a1 a2 a3=some true:=by
 obtain⟨n,hn,haw⟩:∃n,n=10000000/\kM n=some true:=⟨10000000,rfl,S7 _ (by decide)⟩
 refine⟨n,?_⟩
 obtain⟨b,b1,b2⟩:=Rj n a0 (by omega)
 obtain⟨p,p1,p2⟩:=PT n a1 40 (by omega) (by omega)
 obtain⟨q,q1,q2⟩:=PT n a2 40 (by omega) (by omega)
 have p1:nz n a1 40=some p:=p1
 have q1:nz n a2 40=some q:=q1
 unfold qj
 rw[b1,Option.bind_some]
 cases b with
 |false =>
  rw[if_neg (by decide),Option.bind_some,if_neg (by decide),Option.bind_some,if_pos (by decide),haw];rfl
 |true =>
  rw[if_pos (by decide),p1,Option.bind_some]
  cases p with
  |false=>rw[if_neg (by decide),Option.bind_some,if_pos (by decide),haw];rfl
  |true =>
   rw[if_pos (by decide),q1,Option.bind_some]
   cases q with
   |false=>rw[if_pos (by decide),haw];rfl
   |true =>
    rw[if_neg (by decide)]
    have hp:=p2 rfl
    have hq:=q2 rfl
    obtain⟨hF,hz,hS⟩:=b2 rfl
    obtain⟨r5,r51,r52⟩:=OE n 6 a0 ⟨hF,hS,hz⟩ (by omega) (by omega)
    rw[r51,Option.bind_some]
    by_cases he:r5.f_E=0
    ·have hN:ff r5.f_N:=r52 he
     rw[if_neg (by simp[he])]
     generalize r5.f_N=N at hN
     have hbl:(srt (a1++a2)).length<1000:=by
      have:=fB (a1++a2)
      rw[List.length_append] at this;omega
     have hal:(yw N).length<100000:=by
      have h1:=fB ((ps8 N).flatMap fun q=>pr8 q.2)
      have h2:=Bq hN (fun q=>pr8 q.2) (Ox hN)
      unfold yw;omega
     have hwl:(xP [a3] a1 N).length<100000:=by
      have h1:=fB (a1++(ps8 N).flatMap (wth [a3] a1))
      have h2:=Bq hN _ (Np hN [a3] a1)
      rw[List.length_append] at h1
      unfold xP;omega
     have hol:∀p,(dS p N).2.length<=16:=fun p=>by
      have h1:=fB ((qx p N).map (·.1))
      have h2:(qx p N).length<=(ps8 N).length:=List.length_filter_le _ _
      have h3:=(sq hN).2.2
      rw[List.length_map] at h1
      show(srt _).length<=16
      omega
     have hsub:∀k∈a1,k∈srt (a1++a2):=fun k hk=>by rw[iz];exact List.mem_append_left _ hk
     have hal1:(acts a1 N).length<=16:=Nat.le_trans (wz a1 N).length_le (sq hN).2.2
     have hkeys:=QY hN a1
     have hkids:=QM hN a1
     have hl1:∀v1 v3 v14 b9,∃r,fu n v1 v3 (dS a1 N).2 v14 b9 (sv8 (dS a1 N).1) (sv8 (dS (srt (a1++a2)) N).1) n 0=some r/\r=.inl ():=fun v1 v3 v14 b9=>by
      refine oP (L:=fu n v1 v3 (dS a1 N).2 v14 b9 (sv8 (dS a1 N).1) (sv8 (dS (srt (a1++a2)) N).1)) (sv8 (dS a1 N).1).ak.length (fun r=>r=.inl ()) (by rw[hkeys,List.length_map];omega) (fun k i h=>.inr ?_) (fun k=>⟨.inl (),by rw[fu,bV];rfl,rfl⟩) n 0 (Nat.zero_le _) (by rw[hkeys,List.length_map];omega)
      have hi:i<(acts a1 N).length:=by rw[hkeys,List.length_map] at h;exact h
      have h':i<(sv8 (dS a1 N).1).aj.length:=by rw[hkids,List.length_map];exact hi
      have e1:(sv8 (dS a1 N).1).ak[i]=((acts a1 N)[i]).1:=by simp only[hkeys,List.getElem_map]
      have e2:(sv8 (dS a1 N).1).aj[i]=jj ((acts a1 N)[i]).2 prf:=by simp only[hkids,List.getElem_map]
      have hm:=List.getElem_mem hi
      obtain⟨m1,m2⟩:=List.mem_filter.1 hm
      have hm2:(acts a1 N)[i]∈acts (srt (a1++a2)) N:=List.mem_filter.2 ⟨m1,Ho hsub m2⟩
      have hg:fE (sv8 (dS (srt (a1++a2)) N).1) ((acts a1 N)[i]).1=some (jj ((acts a1 N)[i]).2 prf):=by
       rw[SH hN]
       exact xf (·.1) (fun q=>jj q.2 prf) (O0 hN _) hm2
      have hsame:jJ n (jj ((acts a1 N)[i]).2 prf) (jj ((acts a1 N)[i]).2 prf)=some true:=Ql (D1 prf (xO hN _ m1)) (by omega) (by omega)
      have hout:¬((acts a1 N)[i]).1∈(dS a1 N).2:=fun hin=>by
       have hin:((acts a1 N)[i]).1∈srt ((qx a1 N).map (·.1)):=hin
       rw[iz] at hin
       obtain⟨r,hr,er⟩:=List.mem_map.1 hin
       obtain⟨r1,r2⟩:=List.mem_filter.1 hr
       have:=Uy hN r1 m1 er
       rw[this,m2] at r2
       cases r2
      rw[fu,if_pos (bZ h),if_pos (aO h),bW h,e1,iP _ (Og hN _) (by omega),hg,Option.bind_some]
      show(if((!((!true)==false)||_))=true then _ else _)=_
      rw[if_pos (by rw[aO h',Bool.or_true]),bW h',e2,if_pos (by rfl)]
      show Option.bind (jJ n (jj ((acts a1 N)[i]).2 prf) (jj ((acts a1 N)[i]).2 prf)) _=_
      rw[hsame,Option.bind_some,if_pos (by rw[aO h,Bool.or_true])]
      show Option.bind (if((bif (!true) then true else(!true))==false)=true then mo n (dS a1 N).2 ((acts a1 N)[i]).1 else some false) _=_
      rw[if_pos (by rfl),rIn n _ _ (by have:=hol a1;omega) (by omega),decide_eq_false hout];rfl
     have hl2:∀v1 v3 b9 b15,∃r,fy n v1 v3 (dS a1 N).2 (dS (srt (a1++a2)) N).2 b9 b15 n 0=some r/\r=.inl ():=fun v1 v3 b9 b15=>by
      have h16:=hol (srt (a1++a2))
      refine oP (L:=fy n v1 v3 (dS a1 N).2 (dS (srt (a1++a2)) N).2 b9 b15) (dS (srt (a1++a2)) N).2.length (fun r=>r=.inl ()) (by omega) (fun k i h=>.inr ?_) (fun k=>⟨.inl (),by rw[fy,bV];rfl,rfl⟩) n 0 (Nat.zero_le _) (by omega)
      have hin:((dS (srt (a1++a2)) N).2[i])∈(dS a1 N).2:=by
       have hm:=List.getElem_mem h
       have hm:((dS (srt (a1++a2)) N).2[i])∈srt ((qx (srt (a1++a2)) N).map (·.1)):=hm
       rw[iz] at hm
       obtain⟨r,hr,er⟩:=List.mem_map.1 hm
       obtain⟨r1,r2⟩:=List.mem_filter.1 hr
       rw[<-er]
       show r.1∈srt ((qx a1 N).map (·.1))
       rw[iz]
       refine List.mem_map_of_mem (List.mem_filter.2 ⟨r1,?_⟩)
       cases ho:on8 a1 r.2 with
       |false=>rfl
       |true=>rw[Ho hsub ho] at r2;cases r2
      rw[fy,if_pos (bZ h),if_pos (aO h),bW h,rIn n _ _ (by have:=hol a1;omega) (by omega),decide_eq_true hin,Option.bind_some,if_neg (by decide)]
     have hr1:=IJ n _ (yq hN a1) (Nb hN a1) (by omega)
     have hr2:=IJ n _ (yq hN (srt (a1++a2))) (Nb hN (srt (a1++a2))) (by omega)
     rw[Ie n a1 a2 (by omega) (by omega),Option.bind_some,pW n a1 hN (by omega) (by omega),Option.bind_some,pW n (srt (a1++a2)) hN (by omega) (by omega),Option.bind_some,hr1,Option.bind_some,if_pos (by decide),hr2,Option.bind_some,if_neg (by decide),iP _ (yq hN a1) (by omega),Option.bind_some,iP _ (yq hN (srt (a1++a2))) (by omega),Option.bind_some]
     obtain⟨_,l1,rfl⟩:=hl1 a1 a3 (dS (srt (a1++a2)) N).2 r5
     obtain⟨_,l2,rfl⟩:=hl2 a1 a3 r5 (sv8 (dS a1 N).1)
     show Option.bind (fu n a1 a3 (dS a1 N).2 (dS (srt (a1++a2)) N).2 r5 (sv8 (dS a1 N).1) (sv8 (dS (srt (a1++a2)) N).1) n 0) _=_
     rw[l1,Option.bind_some]
     show Option.bind (fy n a1 a3 (dS a1 N).2 (dS (srt (a1++a2)) N).2 r5 (sv8 (dS a1 N).1) n 0) _=_
     rw[l2,Option.bind_some]
     show Option.bind (rE n N) _=_
     rw[Di n hN (by omega),Option.bind_some,pW n (yw N) hN hal (by omega),Option.bind_some,iP _ hN.1 (by omega),Option.bind_some]
     show Option.bind (gZ n (sv8 N) a3) _=_
     rw[iP _ (j6 hN).1 (by omega),Option.bind_some,PI hN]
     have c1:((List.length (dS (yw N) N).2:Int)==0)=true:=by
      show((List.length (srt ((qx (yw N) N).map (·.1))):Int)==0)=true
      rw[QU hN];rfl
     have c2:((IntKind.wrap .i64 ((List.length (xG (fE (dS a1 N).1 svc)).1.ak:Int)+(List.length (dS a1 N).2:Int)))==(List.length (xG (fE N svc)).1.ak:Int))=true:=by
      show((IntKind.wrap .i64 ((List.length (sv8 (dS a1 N).1).ak:Int)+(List.length (srt ((qx a1 N).map (·.1))):Int)))==(List.length (sv8 N).ak:Int))=true
      have hlen:=RH hN a1
      have h16:=(j6 hN).2.2.2.1
      rw[hkeys,List.length_map,PL.wrap_add _ _ (by omega),hlen,beq_self_eq_true]
     rw[c1,c2]
     show Option.bind (if((bif true then true else false)==true)=true then rP n N [a3] a1 else some []) _=_
     rw[if_pos (by rfl),K6 n [a3] a1 hN (by simp) (by omega) (by omega),Option.bind_some]
     rw[if_pos (by rfl),FY n _ _ hN hwl (by omega),Option.bind_some,Tj hN]
     have c3:(((look a3 (sv8 N).ak (sv8 N).aj).isSome)==(xG (look a3 (sv8 N).ak (sv8 N).aj)).2)=true:=by
      cases look a3 (sv8 N).ak (sv8 N).aj<;>rfl
     rw[c3,if_pos (by rfl),haw,Option.bind_some]
     rfl
    ·rw[if_pos (by rw[bne_iff_ne];exact he),haw];rfl
end Go.Proofs.YtpmmhhmhckpnfaaGreat.M
