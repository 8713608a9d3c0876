import Derived.Test.YtpmmhhmhckpnfaaGreatQP23D
set_option linter.all false
namespace Go.Proofs.YtpmmhhmhckpnfaaGreat.M
open Go Go.Proofs.YtpmmhhmhckpnfaaGreat.RX Go.Proofs.YtpmmhhmhckpnfaaGreat.PL
set_option maxRecDepth 100000
abbrev prf:BS:=qJ
def pr8(x:Nd):List BS:=(IJ (ia x prf)).1.aj
def on8(p:List BS)(x:Nd):Bool:=decide (pr8 x=[])||(pr8 x).any (fun k=>decide (k∈p))
theorem sD{d:Nat}{x:Nd}(hF:Fit d x):(pr8 x).length<=2000:=by
 unfold pr8
 cases hg:ia x prf with
 |none=>show(0:Nat)<=2000;omega
 |some y =>
  obtain⟨e,_,he⟩:=Ti hF hg
  exact(fl he).1
theorem rZ{d n:Nat}{x:Nd}(hF:Fit d x)(hn:200000<=n):kE n x=some (pr8 x):=by
 unfold kE
 rw[DK _ hF (by omega)];rfl
theorem qS{d n:Nat}{x:Nd}(hF:Fit d x)(hn:200000<=n):jU n x=some (pr8 x):=by
 unfold jU
 rw[kh _ hF (by omega)];rfl
theorem A6{α:Type}(q:α->Bool):∀(l:List α)(i:Nat),decide (((wz (fun(i:Nat) y=>if q y=true then some (i:Int) else none) i l).getD (-1))>=0)=l.any q
 |[],i=>rfl
 |y::l,i=>by
  rw[wz,List.any_cons]
  cases h:q y with
  |true=>show decide ((i:Int)>=0)=(true||l.any q);simp
  |false=>exact A6 q l (i+1)
theorem NW(o:Option Int):(Sum.elim (fun _=>some (-1:Int)) (fun(r:Int)=>some r)) (Bh o)=some (o.getD (-1)):=by cases o<;>rfl
theorem contains_eq(n:Nat)(l:List BS)(s:BS)(hl:l.length<100000)(hn:200000<=n):dL n l s=some (decide (s∈l)):=by
 unfold dL eF
 have:=Kx (L:=bD n l s (List.length l:Int)) l (fun(i:Nat) x=>if(s==x)=true then some (i:Int) else none) 0 (by omega)
  (fun k i h _=>by
   rw[bD,if_pos (bZ h),if_pos (aN h),bM h]
   cases s==l[i]<;>rfl)
  (fun k=>by rw[bD,bK];rfl) n 0 (by omega) (by omega) (by omega)
 have this:bD n l s (List.length l:Int) n 0=_:=this
 rw[this,List.drop_zero,Option.bind_some,NW,Option.bind_some,A6]
 congr 1
 rw[Bool.eq_iff_iff,List.any_eq_true,decide_eq_true_eq]
 exact⟨fun⟨x,h1,h2⟩=>by rw[beq_iff_eq.1 h2];exact h1,fun h=>⟨s,h,by simp⟩⟩
theorem TL(n:Nat)(v p:List BS)(hv:v.length<=2000)(hp:p.length<100000)(hn:200000<=n):ck n v p=some (v.any fun k=>decide (k∈p)):=by
 unfold ck dD
 have:=Kx (L:=bn n v p (List.length v:Int)) v (fun(i:Nat) x=>if(decide (x∈p))=true then some (i:Int) else none) 0 (by omega)
  (fun k i h _=>by
   rw[bn,if_pos (bZ h),if_pos (aN h),bM h,sT,contains_eq n p _ hp hn]
   show(if decide (v[i]∈p)=true then _ else _)=_
   cases decide (v[i]∈p)<;>rfl)
  (fun k=>by rw[bn,bK];rfl) n 0 (by omega) (by omega) (by omega)
 have this:bn n v p (List.length v:Int) n 0=_:=this
 rw[this,List.drop_zero,Option.bind_some,NW,Option.bind_some,A6 (fun x=>decide (x∈p))]
theorem UO(l:List BS):((List.length l:Int)==0)=decide (l=[]):=by cases l<;>simp<;>omega
theorem y7{d n:Nat}{x:Nd}(p:List BS)(hF:Fit d x)(hp:p.length<100000)(hn:200000<=n):uG n x p=some (on8 p x):=by
 unfold uG on8
 rw[rZ hF hn,Option.bind_some,UO]
 by_cases h:pr8 x=[]
 ·rw[decide_eq_true h];rfl
 ·rw[decide_eq_false h,if_pos (by rfl),TL n _ p (sD hF) hp hn];rfl
theorem MJ(q:BS->Bool):∀l:List BS,l.findSome? (fun y=>if q y=true then some true else none)=if l.any q=true then some true else none
 |[]=>rfl
 |y::l=>by
  rw[List.findSome?_cons,List.any_cons]
  cases h:q y with
  |true=>rfl
  |false=>simpa using MJ q l
theorem yl{d n:Nat}{x:Nd}(p:List BS)(hF:Fit d x)(hp:p.length<100000)(hn:200000<=n):qa n x p=some (on8 p x):=by
 unfold qa on8
 have hpl:=sD hF
 rw[qS hF hn,Option.bind_some,UO]
 have:=xB (L:=kS n p (pr8 x)) (pr8 x) (fun y=>if(decide (y∈p))=true then some true else none) 0 (by omega)
  (fun k i h _=>by
   rw[kS,if_pos (bZ h),if_pos (aN h),bM h,rIn n p _ (by omega) hn,Option.bind_some]
   cases decide ((pr8 x)[i]∈p)<;>rfl)
  (fun k=>by rw[kS,bK];rfl) n 0 (by omega) (by omega) (by omega)
 have this:kS n p (pr8 x) n 0=_:=this
 rw[this,List.drop_zero,Option.bind_some,MJ (fun y=>decide (y∈p))]
 cases (pr8 x).any (fun k=>decide (k∈p)) with
 |true=>show some true=_;rw[Bool.or_true]
 |false=>show some (decide (pr8 x=[]))=_;rw[Bool.or_false]
def jh(N:Nd):Prop:=Fit 12 N/\N.av=3/\sz8 12 N<=2000/\vK N
def sv8(N:Nd):Nd:=(IJ (ia N svc)).1
theorem pQ{N:Nd}(h:jh N):Fit 11 (sv8 N)/\(sv8 N).aj.length=(sv8 N).ak.length/\(sv8 N).aj.Nodup/\(sv8 N).aj.length<=16/\(sv8 N=Z8\/(sv8 N).av=3/\ia N svc=some (sv8 N)):=by
 obtain⟨h1,h2,h3,h4⟩:=h
 unfold sv8
 cases hg:ia N svc with
 |none=>exact⟨jq jw _ (by omega),rfl,.nil,by show(0:Nat)<=16;omega,.inl rfl⟩
 |some x =>
  have hx:Fit 11 x:=by
   unfold ia at hg
   rw[if_pos h2] at hg
   exact jT h1 (uC hg)
  obtain⟨k1,k2⟩:=h4 x hg
  obtain⟨l1,l2,_⟩:=fe hx (.inl k1)
  exact⟨hx,l1,l2,k2,.inr ⟨k1,rfl⟩⟩
def ps8(N:Nd):List (BS×Nd):=(sv8 N).aj.zip (sv8 N).ak
theorem tj{N:Nd}(h:jh N):(ps8 N).length=(sv8 N).aj.length/\(ps8 N).length=(sv8 N).ak.length/\(ps8 N).length<=16:=by
 obtain⟨_,h1,_,h3,_⟩:=pQ h
 unfold ps8
 rw[List.length_zip];omega
theorem QR{N:Nd}(h:jh N):(ps8 N).map (·.1)=(sv8 N).aj:=by
 unfold ps8
 exact List.map_fst_zip (Nat.le_of_eq (pQ h).2.1)
theorem qW{N:Nd}(h:jh N):∀q∈ps8 N,Fit 10 q.2:=fun q hq=>jT (pQ h).1 (List.of_mem_zip (show(q.1,q.2)∈_ from hq)).2
theorem zp{N:Nd}(n:Nat)(h:jh N)(hn:200000<=n):mj n N=some (ps8 N):=by
 unfold mj
 obtain⟨f1,f2,f3,f4,f5⟩:=pQ h
 rw[DK _ h.1 (by omega),Option.bind_some]
 show(if decide ((sv8 N).aj.length<=limit)=true then some (uU (sv8 N)) else none)=_
 rw[if_pos (decide_eq_true (by show _<=140737488355328;omega))]
 unfold uU
 split
 ·rfl
 ·rename_i hk
  rcases f5 with f5|f5
  ·unfold ps8;rw[f5];rfl
  ·exact absurd f5.1 hk
theorem mT{N:Nd}(n:Nat)(h:jh N)(hn:200000<=n):iZ n N=some (sv8 N):=by
 unfold iZ
 rw[kh _ h.1 (by omega)];rfl
def acts(p:List BS)(N:Nd):List (BS×Nd):=(ps8 N).filter fun q=>on8 p q.2
def xW(p:List BS)(N:Nd):List (BS×Nd):=(ps8 N).filter fun q=>!on8 p q.2
def mkA(l:List (BS×Nd)):Nd:=af.mk 3 [] (l.map (·.1)) (l.map fun q=>uf q.2 prf)
def u5(p:List BS)(s:List BS×Nd)(q:BS×Nd):List BS×Nd:=if on8 p q.2=true then(s.1,gy s.2 q.1 (uf q.2 prf)) else(s.1++[q.1],s.2)
theorem H5{p:List BS}{s:List BS×Nd}{q:BS×Nd}(h:on8 p q.2=true):u5 p s q=(s.1,gy s.2 q.1 (uf q.2 prf)):=by unfold u5;rw[if_pos h]
theorem IQ{p:List BS}{s:List BS×Nd}{q:BS×Nd}(h:on8 p q.2=false):u5 p s q=(s.1++[q.1],s.2):=by unfold u5;rw[h];rfl
theorem Rh(l:List (BS×Nd))(q:BS×Nd)(h:q.1∉l.map (·.1)):gy (mkA l) q.1 (uf q.2 prf)=mkA (l++[q]):=by
 unfold gy
 rw[if_pos (.inl rfl)]
 have hl:(mkA l).aj.length=(mkA l).ak.length:=by show(l.map _).length=(l.map _).length;simp
 have h':q.1∉(mkA l).aj:=h
 rw[(kK (v:=uf q.2 prf) hl h).1,if_neg h',if_neg h']
 unfold mkA
 simp
theorem EJ(p:List BS):∀(l:List (BS×Nd))(a:List BS)(m:List (BS×Nd)),((m++l).map (·.1)).Nodup->l.foldl (u5 p) (a,mkA m)=(a++(l.filter fun q=>!on8 p q.2).map (·.1),mkA (m++l.filter fun q=>on8 p q.2))
 |[],a,m,_=>by simp
 |q::l,a,m,h=>by
  rw[List.foldl_cons]
  have hs:((m++l).map (·.1)).Nodup:=h.sublist (by
   rw[List.map_append,List.map_append,List.map_cons]
   exact List.Sublist.append (List.Sublist.refl _) (List.sublist_cons_self _ _))
  cases ho:on8 p q.2 with
  |true =>
   have hq:q.1∉m.map (·.1):=by
    rw[List.map_append,List.map_cons,List.nodup_append] at h
    intro hq
    exact h.2.2 _ hq _ List.mem_cons_self rfl
   rw[H5 ho,Rh m q hq,EJ p l a (m++[q]) (by rw[List.append_assoc];exact h)]
   simp[ho]
  |false =>
   rw[IQ ho,EJ p l (a++[q.1]) m hs]
   simp[ho]
def ym(p:List BS)(N:Nd):Nd×List BS:=(if ps8 N=[] then N else gy N svc (mkA (acts p N)),srt ((xW p N).map (·.1)))
theorem N5{N:Nd}(p:List BS)(h:jh N):(ps8 N).foldl (u5 p) ([],mkA [])=((xW p N).map (·.1),mkA (acts p N)):=by
 have:=EJ p (ps8 N) [] [] (by rw[List.nil_append,QR h];exact(pQ h).2.2.1)
 rw[this];rfl
theorem TR{d:Nat}(l:List (BS×Nd))(hl:l.length<=1000)(hd:(l.map (·.1)).Nodup)(hf:∀q∈l,Fit d q.2):Fit (d+1) (mkA l):=by
 refine⟨by show(l.map _).length<=2000;rw[List.length_map];omega,by show(l.map _).length<=2000;rw[List.length_map];omega,fun _=>rfl,fun h=>absurd rfl h,fun _=>⟨by show(l.map _).length=(l.map _).length;simp,hd⟩,fun h=>absurd (show(3:Int)<2 from h) (by decide),⟨show(0:Int)<=3 by decide,show(3:Int)<=3 by decide⟩,fun x hx=>?_⟩
 obtain⟨q,hq,rfl⟩:=List.mem_map.1 hx
 exact E4 prf (hf q hq)
theorem qR(n:Nat)(p:List BS)(N z:Nd)(hp:p.length<100000)(hn:200000<=n):∀(l:List (BS×Nd))(a:List BS)(m:Nd)(b:Bool)(c:Nat),(∀q∈l,Fit 10 q.2)->Grow 10 c m->c+l.length<=100->a.length+l.length<=1000 ->
  gI n N p z l a m b=some ((l.foldl (u5 p) (a,m)).1,(l.foldl (u5 p) (a,m)).2,(b||!l.isEmpty))
 |[],a,m,b,c,_,_,_,_=>by rw[gI];simp
 |q::l,a,m,b,c,hF,hG,hc,ha=>by
  have hq:=hF q List.mem_cons_self
  have hF':=fun x hx=>hF x (List.mem_cons_of_mem q hx)
  rw[gI,qj,y7 p hq hp hn,Option.bind_some,List.foldl_cons]
  rw[List.length_cons] at hc ha
  cases ho:on8 p q.2 with
  |true =>
   rw[H5 ho,if_neg (by decide),K8 _ hq (by omega),Option.bind_some,AU _ _ hG.1 (by omega),Option.bind_some,Option.bind_some]
   rw[qR n p N z hp hn l a _ true (c+1) hF' (ig _ hG (E4 prf hq) (by omega)) (by omega) (by omega)]
   simp
  |false =>
   rw[IQ ho,if_pos (by rfl),if_pos (fU (by simp;omega)),Option.bind_some]
   rw[qR n p N z hp hn l _ m true c hF' hG (by omega) (by simp;omega)]
   simp
theorem yv{N:Nd}(n:Nat)(p:List BS)(h:jh N)(hp:p.length<100000)(hn:200000<=n):oR n N p=some (ym p N):=by
 unfold oR
 obtain⟨l1,l2,l3⟩:=tj h
 rw[zp n h hn,Option.bind_some,show(af.mk 3 [] [] [])=mkA [] from rfl,qR n p N _ hp hn (ps8 N) [] (mkA []) false 0 (qW h) (Av _) (by omega) (by simp;omega),Option.bind_some,N5 p h]
 have hj:∀z a,kT n (false||!(ps8 N).isEmpty) N z a (mkA (acts p N))=some (if ps8 N=[] then N else gy N svc (mkA (acts p N))):=fun z a=>by
  unfold kT
  cases hps:ps8 N with
  |nil=>rfl
  |cons q l =>
   rw[if_pos (by rfl),if_neg (by simp),AU _ _ h.1 (by omega)];rfl
 show Option.bind (kT n (false||!(ps8 N).isEmpty) N _ ((xW p N).map (·.1)) (mkA (acts p N))) _=_
 rw[hj,Option.bind_some]
 have ho:((xW p N).map (·.1)).length<=16:=by
  rw[List.length_map]
  exact Nat.le_trans (List.length_filter_le _ _) l3
 show Option.bind (kL n ((xW p N).map (·.1))) _=_
 rw[uM n _ (by omega)];rfl
theorem Gi{N:Nd}(n:Nat)(p:List BS)(h:jh N)(hp:p.length<100000)(hn:200000<=n):pI n N p=some (ym p N):=by
 unfold pI
 obtain⟨l1,l2,l3⟩:=tj h
 rw[mT n h hn,Option.bind_some]
 have hl:=(gather (L:=fun k (s:List BS×Nd) i=>fJ n p N (af.mk 0 [] [] []) (sv8 N) k s.1 i s.2) (ps8 N) (u5 p) id (fun i s=>Grow 10 i s.2/\s.1.length<=i) (by omega)
  (fun k s i hi hI=>by
   have hi1:i<(sv8 N).aj.length:=by omega
   have hi2:i<(sv8 N).ak.length:=by omega
   have hp1:(ps8 N)[i]=((sv8 N).aj[i],(sv8 N).ak[i]):=by simp only[ps8,List.getElem_zip]
   have hq:Fit 10 (sv8 N).ak[i]:=by have:=qW h _ (List.getElem_mem hi);rw[hp1] at this;exact this
   show fJ n p N (af.mk 0 [] [] []) (sv8 N) (k+1) s.1 (i:Int) s.2=_
   rw[fJ,if_pos (bZ hi1),pq,if_pos (aN hi2),bM hi2,yl p hq hp hn,Option.bind_some,hp1]
   cases ho:on8 p (sv8 N).ak[i] with
   |true =>
    rw[if_pos rfl,if_pos (aN hi1),if_pos (aN hi2),bM hi1,J5 _ hq (by omega),Option.bind_some,dI _ _ hI.1.1 (by omega)]
    rw[H5 (show on8 p ((sv8 N).aj[i],(sv8 N).ak[i]).2=true from ho)];rfl
   |false =>
    rw[if_neg Bool.false_ne_true,if_pos (aN hi1),bM hi1,if_pos (fU (by simp;omega))]
    rw[IQ (show on8 p ((sv8 N).aj[i],(sv8 N).ak[i]).2=false from ho)];rfl)
  (fun s i hi hI=>by
   have hq:=qW h _ (List.getElem_mem hi)
   unfold u5
   split
   ·exact⟨ig _ hI.1 (E4 prf hq) (by omega),by show s.1.length<=i+1;have:=hI.2;omega⟩
   ·exact⟨l7 hI.1 (by omega),by have:=hI.2;simp;omega⟩)
  (fun k s hI=>by
   show fJ n p N (af.mk 0 [] [] []) (sv8 N) (k+1) s.1 ((ps8 N).length:Int) s.2=_
   rw[fJ,l1,bK];rfl) n 0 ([],mkA []) (by omega) (by omega) ⟨Av _,Nat.zero_le _⟩).1
 have hl:fJ n p N (af.mk 0 [] [] []) (sv8 N) n [] 0 (af.mk 3 [] [] [])=_:=hl
 rw[hl,List.drop_zero,Option.bind_some,N5 p h]
 have hj:∀z a,ky n a (decide ((List.length (sv8 N).aj:Int)>0)) N z (mkA (acts p N))=some (if ps8 N=[] then N else gy N svc (mkA (acts p N))):=fun z a=>by
  unfold ky
  cases hps:ps8 N with
  |nil =>
   rw[hps] at l1
   rw[show decide ((List.length (sv8 N).aj:Int)>0)=false from decide_eq_false (by rw[<-l1];simp)];rfl
  |cons q l =>
   rw[hps,List.length_cons] at l1
   rw[if_pos (decide_eq_true (by omega)),if_neg (by simp),dI _ _ h.1 (by omega)];rfl
 show Option.bind (ky n ((xW p N).map (·.1)) _ N _ (mkA (acts p N))) _=_
 rw[hj,Option.bind_some]
 have ho:((xW p N).map (·.1)).length<=16:=by
  rw[List.length_map]
  exact Nat.le_trans (List.length_filter_le _ _) l3
 show Option.bind (gi n ((xW p N).map (·.1))) _=_
 rw[sW n _ (by omega) (by omega)];rfl
end Go.Proofs.YtpmmhhmhckpnfaaGreat.M
namespace Go.Proofs.YtpmmhhmhckpnfaaGreat.M
open Go Go.Proofs.YtpmmhhmhckpnfaaGreat.RX Go.Proofs.YtpmmhhmhckpnfaaGreat.PL
set_option maxRecDepth 100000
theorem xd(n:Nat)(l:List BS)(hl:l.length<100000)(hn:100000<=n):gi n l=some (srt l):=by
 unfold gi
 have:=Py n l hl hn n 0 (by omega) (by have:=dO l;omega)
 rw[List.take_zero] at this
 rw[this];rfl
theorem yG(n:Nat)(a b:List BS)(ha:a.length+b.length<90000)(hn:100000<=n):qH n a b=some (srt (a++b)):=by
 unfold qH
 have h1:=(gather (L:=kB n a b) a (fun acc x=>acc++[x]) id (fun i s=>s.length<=i) (by omega)
  (fun k s i h hs=>by rw[kB,if_pos (bZ h),if_pos (aN h),bM h,if_pos (fU (by simp;omega))])
  (fun s i h hs=>by simp;omega) (fun k s _=>by rw[kB,bK];rfl) n 0 [] (by omega) (by omega) (by simp)).1
 have h2:=(gather (L:=kC n b) b (fun acc x=>acc++[x]) id (fun i s=>s.length<=a.length+i) (by omega)
  (fun k s i h hs=>by rw[kC,if_pos (bZ h),if_pos (aN h),bM h,if_pos (fU (by simp;omega))])
  (fun s i h hs=>by simp;omega) (fun k s _=>by rw[kC,bK];rfl) n 0 a (by omega) (by omega) (by simp)).1
 rw[List.drop_zero,zR (fun x=>[x])] at h1 h2
 have hf:∀l:List BS,l.flatMap (fun x=>[x])=l:=fun l=>by induction l<;>simp_all
 rw[hf] at h1 h2
 simp only[id,List.nil_append] at h1 h2
 rw[show(0:Int)=((0:Nat):Int) from rfl,h1,Option.bind_some,h2,Option.bind_some,xd n _ (by simp;omega) hn];rfl
theorem RI{l m:List BS}{i:Nat}(h1:i<l.length)(h2:i<m.length):(l.drop i=m.drop i)↔l[i]=m[i]/\l.drop (i+1)=m.drop (i+1):=by
 rw[drop_at h1,drop_at h2,List.cons.injEq]
theorem NU{L:Nat->Int->Option (Sum Unit Bool)}(l m:List BS)(hlm:l.length=m.length)(hl:l.length<100000)
  (hs:∀k i (h:i<l.length) (h':i<m.length),L (k+1) (i:Int)=if(!(l[i]==m[i]))=true then some (.inr false) else L k (IntKind.wrap .i64 ((i:Int)+1)))
  (he:∀k,L (k+1) (l.length:Int)=some (.inl ())):∀k i,i<=l.length->l.length-i<k->L k (i:Int)=some (if l.drop i=m.drop i then .inl () else .inr false)
 |0,i,_,h=>by omega
 |k+1,i,h1,h2=>by
  by_cases h:i<l.length
  ·have h':i<m.length:=by omega
   rw[hs k i h h']
   simp only[RI h h']
   by_cases e:l[i]=m[i]
   ·simp only[e,beq_self_eq_true,Bool.not_true,Bool.false_eq_true,if_false,true_and]
    rw[dQ i (by omega)]
    exact NU l m hlm hl hs he k (i+1) (by omega) (by omega)
   ·simp[e]
  ·have:i=l.length:=by omega
   subst this
   rw[he,List.drop_eq_nil_of_le (Nat.le_refl _),List.drop_eq_nil_of_le (by omega),if_pos rfl]
theorem mW(n:Nat)(l m:List BS)(hl:l.length<100000)(hn:200000<=n):fV n l m=some (decide (l=m)):=by
 unfold fV
 by_cases hlm:l.length=m.length
 ·have e:((List.length l:Int) != (List.length m:Int))=false:=by simp[hlm]
  have:=NU (L:=iq n l m) l m hlm hl
   (fun k i h h'=>by rw[iq,if_pos (bZ h),if_pos (aN h),if_pos (aN h'),bM h,bM h'])
   (fun k=>by rw[iq,bK];rfl) n 0 (by omega) (by omega)
  rw[e,if_neg Bool.false_ne_true,show(0:Int)=((0:Nat):Int) from rfl,this,List.drop_zero,List.drop_zero]
  by_cases h:l=m
  ·rw[if_pos h,decide_eq_true h];rfl
  ·rw[if_neg h,decide_eq_false h];rfl
 ·have e:((List.length l:Int) != (List.length m:Int))=true:=by simpa using fun h=>hlm (by omega)
  rw[e,if_pos rfl,decide_eq_false (fun h=>hlm (congrArg List.length h))]
theorem QI(n:Nat)(l:List BS)(m:Nat)(hm:m<=1000)(hn:100000<=n):∃b,nI n l (m:Int)=some b/\(b=true->l.length<=m):=by
 unfold nI
 by_cases h:(l.length:Int)>(m:Int)
 ·exact⟨false,by rw[if_pos (decide_eq_true h)],fun h=>by cases h⟩
 ·rw[if_neg (by simpa using h)]
  have:=xB (L:=kj n l) l (fun x=>if decide ((x.length:Int)>100)=true then some false else none) 0 (by omega)
   (fun k i h _=>by
    rw[kj,if_pos (bZ h),if_pos (aN h),bM h]
    cases decide ((l[i].length:Int)>100)<;>rfl)
   (fun k=>by rw[kj,bK];rfl) n 0 (by omega) (by omega) (by omega)
  have this:kj n l n 0=_:=this
  rw[this]
  generalize List.findSome? _ _=o
  cases o with
  |none=>exact⟨true,rfl,fun _=>by omega⟩
  |some r=>exact⟨r,rfl,fun _=>by omega⟩
theorem Rx(l:List (BS×Nd))(f:BS×Nd->List BS)(m:Nat)(h:∀q∈l,(f q).length<=m):(l.flatMap f).length<=m*l.length:=by
 induction l with
 |nil=>simp
 |cons q l ih =>
  have h1:=h q List.mem_cons_self
  have h2:=ih fun q hq=>h q (List.mem_cons_of_mem _ hq)
  rw[List.flatMap_cons,List.length_append,List.length_cons,Nat.mul_succ];omega
def Ej(N:Nd):List BS:=srt ((ps8 N).flatMap fun q=>pr8 q.2)
theorem Uc(a b:List BS):srt (srt a++b)=srt (a++b):=Ub fun x=>by rw[List.mem_append,List.mem_append,ku]
theorem yq(n:Nat)(hn:200000<=n):∀(l:List (BS×Nd))(a:List BS),(∀q∈l,Fit 10 q.2)->a.length+2000*l.length<=1000000->jo n l a=some (a++l.flatMap fun q=>pr8 q.2)
 |[],a,_,_=>by rw[jo];simp
 |q::l,a,hF,ha=>by
  have hq:=hF q List.mem_cons_self
  have hl:=sD hq
  rw[List.length_cons] at ha
  rw[jo,rZ hq hn,Option.bind_some,if_pos (fU (by omega)),yq n hn l _ (fun x hx=>hF x (List.mem_cons_of_mem q hx)) (by rw[List.length_append];omega),List.flatMap_cons,List.append_assoc]
theorem B8{N:Nd}(h:jh N)(f:BS×Nd->List BS)(hf:∀q∈ps8 N,(f q).length<=2000):((ps8 N).flatMap f).length<=32000:=by
 have:=Rx (ps8 N) f 2000 hf
 have:=(tj h).2.2
 omega
theorem O3{N:Nd}(h:jh N):∀q∈ps8 N,(pr8 q.2).length<=2000:=fun q hq=>sD (qW h q hq)
theorem DX{N:Nd}(n:Nat)(h:jh N)(hn:200000<=n):uL n N=some (Ej N):=by
 unfold uL
 have hl:=(tj h).2.2
 have hf:=B8 h (fun q=>pr8 q.2) (O3 h)
 rw[zp n h hn,Option.bind_some,yq n hn (ps8 N) [] (qW h) (by simp;omega),List.nil_append,Option.bind_some,uM n _ (by omega)];rfl
theorem OL{α:Type}(f:α->List BS):∀(l:List α)(a:List BS),l.foldl (fun s q=>srt (s++f q)) (srt a)=srt (a++l.flatMap f)
 |[],a=>by simp
 |q::l,a=>by
  rw[List.foldl_cons,List.flatMap_cons]
  show l.foldl _ (srt (srt a++f q))=_
  rw[Uc,OL f l (a++f q),List.append_assoc]
theorem Mc{N:Nd}(n:Nat)(h:jh N)(hn:200000<=n):vH n N=some (Ej N):=by
 unfold vH
 obtain⟨l1,l2,l3⟩:=tj h
 rw[mT n h hn,Option.bind_some]
 have hl:=(gather (L:=fun k (s:List BS) i=>iO n (sv8 N) k s i) (ps8 N) (fun s q=>srt (s++pr8 q.2)) id (fun i s=>s.length<=2000*i) (by omega)
  (fun k s i hi hI=>by
   have hi2:i<(sv8 N).ak.length:=by omega
   have hp1:((ps8 N)[i]).2=(sv8 N).ak[i]:=by simp only[ps8,List.getElem_zip]
   have hq:Fit 10 (sv8 N).ak[i]:=by have:=qW h _ (List.getElem_mem hi);rw[hp1] at this;exact this
   have hpl:=sD hq
   show iO n (sv8 N) (k+1) s (i:Int)=_
   rw[iO,if_pos (bZ hi2),if_pos (aN hi2),bM hi2,qS hq hn,Option.bind_some,yG n _ _ (by omega) (by omega),Option.bind_some,hp1])
  (fun s i hi hI=>by
   have hq:=sD (qW h _ (List.getElem_mem hi))
   have:=dO (s++pr8 ((ps8 N)[i]).2)
   rw[List.length_append] at this
   show(srt (s++pr8 ((ps8 N)[i]).2)).length<=_
   omega)
  (fun k s hI=>by
   show iO n (sv8 N) (k+1) s ((ps8 N).length:Int)=_
   rw[iO,l2,bK];rfl) n 0 [] (by omega) (by omega) (Nat.zero_le _)).1
 have hl:iO n (sv8 N) n [] 0=_:=hl
 rw[hl,List.drop_zero]
 have:=OL (fun q:BS×Nd=>pr8 q.2) (ps8 N) []
 show some ((ps8 N).foldl _ (srt []))=_
 rw[this];rfl
def wth(ns p:List BS)(q:BS×Nd):List BS:=if decide (q.1∈ns)=true/\on8 p q.2=false then pr8 q.2 else []
def yB(ns p:List BS)(N:Nd):List BS:=srt (p++(ps8 N).flatMap (wth ns p))
theorem H7{N:Nd}(h:jh N)(ns p:List BS):∀q∈ps8 N,(wth ns p q).length<=2000:=fun q hq=>by
 have:=O3 h q hq
 unfold wth
 split
 ·exact this
 ·simp
theorem po(n:Nat)(ns p:List BS)(hns:ns.length<100000)(hp:p.length<100000)(hn:200000<=n):∀(l:List (BS×Nd))(a:List BS),(∀q∈l,Fit 10 q.2)->a.length+2000*l.length<=1000000->iP n ns p l a=some (a++l.flatMap (wth ns p))
 |[],a,_,_=>by rw[iP];simp
 |q::l,a,hF,ha=>by
  have hq:=hF q List.mem_cons_self
  have hl:=sD hq
  have hF':=fun x hx=>hF x (List.mem_cons_of_mem q hx)
  rw[List.length_cons] at ha
  rw[iP,tW,contains_eq n ns _ hns hn,Option.bind_some,List.flatMap_cons]
  unfold wth
  cases hc:decide (q.1∈ns) with
  |false =>
   rw[if_neg (by decide),Option.bind_some,if_neg (by decide),Option.bind_some,po n ns p hns hp hn l a hF' (by omega),if_neg (by simp)];rfl
  |true =>
   rw[if_pos (by rfl),y7 p hq hp hn,Option.bind_some]
   cases ho:on8 p q.2 with
   |true =>
    rw[if_neg (by decide),Option.bind_some,po n ns p hns hp hn l a hF' (by omega),if_neg (by simp)];rfl
   |false =>
    rw[if_pos (by rfl),rZ hq hn,Option.bind_some,if_pos (fU (by omega)),Option.bind_some,po n ns p hns hp hn l _ hF' (by rw[List.length_append];omega),if_pos ⟨rfl,rfl⟩,List.append_assoc];rfl
theorem LN{N:Nd}(n:Nat)(ns p:List BS)(h:jh N)(hns:ns.length<10000)(hp:p.length<10000)(hn:200000<=n):vI n N ns p=some (yB ns p N):=by
 unfold vI dq
 have hl:=(tj h).2.2
 have hf:=B8 h (wth ns p) (H7 h ns p)
 rw[if_pos (fU (by simp;omega)),Option.bind_some,zp n h hn,Option.bind_some,List.nil_append,po n ns p (by omega) (by omega) hn (ps8 N) p (qW h) (by omega),Option.bind_some,uM n _ (by rw[List.length_append];omega)];rfl
theorem JL{N:Nd}(n:Nat)(ns p:List BS)(h:jh N)(hns:ns.length<10000)(hp:p.length<10000)(hn:200000<=n):ud n N ns p=some (yB ns p N):=by
 unfold ud
 obtain⟨l1,l2,l3⟩:=tj h
 rw[mT n h hn,Option.bind_some,xd n p (by omega) (by omega),Option.bind_some]
 have hl:=(gather (L:=fun k (s:List BS) i=>iw n ns p (sv8 N) k s i) (ps8 N) (fun s q=>srt (s++wth ns p q)) id (fun i s=>s.length<=p.length+2000*i/\srt s=s) (by omega)
  (fun k s i hi hI=>by
   have hi1:i<(sv8 N).aj.length:=by omega
   have hi2:i<(sv8 N).ak.length:=by omega
   have hp1:((ps8 N)[i]).1=(sv8 N).aj[i]:=by simp only[ps8,List.getElem_zip]
   have hp2:((ps8 N)[i]).2=(sv8 N).ak[i]:=by simp only[ps8,List.getElem_zip]
   have hq:Fit 10 (sv8 N).ak[i]:=by have:=qW h _ (List.getElem_mem hi);rw[hp2] at this;exact this
   have hpl:=sD hq
   show iw n ns p (sv8 N) (k+1) s (i:Int)=_
   rw[iw,if_pos (bZ hi1),rN,if_pos (aN hi1),bM hi1,rIn n ns _ (by omega) hn,Option.bind_some]
   unfold wth
   rw[hp1,hp2]
   cases hc:decide ((sv8 N).aj[i]∈ns) with
   |false =>
    rw[if_pos (by rfl),if_neg (by decide),Option.bind_some,if_neg (by decide),Option.bind_some,if_neg (by simp),List.append_nil,hI.2]
   |true =>
    rw[if_pos (by rw[aN hi2,Bool.or_true]),bM hi2,if_pos (by rfl),yl p hq (by omega) hn,Option.bind_some]
    cases ho:on8 p (sv8 N).ak[i] with
    |true=>rw[if_neg (by decide),Option.bind_some,if_neg (by simp),List.append_nil,hI.2]
    |false =>
     rw[if_pos (by rfl),if_pos (aN hi2),qS hq hn,Option.bind_some,yG n _ _ (by omega) (by omega),Option.bind_some,Option.bind_some,if_pos ⟨rfl,rfl⟩])
  (fun s i hi hI=>by
   have hq:=H7 h ns p _ (List.getElem_mem hi)
   have:=dO (s++wth ns p (ps8 N)[i])
   rw[List.length_append] at this
   refine⟨?_,zk (oP _)⟩
   show(srt (s++wth ns p (ps8 N)[i])).length<=_
   omega)
  (fun k s hI=>by
   show iw n ns p (sv8 N) (k+1) s ((ps8 N).length:Int)=_
   rw[iw,l1,bK];rfl) n 0 (srt p) (by omega) (by omega) ⟨by have:=dO p;omega,zk (oP _)⟩).1
 have hl:iw n ns p (sv8 N) n (srt p) 0=_:=hl
 rw[hl,List.drop_zero]
 show some ((ps8 N).foldl _ (srt p))=_
 rw[OL];rfl
def Om(N:Nd)(s:BS)(p:List BS):Bool:=match look s (sv8 N).aj (sv8 N).ak with|some x=>on8 p x|none=>false
theorem zw(n:Nat)(s:BS)(p:List BS)(hp:p.length<100000)(hn:200000<=n)(b:Bool):∀(ks:List BS)(xs:List Nd),ks.length=xs.length->(∀x∈xs,Fit 10 x)->(iW n s p (ks.zip xs) b).bind (fun o=>Sum.elim (fun _=>some false) (fun r=>some r) o)=some (match look s ks xs with|some x=>on8 p x|none=>false)
 |[],[],_,_=>rfl
 |[],_::_,h,_=>by cases h
 |_::_,[],h,_=>by cases h
 |k::ks,x::xs,h,hF=>by
  show(iW n s p ((k,x)::ks.zip xs) b).bind _=_
  rw[iW]
  unfold look
  by_cases hk:k=s
  ·rw[if_pos (by simp[hk]),y7 p (hF x List.mem_cons_self) hp hn,Option.bind_some,if_pos hk];rfl
  ·rw[if_neg (by simp[hk]),if_neg hk]
   exact zw n s p hp hn b ks xs (by simpa using h) fun y hy=>hF y (List.mem_cons_of_mem _ hy)
theorem Hu{N:Nd}(n:Nat)(s:BS)(p:List BS)(h:jh N)(hp:p.length<100000)(hn:200000<=n):wH n N s p=some (Om N s p):=by
 unfold wH
 rw[zp n h hn,Option.bind_some]
 exact zw n s p hp hn false _ _ (pQ h).2.1 fun x hx=>jT (pQ h).1 hx
theorem UE{N:Nd}(h:jh N)(s:BS):ia (sv8 N) s=look s (sv8 N).aj (sv8 N).ak:=by
 rcases(pQ h).2.2.2.2 with e|e
 ·rw[e];rfl
 ·unfold ia;rw[if_pos e.1]
theorem NJ{N:Nd}(n:Nat)(s:BS)(p:List BS)(h:jh N)(hp:p.length<100000)(hn:200000<=n):wX n N s p=some (Om N s p):=by
 unfold wX Om
 have hF:=(pQ h).1
 rw[mT n h hn,Option.bind_some,kh _ hF (by omega),Option.bind_some,UE h]
 cases hl:look s (sv8 N).aj (sv8 N).ak with
 |none=>rfl
 |some x =>
  show Option.bind (if(true==true)=true then qa n x p else some false) _=_
  rw[if_pos (by rfl),yl p (jT hF (uC hl)) hp hn];rfl
theorem LV{s:BS}{x:Nd}:∀{ks:List BS}{xs:List Nd},look s ks xs=some x->s∈ks
 |[],_,h=>by cases h
 |_::_,[],h=>by cases h
 |k::ks,y::xs,h=>by
  unfold look at h
  split at h
  ·rename_i e;rw[e];exact List.mem_cons_self
  ·exact List.mem_cons_of_mem _ (LV h)
theorem NH{t v:Nd}{s:BS}(h3:t.av=3)(hs:s∈t.aj):gy t s v=af.mk 3 [] t.aj (jO s v t.aj t.ak):=by
 unfold gy
 rw[if_pos (.inl h3),if_pos hs,if_pos hs,List.append_nil,List.append_nil]
theorem ML{d:Nat}{t v:Nd}{s:BS}(h3:t.av=3)(hs:s∈t.aj)(hF:Fit (d+1) t)(hv:Fit d v):Fit (d+1) (gy t s v):=by
 rw[NH h3 hs]
 obtain⟨l1,l2,l3⟩:=fe hF (.inl h3)
 have hk:=fl hF
 have hr:=uS (s:=s) (v:=v) l1
 exact⟨by show(jO s v t.aj t.ak).length<=2000;omega,hk.1,fun _=>rfl,fun h=>absurd rfl h,fun _=>⟨by show t.aj.length=(jO s v t.aj t.ak).length;omega,l2⟩,fun h=>absurd (show(3:Int)<2 from h) (by decide),⟨show(0:Int)<=3 by decide,show(3:Int)<=3 by decide⟩,fun x hx=>by
  rcases EV hx with rfl|hx
  ·exact hv
  ·exact jT hF hx⟩
theorem Eu(p:List BS)(N:Nd):(acts p N).Sublist (ps8 N):=List.filter_sublist
theorem LZ{N:Nd}(h:jh N)(p:List BS):Fit 11 (mkA (acts p N)):=by
 refine TR _ ?_ ?_ ?_
 ·have:=(Eu p N).length_le
  have:=(tj h).2.2;omega
 ·refine List.Nodup.sublist ((Eu p N).map _) ?_
  rw[QR h];exact(pQ h).2.2.1
 ·exact fun q hq=>qW h q ((Eu p N).subset hq)
theorem Tn{N:Nd}(h:jh N)(hp:ps8 N≠[]):svc∈N.aj/\ia N svc=some (sv8 N):=by
 rcases(pQ h).2.2.2.2 with e|e
 ·exact absurd (by unfold ps8;rw[e];rfl) hp
 ·refine⟨?_,e.2⟩
  have:=e.2
  unfold ia at this
  rw[if_pos h.2.1] at this
  exact LV this
theorem RE{N:Nd}(h:jh N)(p:List BS):Fit 12 (ym p N).1:=by
 unfold ym
 show Fit 12 (if ps8 N=[] then N else gy N svc (mkA (acts p N)))
 split
 ·exact h.1
 ·rename_i hp
  exact ML h.2.1 (Tn h hp).1 h.1 (LZ h p)
end Go.Proofs.YtpmmhhmhckpnfaaGreat.M
namespace Go.Proofs.YtpmmhhmhckpnfaaGreat.M
open Go Go.Proofs.YtpmmhhmhckpnfaaGreat.RX Go.Proofs.YtpmmhhmhckpnfaaGreat.PL
set_option maxRecDepth 100000
def Rb:Nat->Nd->Bool
 |0,_=>false
 |d+1,t=>decide (t.ak.length<=2000)&&decide (t.aj.length<=2000)&&decide (t.av≠1->t.aB=[])&&decide (t.av≠3->t.aj=[])&&decide (t.av=3->t.aj.length=t.ak.length/\t.aj.Nodup)&&(decide (t.av>=2)||t.ak.isEmpty)&&decide (0<=t.av/\t.av<=3)&&t.ak.all (Rb d)
theorem La:∀(d:Nat)(t:Nd),Rb d t=true->Fit d t
 |0,_,h=>by cases h
 |d+1,t,h=>by
  unfold Rb at h
  simp only[Bool.and_eq_true,decide_eq_true_eq,List.all_eq_true,Bool.or_eq_true,List.isEmpty_iff] at h
  obtain⟨⟨⟨⟨⟨⟨⟨h1,h2⟩,h3⟩,h4⟩,h5⟩,h6⟩,h7⟩,h8⟩:=h
  exact⟨h1,h2,h3,h4,h5,fun h=>h6.resolve_left (by omega),h7,fun x hx=>La d x (h8 x hx)⟩
end Go.Proofs.YtpmmhhmhckpnfaaGreat.M
namespace Go.Proofs.YtpmmhhmhckpnfaaGreat.M
open Go Go.Proofs.YtpmmhhmhckpnfaaGreat.RX Go.Proofs.YtpmmhhmhckpnfaaGreat.PL
set_option maxRecDepth 100000
abbrev dbg:BS:=mJ
abbrev T23:Nd:=fO svc (fO [98] (fO prf (fO dbg (af.mk 0 [] [] []))))
theorem Eo:jh T23:=by
 refine⟨La 12 _ (by decide),rfl,by decide,fun x hx=>?_⟩
 have hx:some (fO [98] (fO prf (fO dbg (af.mk 0 [] [] []))))=some x:=hx
 cases hx
 exact⟨rfl,by decide⟩
theorem Ua(n:Nat)(hn:2000000<=n):jX n=some true:=by
 unfold jX
 simp only[aS]
 rw[show fO kF (fO [98] (fO qJ (fO mJ (af.mk 0 [] [] []))))=T23 from rfl]
 rw[yv n [] Eo (by decide) (by omega),Option.bind_some,show(ym [] T23).2=[[98]] by decide,mW n _ _ (by decide) (by omega),Option.bind_some,if_pos (by decide),Hu n _ _ Eo (by decide) (by omega),show Om T23 [98] [mJ]=true by decide,Option.bind_some,if_pos (by decide),DX n Eo (by omega),Option.bind_some,if_pos (by decide),show Ej T23=[mJ] by decide,mW n _ _ (by decide) (by omega)]
 rfl
theorem yH(a0:Nd)(_:sZ a0)(a1:List BS)(_:sF a1)(a2:List BS)(_:sF a2):∃n,nS n a0 a1 a2=some true:=by
 obtain⟨n,hn,haw⟩:∃n,n=10000000/\jX n=some true:=⟨10000000,rfl,Ua _ (by decide)⟩
 refine⟨n,?_⟩
 obtain⟨b,b1,b2⟩:=Rm n a0 (by omega)
 obtain⟨p,p1,p2⟩:=QI n a1 40 (by omega) (by omega)
 obtain⟨q,q1,q2⟩:=QI n a2 40 (by omega) (by omega)
 have p1:nI n a1 40=some p:=p1
 have q1:nI n a2 40=some q:=q1
 unfold nS
 rw[b1,Option.bind_some]
 cases b with
 |false =>
  rw[if_neg (by decide),Option.bind_some,if_neg (by decide),Option.bind_some,if_pos (by decide),haw];rfl
 |true =>
  rw[if_pos (by decide),p1,Option.bind_some]
  cases p with
  |false=>rw[if_neg (by decide),Option.bind_some,if_pos (by decide),haw];rfl
  |true =>
   rw[if_pos (by decide),q1,Option.bind_some]
   cases q with
   |false=>rw[if_pos (by decide),haw];rfl
   |true =>
    rw[if_neg (by decide)]
    have hp:=p2 rfl
    have hq:=q2 rfl
    obtain⟨hF,hz,hS⟩:=b2 rfl
    obtain⟨r5,r51,r52⟩:=OU n 6 a0 ⟨hF,hS,hz⟩ (by omega) (by omega)
    rw[r51,Option.bind_some]
    by_cases he:r5.f_E=0
    ·have hN:jh r5.f_N:=r52 he
     rw[if_neg (by simp[he])]
     have hs1:jW n (ym a1 r5.f_N).1 (ym a1 r5.f_N).1=some true:=Qx (RE hN a1) (by omega) (by omega)
     have ho:(ym a1 r5.f_N).2.length<=16:=by
      have h1:=dO ((xW a1 r5.f_N).map (·.1))
      have h2:(xW a1 r5.f_N).length<=(ps8 r5.f_N).length:=List.length_filter_le _ _
      have h3:=(tj hN).2.2
      rw[List.length_map] at h1
      show(srt _).length<=16
      omega
     have hs2:fV n (ym a1 r5.f_N).2 (ym a1 r5.f_N).2=some true:=by rw[mW n _ _ (by omega) (by omega),decide_eq_true rfl]
     have hal:(Ej r5.f_N).length<100000:=by
      have h1:=dO ((ps8 r5.f_N).flatMap fun q=>pr8 q.2)
      have h2:=B8 hN (fun q=>pr8 q.2) (O3 hN)
      unfold Ej;omega
     have hs3:fV n (Ej r5.f_N) (Ej r5.f_N)=some true:=by rw[mW n _ _ hal (by omega),decide_eq_true rfl]
     have hwl:(yB a2 a1 r5.f_N).length<100000:=by
      have h1:=dO (a1++(ps8 r5.f_N).flatMap (wth a2 a1))
      have h2:=B8 hN _ (H7 hN a2 a1)
      rw[List.length_append] at h1
      unfold yB;omega
     have hs4:fV n (yB a2 a1 r5.f_N) (yB a2 a1 r5.f_N)=some true:=by rw[mW n _ _ hwl (by omega),decide_eq_true rfl]
     have hl:=qm (L:=ft n a1 a2 r5) a2.length (fun r=>r=.inl ()) (by omega) (fun k i h=>.inr (by
      rw[ft,if_pos (bZ h),if_pos (aN h),Hu n _ _ hN (by omega) (by omega),Option.bind_some,NJ n _ _ hN (by omega) (by omega),Option.bind_some,if_neg (by simp)])) (fun k=>⟨.inl (),by rw[ft,bK];rfl,rfl⟩) n 0 (Nat.zero_le _) (by omega)
     obtain⟨_,hl,rfl⟩:=hl
     have hl:ft n a1 a2 r5 n 0=some (.inl ()):=hl
     rw[yv n a1 hN (by omega) (by omega),Option.bind_some,Gi n a1 hN (by omega) (by omega),Option.bind_some,hs1,Option.bind_some,if_pos (by decide),hs2,Option.bind_some,if_pos (by decide),DX n hN (by omega),Option.bind_some,if_pos (by decide),Mc n hN (by omega),Option.bind_some,if_pos (by decide),hs3,Option.bind_some,if_pos (by decide),LN n a2 a1 hN (by omega) (by omega) (by omega),Option.bind_some,if_pos (by decide),JL n a2 a1 hN (by omega) (by omega) (by omega),Option.bind_some,if_pos (by decide),hs4,Option.bind_some,if_neg (by decide),hl,Option.bind_some]
     show(jX n).bind _=_
     rw[haw];rfl
    ·rw[if_pos (by rw[bne_iff_ne];exact he),haw];rfl
end Go.Proofs.YtpmmhhmhckpnfaaGreat.M
