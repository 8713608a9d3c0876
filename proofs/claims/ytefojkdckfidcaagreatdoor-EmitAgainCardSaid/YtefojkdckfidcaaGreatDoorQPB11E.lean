import Derived.Test.YtefojkdckfidcaaGreatDoorQLoop
import Derived.Test.YtefojkdckfidcaaGreatDoorQPB11C
set_option linter.all false
namespace Go.Proofs.YtefojkdckfidcaaGreatDoor.M
open Go Go.Proofs.YtefojkdckfidcaaGreatDoor.RX Go.Proofs.YtefojkdckfidcaaGreatDoor.PL
set_option maxRecDepth 100000
def rY(c:UInt8):Bool:=c==34||c==39
theorem Du:∀s:BS,Lib.containsAny s [34,39]=s.any rY
 |[]=>rfl
 |c::s=>by
  have ih:=Du s
  have g:=Lib.indexAny_ge [34,39] s
  unfold Lib.containsAny at ih ⊢
  have e:([34,39]:BS).contains c=rY c:=by unfold rY;simp[gQ]
  rw[Lib.indexAny,List.any_cons,e]
  cases rY c with
  |true=>rfl
  |false =>
   rw[Bool.false_or,<-ih,if_neg Bool.false_ne_true]
   by_cases h:Lib.indexAny s [34,39]=-1
   ·rw[h];rfl
   ·have h2:((Lib.indexAny s [34,39])==-1)=false:=by simpa using h
    rw[h2,if_neg Bool.false_ne_true,Bool.eq_iff_iff,decide_eq_true_eq,decide_eq_true_eq]
    omega
def scS(s:BS):BS:=if(dm s&&!s.any rY)=true then s else bG s
theorem uZ(n:Nat)(s:BS)(hs:s.length<=100000)(hn:200000<=n):lT n s=some (scS s):=by
 unfold lT scS
 rw[if_pos (decide_eq_true (by omega)),Du]
 cases s.any rY with
 |true=>rw[if_pos rfl,yG n s hs hn];simp
 |false =>
  rw[if_neg Bool.false_ne_true]
  unfold qN
  rw[(tG n s hs hn).1,yG n s hs hn]
  cases dm s<;>rfl
theorem Hw(s:BS):(scS s).length<=4*s.length+2:=by
 have:=lQ s
 unfold scS bG
 split
 ·omega
 ·simp only[List.length_append,List.length_cons,List.length_nil];omega
theorem M6{c:UInt8}(h:good c=true):c≠10:=by
 intro e;subst e;exact absurd h (by decide)
theorem P6:∀c:UInt8,(esc c).contains 10=false:=gx (by decide +kernel)
theorem zx(s:BS):(10:UInt8)∉bG s:=by
 unfold bG
 simp only[List.mem_append,List.mem_singleton,List.mem_flatMap,not_or,not_exists,not_and]
 refine⟨⟨by decide,fun c _ h=>?_⟩,by decide⟩
 have:=P6 c
 rw[<-List.contains_iff_mem,this] at h
 cases h
theorem JW{s:BS}(h:dm s=true):∀c∈s,good c=true:=by
 unfold dm at h
 split at h
 ·simp only[Bool.and_eq_true] at h
  intro c hc
  obtain⟨j,hj,rfl⟩:=List.mem_iff_getElem.1 hc
  have:=xP h.2 (Nat.zero_le j) hj
  unfold wF at this
  rw[dif_pos hj,Bool.and_eq_true,Bool.and_eq_true] at this
  exact this.1.1
 ·cases h
theorem Iz(s:BS):(10:UInt8)∉scS s:=by
 unfold scS
 split
 ·rename_i h
  intro h2
  exact M6 (JW (Bool.and_eq_true _ _▸h).1 _ h2) rfl
 ·exact zx s
def keyS(s:BS):BS:=if s=[60,60] then bG s else scS s
theorem Gn(n:Nat)(s:BS)(hs:s.length<=100000)(hn:200000<=n):sO n s=some (keyS s):=by
 unfold sO keyS
 by_cases h:s=[60,60]
 ·rw[if_pos (by rw[h];rfl),if_pos h,yG n s hs hn];rfl
 ·rw[if_neg (by simpa using h),if_neg h,uZ n s hs hn];rfl
theorem FI(s:BS):(keyS s).length<=4*s.length+2:=by
 have:=lQ s
 unfold keyS
 split
 ·unfold bG
  simp only[List.length_append,List.length_cons,List.length_nil];omega
 ·exact Hw s
theorem NG(s:BS):(10:UInt8)∉keyS s:=by
 unfold keyS
 split
 ·exact zx s
 ·exact Iz s
def isS(t:Nd):Bool:=decide (t.aF<2)||t.aj.isEmpty
def shS(t:Nd):BS:=if t.aF=0 then [110,117,108,108] else if t.aF=1 then scS t.au else if t.aF=2 then [91,93] else [123,125]
theorem vn(t:Nd)(h:t.au.length<=10000):(shS t).length<=40002:=by
 have:=Hw t.au
 unfold shS
 repeat' split
 ·decide
 ·omega
 ·decide
 ·decide
theorem CW(t:Nd):(10:UInt8)∉shS t:=by
 unfold shS
 repeat' split
 ·decide
 ·exact Iz _
 ·decide
 ·decide
theorem wV{d:Nat}(n:Nat)(t:Nd)(hF:Fit (d+1) t)(hs:t.au.length<=10000)(hn:200000<=n):nh n t=some (if isS t=true then(shS t,true) else([],false)):=by
 obtain⟨_,_,_,_,_,f6,f7,_⟩:=hF
 unfold nh isS shS
 by_cases h0:t.aF=0
 ·simp[h0]
 rw[if_neg (by simpa using h0),if_neg h0]
 by_cases h1:t.aF=1
 ·rw[if_pos (by rw[h1];rfl),if_pos h1,h1,uZ n _ (by omega) hn];rfl
 rw[if_neg (by simpa using h1),if_neg h1]
 have h2:decide (t.aF<2)=false:=decide_eq_false (by omega)
 rw[h2,Bool.false_or]
 cases hk:t.aj with
 |cons x l =>
  rw[if_pos (decide_eq_true (by rw[List.length_cons];omega))]
  rfl
 |nil =>
  rw[if_neg (by decide)]
  by_cases h3:t.aF=2
  ·rw[if_pos (by rw[h3];rfl),if_pos h3];rfl
  ·rw[if_neg (by simpa using h3),if_neg h3];rfl
def pM(h:BS):List BS->List BS
 |[]=>[]
 |r::t=>(h++r)::pM [32,32] t
def rF(R:Nd->List BS)(b:Bool)(p:BS×Nd):List BS :=
 if b=true then(if isS p.2=true then [((keyS p.1++[58])++[32])++shS p.2] else(keyS p.1++[58])::pM [32,32] (R p.2))
 else(if isS p.2=true then [[45,32]++shS p.2] else pM [45,32] (R p.2))
def prs(t:Nd):List (BS×Nd):=if t.aF=3 then t.aA.zip t.aj else t.aj.map fun k=>([],k)
def lZ:Nat->Nd->List BS
 |0,_=>[]
 |d+1,t=>if isS t=true then [shS t] else(prs t).flatMap (rF (lZ d) (t.aF==3))
theorem vS(h:BS):∀l:List BS,(pM h l).length=l.length
 |[]=>rfl
 |r::t=>by rw[pM,List.length_cons,vS _ t,List.length_cons]
theorem zF{h:BS}{m:Nat}(hm:h.length<=2)(h10:(10:UInt8)∉h):∀{l:List BS},(∀r∈l,r.length<=m/\10∉r)->∀r∈pM h l,r.length<=m+2/\10∉r
 |[],_,r,hr=>by cases hr
 |x::l,hl,r,hr=>by
  rw[pM] at hr
  rcases List.mem_cons.1 hr with rfl|hr
  ·obtain⟨h1,h2⟩:=hl x List.mem_cons_self
   refine⟨by rw[List.length_append];omega,fun hc=>?_⟩
   rcases List.mem_append.1 hc with hc|hc
   ·exact h10 hc
   ·exact h2 hc
  ·exact zF (h:=[32,32]) (by decide) (by decide) (fun r hr=>hl r (List.mem_cons_of_mem _ hr)) r hr
theorem qk{d:Nat}{t:Nd}(hF:Fit (d+1) t):(prs t).length=t.aj.length:=by
 unfold prs
 split
 ·rename_i h
  rw[List.length_zip,(hF.2.2.2.2.1 h).1,Nat.min_self]
 ·rw[List.length_map]
theorem IB{d:Nat}{t:Nd}(hF:Fit (d+1) t){i:Nat}(h:i<(prs t).length):(prs t)[i].2=t.aj[i]'(qk hF▸h):=by
 unfold prs at h ⊢
 by_cases h3:t.aF=3
 ·simp only[h3,if_true] at h ⊢
  rw[List.getElem_zip]
 ·simp only[h3,if_false] at h ⊢
  rw[List.getElem_map]
theorem OH{d:Nat}{t:Nd}(hF:Fit (d+1) t)(hS:Shk 10000 (d+1) t){p:BS×Nd}(h:p∈prs t):p.2∈t.aj/\p.1.length<=10000:=by
 unfold prs at h
 split at h
 ·obtain⟨h1,h2⟩:=List.of_mem_zip h
  exact⟨h2,hS.2.1 _ h1⟩
 ·obtain⟨k,hk,rfl⟩:=List.mem_map.1 h
  exact⟨hk,Nat.zero_le _⟩
theorem PG{R:Nd->List BS}{m z:Nat}(b:Bool)(p:BS×Nd)(hz:1<=z)(hk:p.1.length<=10000)(ht:p.2.au.length<=10000)(hm:90000<=m)
  (hR:(isS p.2=false->(R p.2).length+1<=z)/\R p.2≠[]/\∀r∈R p.2,r.length<=m/\10∉r):(rF R b p).length<=z/\rF R b p≠[]/\∀r∈rF R b p,r.length<=m+2/\10∉r:=by
 obtain⟨h1,h2,h3⟩:=hR
 have k1:=FI p.1
 have k2:=NG p.1
 have s1:=vn p.2 ht
 have s2:=CW p.2
 have hpad:∀h:BS,h.length<=2->(10:UInt8)∉h->pM h (R p.2)≠[]:=fun h _ _ e=>h2 (by
  have:=vS h (R p.2)
  rw[e] at this
  exact List.eq_nil_of_length_eq_zero this.symm)
 unfold rF
 cases b with
 |true =>
  rw[if_pos rfl]
  cases hs:isS p.2 with
  |true =>
   rw[if_pos rfl]
   refine⟨hz,List.cons_ne_nil _ _,fun r hr=>?_⟩
   rw[List.mem_singleton] at hr;subst hr
   refine⟨by simp only[List.length_append,List.length_cons,List.length_nil];omega,?_⟩
   simp only[List.mem_append,List.mem_singleton,not_or]
   exact⟨⟨⟨k2,by decide⟩,by decide⟩,s2⟩
  |false =>
   rw[if_neg Bool.false_ne_true]
   refine⟨by rw[List.length_cons,vS];exact h1 hs,List.cons_ne_nil _ _,fun r hr=>?_⟩
   rcases List.mem_cons.1 hr with rfl|hr
   ·refine⟨by simp only[List.length_append,List.length_cons,List.length_nil];omega,?_⟩
    simp only[List.mem_append,List.mem_singleton,not_or]
    exact⟨k2,by decide⟩
   ·exact zF (by decide) (by decide) h3 r hr
 |false =>
  rw[if_neg Bool.false_ne_true]
  cases hs:isS p.2 with
  |true =>
   rw[if_pos rfl]
   refine⟨hz,List.cons_ne_nil _ _,fun r hr=>?_⟩
   rw[List.mem_singleton] at hr;subst hr
   refine⟨by simp only[List.length_append,List.length_cons,List.length_nil];omega,?_⟩
   simp only[List.mem_append,List.mem_cons,List.not_mem_nil,or_false,not_or]
   exact⟨⟨by decide,by decide⟩,s2⟩
  |false =>
   rw[if_neg Bool.false_ne_true]
   have:=h1 hs
   refine⟨by rw[vS];omega,hpad _ (by decide) (by decide),fun r hr=>zF (by decide) (by decide) h3 r hr⟩
theorem E2{α:Type}{f:α->List BS}{g:α->Nat}:∀{l:List α},(∀x∈l,(f x).length<=g x)->(l.flatMap f).length<=(l.map g).sum
 |[],_=>Nat.le_refl 0
 |x::l,h=>by
  have h1:=h x List.mem_cons_self
  have h2:=E2 (l:=l) fun y hy=>h y (List.mem_cons_of_mem _ hy)
  rw[List.flatMap_cons,List.length_append,List.map_cons,List.sum_cons];omega
theorem PD{d:Nat}{t:Nd}(hF:Fit (d+1) t):((prs t).map fun p=>sz8 d p.2).sum=(t.aj.map (sz8 d)).sum:=by
 have:(prs t).map (fun p=>sz8 d p.2)=t.aj.map (sz8 d):=by
  refine List.ext_getElem (by rw[List.length_map,List.length_map,qk hF]) fun i h1 h2=>?_
  rw[List.getElem_map,List.getElem_map,IB hF]
 rw[this]
theorem vp:∀(d:Nat)(t:Nd),Fit d t->Shk 10000 d t->(isS t=false->(lZ d t).length+1<=sz8 d t)/\lZ d t≠[]/\∀r∈lZ d t,r.length<=90000+2*d/\10∉r
 |0,t,h,_=>h.elim
 |d+1,t,hF,hS=>by
  have f8:=hF.2.2.2.2.2.2.2
  obtain⟨s1,s2,s3⟩:=id hS
  have hs:sz8 (d+1) t=1+(t.aj.map (sz8 d)).sum:=rfl
  have ihE:∀p∈prs t,(rF (lZ d) (t.aF==3) p).length<=sz8 d p.2/\rF (lZ d) (t.aF==3) p≠[]/\∀r∈rF (lZ d) (t.aF==3) p,r.length<=90000+2*d+2/\10∉r:=by
   intro p hp
   obtain⟨h1,h2⟩:=OH hF hS hp
   have ht:p.2.au.length<=10000:=by
    have:=s3 p.2 h1
    have hf:=f8 p.2 h1
    cases d with
    |zero=>exact hf.elim
    |succ d=>exact this.1
   exact PG _ p (pY _ _) h2 ht (by omega) (vp d p.2 (f8 _ h1) (s3 _ h1))
  unfold lZ
  cases hi:isS t with
  |true =>
   rw[if_pos rfl]
   refine⟨fun h=>(by cases h),List.cons_ne_nil _ _,fun r hr=>?_⟩
   rw[List.mem_singleton] at hr;subst hr
   have:=vn t s1
   exact⟨by omega,CW t⟩
  |false =>
   rw[if_neg Bool.false_ne_true]
   refine⟨fun _=>?_,fun e=>?_,fun r hr=>?_⟩
   ·have h1:=E2 (l:=prs t) fun p hp=>(ihE p hp).1
    rw[PD hF] at h1
    omega
   ·have hne:0<(prs t).length:=by
     rw[qk hF]
     unfold isS at hi
     rw[Bool.or_eq_false_iff] at hi
     cases hk:t.aj with
     |nil=>rw[hk] at hi;exact absurd hi.2 (by decide)
     |cons x l=>exact Nat.succ_pos _
    have h1:=(ihE _ (List.getElem_mem hne)).2.1
    exact h1 (List.flatMap_eq_nil_iff.1 e _ (List.getElem_mem hne))
   ·obtain⟨p,hp,hr⟩:=List.mem_flatMap.1 hr
    have:=(ihE p hp).2.2 r hr
    exact⟨by omega,this.2⟩
theorem Bq{a:Nat}(h:a<=1000000000):decide ((a:Int)<=9223372036854775807)=true:=decide_eq_true (by omega)
theorem fitsW{a:Nat}(h:a<=1000000000):decide (a*(1+1)<=limit)=true:=decide_eq_true (by show a*(1+1)<=140737488355328;omega)
theorem G8:∀(l:List BS)(h:BS),h.length<=2->(∀r∈l,r.length<=1000000)->zN h l=some (pM h l)
 |[],_,_,_=>rfl
 |r::t,h,hh,hl=>by
  have h1:=hl r List.mem_cons_self
  rw[zN,if_pos (Bq (by omega)),G8 t [32,32] (by decide) fun x hx=>hl x (List.mem_cons_of_mem _ hx)]
  rfl
theorem NR(R:Nd->Option (List BS))(S:Nd->List BS)(k:Nd)(h:BS)(hh:h.length<=50000)(hk:(shS k).length<=50000)(h2:isS k=false->h.length<=2)(hR:isS k=false->R k=some (S k)/\∀r∈S k,r.length<=1000000) :
  vU R k (if isS k=true then(shS k,true) else([],false)) h=some (if isS k=true then [h++shS k] else pM h (S k)):=by
 unfold vU
 cases hs:isS k with
 |true=>rw[if_pos rfl,if_pos rfl,if_pos rfl,if_pos (Bq (by show h.length+(shS k).length<=_;omega))]
 |false =>
  obtain⟨h1,h3⟩:=hR hs
  rw[if_neg Bool.false_ne_true,if_neg Bool.false_ne_true,if_neg Bool.false_ne_true,h1,Option.bind_some,G8 _ _ (h2 hs) h3]
theorem QT{d:Nat}{t:Nd}(hF:Fit (d+1) t){i:Nat}(h:i<t.aj.length):∃h':i<(prs t).length,(prs t)[i].2=t.aj[i]/\(t.aF=3->∃h2:i<t.aA.length,(prs t)[i].1=t.aA[i]):=by
 have h':i<(prs t).length:=by rw[qk hF];exact h
 refine⟨h',IB hF h',fun h3=>?_⟩
 have hk:=(hF.2.2.2.2.1 h3).1
 refine⟨by omega,?_⟩
 unfold prs at h' ⊢
 simp only[h3,if_true] at h' ⊢
 rw[List.getElem_zip]
theorem P5{d:Nat}(n:Nat)(R:Nd->Option (List BS))(S:Nd->List BS)(t:Nd)(hn:200000<=n)(hF:Fit (d+1) t)(hS:Shk 10000 (d+1) t)(i:Nat)(h:i<t.aj.length)(h':i<(prs t).length)
  (hR:isS t.aj[i]=false->R t.aj[i]=some (S t.aj[i])/\∀r∈S t.aj[i],r.length<=1000000):FY n R t t.aj[i] (i:Int)=some (rF S (t.aF==3) (prs t)[i]):=by
 obtain⟨_,p1,p2⟩:=QT hF h
 have hkF:=hF.2.2.2.2.2.2.2 _ (List.getElem_mem h)
 have hkS:=hS.2.2 _ (List.getElem_mem h)
 have hk2:=hS.2.1
 obtain⟨d,rfl⟩:∃e,d=e+1:=by
  cases d with
  |zero=>exact hkF.elim
  |succ d=>exact⟨d,rfl⟩
 have ht:=hkS.1
 have hsl:=vn _ ht
 unfold FY
 rw[wV n _ hkF ht hn,Option.bind_some]
 generalize hp:(prs t)[i]=p at p1 p2 ⊢
 obtain⟨key,k⟩:=p
 have p1:k=t.aj[i]:=p1
 subst p1
 have tl:∀h:BS,h.length<=50000->(isS t.aj[i]=false->h.length<=2)->_:=fun h a b=>NR R S t.aj[i] h a (by omega) b hR
 unfold rF
 by_cases h3:t.aF=3
 ·obtain⟨hki,e⟩:=p2 h3
  have e:key=t.aA[i]:=e
  subst e
  have kl:=hk2 _ (List.getElem_mem hki)
  have kl2:=FI t.aA[i]
  have e3:(t.aF==3)=true:=by rw[h3];rfl
  rw[e3,if_pos rfl,if_pos rfl,if_pos (bU hki),cY hki,Gn n _ (by omega) hn,Option.bind_some,if_pos (Bq (by simp only[List.length_cons,List.length_nil];omega))]
  cases hs:isS t.aj[i] with
  |true =>
   have:=tl ((keyS t.aA[i]++[58])++[32]) (by simp only[List.length_append,List.length_cons,List.length_nil];omega) (fun e=>by rw[hs] at e;cases e)
   rw[hs,if_pos rfl,if_pos rfl] at this
   simp only[if_true]
   rw[if_pos (Bq (by simp only[List.length_append,List.length_cons,List.length_nil];omega)),this]
  |false =>
   have:=tl [32,32] (by decide) (fun _=>by decide)
   rw[hs,if_neg Bool.false_ne_true,if_neg Bool.false_ne_true] at this
   simp only[Bool.false_eq_true,if_false]
   rw[this];rfl
 ·have e3:(t.aF==3)=false:=by simpa using h3
  rw[e3,if_neg Bool.false_ne_true,if_neg Bool.false_ne_true]
  exact tl [45,32] (by decide) (fun _=>by decide)
theorem FR{d:Nat}(n:Nat)(R:Nd->Option (List BS))(S:Nd->List BS)(t:Nd)(hn:200000<=n)(hF:Fit (d+1) t)(hS:Shk 10000 (d+1) t)
  (hR:∀k∈t.aj,isS k=false->R k=some (S k)/\∀r∈S k,r.length<=1000000):∀(m i:Nat),t.aj.length-i=m->ui n R t (t.aj.drop i) i=some (((prs t).drop i).flatMap (rF S (t.aF==3)))
 |0,i,hm=>by
  rw[List.drop_eq_nil_of_le (by omega),List.drop_eq_nil_of_le (by rw[qk hF];omega)];rfl
 |m+1,i,hm=>by
  have h:i<t.aj.length:=by omega
  have h':i<(prs t).length:=by rw[qk hF];exact h
  rw[drop_at h,drop_at h',ui,P5 n R S t hn hF hS i h h' (hR _ (List.getElem_mem h)),Option.bind_some,FR n R S t hn hF hS hR m (i+1) (by omega)]
  rfl
theorem Gi(n:Nat)(hn:200000<=n):∀(d D:Nat)(t:Nd),Fit d t->Shk 10000 d t->d<=1000->d<=D->qB n D t=some (lZ d t)
 |0,_,t,h,_,_,_=>h.elim
 |d+1,0,_,_,_,_,h=>by omega
 |d+1,D+1,t,hF,hS,hd,hD=>by
  rw[qB,lZ]
  unfold Jq
  rw[wV n t hF hS.1 hn,Option.bind_some]
  cases hs:isS t with
  |true=>rfl
  |false =>
   rw[if_neg Bool.false_ne_true,if_neg Bool.false_ne_true]
   have f1:=hF.1
   have:ui n (qB n D) t (t.aj.drop 0) 0=_:=FR n (qB n D) (lZ d) t hn hF hS (fun k hk _=>⟨Gi n hn d D k (hF.2.2.2.2.2.2.2 k hk) (hS.2.2 k hk) (by omega) (by omega),fun r hr=>by
    have:=((vp d k (hF.2.2.2.2.2.2.2 k hk) (hS.2.2 k hk)).2.2 r hr).1
    omega⟩) _ 0 rfl
   rw[List.drop_zero,List.drop_zero] at this
   simp only[Bool.false_eq_true,if_false]
   rw[if_pos (decide_eq_true (by show t.aj.length<=140737488355328;omega)),this]
def jw(f p:BS):List BS->BS
 |[]=>[]
 |r::t=>((f++r)++[10])++jw p p t
theorem Gf(n:Nat)(m:Nat)(hm:m<=100000):∀(l:List BS)(acc:BS),(∀r∈l,r.length<=m)->acc.length+l.length*(m+1)<=1000000000->gI n l acc=some (acc++jw [] [] l)
 |[],acc,_,_=>by rw[gI,jw,List.append_nil]
 |r::t,acc,hl,hb=>by
  have h1:=hl r List.mem_cons_self
  rw[List.length_cons,Nat.add_mul] at hb
  rw[gI,if_pos (fitsW (by omega)),if_pos (fitsW (by rw[List.length_append];omega)),Gf n m hm t _ (fun x hx=>hl x (List.mem_cons_of_mem _ hx)) (by simp only[List.length_append,List.length_cons,List.length_nil];omega),jw]
  simp
def wrS(t:Nd):BS:=if t.aF=0 then [] else if t.aF=1/\(t.au=[45,45,45]\/t.au=[46,46,46]) then bG t.au++[10] else jw [] [] (lZ 12 t)
theorem C9(t:Nd):((bif (t.aF==1) then(bif (t.au==[45,45,45]) then true else(t.au==[46,46,46])) else false)=true)↔(t.aF=1/\(t.au=[45,45,45]\/t.au=[46,46,46])):=by
 rw[yO,wY];simp
theorem Qv{t:Nd}(hF:Fit 12 t)(hS:Shk 10000 12 t)(hz:sz8 12 t<=2000):(lZ 12 t).length<=2000:=by
 cases hi:isS t with
 |true=>unfold lZ;rw[hi,if_pos rfl];exact Nat.le_add_left 1 1999
 |false=>have:=(vp 12 t hF hS).1 hi;omega
theorem nY(n:Nat)(t:Nd)(hF:Fit 12 t)(hS:Shk 10000 12 t)(hz:sz8 12 t<=2000)(hn:300000<=n):jJ n t=some (wrS t):=by
 have hl:=Qv hF hS hz
 have hm:=(vp 12 t hF hS).2.2
 unfold jJ wrS
 by_cases h0:t.aF=0
 ·rw[if_pos (by rw[h0];rfl),if_pos h0]
 rw[if_neg (by simpa using h0),if_neg h0]
 by_cases h1:t.aF=1/\(t.au=[45,45,45]\/t.au=[46,46,46])
 ·have ht:=hS.1
  have:=lQ t.au
  rw[if_pos ((C9 t).2 h1),if_pos h1,yG n _ (by omega) (by omega),Option.bind_some,if_pos (Bq (by unfold bG;simp only[List.length_append,List.length_cons,List.length_nil];omega))]
 ·rw[if_neg (fun h=>h1 ((C9 t).1 h)),if_neg h1]
  unfold uk
  rw[Gi n (by omega) 12 n t hF hS (by omega) (by omega),Option.bind_some,Gf n 100000 (by omega) _ _ (fun r hr=>by have:=(hm r hr).1;omega) (by simp only[List.length_nil];omega)]
  rfl
end Go.Proofs.YtefojkdckfidcaaGreatDoor.M
namespace Go.Proofs.YtefojkdckfidcaaGreatDoor.M
open Go Go.Proofs.YtefojkdckfidcaaGreatDoor.RX Go.Proofs.YtefojkdckfidcaaGreatDoor.PL
set_option maxRecDepth 100000
theorem MC{t:BS}{b:UInt8}{l m:Nat}(h:lC t=some (b,l))(hm:l<=m+1):lC (t.take m)=some (b,l):=by
 have hl:=sQ h
 obtain⟨m,rfl⟩:∃m',m=m'+1:=⟨m-1,by omega⟩
 cases t with
 |nil=>cases h
 |cons d r =>
  rw[List.take_succ_cons]
  simp only[lC] at h ⊢
  by_cases h1:d=92\/d=34
  ·rw[if_pos h1] at h ⊢;exact h
  rw[if_neg h1] at h ⊢
  by_cases h2:d=110
  ·rw[if_pos h2] at h ⊢;exact h
  rw[if_neg h2] at h ⊢
  by_cases h3:d=116
  ·rw[if_pos h3] at h ⊢;exact h
  rw[if_neg h3] at h ⊢
  by_cases h4:d=120
  ·rw[if_pos h4] at h ⊢
   cases r with
   |nil=>cases h
   |cons x r =>
    cases r with
    |nil=>cases h
    |cons y r =>
     have:l=4:=by
      simp only at h
      split at h
      ·cases h;rfl
      ·cases h
     subst this
     obtain⟨m,rfl⟩:∃m',m=m'+2:=⟨m-2,by omega⟩
     exact h
  ·rw[if_neg h4] at h;cases h
theorem take_at{s:BS}{i e:Nat}(h:i<e)(he:e<=s.length):i<(s.take e).length/\∀(h1:i<(s.take e).length)(h2:i<s.length),(s.take e)[i]=s[i]:=by
 refine⟨by rw[List.length_take];omega,fun h1 h2=>List.getElem_take⟩
theorem IE(s:BS)(e i:Nat):(s.take e).drop i=(s.drop i).take (e-i):=List.drop_take ..
theorem Ku(n:Nat)(s:BS)(e:Nat)(hs:s.length<=10000)(he:e<=s.length):∀(k i:Nat)(acc:BS)(r:Sum Unit (BS×Int×Int)),s.length<k+i->acc.length<=i->aS n s 34 (k+1) (i:Int) acc=some r->(qf r).2.2=0->(qf r).2.1<=(e:Int)->aS n (s.take e) 34 (k+1) (i:Int) acc=some r
 |k,i,acc,r,h1,h2,hr,h0,hle=>by
  obtain⟨q,q',g1,_,_,g4⟩:=vm n s hs k i acc h1 h2
  rw[hr] at g1;cases g1
  obtain⟨j,g5,g6,g7,_⟩:=g4 h0
  have hie:i<e:=by omega
  have h:i<s.length:=by omega
  obtain⟨t1,t2⟩:=take_at hie he
  have hl:(s.take e).length=e:=by rw[List.length_take];omega
  rw[q34 n k s acc i (by omega) (by omega) h] at hr
  rw[q34 n k (s.take e) acc i (by omega) (by omega) t1,t2 t1 h]
  obtain⟨k,rfl⟩:∃k',k=k'+1:=⟨k-1,by omega⟩
  by_cases hg:good s[i]=false
  ·rw[if_pos hg] at hr;cases hr;cases h0
  ·rw[if_neg hg] at hr ⊢
   by_cases c34:s[i]=34
   ·rw[if_pos c34] at hr ⊢;exact hr
   ·rw[if_neg c34] at hr ⊢
    by_cases c92:s[i]=92
    ·rw[if_pos c92] at hr ⊢
     cases hu:lC (s.drop (i+1)) with
     |none=>rw[hu] at hr;cases hr;cases h0
     |some p =>
      obtain⟨b,l⟩:=p
      rw[hu] at hr
      have hlen:=sQ hu
      rw[List.length_drop] at hlen
      obtain⟨q,q',g1,_,_,g4⟩:=vm n s hs k (i+l) (acc++[b]) (by omega) (by simp;omega)
      simp only at hr
      rw[hr] at g1;cases g1
      obtain⟨j',g5',g6',_,_⟩:=g4 h0
      have hu2:lC ((s.take e).drop (i+1))=some (b,l):=by rw[IE];exact MC hu (by omega)
      rw[hu2]
      exact Ku n s e hs he k (i+l) (acc++[b]) r (by omega) (by simp;omega) hr h0 hle
    ·rw[if_neg c92] at hr ⊢
     exact Ku n s e hs he k (i+1) (acc++[s[i]]) r (by omega) (by simp;omega) hr h0 hle
 termination_by k=>k
theorem Jf(n:Nat)(s:BS)(e:Nat)(hs:s.length<=10000)(he:e<=s.length):∀(k i:Nat)(acc:BS)(r:Sum Unit (BS×Int×Int)),s.length<k+i->acc.length<=i->aS n s 39 (k+1) (i:Int) acc=some r->(qf r).2.2=0->(qf r).2.1<=(e:Int)->aS n (s.take e) 39 (k+1) (i:Int) acc=some r
 |k,i,acc,r,h1,h2,hr,h0,hle=>by
  obtain⟨q,q',g1,_,_,g4⟩:=vh n s hs k i acc h1 h2
  rw[hr] at g1;cases g1
  obtain⟨j,g5,g6,g7,_⟩:=g4 h0
  have hie:i<e:=by omega
  have h:i<s.length:=by omega
  obtain⟨t1,t2⟩:=take_at hie he
  have hl:(s.take e).length=e:=by rw[List.length_take];omega
  rw[q39 n k s acc i (by omega) (by omega) h] at hr
  rw[q39 n k (s.take e) acc i (by omega) (by omega) t1,t2 t1 h]
  obtain⟨k,rfl⟩:∃k',k=k'+1:=⟨k-1,by omega⟩
  by_cases hg:good s[i]=false
  ·rw[if_pos hg] at hr;cases hr;cases h0
  ·rw[if_neg hg] at hr ⊢
   by_cases c39:s[i]=39
   ·rw[if_pos c39] at hr ⊢
    by_cases hx:(if h':i+1<s.length then s[i+1]==39 else false)=true
    ·rw[if_pos hx] at hr
     obtain⟨q,q',g1,_,_,g4⟩:=vh n s hs k (i+2) (acc++[39]) (by omega) (by simp;omega)
     rw[hr] at g1;cases g1
     obtain⟨j',g5',g6',_,_⟩:=g4 h0
     have hx2:(if h':i+1<(s.take e).length then(s.take e)[i+1]==39 else false)=true:=by
      have h':i+1<s.length:=by omega
      rw[dif_pos h'] at hx
      obtain⟨u1,u2⟩:=take_at (s:=s) (show i+1<e by omega) he
      rw[dif_pos u1,u2 u1 h'];exact hx
     rw[if_pos hx2]
     exact Jf n s e hs he k (i+2) (acc++[39]) r (by omega) (by simp;omega) hr h0 hle
    ·rw[if_neg hx] at hr
     have hx2:¬(if h':i+1<(s.take e).length then(s.take e)[i+1]==39 else false)=true:=by
      intro hy
      apply hx
      by_cases u1:i+1<(s.take e).length
      ·rw[dif_pos u1] at hy
       have h':i+1<s.length:=by omega
       obtain⟨_,u2⟩:=take_at (s:=s) (show i+1<e by omega) he
       rw[u2 u1 h'] at hy
       rw[dif_pos h'];exact hy
      ·rw[dif_neg u1] at hy;cases hy
     rw[if_neg hx2];exact hr
   ·rw[if_neg c39] at hr ⊢
    exact Jf n s e hs he k (i+1) (acc++[s[i]]) r (by omega) (by simp;omega) hr h0 hle
 termination_by k=>k
theorem Nz(n:Nat)(s:BS)(i e:Nat)(r:BS×Int×Int)(hn:20000<=n)(hs:s.length<=10000)(he:e<=s.length)(h:i<e)(hr:bp n s (i:Int)=some r)(h0:r.2.2=0)(hle:r.2.1<=(e:Int)):bp n (s.take e) (i:Int)=some r:=by
 obtain⟨n,rfl⟩:∃m,n=m+1:=⟨n-1,by omega⟩
 have hi:i<s.length:=by omega
 obtain⟨t1,t2⟩:=take_at h he
 have t2:=t2 t1 hi
 have hl:(s.take e).length=e:=by rw[List.length_take];omega
 unfold bp at hr ⊢
 have d1:decide ((i:Int)<0)=false:=decide_eq_false (by omega)
 have d2:decide ((i:Int)>=(s.length:Int))=false:=decide_eq_false (by omega)
 have d3:decide ((i:Int)>=((s.take e).length:Int))=false:=decide_eq_false (by omega)
 have n34:((s[i].toNat:Int) != 34)=!(decide (s[i]=34)):=by rw[<-b34];rfl
 have n39:((s[i].toNat:Int) != 39)=!(decide (s[i]=39)):=by rw[<-b39];rfl
 simp only[d1,d2,bU hi,cY hi,n34,n39,aP,aZ i (by omega),Bool.or_true,if_true,cond_false] at hr
 simp only[d1,d3,bU t1,cY t1,t2,n34,n39,aP,aZ i (by omega),Bool.or_true,if_true,cond_false]
 by_cases c34:s[i]=34
 ·obtain⟨q,q',h1,_,_,_⟩:=vm (n+1) s hs n (i+1) [] (by omega) (by simp)
  rw[c34] at hr ⊢
  have h1':aS (n+1) s ((34:UInt8).toNat:Int) (n+1) ((i+1:Nat):Int) []=some q:=h1
  simp only[h1',decide_true,Bool.not_true,cond_false,Bool.false_eq_true,if_false,Option.bind_some] at hr
  have hq:qf q=r:=by
   cases q with
   |inl _=>exact Option.some.inj hr
   |inr o=>exact Option.some.inj hr
  have h2:=Ku (n+1) s e hs he n (i+1) [] q (by omega) (by simp) h1 (by rw[hq];exact h0) (by rw[hq];exact hle)
  have h2':aS (n+1) (s.take e) ((34:UInt8).toNat:Int) (n+1) ((i+1:Nat):Int) []=some q:=h2
  simp only[h2',decide_true,Bool.not_true,cond_false,Bool.false_eq_true,if_false,Option.bind_some]
  exact hr
 ·by_cases c39:s[i]=39
  ·obtain⟨q,q',h1,_,_,_⟩:=vh (n+1) s hs n (i+1) [] (by omega) (by simp)
   rw[c39] at hr ⊢
   have e1:decide ((39:UInt8)=34)=false:=by decide
   have e2:decide ((39:UInt8)=39)=true:=by decide
   have h1':aS (n+1) s ((39:UInt8).toNat:Int) (n+1) ((i+1:Nat):Int) []=some q:=h1
   simp only[h1',e1,e2,Bool.not_true,Bool.not_false,cond_true,Bool.false_eq_true,if_false,Option.bind_some] at hr
   have hq:qf q=r:=by
    cases q with
    |inl _=>exact Option.some.inj hr
    |inr o=>exact Option.some.inj hr
   have h2:=Jf (n+1) s e hs he n (i+1) [] q (by omega) (by simp) h1 (by rw[hq];exact h0) (by rw[hq];exact hle)
   have h2':aS (n+1) (s.take e) ((39:UInt8).toNat:Int) (n+1) ((i+1:Nat):Int) []=some q:=h2
   simp only[h2',e1,e2,Bool.not_true,Bool.not_false,cond_true,Bool.false_eq_true,if_false,Option.bind_some]
   exact hr
  ·simp[c34,c39] at hr
   rw[<-hr] at h0;cases h0
theorem xe(n k:Nat)(s:BS)(i e:Nat)(hn:20000<=n)(hs:s.length<=10000)(h:i<s.length)(he:e<=i):∃r,bp n s (i:Int)=some r/\Nx s i r /\
  aR n (k+1) s (i:Int) (e:Int)=(if rem s[i] (bef s i)=true then some (s.take e,true) else if quo s[i] (bef s i)=true then(if r.2.2=0 then aR n k s r.2.1 r.2.1 else some ([],false))
   else if good s[i]=false then some ([],false) else if s[i]=32 then aR n k s ((i+1:Nat):Int) (e:Int) else aR n k s ((i+1:Nat):Int) ((i+1:Nat):Int)):=by
 have hne:((i:Int)==(s.length:Int))=false:=by rw[oy];exact decide_eq_false (by omega)
 obtain⟨r,q1,q2,q3,q4⟩:=KG n s i e hn h hs he
 refine⟨r,q1,q3,?_⟩
 have hchk:(!(((i:Int)==0)==false)||decide (0<=(IntKind.wrap .i64 ((i:Int)-1))/\(IntKind.wrap .i64 ((i:Int)-1))<(List.length s:Int)))=true:=by
  by_cases h0:0<i
  ·rw[(qh h h0 (by omega)).1,Bool.or_true]
  ·have:i=0:=by omega
   subst this;rfl
 rw[aR,hne,if_neg Bool.false_ne_true,if_pos hchk,if_pos (bU h),cY h,q4]
 by_cases hr:rem s[i] (bef s i)=true
 ·rw[if_pos hr,if_pos hr];rfl
 ·rw[if_neg hr,if_neg hr]
  by_cases hq:quo s[i] (bef s i)=true
  ·rw[if_pos hq,if_pos hq]
   by_cases hz:r.2.2=0
   ·have hz':(r.2.2 != 0)=false:=by rw[hz];rfl
    rw[hz',if_neg Bool.false_ne_true,if_pos hz];rfl
   ·have hz':(r.2.2 != 0)=true:=by simpa using hz
    rw[hz',if_pos rfl,if_neg hz];rfl
  ·rw[if_neg hq,if_neg hq]
   cases hg:good s[i] with
   |false=>rfl
   |true =>
    rw[if_neg (by decide:¬true=false),if_neg (by decide:¬true=false)]
    by_cases hb:s[i]=32
    ·rw[if_pos hb,if_pos hb]
     show aR n k s (IntKind.wrap .i64 ((i:Int)+1)) (e:Int)=_
     rw[aZ i (by omega)]
    ·rw[if_neg hb,if_neg hb]
     show aR n k s (IntKind.wrap .i64 ((i:Int)+1)) ((i+1:Nat):Int)=_
     rw[aZ i (by omega)]
theorem yD(n k:Nat)(s:BS)(e:Nat)(he:e<=s.length):aR n (k+1) s (s.length:Int) (e:Int)=some (s.take e,true):=by
 have heq:(((s.length:Nat):Int)==(s.length:Int))=true:=by rw[oy];exact decide_eq_true rfl
 rw[aR,heq,if_pos rfl,if_pos (mD he),tn]
theorem NC{s:BS}{i e:Nat}(h:i<e)(he:e<=s.length):bef (s.take e) i=bef s i:=by
 unfold bef
 by_cases h0:0<i
 ·rw[if_pos h0,if_pos h0,List.getElem?_take_of_lt (by omega)]
 ·rw[if_neg h0,if_neg h0]
theorem yB(n:Nat)(s:BS)(hn:20000<=n)(hs:s.length<=10000):∀(k i e:Nat)(t:BS),i<=s.length->s.length-i<k->e<=i->s.take e=qH (s.take i)->aR n k s (i:Int) (e:Int)=some (t,true) ->
  (∃u,t=qH u)/\∃E,e<=E/\E<=s.length/\t=s.take E/\(E=e\/(i<E/\aR n k (s.take E) (i:Int) (e:Int)=some (t,true)))
 |0,i,e,t,_,h,_,_,_=>by omega
 |k+1,i,e,t,h1,h2,he,hinv,hr=>by
  by_cases h:i<s.length
  ·obtain⟨r,q1,q2,q3⟩:=xe n k s i e hn hs h he
   rw[q3] at hr
   by_cases hrem:rem s[i] (bef s i)=true
   ·rw[if_pos hrem] at hr
    cases hr
    exact⟨⟨_,hinv⟩,e,Nat.le_refl _,by omega,rfl,.inl rfl⟩
   ·rw[if_neg hrem] at hr
    have again:∀E,i<E->E<=s.length->∃r',bp n (s.take E) (i:Int)=some r'/\aR n (k+1) (s.take E) (i:Int) (e:Int)=(if quo s[i] (bef s i)=true then(if r'.2.2=0 then aR n k (s.take E) r'.2.1 r'.2.1 else some ([],false))
      else if good s[i]=false then some ([],false) else if s[i]=32 then aR n k (s.take E) ((i+1:Nat):Int) (e:Int) else aR n k (s.take E) ((i+1:Nat):Int) ((i+1:Nat):Int)):=by
     intro E hE hEs
     obtain⟨t1,t2⟩:=take_at hE hEs
     obtain⟨r',p1,_,p3⟩:=xe n k (s.take E) i e hn (by rw[List.length_take];omega) t1 he
     rw[t2 t1 h,NC hE hEs,if_neg hrem] at p3
     exact⟨r',p1,p3⟩
    have ends:∀j,j<=s.length->j>i->aR n k (s.take j) (j:Int) (j:Int)=some (s.take j,true):=by
     intro j hj hij
     obtain⟨k,rfl⟩:∃k',k=k'+1:=⟨k-1,by omega⟩
     have hl:(s.take j).length=j:=by rw[List.length_take];omega
     have:=yD n k (s.take j) j (by omega)
     rw[hl,List.take_take,Nat.min_self] at this
     exact this
    by_cases hq:quo s[i] (bef s i)=true
    ·rw[if_pos hq] at hr
     by_cases hz:r.2.2=0
     ·rw[if_pos hz] at hr
      obtain⟨j,f1,f2,f3,f4⟩:=q2 hz
      rw[f1] at hr
      have hj:j-1<s.length:=by omega
      rw[List.getElem?_eq_getElem hj,Option.getD_some] at f4
      obtain⟨hu,E,e1,e2,e3,e4⟩:=yB n s hn hs k j j t f3 (by omega) (Nat.le_refl _) (by rw[show j=(j-1)+1 by omega,kW hj,lh,if_neg f4]) hr
      refine⟨hu,E,by omega,e2,e3,.inr ⟨by omega,?_⟩⟩
      obtain⟨r',p1,p2⟩:=again E (by omega) e2
      have hcut:=Nz n s i E r hn hs e2 (by omega) q1 hz (by rw[f1];omega)
      rw[hcut] at p1;cases p1
      rw[p2,if_pos hq,if_pos hz,f1]
      rcases e4 with rfl|⟨_,e5⟩
      ·rw[ends E e2 (by omega),e3]
      ·exact e5
     ·rw[if_neg hz] at hr;cases hr
    ·rw[if_neg hq] at hr
     by_cases hg:good s[i]=false
     ·rw[if_pos hg] at hr;cases hr
     ·rw[if_neg hg] at hr
      by_cases hb:s[i]=32
      ·rw[if_pos hb] at hr
       obtain⟨hu,E,e1,e2,e3,e4⟩:=yB n s hn hs k (i+1) e t (by omega) (by omega) (by omega) (by rw[kW h,lh,if_pos hb];exact hinv) hr
       refine⟨hu,E,e1,e2,e3,?_⟩
       rcases e4 with e4|⟨e4,e5⟩
       ·exact .inl e4
       ·refine .inr ⟨by omega,?_⟩
        obtain⟨r',_,p2⟩:=again E (by omega) e2
        rw[p2,if_neg hq,if_neg hg,if_pos hb]
        exact e5
      ·rw[if_neg hb] at hr
       obtain⟨hu,E,e1,e2,e3,e4⟩:=yB n s hn hs k (i+1) (i+1) t (by omega) (by omega) (by omega) (by rw[kW h,lh,if_neg hb]) hr
       refine⟨hu,E,by omega,e2,e3,.inr ⟨by omega,?_⟩⟩
       obtain⟨r',_,p2⟩:=again E (by omega) e2
       rw[p2,if_neg hq,if_neg hg,if_neg hb]
       rcases e4 with rfl|⟨_,e5⟩
       ·rw[ends (i+1) e2 (by omega),e3]
       ·exact e5
  ·have hi:i=s.length:=by omega
   subst hi
   rw[yD n k s e (by omega)] at hr
   cases hr
   exact⟨⟨_,hinv⟩,e,Nat.le_refl _,by omega,rfl,.inl rfl⟩
theorem BK(n:Nat)(s:BS)(hn:20000<=n):iE n s=aR n n s 0 0:=by
 unfold iE
 obtain⟨k,rfl⟩:∃k,n=k+1:=⟨n-1,by omega⟩
 have:jF (k+1) (k+1) s=aR (k+1) (k+1) s 0 0:=by
  rw[jF,aR];rfl
 rw[this]
 cases aR (k+1) (k+1) s 0 0<;>rfl
theorem Ja(u:BS)(h:qH u≠[]):(qH u).getLast h≠32:=by
 have key:∀v:BS,∀h:(v.dropWhile (·==32)).reverse≠[],(v.dropWhile (·==32)).reverse.getLast h≠32:=by
  intro v h
  rw[List.getLast_reverse]
  have hne:v.dropWhile (·==32)≠[]:=fun e=>h (by rw[e];rfl)
  have:=List.head_dropWhile_not (fun x:UInt8=>x==32) hne
  simpa using this
 exact key u.reverse h
theorem Qa(n:Nat)(s t:BS)(hn:20000<=n)(hs:s.length<=10000)(h:iE n s=some (t,true)):iE n t=some (t,true)/\t=s.take t.length/\t.length<=s.length/\(∀hne:t≠[],t.getLast hne≠32)/\t.head?≠some 35:=by
 rw[BK n s hn] at h
 obtain⟨⟨u,hu⟩,E,_,e2,e3,e4⟩:=yB n s hn hs n 0 0 t (by omega) (by omega) (by omega) rfl h
 have hl:t.length=E:=by rw[e3,List.length_take];omega
 refine⟨?_,by rw[hl];exact e3,by omega,fun hne=>?_,?_⟩
 ·rw[BK n t hn]
  rcases e4 with rfl|⟨_,e5⟩
  ·have:t=[]:=List.eq_nil_of_length_eq_zero hl
   subst this
   obtain⟨k,rfl⟩:∃k,n=k+1:=⟨n-1,by omega⟩
   exact yD (k+1) k [] 0 (by simp)
  ·rw[<-e3] at e5;exact e5
 ·subst hu;exact Ja u hne
 ·intro h35
  cases t with
  |nil=>cases h35
  |cons c t =>
   simp only[List.head?_cons,Option.some.injEq] at h35
   subst h35
   have h0:0<s.length:=by simp at hl;omega
   have hc:s[0]=35:=by
    have:(s.take E)[0]? = some 35:=by rw[<-e3];rfl
    rw[List.getElem?_take_of_lt (by simp at hl;omega),List.getElem?_eq_getElem h0] at this
    exact Option.some.inj this
   obtain⟨k,rfl⟩:∃k,n=k+1:=⟨n-1,by omega⟩
   obtain⟨r,_,_,q3⟩:=xe (k+1) k s 0 0 hn hs h0 (Nat.le_refl _)
   have q3':aR (k+1) (k+1) s 0 0=_:=q3
   rw[h,if_pos (by rw[hc];rfl)] at q3'
   cases q3'
def Kq(x:av):BS:=List.replicate x.aI.toNat 32++x.au++[10]
def qM(l:List av):BS:=l.flatMap Kq
structure Gl(n:Nat)(x:av):Prop where
 ind:0<=x.aI
 ne:x.au≠[]
 h32:x.au.head?≠some 32
 h35:x.au.head?≠some 35
 last:∀hne:x.au≠[],x.au.getLast hne≠32
 say:iE n x.au=some (x.au,true)
 nl:(10:UInt8)∉x.au
 dash:¬(x.aI=0/\(x.au=[45,45,45]\/x.au=[46,46,46]))
 len:x.au.length<=10000
def uh:Nat->List av->List av
 |_,[]=>[]
 |no,x::l=>av.mk ((no+1:Nat):Int) x.aI x.au::uh (no+1) l
theorem Dm:∀(l:List av)(no:Nat),(uh no l).length=l.length
 |[],_=>rfl
 |x::l,no=>by simp[uh,Dm l]
theorem OV(m:Nat)(t:BS)(h:t.head?≠some 32):ind (List.replicate m 32++t)=m:=by
 induction m with
 |zero =>
  cases t with
  |nil=>rfl
  |cons c t =>
   rw[List.replicate_zero,List.nil_append,zE,if_neg]
   intro e;subst e;exact h rfl
 |succ m ih=>rw[List.replicate_succ,List.cons_append,zE,if_pos rfl,ih]
theorem FP{n:Nat}:∀(l:List av)(no:Nat),(∀x∈l,Gl n x)->Sp n (qM l) no (uh no l)
 |[],no,_=>.nil no
 |x::l,no,hg=>by
  have g:=hg x (List.mem_cons_self ..)
  have ih:=FP l (no+1) fun y hy=>hg y (List.mem_cons_of_mem _ hy)
  have hd:qM (x::l)=(List.replicate x.aI.toNat 32++x.au)++10::qM l:=by
   have:qM (x::l)=Kq x++qM l:=List.flatMap_cons
   rw[this];unfold Kq;simp
  have hr:=DN (List.replicate x.aI.toNat 32++x.au) (qM l) (by
   intro hm
   rcases List.mem_append.1 hm with hm|hm
   ·have:=List.eq_of_mem_replicate hm;exact absurd this (by decide)
   ·exact g.nl hm)
  rw[<-hd] at hr
  have hi:=OV x.aI.toNat x.au g.h32
  have hdrop:(List.replicate x.aI.toNat (32:UInt8)++x.au).drop x.aI.toNat=x.au:=by
   have:=List.drop_left (l₁:=List.replicate x.aI.toNat (32:UInt8)) (l₂:=x.au)
   rw[List.length_replicate] at this;exact this
  have:=Sp.line (n:=n) (qM (x::l)) no x.au (uh (no+1) l) (by rw[hd];simp) g.ne
   (by rw[hr];simp only;rw[hi,hdrop];exact g.say)
   (by rw[hr];simp only;rw[hi];intro hc;exact g.dash ⟨by have:=g.ind;omega,hc.2⟩)
   (by rw[hr];exact ih)
  rw[hr] at this
  simp only at this
  rw[hi] at this
  have e:((x.aI.toNat:Nat):Int)=x.aI:=Int.toNat_of_nonneg g.ind
  rw[e] at this
  exact this
theorem um(n:Nat)(S:BS)(i:Nat)(u r:BS)(hS:S.length<=100000000)(hn:S.length+1<n)(hd:S.drop i=bG u++r):bp n S (i:Int)=some (u,((i+(bG u).length:Nat):Int),0):=by
 have hd0:S.drop i=34::(u.flatMap esc++34::r):=by rw[hd];unfold bG;simp
 obtain⟨hi,h1,h2⟩:=drop_cons hd0
 have hul:∀u:BS,u.length<=(u.flatMap esc).length:=by
  intro u
  induction u with
  |nil=>exact Nat.le_refl 0
  |cons c u ih =>
   have:1<=(esc c).length:=by
    unfold esc
    repeat' split
    all_goals simp
   rw[List.flatMap_cons,List.length_append,List.length_cons];omega
 have hl:=hul u
 have hlen:=congrArg List.length h2
 rw[List.length_drop,List.length_append,List.length_cons] at hlen
 rw[DR n S i hS hi (.inl h1),h1]
 have:=EH n S r hS u n (i+1) [] (by omega) (by simp only[List.length_nil];omega) h2
 have e:(34:UInt8).toNat=34:=rfl
 rw[e]
 have this:aS n S 34 n ((i+1:Nat):Int) []=_:=this
 have e2:((34:Nat):Int)=34:=rfl
 rw[e2,this]
 show some ([]++u,_,_)=_
 have e3:i+1+(u.flatMap esc).length+1=i+(bG u).length:=by
  unfold bG;simp only[List.length_append,List.length_cons,List.length_nil];omega
 rw[e3,List.nil_append]
def wA(n:Nat)(s:BS)(i e:Nat):Prop:=∀K,s.length-i<K->aR n K s (i:Int) (e:Int)=some (s,true)
theorem Q9(n:Nat)(s:BS):wA n s s.length s.length:=by
 intro K hK
 obtain⟨k,rfl⟩:∃k,K=k+1:=⟨K-1,by omega⟩
 rw[yD n k s s.length (Nat.le_refl _),List.take_length]
theorem Px{n:Nat}{s:BS}{i e:Nat}(hn:20000<=n)(hs:s.length<=10000)(h:i<s.length)(he:e<=i)(c1:rem s[i] (bef s i)=false)(c2:quo s[i] (bef s i)=false)(c3:good s[i]=true)
  (hg:∀e',e'<=i+1->(s[i]≠32->e'=i+1)->wA n s (i+1) e'):wA n s i e:=by
 intro K hK
 obtain⟨k,rfl⟩:∃k,K=k+1:=⟨K-1,by omega⟩
 obtain⟨r,_,_,h3⟩:=xe n k s i e hn hs h he
 rw[h3,c1,c2,c3,if_neg Bool.false_ne_true,if_neg Bool.false_ne_true,if_neg (by decide)]
 by_cases h32:s[i]=32
 ·rw[if_pos h32]
  exact hg e (by omega) (fun h=>(h h32).elim) k (by omega)
 ·rw[if_neg h32]
  exact hg (i+1) (Nat.le_refl _) (fun _=>rfl) k (by omega)
def PlB:UInt8->BS->Prop
 |_,[]=>True
 |b,c::u=>good c=true/\c≠34/\c≠39/\¬(c=35/\b=32)/\PlB c u
theorem xR{n:Nat}{s:BS}(hn:20000<=n)(hs:s.length<=10000):∀(u r:BS)(i e:Nat),s.drop i=u++r->e<=i->PlB (bef s i) u->(∀e',e'<=i+u.length->(u=[]->e'=e)->(∀c,u.getLast? = some c->c≠32->e'=i+u.length)->wA n s (i+u.length) e')->wA n s i e
 |[],r,i,e,_,he,_,hg=>hg e (by simpa using he) (fun _=>rfl) (fun c h=>by cases h)
 |c::u,r,i,e,hd,he,⟨p1,p2,p3,p4,p5⟩,hg=>by
  obtain⟨hi,h1,h2⟩:=drop_cons hd
  have hb:bef s (i+1)=c:=by
   unfold bef
   rw[if_pos (Nat.succ_pos i),Nat.add_sub_cancel,List.getElem?_eq_getElem hi,h1];rfl
  refine Px hn hs hi he ?_ ?_ (h1▸p1) fun e' h3 h4=>?_
  ·unfold rem;rw[h1]
   cases hx:decide (c=35) with
   |false=>rfl
   |true =>
    have:=of_decide_eq_true hx
    rw[decide_eq_false (fun h=>p4 ⟨this,h⟩)];rfl
  ·unfold quo;rw[h1,decide_eq_false p2,decide_eq_false p3];rfl
  ·refine xR hn hs u r (i+1) e' h2 h3 (by rw[hb];exact p5) fun e2 h5 h7 h6=>?_
   have e0:i+1+u.length=i+(c::u).length:=by rw[List.length_cons];omega
   rw[e0]
   refine hg e2 (by rw[<-e0];exact h5) (fun h=>by cases h) fun c' hc hne=>?_
   cases u with
   |nil =>
    cases hc
    rw[h7 rfl]
    exact h4 (h1▸hne)
   |cons d u =>
    rw[List.getLast?_cons_cons] at hc
    rw[<-e0];exact h6 c' hc hne
def Sy(u:BS):Prop:=∀(n:Nat)(s:BS)(i e:Nat)(r:BS),20000<=n->s.length<=10000->s.drop i=u++r->bef s i=32->e<=i->wA n s (i+u.length) (i+u.length)->wA n s i e
theorem C3(u:BS):Sy (bG u):=by
 intro n s i e r hn hs hd hb he hg K hK
 have hd0:s.drop i=34::(u.flatMap esc++34::r):=by rw[hd];unfold bG;simp
 obtain⟨hi,h1,_⟩:=drop_cons hd0
 obtain⟨k,rfl⟩:∃k,K=k+1:=⟨K-1,by omega⟩
 obtain⟨q,q1,_,h3⟩:=xe n k s i e hn hs hi he
 have hsc:=um n s i u r (by omega) (by omega) hd
 rw[q1] at hsc
 cases hsc
 have c1:rem s[i] (bef s i)=false:=by rw[h1];rfl
 have c2:quo s[i] (bef s i)=true:=by rw[h1,hb];rfl
 rw[h3,c1,c2,if_neg Bool.false_ne_true,if_pos rfl,if_pos rfl]
 have hl:2<=(bG u).length:=by unfold bG;simp only[List.length_append,List.length_cons,List.length_nil];omega
 exact hg k (by omega)
theorem vV(u:BS)(h:PlB 32 u)(hne:u≠[])(hl:∀c,u.getLast? = some c->c≠32):Sy u:=by
 intro n s i e r hn hs hd hb he hg
 refine xR hn hs u r i e hd he (by rw[hb];exact h) fun e' _ _ h6=>?_
 cases hx:u.getLast? with
 |none=>exact(hne (List.getLast?_eq_none_iff.1 hx)).elim
 |some c=>rw[h6 c hx (hl c hx)];exact hg
theorem Md{s:BS}(hok:gY s 0=true)(hm:s.any rY=false)(h0:∀h:0<s.length,s[0]≠35):∀(m i:Nat),s.length-i=m->PlB (bef s i) (s.drop i)
 |0,i,h=>by rw[List.drop_eq_nil_of_le (by omega)];trivial
 |m+1,i,h=>by
  have hi:i<s.length:=by omega
  have ih:=Md hok hm h0 m (i+1) (by omega)
  rw[drop_at hi]
  have hb:bef s (i+1)=s[i]:=by
   unfold bef
   rw[if_pos (Nat.succ_pos i),Nat.add_sub_cancel,List.getElem?_eq_getElem hi];rfl
  rw[hb] at ih
  have ha:=xP hok (Nat.zero_le i) hi
  unfold wF at ha
  rw[dif_pos hi,Bool.and_eq_true,Bool.and_eq_true] at ha
  have hmk:rY s[i]=false:=by
   rw[List.any_eq_false] at hm
   simpa using hm _ (List.getElem_mem hi)
  unfold rY at hmk
  rw[Bool.or_eq_false_iff] at hmk
  refine⟨ha.1.1,by simpa using hmk.1,by simpa using hmk.2,fun hc=>?_,ih⟩
  obtain⟨hc1,hc2⟩:=hc
  unfold bef at hc2
  by_cases hi0:0<i
  ·rw[if_pos hi0,List.getElem?_eq_getElem (by omega)] at hc2
   have h2:=ha.2
   have hb2:fq s (i-1)=true:=by
    unfold fq
    rw[dif_pos (by omega)]
    simpa using hc2
   rw[hc1,hb2] at h2
   exact absurd h2 (by decide)
  ·have:i=0:=by omega
   subst this
   exact h0 hi hc1
theorem jM{s:BS}(h:dm s=true):∃hl:0<s.length,s≠[126]/\s≠[110,117,108,108]/\s[0]≠32/\s[s.length-1]≠32/\yg.contains s[0]=false/\(s[0]=45->fq s 1=false)/\gY s 0=true:=by
 unfold dm at h
 by_cases hl:0<s.length
 ·rw[dif_pos hl] at h
  simp only[Bool.and_eq_true,Bool.not_eq_true',beq_eq_false_iff_ne,ne_eq] at h
  obtain⟨⟨⟨⟨⟨⟨h1,h2⟩,h3⟩,h4⟩,h5⟩,h6⟩,h7⟩:=h
  refine⟨hl,h1,h2,h3,h4,h5,fun e=>?_,h7⟩
  rw[e] at h6
  simpa using h6
 ·rw[dif_neg hl] at h;cases h
theorem LX(s:BS):Sy (scS s):=by
 unfold scS
 split
 ·rename_i h
  rw[Bool.and_eq_true,Bool.not_eq_true'] at h
  obtain⟨hl,_,_,_,h4,h5,_,h7⟩:=jM h.1
  refine vV s ?_ (List.length_pos_iff.1 hl) fun c hc=>?_
  ·have:=Md h7 h.2 (fun _ e=>by rw[e] at h5;exact absurd h5 (by decide)) _ 0 rfl
   rw[List.drop_zero] at this
   exact this
  ·rw[List.getLast?_eq_getElem?,List.getElem?_eq_getElem (by omega)] at hc
   cases hc;exact h4
 ·exact C3 s
theorem Ip(s:BS):Sy (keyS s):=by
 unfold keyS
 split
 ·exact C3 s
 ·exact LX s
theorem Ew(t:Nd):Sy (shS t):=by
 unfold shS
 repeat' split
 ·exact vV _ (by simp only[PlB];decide) (by decide) (by intro c h;cases h;decide)
 ·exact LX _
 ·exact vV _ (by simp only[PlB];decide) (by decide) (by intro c h;cases h;decide)
 ·exact vV _ (by simp only[PlB];decide) (by decide) (by intro c h;cases h;decide)
theorem Me{s:BS}{i:Nat}{u r:BS}{c:UInt8}(hd:s.drop i=u++c::r):bef s (i+u.length+1)=c:=by
 have h2:s.drop (i+u.length)=c::r:=oK hd
 obtain⟨hi,h1,_⟩:=drop_cons h2
 unfold bef
 rw[if_pos (Nat.succ_pos _),Nat.add_sub_cancel,List.getElem?_eq_getElem hi,h1];rfl
theorem OZ{u:BS}(h:Sy u):Sy ([45,32]++u):=by
 intro n s i e r hn hs hd hb he hg
 have hd1:s.drop i=[45,32]++(u++r):=by rw[hd,List.append_assoc]
 refine xR hn hs [45,32] (u++r) i e hd1 he (by rw[hb];simp only[PlB];decide) fun e' h5 _ _=>?_
 have hd2:s.drop (i+2)=u++r:=oK hd1
 have hb2:bef s (i+1+1)=32:=Me (u:=[45]) (r:=u++r) hd1
 refine h n s (i+2) e' r hn hs hd2 hb2 h5 ?_
 rw[List.length_append] at hg
 rw[show i+2+u.length=i+([45,32]++u:BS).length by rw[List.length_append];simp only[List.length_cons,List.length_nil];omega]
 rw[List.length_append];exact hg
theorem OX{k:BS}(hk:Sy k):Sy (k++[58]):=by
 intro n s i e r hn hs hd hb he hg
 have hd1:s.drop i=k++([58]++r):=by rw[hd,List.append_assoc]
 refine hk n s i e _ hn hs hd1 hb he ?_
 refine xR hn hs [58] r (i+k.length) (i+k.length) (oK hd1) (Nat.le_refl _) (by simp only[PlB];exact⟨by decide,by decide,by decide,fun h=>absurd h.1 (by decide),trivial⟩) fun e' h5 _ h6=>?_
 rw[h6 58 rfl (by decide)]
 rw[List.length_append,<-Nat.add_assoc] at hg
 exact hg
theorem Qy{k v:BS}(hk:Sy k)(hv:Sy v):Sy (((k++[58])++[32])++v):=by
 intro n s i e r hn hs hd hb he hg
 have hd1:s.drop i=k++([58,32]++(v++r)):=by rw[hd];simp
 refine hk n s i e _ hn hs hd1 hb he ?_
 have hd2:=oK hd1
 refine xR hn hs [58,32] (v++r) (i+k.length) (i+k.length) hd2 (Nat.le_refl _) (by simp only[PlB];exact⟨by decide,by decide,by decide,fun h=>absurd h.1 (by decide),by decide,by decide,by decide,fun h=>absurd h.1 (by decide),trivial⟩) fun e' h5 _ h6=>?_
 have hd3:s.drop (i+k.length+2)=v++r:=oK hd2
 have hb3:bef s (i+k.length+1+1)=32:=Me (u:=[58]) (r:=v++r) hd2
 refine hv n s (i+k.length+2) e' r hn hs hd3 hb3 h5 ?_
 have e1:i+k.length+2+v.length=i+(((k++[58])++[32])++v).length:=by
  simp only[List.length_append,List.length_cons,List.length_nil];omega
 rw[e1];exact hg
theorem Sy.say{u:BS}(h:Sy u)(n:Nat)(hn:20000<=n)(hs:u.length<=10000):iE n u=some (u,true):=by
 rw[BK n u hn]
 have:=h n u 0 0 [] hn hs (by simp) rfl (Nat.le_refl 0)
 rw[Nat.zero_add] at this
 exact this (Q9 n u) n (by omega)
def sh2(l:List (Nat×BS)):List (Nat×BS):=l.map fun q=>(q.1+2,q.2)
def Es:List (Nat×BS)->List (Nat×BS)
 |[]=>[]
 |q::l=>(0,[45,32]++q.2)::sh2 l
def oC(R:Nd->List (Nat×BS))(b:Bool)(p:BS×Nd):List (Nat×BS) :=
 if b=true then(if isS p.2=true then [(0,((keyS p.1++[58])++[32])++shS p.2)] else(0,keyS p.1++[58])::sh2 (R p.2))
 else(if isS p.2=true then [(0,[45,32]++shS p.2)] else Es (R p.2))
def rowP:Nat->Nd->List (Nat×BS)
 |0,_=>[]
 |d+1,t=>(prs t).flatMap (oC (rowP d) (t.aF==3))
def fO(l:List (Nat×BS)):List BS:=l.map fun q=>List.replicate q.1 32++q.2
theorem zQ:∀l:List (Nat×BS),fO (sh2 l)=pM [32,32] (fO l)
 |[]=>rfl
 |q::l=>by
  have:=zQ l
  show(List.replicate (q.1+2) 32++q.2)::fO (sh2 l)=([32,32]++(List.replicate q.1 32++q.2))::pM [32,32] (fO l)
  rw[this]
  congr 1
def Hd0(l:List (Nat×BS)):Prop:=∃s r,l=(0,s)::r
theorem K3{l:List (Nat×BS)}(h:Hd0 l):fO (Es l)=pM [45,32] (fO l):=by
 obtain⟨s,r,rfl⟩:=h
 show(List.replicate 0 32++([45,32]++s))::fO (sh2 r)=([45,32]++(List.replicate 0 32++s))::pM [32,32] (fO r)
 rw[zQ];rfl
theorem OL{l:List (Nat×BS)}(h:Hd0 l):Hd0 (Es l):=by
 obtain⟨s,r,rfl⟩:=h
 exact⟨_,_,rfl⟩
theorem Cm{R:Nd->List (Nat×BS)}{b:Bool}{p:BS×Nd}(h:isS p.2=false->Hd0 (R p.2)):Hd0 (oC R b p):=by
 unfold oC
 cases b with
 |true =>
  rw[if_pos rfl]
  cases hs:isS p.2 with
  |true=>exact⟨_,_,rfl⟩
  |false=>exact⟨_,_,rfl⟩
 |false =>
  rw[if_neg Bool.false_ne_true]
  cases hs:isS p.2 with
  |true=>exact⟨_,_,rfl⟩
  |false=>exact OL (h hs)
theorem HE{d:Nat}{t:Nd}(hF:Fit (d+1) t)(hi:isS t=false):0<(prs t).length:=by
 rw[qk hF]
 unfold isS at hi
 rw[Bool.or_eq_false_iff] at hi
 cases hk:t.aj with
 |nil=>rw[hk] at hi;exact absurd hi.2 (by decide)
 |cons x l=>exact Nat.succ_pos _
theorem Ij{d:Nat}{t:Nd}(hF:Fit (d+1) t){p:BS×Nd}(h:p∈prs t):p.2∈t.aj:=by
 unfold prs at h
 split at h
 ·exact(List.of_mem_zip h).2
 ·obtain⟨k,hk,rfl⟩:=List.mem_map.1 h
  exact hk
theorem H8{α:Type}{f:α->List (Nat×BS)}{l:List α}(hl:0<l.length)(h:∀x∈l,Hd0 (f x)):Hd0 (l.flatMap f):=by
 cases l with
 |nil=>exact absurd hl (Nat.lt_irrefl 0)
 |cons x l =>
  obtain⟨s,r,e⟩:=h x List.mem_cons_self
  rw[List.flatMap_cons,e]
  exact⟨s,r++l.flatMap f,rfl⟩
theorem ve:∀(d:Nat)(t:Nd),Fit d t->isS t=false->Hd0 (rowP d t)
 |0,_,h,_=>h.elim
 |d+1,t,hF,hi=>H8 (HE hF hi) fun p hp=>Cm fun hs=>ve d p.2 (hF.2.2.2.2.2.2.2 _ (Ij hF hp)) hs
theorem EK{α:Type}{f:α->List (Nat×BS)}{g:α->List BS}:∀{l:List α},(∀x∈l,fO (f x)=g x)->fO (l.flatMap f)=l.flatMap g
 |[],_=>rfl
 |x::l,h=>by
  have h1:=h x List.mem_cons_self
  have h2:=EK (l:=l) fun y hy=>h y (List.mem_cons_of_mem _ hy)
  unfold fO at h1 h2 ⊢
  rw[List.flatMap_cons,List.map_append,h1,h2,List.flatMap_cons]
theorem yo:∀(d:Nat)(t:Nd),Fit d t->isS t=false->fO (rowP d t)=lZ d t
 |0,_,h,_=>h.elim
 |d+1,t,hF,hi=>by
  rw[lZ,hi,if_neg Bool.false_ne_true,rowP]
  refine EK fun p hp=>?_
  have hk:=hF.2.2.2.2.2.2.2 _ (Ij hF hp)
  unfold oC rF
  cases hs:isS p.2 with
  |true =>
   cases (t.aF==3)
   ·rfl
   ·rfl
  |false =>
   have ih:=yo d p.2 hk hs
   cases (t.aF==3) with
   |false =>
    simp only[Bool.false_eq_true,if_false]
    rw[K3 (ve d p.2 hk hs),ih]
   |true =>
    simp only[Bool.false_eq_true,if_false,if_true]
    show(List.replicate 0 32++(keyS p.1++[58]))::fO (sh2 (rowP d p.2))=_
    rw[zQ,ih];rfl
structure Tx(s:BS):Prop where
 sy:Sy s
 ne:s≠[]
 h32:s.head?≠some 32
 dash:s≠[45,45,45]/\s≠[46,46,46]
theorem IZ{s:BS}(h:dm s=true):s≠[]/\s.head?≠some 32:=by
 obtain⟨hl,_,_,h3,_⟩:=jM h
 cases s with
 |nil=>exact absurd hl (Nat.lt_irrefl 0)
 |cons c r=>exact⟨List.cons_ne_nil _ _,fun e=>h3 (by simpa using e)⟩
theorem xC(s:BS):bG s≠[]/\(bG s).head?≠some 32:=by
 unfold bG
 exact⟨by simp,by simp⟩
theorem ER(s:BS):scS s≠[]/\(scS s).head?≠some 32:=by
 unfold scS
 split
 ·rename_i h
  rw[Bool.and_eq_true] at h
  exact IZ h.1
 ·exact xC s
theorem D2(s:BS):keyS s≠[]/\(keyS s).head?≠some 32:=by
 unfold keyS
 split
 ·exact xC s
 ·exact ER s
theorem zT(t:Nd):shS t≠[]/\(shS t).head?≠some 32:=by
 unfold shS
 repeat' split
 ·exact⟨by decide,by decide⟩
 ·exact ER _
 ·exact⟨by decide,by decide⟩
 ·exact⟨by decide,by decide⟩
theorem wz{a b:BS}(h:a≠[]):(a++b).head? = a.head?:=by
 cases a with
 |nil=>exact(h rfl).elim
 |cons c r=>rfl
theorem E9{a:BS}(h:(58:UInt8)∈a):a≠[45,45,45]/\a≠[46,46,46]:=⟨fun e=>by rw[e] at h;exact absurd h (by decide),fun e=>by rw[e] at h;exact absurd h (by decide)⟩
theorem Pm(k:BS):Tx (keyS k++[58]):=by
 obtain⟨h1,h2⟩:=D2 k
 exact⟨OX (Ip k),by simp,by rw[wz h1];exact h2,E9 (by simp)⟩
theorem Qg(k:BS)(t:Nd):Tx (((keyS k++[58])++[32])++shS t):=by
 obtain⟨h1,h2⟩:=D2 k
 exact⟨Qy (Ip k) (Ew t),by simp,by rw[wz (by simp),wz (by simp),wz h1];exact h2,E9 (by simp)⟩
theorem Ig{u:BS}(h:Sy u):Tx ([45,32]++u):=⟨OZ h,by simp,by simp,⟨by simp,by simp⟩⟩
theorem LS{l:List (Nat×BS)}(h:∀q∈l,Tx q.2):∀q∈sh2 l,Tx q.2:=by
 intro q hq
 obtain⟨q',h1,rfl⟩:=List.mem_map.1 hq
 exact h q' h1
theorem CZ:∀(d:Nat)(t:Nd),∀q∈rowP d t,Tx q.2
 |0,_,q,h=>by cases h
 |d+1,t,q,h=>by
  rw[rowP] at h
  obtain⟨p,_,hq⟩:=List.mem_flatMap.1 h
  have ih:=CZ d p.2
  unfold oC at hq
  split at hq
  ·split at hq
   ·rw[List.mem_singleton] at hq;subst hq
    exact Qg _ _
   ·rcases List.mem_cons.1 hq with rfl|hq
    ·exact Pm _
    ·exact LS ih q hq
  ·split at hq
   ·rw[List.mem_singleton] at hq;subst hq
    exact Ig (Ew _)
   ·cases hr:rowP d p.2 with
    |nil=>rw[hr] at hq;cases hq
    |cons a l =>
     rw[hr] at hq ih
     rcases List.mem_cons.1 hq with rfl|hq
     ·exact Ig (ih a List.mem_cons_self).sy
     ·exact LS (fun x hx=>ih x (List.mem_cons_of_mem _ hx)) q hq
theorem BV{s:BS}(hok:gY s 0=true)(q:BS)(hq:q=[]\/∃q',q=58::q'/\nxB q'=true):∀(m i:Nat),s.length-i=m->i<=s.length->mk9 (s.drop i++q)=m
 |0,i,h,h2=>by
  rw[List.drop_eq_nil_of_le (by omega),List.nil_append]
  rcases hq with rfl|⟨q',rfl,hq⟩
  ·rfl
  ·rw[zC,hq];rfl
 |m+1,i,h,h2=>by
  have hi:i<s.length:=by omega
  have ih:=BV hok q hq m (i+1) (by omega) (by omega)
  rw[drop_at hi,List.cons_append,zC,ih]
  have ha:=xP hok (Nat.zero_le i) hi
  unfold wF at ha
  rw[dif_pos hi,Bool.and_eq_true,Bool.and_eq_true] at ha
  have hc:(s[i]==58&&nxB (s.drop (i+1)++q))=false:=by
   cases h58:s[i]==58 with
   |false=>rfl
   |true =>
    have h2:=ha.1.2
    rw[h58,Bool.true_and,Bool.not_eq_true'] at h2
    unfold fq at h2
    by_cases hj:i+1<s.length
    ·rw[dif_pos hj] at h2
     rw[drop_at hj,List.cons_append,Bool.true_and]
     exact h2
    ·rw[dif_neg hj] at h2;cases h2
  rw[hc,if_neg Bool.false_ne_true]
theorem IW{s q:BS}(h:dm s=true):gZ (s++q)=false\/(s.length=1/\s[0]? = some 45):=by
 obtain⟨hl,_,_,_,_,_,h6,_⟩:=jM h
 cases s with
 |nil=>exact absurd hl (Nat.lt_irrefl 0)
 |cons c r =>
  left
  by_cases hc:c=45
  ·have h7:=h6 hc
   unfold fq at h7
   cases r with
   |nil=>cases h7
   |cons e r =>
    rw[dif_pos (by simp)] at h7
    have h7:(e==32)=false:=h7
    show(c==45&&e==32)=false
    rw[h7,Bool.and_false]
  ·have hc2:(c==45)=false:=by simpa using hc
   cases r with
   |nil =>
    cases q with
    |nil=>exact hc2
    |cons e q=>show(c==45&&e==32)=false;rw[hc2];rfl
   |cons e r=>show(c==45&&e==32)=false;rw[hc2];rfl
theorem yu{s q:BS}(h:dm s=true):gZ (s++q)=false:=by
 rcases IW (q:=q) h with h1|⟨h1,h2⟩
 ·exact h1
 ·obtain⟨hl,_,_,_,_,_,h6,_⟩:=jM h
  rw[List.getElem?_eq_getElem hl] at h2
  have:=h6 (Option.some.inj h2)
  unfold fq at this
  rw[dif_neg (by omega)] at this
  cases this
theorem vX{c:UInt8}(h:yg.contains c=false):(c==91)=false/\(c==123)=false/\(c==34)=false/\(c==39)=false:=by
 refine⟨?_,?_,?_,?_⟩ <;>
 ·rw[beq_eq_false_iff_ne]
  rintro rfl
  exact absurd h (by decide)
theorem LW(n:Nat){s q:BS}(h:dm s=true)(hm:s≠[60,60])(hq:nxB q=true):fU n (s++58::q)=(s,q.dropWhile (·==32),1):=by
 have hr:=yu (q:=58::q) h
 obtain⟨hl,_,_,_,_,h5,_,h7⟩:=jM h
 have hk:=BV h7 (58::q) (.inr ⟨q,rfl,hq⟩) s.length 0 (by omega) (Nat.zero_le _)
 rw[List.drop_zero] at hk
 cases s with
 |nil=>exact absurd hl (Nat.lt_irrefl 0)
 |cons c r =>
  obtain⟨f1,f2,f3,f4⟩:=vX h5
  rw[List.cons_append] at hr hk ⊢
  unfold fU
  simp only
  have f1:(c==91)=false:=f1
  have f2:(c==123)=false:=f2
  have f3:(c==34)=false:=f3
  have f4:(c==39)=false:=f4
  rw[hr,f1,f2,f3,f4,hk]
  have hlen:¬((c::r).length=(c::(r++58::q)).length):=by simp only[List.length_cons,List.length_append];omega
  have ht:(c::(r++58::q)).take (c::r).length=c::r:=by
   rw[<-List.cons_append];exact List.take_left
  have hd:(c::(r++58::q)).drop ((c::r).length+1)=q:=by
   have:(c::r++58::q).drop ((c::r).length+1)=q:=by
    rw[<-List.drop_drop,List.drop_left];rfl
   exact this
  rw[ht,hd,h]
  have hm2:((c::r)==[60,60])=false:=by simpa using hm
  rw[hm2]
  simp only[Bool.or_self,Bool.false_eq_true,if_false,hlen,Bool.not_true]
theorem Jk(n:Nat){s:BS}(h:dm s=true):(fU n s).2.2=0:=by
 have hr:=yu (q:=[]) h
 rw[List.append_nil] at hr
 obtain⟨hl,_,_,_,_,h5,_,h7⟩:=jM h
 have hk:=BV h7 [] (.inl rfl) s.length 0 (by omega) (Nat.zero_le _)
 rw[List.drop_zero,List.append_nil] at hk
 cases s with
 |nil=>exact absurd hl (Nat.lt_irrefl 0)
 |cons c r =>
  obtain⟨f1,f2,f3,f4⟩:=vX h5
  have f1:(c==91)=false:=f1
  have f2:(c==123)=false:=f2
  have f3:(c==34)=false:=f3
  have f4:(c==39)=false:=f4
  unfold fU
  simp only
  rw[hr,f1,f2,f3,f4,hk]
  simp
theorem oP(s q:BS):gZ (bG s++q)=false:=by
 have:bG s++q=34::(s.flatMap esc++[34]++q):=by unfold bG;simp
 rw[this]
 cases s.flatMap esc++[34]++q with
 |nil=>rfl
 |cons e r=>rfl
theorem NU(n:Nat)(s q:BS)(hn:(bG s++58::q).length+1<n)(hl:(bG s++58::q).length<=100000000)(hq:nxB q=true):fU n (bG s++58::q)=(s,q.dropWhile (·==32),1):=by
 have hr:=oP s (58::q)
 have hs:=um n (bG s++58::q) 0 s (58::q) hl hn rfl
 have hmk:mkQ (bG s++58::q) (bG s).length=true:=by
  have h1:(bG s).length<(bG s++58::q).length:=by rw[List.length_append,List.length_cons];omega
  rw[FD h1,List.getElem_append_right (Nat.le_refl _)]
  simp only[Nat.sub_self,List.getElem_cons_zero]
  rw[<-List.drop_drop,List.drop_left]
  exact hq
 have hd:(bG s++58::q).drop ((bG s).length+1)=q:=by rw[<-List.drop_drop,List.drop_left];rfl
 have e:bG s++58::q=34::(s.flatMap esc++[34]++58::q):=by unfold bG;simp
 have hs:bp n (bG s++58::q) 0=some (s,(((bG s).length:Nat):Int),0):=by
  have:=hs;rw[Nat.zero_add] at this;exact this
 rw[e] at hr hs hmk hd ⊢
 unfold fU
 simp only
 rw[hr,hs]
 simp only[tn,hmk,hd]
 simp
theorem DL(n:Nat)(s:BS)(hn:(bG s).length+1<n)(hl:(bG s).length<=100000000):(fU n (bG s)).2.2=0:=by
 have hr:=oP s []
 have hs:=um n (bG s) 0 s [] hl hn (by simp)
 have hmk:mkQ (bG s) (bG s).length=false:=by unfold mkQ;rw[dif_neg (Nat.lt_irrefl _)]
 have hs:bp n (bG s) 0=some (s,(((bG s).length:Nat):Int),0):=by
  have:=hs;rw[Nat.zero_add] at this;exact this
 rw[List.append_nil] at hr
 have e:bG s=34::(s.flatMap esc++[34]):=by unfold bG;simp
 rw[e] at hr hs hmk ⊢
 unfold fU
 simp only
 rw[hr,hs]
 simp only[tn,hmk]
 simp
theorem vC(s:BS):(bG s).length<=4*s.length+2:=by
 have:=lQ s
 unfold bG
 simp only[List.length_append,List.length_cons,List.length_nil];omega
theorem BW(n:Nat)(k q:BS)(hk:k.length<=10000)(hql:q.length<=100000)(hn:1000000<=n)(hq:nxB q=true):fU n (keyS k++58::q)=(k,q.dropWhile (·==32),1):=by
 have hl:=vC k
 have hdb:fU n (bG k++58::q)=(k,q.dropWhile (·==32),1):=NU n k q (by rw[List.length_append,List.length_cons];omega) (by rw[List.length_append,List.length_cons];omega) hq
 unfold keyS scS
 by_cases h1:k=[60,60]
 ·rw[if_pos h1];exact hdb
 ·rw[if_neg h1]
  split
  ·rename_i h
   rw[Bool.and_eq_true] at h
   exact LW n h.1 h1 hq
  ·exact hdb
theorem NM(k q:BS):gZ (keyS k++q)=false:=by
 unfold keyS scS
 split
 ·exact oP _ _
 ·split
  ·rename_i h
   rw[Bool.and_eq_true] at h
   exact yu h.1
  ·exact oP _ _
theorem Ht(t:Nd):gZ (shS t)=false:=by
 unfold shS
 repeat' split
 ·rfl
 ·unfold scS
  split
  ·rename_i h
   rw[Bool.and_eq_true] at h
   have:=yu (q:=[]) h.1
   rw[List.append_nil] at this;exact this
  ·have:=oP t.au []
   rw[List.append_nil] at this;exact this
 ·rfl
 ·rfl
theorem Na(n:Nat):(fU n [110,117,108,108]).2.2=0:=rfl
theorem K9(n:Nat)(t:Nd)(ht:t.au.length<=10000)(hn:1000000<=n):(fU n (shS t)).2.2=0:=by
 unfold shS
 repeat' split
 ·exact Na n
 ·unfold scS
  have:=vC t.au
  split
  ·rename_i h
   rw[Bool.and_eq_true] at h
   exact Jk n h.1
  ·exact DL n _ (by omega) (by omega)
 ·rfl
 ·rfl
theorem NS(n:Nat)(s:BS)(h:dm s=true)(hs:s.length<=100000)(hn:200000<=n):dK n s false=some (af.mk 1 s [] [],0):=by
 obtain⟨hl,h1,h2,_,_,h5,_,_⟩:=jM h
 obtain⟨_,_,f3,f4⟩:=vX h5
 have hne:s≠[]:=List.length_pos_iff.1 hl
 have e0:(bif (bif (s==[]) then true else(s==[126])) then true else(s==[110,117,108,108]))=false:=by
  rw[show(s==[])=false by simpa using hne,show(s==[126])=false by simpa using h1,show(s==[110,117,108,108])=false by simpa using h2];rfl
 have z0:decide (0<=(0:Int)/\(0:Int)<(List.length s:Int))=true:=bU hl
 have z1:(s[Int.toNat 0]?.getD 0)=s[0]:=cY hl
 unfold dK
 rw[e0,if_neg Bool.false_ne_true,z0,if_pos rfl,z1,b34,b39,gQ,gQ,f3,f4,(tG n s hs hn).1,h]
 rfl
theorem Hm(n:Nat)(s:BS)(hs:s.length<=10000)(hn:200000<=n):dK n (bG s) false=some (af.mk 1 s [] [],0):=by
 have hl:=vC s
 have hsc:=um n (bG s) 0 s [] (by omega) (by omega) (by simp)
 have hsc:bp n (bG s) 0=some (s,(((bG s).length:Nat):Int),0):=by
  have:=hsc;rw[Nat.zero_add] at this;exact this
 have hp:0<(bG s).length:=by unfold bG;simp only[List.length_append,List.length_cons,List.length_nil];omega
 have h0:(bG s)[0]=34:=by unfold bG;rfl
 have e0:(bif (bif (bG s==[]) then true else(bG s==[126])) then true else(bG s==[110,117,108,108]))=false:=by
  unfold bG;rfl
 have z0:decide (0<=(0:Int)/\(0:Int)<(List.length (bG s):Int))=true:=bU hp
 have z1:((bG s)[Int.toNat 0]?.getD 0)=(bG s)[0]:=cY hp
 unfold dK
 rw[e0,if_neg Bool.false_ne_true,z0,if_pos rfl,z1,h0,hsc]
 have e1:((((bG s).length:Nat):Int) != (List.length (bG s):Int))=false:=by simp
 simp only[Option.bind_some,e1]
 rfl
theorem Fo{d:Nat}(n:Nat)(t:Nd)(hn:1000000<=n)(hF:Fit (d+1) t)(ht:t.au.length<=10000)(hi:isS t=true):jf n (shS t)=(t,0):=by
 obtain⟨_,_,f3,f4,f5,f6,f7,_⟩:=hF
 obtain⟨kd,tx,ks,xs⟩:=t
 simp only at f3 f4 f5 f6 f7 ht
 unfold isS at hi
 simp only at hi
 have hx:xs=[]:=by
  rw[Bool.or_eq_true,decide_eq_true_eq,List.isEmpty_iff] at hi
  rcases hi with h|h
  ·exact f6 h
  ·exact h
 subst hx
 unfold shS
 simp only
 obtain⟨m,rfl⟩:∃m,n=m+60:=⟨n-60,by omega⟩
 by_cases h0:kd=0
 ·rw[if_pos h0]
  have:=f3 (by omega);have:=f4 (by omega);subst h0;subst tx;subst ks
  rfl
 rw[if_neg h0]
 by_cases h1:kd=1
 ·rw[if_pos h1]
  have:=f4 (by omega);subst h1;subst ks
  unfold scS
  have hq:jf (m+60) (bG tx)=(af.mk 1 tx [] [],0):=by
   have h:=Hm (m+60) tx ht (by omega)
   have e:bG tx=34::(tx.flatMap esc++[34]):=by unfold bG;simp
   rw[e] at h ⊢
   unfold jf
   simp only
   rw[h];rfl
  split
  ·rename_i h
   rw[Bool.and_eq_true] at h
   have hf:=NS (m+60) tx h.1 (by omega) (by omega)
   obtain⟨hl,_,_,_,_,h5,_,_⟩:=jM h.1
   cases tx with
   |nil=>exact absurd hl (Nat.lt_irrefl 0)
   |cons c r =>
    obtain⟨g1,g2,_,_⟩:=vX h5
    have g1:(c==91)=false:=g1
    have g2:(c==123)=false:=g2
    unfold jf
    simp only
    rw[g1,g2,hf];rfl
  ·exact hq
 rw[if_neg h1]
 have:=f3 h1
 subst tx
 by_cases h2:kd=2
 ·rw[if_pos h2]
  have:=f4 (by omega);subst h2;subst ks
  have hp:gX (m+60) [91,93]=some (af.mk 2 [] [] [],0):=by
   clear hn ht f3 f4 f5 f6 f7 hi h0 h1
   kernel_rfl
  unfold jf
  simp only
  rw[hp];rfl
 ·rw[if_neg h2]
  have h3:kd=3:=by omega
  obtain⟨g1,_⟩:=f5 h3
  have:=List.eq_nil_of_length_eq_zero g1
  subst ks;subst h3
  have hp:gX (m+60) [123,125]=some (af.mk 3 [] [] [],0):=by
   clear hn ht f3 f4 f5 f6 f7 hi h0 h1 h2 g1
   kernel_rfl
  unfold jf
  simp only
  rw[hp];rfl
theorem Qo{d:Nat}(n:Nat)(t:Nd)(hn:1000000<=n)(hF:Fit (d+1) t)(ht:t.au.length<=10000)(hi:isS t=true)(x:Ln)(r:List Ln)(hx:x.au=shS t):iI (n+1) (x::r)=.inr (t,r):=by
 unfold iI
 rw[hx,Ht,K9 n t ht hn,if_neg Bool.false_ne_true,if_neg (by decide),if_neg (by decide)]
 unfold tN
 rw[Fo n t hn hF ht hi,if_pos rfl]
def LsR(c:Nat)(q:List (Nat×BS))(ls:List Ln):Prop:=ls.map (fun x=>(x.aI,x.au))=q.map fun p=>(((c+p.1:Nat):Int),p.2)
theorem LsR.nil{c:Nat}{ls:List Ln}(h:LsR c [] ls):ls=[]:=List.map_eq_nil_iff.1 h
theorem LsR.cons{c:Nat}{p:Nat×BS}{q:List (Nat×BS)}{ls:List Ln}(h:LsR c (p::q) ls):∃x l,ls=x::l/\x.aI=((c+p.1:Nat):Int)/\x.au=p.2/\LsR c q l:=by
 cases ls with
 |nil=>cases h
 |cons x l =>
  have h:(x.aI,x.au)::l.map (fun x=>(x.aI,x.au))=(((c+p.1:Nat):Int),p.2)::q.map fun p=>(((c+p.1:Nat):Int),p.2):=h
  obtain⟨h1,h2⟩:=List.cons.inj h
  exact⟨x,l,rfl,(Prod.mk.inj h1).1,(Prod.mk.inj h1).2,h2⟩
theorem LsR.app{c:Nat}{q q':List (Nat×BS)}{ls:List Ln}(h:LsR c (q++q') ls):∃l l',ls=l++l'/\LsR c q l/\LsR c q' l':=by
 unfold LsR at h
 rw[List.map_append] at h
 obtain⟨l,l',h1,h2,h3⟩:=List.map_eq_append_iff.1 h
 exact⟨l,l',h1,h2,h3⟩
theorem LsR.sh{c:Nat}{q:List (Nat×BS)}{ls:List Ln}(h:LsR c (sh2 q) ls):LsR (c+2) q ls:=by
 unfold LsR sh2 at *
 rw[h,List.map_map]
 refine List.map_congr_left fun p _=>?_
 show(((c+(p.1+2):Nat):Int),p.2)=_
 rw[show c+(p.1+2)=c+2+p.1 by omega]
def Stop(c:Nat)(rest:List Ln):Prop:=∀x r,rest=x::r->x.aI<(c:Int)
theorem Gg{c:Nat}{q:List (Nat×BS)}{ls rest:List Ln}(h:LsR c q ls)(hq:q=[]\/Hd0 q)(hr:Stop c rest):Stop (c+2) (ls++rest):=by
 intro x r e
 rcases hq with rfl|⟨s,q',rfl⟩
 ·rw[h.nil,List.nil_append] at e
  have:=hr x r e
  omega
 ·obtain⟨y,l,rfl,h1,_⟩:=h.cons
  rw[List.cons_append] at e
  obtain⟨rfl,_⟩:=List.cons.inj e
  rw[h1];omega
theorem FH{x:Ln}{u:BS}{c:Nat}(hx:x.au=[45,32]++u)(hc:x.aI=((c+0:Nat):Int))(hu:u.head?≠some 32):(nJ x).aI=((c+2+0:Nat):Int)/\(nJ x).au=u:=by
 have hd:(([45,32]++u:BS).drop 1).dropWhile (·==32)=u:=by
  show(32::u).dropWhile (·==32)=u
  rw[List.dropWhile_cons,if_pos (by decide)]
  cases u with
  |nil=>rfl
  |cons c r =>
   have:¬(c=32):=fun e=>hu (by rw[e];rfl)
   rw[List.dropWhile_cons,if_neg (by simpa using this)]
 unfold nJ
 simp only
 rw[hx,hd,hc]
 refine⟨?_,rfl⟩
 simp only[List.length_append,List.length_cons,List.length_nil]
 omega
structure KB(B:List Ln->Rs)(R:Nd->List (Nat×BS))(c:Nat)(y:Nd):Prop where
 one:isS y=true->∀x r,x.au=shS y->B (x::r)=.inr (y,r)
 hd:isS y=false->Hd0 (R y)
 tx:∀q∈R y,Tx q.2
 more:isS y=false->∀ls rest,LsR (c+2) (R y) ls->Stop (c+2) rest->B (ls++rest)=.inr (y,rest)
theorem Hg{α:Type}{f:α->List (Nat×BS)}:∀l:List α,(∀x∈l,Hd0 (f x))->l.flatMap f=[]\/Hd0 (l.flatMap f)
 |[],_=>.inl rfl
 |x::l,h=>.inr (H8 (Nat.succ_pos _) h)
theorem Di{B:List Ln->Rs}{R:Nd->List (Nat×BS)}{c:Nat}{rest:List Ln}(hst:Stop c rest):∀(l:List Nd)(k:Nat)(acc:List Nd)(ls:List Ln),l.length<k->(∀y∈l,KB B R c y)->LsR c (l.flatMap fun y=>oC R false ([],y)) ls->mG B (c:Int) k acc (ls++rest)=.inr (af.mk 2 [] [] (acc++l),rest)
 |_,0,_,_,h,_,_=>by omega
 |[],k+1,acc,ls,_,_,hl=>by
  rw[hl.nil,List.nil_append,List.append_nil]
  cases rest with
  |nil=>rfl
  |cons x r =>
   have:=hst x r rfl
   rw[mG,if_neg (by omega),if_pos (.inl this)]
 |y::l,k+1,acc,ls,hk,hB,hl=>by
  have kb:=hB y List.mem_cons_self
  rw[List.flatMap_cons] at hl
  obtain⟨l1,l2,rfl,h1,h2⟩:=hl.app
  have ih:=fun acc=>Di hst l k acc l2 (by simpa using hk) (fun z hz=>hB z (List.mem_cons_of_mem _ hz)) h2
  have hst2:=Gg h2 (Hg l fun z hz=>Cm (p:=([],z)) (hB z (List.mem_cons_of_mem _ hz)).hd) hst
  have fin:∀x r,x.aI=((c+0:Nat):Int)->gZ x.au=true->kT B (c:Int) x r=.inr (y,l2++rest)->mG B (c:Int) (k+1) acc (x::r)=.inr (af.mk 2 [] [] (acc++y::l),rest):=by
   intro x r e1 e2 e3
   rw[mG,if_neg (by rw[e1];omega),if_neg (by rw[e1,e2];simp),e3]
   simp only
   rw[ih,List.append_assoc];rfl
  unfold oC at h1
  rw[if_neg Bool.false_ne_true] at h1
  have hrow:∀u:BS,gZ ([45,32]++u)=true:=fun u=>rfl
  cases hs:isS y with
  |true =>
   rw[if_pos hs] at h1
   obtain⟨x,l3,rfl,e1,e2,e3⟩:=h1.cons
   obtain rfl:=e3.nil
   have e2:x.au=[45,32]++shS y:=e2
   obtain⟨_,g2⟩:=FH e2 e1 (zT y).2
   refine fin x (l2++rest) e1 (by rw[e2];exact hrow _) ?_
   unfold kT
   rw[if_neg (by rw[e2];exact fun h=>by cases h),kb.one hs _ _ g2]
  |false =>
   rw[if_neg (by rw[hs];exact Bool.false_ne_true)] at h1
   obtain⟨s0,r0,hR⟩:=kb.hd hs
   have h1:LsR c ((0,[45,32]++s0)::sh2 r0) l1:=by
    have h1:=h1
    simp only[hR] at h1
    exact h1
   obtain⟨x,l3,rfl,e1,e2,e3⟩:=h1.cons
   have e2:x.au=[45,32]++s0:=e2
   have htx:=kb.tx (0,s0) (by rw[hR];exact List.mem_cons_self)
   obtain⟨g1,g2⟩:=FH e2 e1 htx.h32
   have hls:LsR (c+2) (R y) (nJ x::l3):=by
    rw[hR]
    have:=e3.sh
    unfold LsR at this ⊢
    rw[List.map_cons,List.map_cons,this,g1,g2]
   rw[List.append_assoc,List.cons_append]
   refine fin x (l3++(l2++rest)) e1 (by rw[e2];exact hrow _) ?_
   unfold kT
   have hne:¬(x.au=[45]):=by rw[e2];exact fun h=>by cases h
   rw[if_neg hne,<-List.cons_append]
   exact kb.more hs _ _ hls hst2
theorem Jb(v:BS)(h:v.head?≠some 32):((32:UInt8)::v).dropWhile (·==32)=v:=by
 rw[List.dropWhile_cons,if_pos (by decide)]
 cases v with
 |nil=>rfl
 |cons c r =>
  have:¬(c=32):=fun e=>h (by rw[e];rfl)
  rw[List.dropWhile_cons,if_neg (by simpa using this)]
theorem AO{B:List Ln->Rs}{R:Nd->List (Nat×BS)}{c n:Nat}{rest:List Ln}(hn:1000000<=n)(hst:Stop c rest):∀(l:List (BS×Nd))(k:Nat)(ks:List BS)(acc:List Nd)(ls:List Ln),l.length<k->(∀p∈l,KB B R c p.2/\p.1.length<=10000/\p.2.au.length<=10000/\∃d,Fit (d+1) p.2)->(ks++l.map (·.1)).Nodup->LsR c (l.flatMap (oC R true)) ls ->
  kB n B (c:Int) k ks acc (ls++rest)=.inr (af.mk 3 [] (ks++l.map (·.1)) (acc++l.map (·.2)),rest)
 |_,0,_,_,_,h,_,_,_=>by omega
 |[],k+1,ks,acc,ls,_,_,_,hl=>by
  rw[hl.nil,List.nil_append,List.map_nil,List.map_nil,List.append_nil,List.append_nil]
  cases rest with
  |nil=>rfl
  |cons x r =>
   have:=hst x r rfl
   rw[kB,if_neg (by omega),if_pos (.inl this)]
 |(key,y)::l,k+1,ks,acc,ls,hk,hB,hnd,hl=>by
  obtain⟨kb,hkl,hyl,d,hFy⟩:=hB (key,y) List.mem_cons_self
  have kb:KB B R c y:=kb
  rw[List.flatMap_cons] at hl
  obtain⟨l1,l2,rfl,h1,h2⟩:=hl.app
  have hni:key∉ks:=fun h=>by
   rw[List.map_cons] at hnd
   exact(List.nodup_append.1 hnd).2.2 key h key List.mem_cons_self rfl
  have ih:=fun acc=>AO hn hst l k (ks++[key]) acc l2 (by simpa using hk) (fun z hz=>hB z (List.mem_cons_of_mem _ hz)) (by rw[List.append_assoc];exact hnd) h2
  have hst2:=Gg h2 (Hg l fun z hz=>Cm (hB z (List.mem_cons_of_mem _ hz)).1.hd) hst
  have fin:∀x r v,x.aI=((c+0:Nat):Int)->fU n x.au=(key,v,1)->kS n B (c:Int) x v r=.inr (y,l2++rest)->kB n B (c:Int) (k+1) ks acc (x::r)=.inr (af.mk 3 [] (ks++((key,y)::l).map (·.1)) (acc++((key,y)::l).map (·.2)),rest):=by
   intro x r v e1 e2 e3
   rw[kB,e2,if_neg (by
    rintro(h|⟨_,h|h⟩)
    ·rw[e1] at h;omega
    ·exact absurd h (fun h:(1:Int)<0=>by omega)
    ·exact hni h.2),if_neg (by
    rintro(h|h)
    ·rw[e1] at h;omega
    ·exact absurd h (fun h:(1:Int)=0=>by omega)),e3]
   simp only
   rw[ih,List.append_assoc,List.append_assoc];rfl
  unfold oC at h1
  rw[if_pos rfl] at h1
  cases hs:isS y with
  |true =>
   rw[if_pos hs] at h1
   obtain⟨x,l3,rfl,e1,e2,e3⟩:=h1.cons
   obtain rfl:=e3.nil
   have hsl:=vn y hyl
   obtain⟨s1,s2⟩:=zT y
   have e2:x.au=keyS key++58::32::shS y:=by
    have e2:x.au=((keyS key++[58])++[32])++shS y:=e2
    rw[e2];simp
   have ek:=BW n key (32::shS y) hkl (by rw[List.length_cons];omega) hn rfl
   rw[Jb _ s2] at ek
   refine fin x (l2++rest) (shS y) e1 (by rw[e2];exact ek) ?_
   unfold kS
   rw[if_pos s1]
   unfold tN
   rw[Fo n y hn hFy hyl hs,if_pos rfl]
  |false =>
   rw[if_neg (by rw[hs];exact Bool.false_ne_true)] at h1
   obtain⟨x,l3,rfl,e1,e2,e3⟩:=h1.cons
   have e2:x.au=keyS key++58::[]:=e2
   have ek:=BW n key [] hkl (by simp) hn rfl
   have hls:LsR (c+2) (R y) l3:=e3.sh
   rw[List.append_assoc,List.cons_append]
   refine fin x (l3++(l2++rest)) [] e1 (by rw[e2];exact ek) ?_
   unfold kS
   rw[if_neg (fun h=>h rfl)]
   have hm:=kb.more hs l3 (l2++rest) hls hst2
   obtain⟨s0,r0,hR⟩:=kb.hd hs
   rw[hR] at hls
   obtain⟨x',l4,rfl,f1,_,_⟩:=hls.cons
   unfold inS
   rw[List.cons_append] at hm ⊢
   simp only
   rw[if_pos (.inl (by rw[f1];omega)),hm]
theorem FB:∀(d n c:Nat)(t:Nd)(ls rest:List Ln),isS t=false->Fit d t->Shk 10000 d t->1000000+d<=n->LsR c (rowP d t) ls->Stop c rest->iI n (ls++rest)=.inr (t,rest)
 |0,_,_,_,_,_,_,h,_,_,_,_=>h.elim
 |_+1,0,_,_,_,_,_,_,_,h,_,_=>by omega
 |d+1,n+1,c,t,ls,rest,hi,hF,hS,hn,hls,hst=>by
  have f8:=hF.2.2.2.2.2.2.2
  have s3:=hS.2.2
  have hkb:∀y∈t.aj,KB (iI n) (rowP d) c y/\y.au.length<=10000/\∃d,Fit (d+1) y:=by
   intro y hy
   have hFy:=f8 y hy
   have hSy:=s3 y hy
   obtain⟨d,rfl⟩:∃e,d=e+1:=by
    cases d with
    |zero=>exact hFy.elim
    |succ d=>exact⟨d,rfl⟩
   obtain⟨n,rfl⟩:∃m,n=m+1:=⟨n-1,by omega⟩
   exact⟨⟨fun hs x r hx=>Qo n y (by omega) hFy hSy.1 hs x r hx,ve _ y hFy,CZ _ y,fun hs ls rest h1 h2=>FB (d+1) (n+1) (c+2) y ls rest hs hFy hSy (by omega) h1 h2⟩,hSy.1,d,hFy⟩
  have hpos:=HE hF hi
  obtain⟨s0,r0,hR⟩:=ve (d+1) t hF hi
  have hls0:=hls
  rw[hR] at hls0
  obtain⟨x,l0,hx0,e1,e2,_⟩:=hls0.cons
  rw[rowP] at hls hR
  have f1:=hF.1
  obtain⟨_,_,f3,f4,f5,_,f7,_⟩:=hF
  obtain⟨kd,tx,keys,kids⟩:=t
  simp only at f1 f3 f4 f5 f7 hkb
  unfold isS at hi
  rw[Bool.or_eq_false_iff,decide_eq_false_iff_not] at hi
  have hk2:¬kd<2:=hi.1
  have:=f3 (by omega)
  subst tx
  have e1:x.aI=(c:Int):=by rw[e1];simp
  have e2:x.au=s0:=e2
  by_cases h3:kd=3
  ·subst h3
   obtain⟨g1,g2⟩:=f5 rfl
   have hp:prs (af.mk 3 [] keys kids)=keys.zip kids:=rfl
   rw[hp] at hls hR
   have hls:LsR c ((keys.zip kids).flatMap (oC (rowP d) true)) ls:=hls
   have hR:(keys.zip kids).flatMap (oC (rowP d) true)=(0,s0)::r0:=hR
   have hm1:(keys.zip kids).map (·.1)=keys:=by
    rw[List.map_fst_zip];omega
   have hm2:(keys.zip kids).map (·.2)=kids:=by
    rw[List.map_snd_zip];omega
   have hall:∀p∈keys.zip kids,KB (iI n) (rowP d) c p.2/\p.1.length<=10000/\p.2.au.length<=10000/\∃d,Fit (d+1) p.2:=fun p hp=>by
    obtain⟨q1,q2⟩:=List.of_mem_zip hp
    obtain⟨r1,r2,r3⟩:=hkb p.2 q2
    exact⟨r1,hS.2.1 _ q1,r2,r3⟩
   have pb:=AO (n:=n) (by omega) hst (keys.zip kids) n [] [] ls (by rw[List.length_zip];omega) hall (by rw[hm1];exact g2) hls
   rw[hm1,hm2,List.nil_append,List.nil_append] at pb
   have hfirst:gZ s0=false/\0<(fU n s0).2.2:=by
    cases hz:keys.zip kids with
    |nil=>rw[hz] at hR;cases hR
    |cons p l =>
     obtain⟨q1,q2,q3,_⟩:=hall p (by rw[hz];exact List.mem_cons_self)
     rw[hz,List.flatMap_cons] at hR
     unfold oC at hR
     rw[if_pos rfl] at hR
     have key2:∀q:BS,q.length<=100000->nxB q=true->gZ (keyS p.1++58::q)=false/\0<(fU n (keyS p.1++58::q)).2.2:=fun q h1 h2=>⟨NM _ _,by rw[BW n p.1 q q2 h1 (by omega) h2];exact(by decide:(0:Int)<1)⟩
     split at hR
     ·have hsl:=vn p.2 q3
      have:s0=keyS p.1++58::32::shS p.2:=by
       have:=(Prod.mk.inj (List.cons.inj hR).1).2
       rw[<-this];simp
      rw[this]
      exact key2 _ (by rw[List.length_cons];omega) rfl
     ·have:s0=keyS p.1++58::[]:=(Prod.mk.inj (List.cons.inj hR).1).2.symm
      rw[this]
      exact key2 _ (by simp) rfl
   rw[hx0,List.cons_append] at pb ⊢
   unfold iI
   rw[e2,hfirst.1,if_neg Bool.false_ne_true,if_pos hfirst.2,e1]
   exact pb
  ·have h2:kd=2:=by omega
   subst h2
   have:=f4 (by decide)
   subst keys
   have hp:prs (af.mk 2 [] [] kids)=kids.map fun k=>([],k):=rfl
   rw[hp,List.flatMap_map] at hls hR
   have hls:LsR c (kids.flatMap fun y=>oC (rowP d) false ([],y)) ls:=hls
   have hR:(kids.flatMap fun y=>oC (rowP d) false ([],y))=(0,s0)::r0:=hR
   have rb:=Di hst kids n [] ls (by omega) (fun y hy=>(hkb y hy).1) hls
   have hfirst:gZ s0=true:=by
    cases hz:kids with
    |nil=>rw[hz] at hR;cases hR
    |cons y l =>
     have kb:=(hkb y (by rw[hz];exact List.mem_cons_self)).1
     rw[hz,List.flatMap_cons] at hR
     unfold oC at hR
     rw[if_neg Bool.false_ne_true] at hR
     cases hs:isS y with
     |true =>
      rw[if_pos hs] at hR
      have:=(Prod.mk.inj (List.cons.inj hR).1).2
      rw[<-this];rfl
     |false =>
      rw[if_neg (by rw[hs];exact Bool.false_ne_true)] at hR
      obtain⟨s1,r1,hR1⟩:=kb.hd hs
      have hR:Es (rowP d y)++_=_:=hR
      rw[hR1] at hR
      have:=(Prod.mk.inj (List.cons.inj hR).1).2
      rw[<-this];rfl
   rw[hx0,List.cons_append] at rb ⊢
   unfold iI
   rw[e2,hfirst,if_pos rfl,e1]
   exact rb
end Go.Proofs.YtefojkdckfidcaaGreatDoor.M
namespace Go.Proofs.YtefojkdckfidcaaGreatDoor.M
open Go Go.Proofs.YtefojkdckfidcaaGreatDoor.RX Go.Proofs.YtefojkdckfidcaaGreatDoor.PL
set_option maxRecDepth 100000
def xu(q:List (Nat×BS)):List Ln:=q.map fun p=>av.mk 0 (p.1:Int) p.2
theorem H6:∀q:List (Nat×BS),qM (xu q)=jw [] [] (fO q)
 |[]=>rfl
 |p::q=>by
  have ih:=H6 q
  show qM (av.mk 0 (p.1:Int) p.2::xu q)=jw [] [] ((List.replicate p.1 32++p.2)::fO q)
  unfold qM at ih ⊢
  rw[List.flatMap_cons,ih,jw]
  unfold Kq
  simp only[tn,List.nil_append]
theorem vY:∀(q:List (Nat×BS))(no:Nat),LsR 0 q (uh no (xu q))
 |[],_=>rfl
 |p::q,no=>by
  have ih:=vY q (no+1)
  unfold LsR at ih ⊢
  show((p.1:Int),p.2)::(uh (no+1) (xu q)).map (fun x=>(x.aI,x.au))=(((0+p.1:Nat):Int),p.2)::q.map fun p=>(((0+p.1:Nat):Int),p.2)
  rw[ih,Nat.zero_add]
theorem H9(n:Nat)(t:Nd)(u:BS)(h1:gZ u=false)(h2:(fU n u).2.2=0)(h3:jf n u=(t,0))(ls:List Ln)(h:LsR 0 [(0,u)] ls):iI (n+1) ls=.inr (t,[]):=by
 obtain⟨x,l,rfl,_,e2,e3⟩:=h.cons
 obtain rfl:=e3.nil
 have e2:x.au=u:=e2
 unfold iI
 rw[e2,h1,h2,if_neg Bool.false_ne_true,if_neg (by decide),if_neg (by decide)]
 unfold tN
 rw[h3,if_pos rfl]
theorem NI(n:Nat)(s:BS)(hs:s.length<=10000)(hn:200000<=n):jf n (bG s)=(af.mk 1 s [] [],0):=by
 have h:=Hm n s hs hn
 have e:bG s=34::(s.flatMap esc++[34]):=by unfold bG;simp
 rw[e] at h ⊢
 unfold jf
 simp only
 rw[h];rfl
theorem wE(t:Nd)(hF:Fit 12 t)(hS:Shk 10000 12 t)(h0:t.aF≠0):∃q,wrS t=jw [] [] (fO q)/\q≠[]/\(∀p∈q,Tx p.2/\10∉p.2)/\∀(n:Nat)(ls:List Ln),2000000<=n->LsR 0 q ls->iI n ls=.inr (t,[]):=by
 have ht:=hS.1
 unfold wrS
 rw[if_neg h0]
 cases hi:isS t with
 |false =>
  have h1:¬(t.aF=1/\(t.au=[45,45,45]\/t.au=[46,46,46])):=fun h=>by
   unfold isS at hi;rw[h.1] at hi;exact absurd hi (by simp)
  rw[if_neg h1]
  obtain⟨s0,r0,hR⟩:=ve 12 t hF hi
  refine⟨rowP 12 t,by rw[yo 12 t hF hi],by rw[hR];exact List.cons_ne_nil _ _,fun p hp=>⟨CZ 12 t p hp,fun h10=>?_⟩,fun n ls hn hls=>?_⟩
  ·have hm:=(vp 12 t hF hS).2.2 (List.replicate p.1 32++p.2) (by rw[<-yo 12 t hF hi];exact List.mem_map_of_mem (f:=fun q:Nat×BS=>List.replicate q.1 32++q.2) hp)
   exact hm.2 (List.mem_append_right _ h10)
  ·have:=FB 12 n 0 t ls [] hi hF hS (by omega) hls (fun x r h=>by cases h)
   rw[List.append_nil] at this
   exact this
 |true =>
  by_cases h1:t.aF=1/\(t.au=[45,45,45]\/t.au=[46,46,46])
  ·rw[if_pos h1]
   have hd:=vC t.au
   refine⟨[(0,bG t.au)],by simp[fO,jw],List.cons_ne_nil _ _,fun p hp=>?_,fun n ls hn hls=>?_⟩
   ·rw[List.mem_singleton] at hp;subst hp
    obtain⟨a1,a2⟩:=xC t.au
    exact⟨⟨C3 _,a1,a2,⟨by unfold bG;simp,by unfold bG;simp⟩⟩,zx _⟩
   ·obtain⟨n,rfl⟩:∃m,n=m+1:=⟨n-1,by omega⟩
    have hv:=NI n t.au ht (by omega)
    have et:af.mk 1 t.au [] []=t:=by
     obtain⟨_,_,_,f4,_,f6,_⟩:=hF
     obtain⟨kd,tx,ks,xs⟩:=t
     simp only at h1 f4 f6
     have:=f4 (by omega);have:=f6 (by omega)
     subst ks;subst xs;rw[h1.1]
    rw[et] at hv
    have hq:=oP t.au []
    rw[List.append_nil] at hq
    exact H9 n t _ hq (DL n _ (by omega) (by omega)) hv ls hls
  ·rw[if_neg h1]
   have e:lZ 12 t=[shS t]:=by unfold lZ;rw[hi,if_pos rfl]
   rw[e]
   refine⟨[(0,shS t)],by simp[fO],List.cons_ne_nil _ _,fun p hp=>?_,fun n ls hn hls=>?_⟩
   ·rw[List.mem_singleton] at hp;subst hp
    obtain⟨a1,a2⟩:=zT t
    refine⟨⟨Ew _,a1,a2,?_⟩,CW _⟩
    show shS t≠[45,45,45]/\shS t≠[46,46,46]
    unfold shS
    rw[if_neg h0]
    split
    ·rename_i hk
     have hx:¬(t.au=[45,45,45]\/t.au=[46,46,46]):=fun h=>h1 ⟨hk,h⟩
     unfold scS
     split
     ·exact⟨fun h=>hx (.inl h),fun h=>hx (.inr h)⟩
     ·exact⟨by unfold bG;simp,by unfold bG;simp⟩
    ·split
     ·exact⟨by decide,by decide⟩
     ·exact⟨by decide,by decide⟩
   ·obtain⟨n,rfl⟩:∃m,n=m+1:=⟨n-1,by omega⟩
    exact H9 n t _ (Ht t) (K9 n t ht (by omega)) (Fo n t (by omega) hF ht hi) ls hls
theorem Rm{n:Nat}(hn:20000<=n){q:List (Nat×BS)}(h:∀p∈q,Tx p.2/\10∉p.2)(hl:∀p∈q,p.2.length<=10000):∀x∈xu q,Gl n x:=by
 intro x hx
 obtain⟨p,hp,rfl⟩:=List.mem_map.1 hx
 obtain⟨t,h10⟩:=h p hp
 have hs:=t.sy.say n hn (hl p hp)
 obtain⟨_,_,_,g4,g5⟩:=Qa n p.2 p.2 hn (hl p hp) hs
 exact⟨Int.natCast_nonneg _,t.ne,t.h32,g5,g4,hs,h10,fun h=>by rcases h.2 with h|h;exact t.dash.1 h;exact t.dash.2 h,hl p hp⟩
theorem Po{q:List (Nat×BS)}{p:Nat×BS}(h:p∈q):p.2.length<=(jw [] [] (fO q)).length:=by
 induction q with
 |nil=>cases h
 |cons y q ih =>
  show p.2.length<=(jw [] [] ((List.replicate y.1 32++y.2)::fO q)).length
  rw[jw]
  simp only[List.length_append,List.length_cons,List.length_nil]
  rcases List.mem_cons.1 h with rfl|h
  ·omega
  ·have:=ih h;omega
theorem Np(n:Nat)(t:Nd)(hF:Fit 12 t)(hS:Shk 10000 12 t)(hz:sz8 12 t<=2000)(hn:2000000<=n)(hl:(wrS t).length<=8192):dL n (wrS t)=some (t,0,0):=by
 by_cases h0:t.aF=0
 ·have et:t=Z8:=by
   obtain⟨_,_,f3,f4,_,f6,_⟩:=hF
   obtain⟨kd,tx,ks,xs⟩:=t
   simp only at h0 f3 f4 f6
   have:=f3 (by omega);have:=f4 (by omega);have:=f6 (by omega)
   subst tx;subst ks;subst xs;rw[h0]
  have hw:wrS t=[]:=by unfold wrS;rw[if_pos h0]
  rw[hw,et]
  unfold dL
  rw[vf,Dp n (by omega) [] (by simp) (.nil 0)]
  rfl
 ·obtain⟨q,q1,q2,q3,q4⟩:=wE t hF hS h0
  have hlq:∀p∈q,p.2.length<=10000:=fun p hp=>by
   have:=Po hp
   rw[<-q1] at this;omega
  have sp:=FP (n:=n) (xu q) 0 (Rm (by omega) q3 hlq)
  rw[H6,<-q1] at sp
  have hr:=Dp n (by omega) (wrS t) hl sp
  obtain⟨o1,o2⟩:=gB.of (by omega) sp (by omega)
  have hne:uh 0 (xu q)≠[]:=fun e=>by
   have:=congrArg List.length e
   rw[Dm] at this
   have h2:(xu q).length=q.length:=List.length_map _
   rw[h2] at this
   exact q2 (List.eq_nil_of_length_eq_zero this)
  rw[ME Lt F8 n (wrS t) _ (by omega) hr hne o1 o2]
  unfold pS
  rw[q4 n _ hn (vY q 0)]
  simp only
  rw[qa n t hF hz (by omega)]
  rfl
end Go.Proofs.YtefojkdckfidcaaGreatDoor.M
namespace Go.Proofs.YtefojkdckfidcaaGreatDoor.M
open Go Go.Proofs.YtefojkdckfidcaaGreatDoor.RX Go.Proofs.YtefojkdckfidcaaGreatDoor.PL
set_option maxRecDepth 100000
def NZ:Nat->Nd->Bool
 |0,_=>false
 |d+1,t=>decide (t.aj.length<=2000)&&decide (t.aA.length<=2000)&&decide (t.aF≠1->t.au=[])&&decide (t.aF≠3->t.aA=[])&&decide (t.aF=3->t.aA.length=t.aj.length/\t.aA.Nodup)&&(decide (t.aF>=2)||t.aj.isEmpty)&&decide (0<=t.aF/\t.aF<=3)&&t.aj.all (NZ d)
theorem zw:∀(d:Nat)(t:Nd),NZ d t=true->Fit d t
 |0,_,h=>by cases h
 |d+1,t,h=>by
  unfold NZ at h
  simp only[Bool.and_eq_true,decide_eq_true_eq,List.all_eq_true,Bool.or_eq_true,List.isEmpty_iff] at h
  obtain⟨⟨⟨⟨⟨⟨⟨h1,h2⟩,h3⟩,h4⟩,h5⟩,h6⟩,h7⟩,h8⟩:=h
  exact⟨h1,h2,h3,h4,h5,fun h=>h6.resolve_left (by omega),h7,fun x hx=>zw d x (h8 x hx)⟩
def CQ:Nd:=af.mk 2 [] [] [af.mk 1 [120] [] [],af.mk 3 [] [[98],[99]] [af.mk 1 [121] [] [],af.mk 0 [] [] []]]
def n11:Nd:=af.mk 3 [] [[97]] [CQ]
def t11:BS:=[91,120,44,32,123,98,58,32,121,44,32,99,58,32,110,117,108,108,125,93]
def l11:av:=av.mk 1 0 ([97,58,32]++t11)
theorem PI(m:Nat)(hn:600000<=m)(rd:ak):dG (m+60) 1 t11 rd=some (CQ,rd):=by
 have v1:aT (m+60) (ah.mk t11 0 false)=some (CQ,true,ah.mk t11 20 false):=by clear hn;kernel_rfl
 have p1:gX (m+60) t11=some (CQ,0):=by
  unfold gX
  rw[v1,Option.bind_some]
  have x1:dR (m+60) (ah.mk t11 20 false)=some (0,ah.mk t11 20 false):=by clear hn v1;kernel_rfl
  rw[qa (m+60) CQ (zw _ _ (by decide)) (by decide) (by omega)]
  simp only[x1]
  rfl
 have s1:∃r,dK (m+60) t11 false=some r:=by
  clear hn v1 p1
  have h1:iz (m+60) t11=some false:=by kernel_rfl
  exact⟨(af.mk 0 [] [] [],3),by kernel_rfl⟩
 obtain⟨r,s1⟩:=s1
 unfold dG
 rw[s1,Option.bind_some,if_pos (by decide),if_pos (by decide)]
 unfold fN
 rw[p1]
 rfl
theorem OP(n:Nat)(hn:700000<=n):kq n=some true:=by
 obtain⟨m,rfl⟩:∃m,n=m+61:=⟨n-61,by omega⟩
 have hv:=fun rd=>PI m (by omega) rd
 have e1:jk (m+60) ([97,58,32]++t11)=some ([97],t11,1):=by clear hn hv;kernel_rfl
 have b1:bX (m+61) (ak.mk [l11] 0 0 0)=some (n11,ak.mk [l11] 1 0 0):=by
  show dH (bX (m+60)) (m+60) _=_
  generalize bX (m+60)=R
  have hj:dC R (m+60) 0 [97] t11 true (af.mk 0 [] [] []) (af.mk 3 [] [] []) l11 (af.mk 0 [] [] []) (ak.mk [l11] 1 0 0)=some (CQ,ak.mk [l11] 1 0 0):=by
   unfold dC
   rw[if_pos rfl]
   change (dG (m+60) 1 t11 _).bind _=_
   rw[hv];rfl
  have hl:bW R (m+60) 0 (m+60) (af.mk 0 [] [] []) (af.mk 3 [] [] []) (ak.mk [l11] 0 0 0)=some (.inl (af.mk 0 [] [] [],n11,ak.mk [l11] 1 0 0)):=by
   rw[bW,if_pos (by decide),if_pos (by decide)]
   change (jk (m+60) ([97,58,32]++t11)).bind _=_
   rw[e1,Option.bind_some,if_pos (by decide)]
   change (oO (m+60) [] [97]).bind _=_
   have e2:oO (m+60) [] [97]=some false:=by clear hn hv e1 hj;kernel_rfl
   rw[e2,Option.bind_some]
   dsimp only[aP]
   rw[if_neg (by decide),if_neg (by decide)]
   change (dC R (m+60) 0 [97] t11 true (af.mk 0 [] [] []) (af.mk 3 [] [] []) l11 (af.mk 0 [] [] []) (ak.mk [l11] 1 0 0)).bind _=_
   rw[hj,Option.bind_some,if_pos (by decide),if_pos (by decide)]
   rfl
  unfold dH
  rw[if_pos (by decide)]
  change (jk (m+60) ([97,58,32]++t11)).bind _=_
  rw[e1,Option.bind_some]
  unfold eU
  rw[if_neg (by decide),if_pos (by decide)]
  unfold iy
  change ((((bW R (m+60) 0 (m+60) (af.mk 0 [] [] []) (af.mk 3 [] [] []) (ak.mk [l11] 0 0 0)).bind _).bind _).bind _)=_
  rw[hl]
  simp only[Option.bind_some,Sum.elim_inl]
 have s1:kG (m+61) ([97,58,32]++t11)=some ([l11],0,0):=by clear hn hv e1 b1;kernel_rfl
 have v1:dL (m+61) ([97,58,32]++t11)=some (n11,0,0):=by
  unfold dL
  rw[s1,Option.bind_some,if_neg (by decide),if_neg (by decide)]
  simp only
  rw[b1,Option.bind_some]
  simp only
  rw[qa (m+61) n11 (zw _ _ (by decide)) (by decide) (by omega)]
  rfl
 have w1:jJ (m+61) n11=some [97,58,10,32,32,45,32,120,10,32,32,45,32,98,58,32,121,10,32,32,32,32,99,58,32,110,117,108,108,10]:=by clear hn hv e1 b1 s1 v1;kernel_rfl
 have w2:su (m+61) n11=some 4:=by clear hn hv e1 b1 s1 v1 w1;kernel_rfl
 have v1:dL (m+61) [97,58,32,91,120,44,32,123,98,58,32,121,44,32,99,58,32,110,117,108,108,125,93]=some (n11,0,0):=v1
 unfold kq
 rw[v1,Option.bind_some]
 simp only[w1,w2]
 rfl
end Go.Proofs.YtefojkdckfidcaaGreatDoor.M
namespace Go.Proofs.YtefojkdckfidcaaGreatDoor.M
open Go Go.Proofs.YtefojkdckfidcaaGreatDoor.RX Go.Proofs.YtefojkdckfidcaaGreatDoor.PL
set_option maxRecDepth 100000
def sm8:Nat->Nd->Nd->Bool
 |0,_,_=>true
 |d+1,a,b=>(a.aF==b.aF)&&(a.au==b.au)&&decide (a.aA=b.aA)&&decide (a.aj.length=b.aj.length)&&(a.aj.zip b.aj).all fun p=>sm8 d p.1 p.2
theorem Fq{α:Type}:∀l:List α,∀p∈l.zip l,p.1=p.2
 |[],p,h=>by cases h
 |x::l,p,h=>by
  rw[List.zip_cons_cons] at h
  rcases List.mem_cons.1 h with rfl|h
  ·rfl
  ·exact Fq l p h
theorem IC:∀(d:Nat)(t:Nd),sm8 d t t=true
 |0,_=>rfl
 |d+1,t=>by
  unfold sm8
  simp only[beq_self_eq_true,decide_true,Bool.and_self,Bool.true_and]
  exact List.all_eq_true.2 fun p hp=>by
   have:=Fq _ p hp
   show sm8 d p.1 p.2=true
   rw[this];exact IC d _
theorem MF{α:Type}{L:Nat->Int->Option (Sum Unit Bool)}(l m:List α)(f:α->α->Bool)(hlm:l.length=m.length)(hl:l.length<10000)
  (hs:∀k i (h:i<l.length) (h':i<m.length),L (k+1) (i:Int)=if(!(f l[i] m[i]))=true then some (.inr false) else L k (IntKind.wrap .i64 ((i:Int)+1)))
  (he:∀k,L (k+1) (l.length:Int)=some (.inl ())):∀k i,i<=l.length->l.length-i<k->L k (i:Int)=some (if((l.drop i).zip (m.drop i)).all (fun p=>f p.1 p.2)=true then .inl () else .inr false)
 |0,i,_,h=>by omega
 |k+1,i,h1,h2=>by
  by_cases h:i<l.length
  ·have h':i<m.length:=by omega
   rw[hs k i h h',drop_at h,drop_at h',List.zip_cons_cons,List.all_cons]
   cases hf:f l[i] m[i] with
   |true =>
    simp only[Bool.not_true,Bool.false_eq_true,if_false,Bool.true_and,hf]
    rw[aZ i (by omega)]
    exact MF l m f hlm hl hs he k (i+1) (by omega) (by omega)
   |false=>simp[hf]
  ·have:i=l.length:=by omega
   subst this
   rw[he,List.drop_eq_nil_of_le (Nat.le_refl _)];simp
theorem lne{α β:Type}(l:List α)(m:List β):((List.length l:Int) != (List.length m:Int))=!decide (l.length=m.length):=by
 by_cases h:l.length=m.length
 ·simp[h]
 ·rw[decide_eq_false h,Bool.not_false,bne_iff_ne];omega
theorem wP:∀(d n:Nat)(a b:Nd),Fit d a->Fit d b->100000+d<n->jj n a b=some (sm8 d a b)
 |_,0,_,_,_,_,h=>by omega
 |0,n+1,_,_,h,_,_=>h.elim
 |d+1,n+1,a,b,hA,hB,hn=>by
  obtain⟨a1,a2,_,_,_,_,_,a8⟩:=hA
  obtain⟨b1,b2,_,_,_,_,_,b8⟩:=hB
  show mX (jj n) n a b=_
  unfold mX sm8
  have e0:(a.aF != b.aF||!(a.au==b.au))=!(a.aF==b.aF&&a.au==b.au):=by
   rw[bne];cases a.aF==b.aF<;>cases a.au==b.au<;>rfl
  simp only[aP,yO,wY,e0]
  cases e1:(a.aF==b.aF&&a.au==b.au) with
  |false=>simp only[Bool.not_false,Bool.true_or,show((true:Bool)==false)=false from rfl,Bool.false_eq_true,if_false,Option.bind_some,if_true,Bool.false_and]
  |true =>
   rw[if_pos (by rfl),Ec n _ _ (by omega) (by omega),Option.bind_some,lne]
   cases e2:decide (a.aA=b.aA) with
   |false=>rfl
   |true =>
    cases e3:decide (a.aj.length=b.aj.length) with
    |false=>rfl
    |true =>
     have hlm:=of_decide_eq_true e3
     have:=MF (L:=iR (jj n) n a b) a.aj b.aj (sm8 d) hlm (by omega)
      (fun k i h h'=>by
       rw[iR,if_pos (gy h),if_pos (bU h),if_pos (bU h'),cY h,cY h',wP d n _ _ (a8 _ (List.getElem_mem h)) (b8 _ (List.getElem_mem h')) (by omega)];rfl)
      (fun k=>by rw[iR,nq];rfl) n 0 (by omega) (by omega)
     rw[List.drop_zero,List.drop_zero] at this
     have this:iR (jj n) n a b n 0=_:=this
     rw[this]
     cases (a.aj.zip b.aj).all (fun p=>sm8 d p.1 p.2)<;>rfl
theorem Oi:∀(d:Nat)(a b:Nd),Fit d a->Fit d b->sm8 d a b=true->a=b
 |0,_,_,h,_,_=>h.elim
 |d+1,a,b,hA,hB,h=>by
  unfold sm8 at h
  simp only[Bool.and_eq_true,decide_eq_true_eq,beq_iff_eq] at h
  obtain⟨⟨⟨⟨h1,h2⟩,h3⟩,h4⟩,h5⟩:=h
  have hk:a.aj=b.aj:=by
   refine List.ext_getElem h4 fun i g1 g2=>?_
   refine Oi d _ _ (hA.2.2.2.2.2.2.2 _ (List.getElem_mem g1)) (hB.2.2.2.2.2.2.2 _ (List.getElem_mem g2)) ?_
   have hm:(a.aj[i],b.aj[i])∈a.aj.zip b.aj:=by
    have hl:i<(a.aj.zip b.aj).length:=by rw[List.length_zip];omega
    have:=List.getElem_mem hl
    rw[List.getElem_zip] at this
    exact this
   exact List.all_eq_true.1 h5 _ hm
  obtain⟨k1,t1,s1,x1⟩:=a
  obtain⟨k2,t2,s2,x2⟩:=b
  simp only at h1 h2 h3 hk
  rw[h1,h2,h3,hk]
theorem same_iff(n:Nat)(a b:Nd)(hA:Fit 12 a)(hB:Fit 12 b)(hn:200000<=n):∃c,jj n a b=some c/\(c=true↔a=b) :=
 ⟨_,wP 12 n a b hA hB (by omega),fun h=>Oi 12 a b hA hB h,fun h=>by rw[h];exact IC 12 b⟩
theorem Oc{r q:BS}:∀(x y:BS),10∉x->10∉y->x++(10:UInt8)::r=y++10::q->x=y/\r=q
 |[],[],_,_,h=>⟨rfl,(List.cons.inj h).2⟩
 |[],c::y,_,h2,h=>by
  have e:(10:UInt8)=c:=(List.cons.inj h).1
  subst e
  exact(h2 List.mem_cons_self).elim
 |c::x,[],h1,_,h=>by
  have e:c=(10:UInt8):=(List.cons.inj h).1
  subst e
  exact(h1 List.mem_cons_self).elim
 |c::x,d::y,h1,h2,h=>by
  obtain⟨e,h⟩:=List.cons.inj h
  obtain⟨e1,e2⟩:=Oc x y (fun m=>h1 (List.mem_cons_of_mem _ m)) (fun m=>h2 (List.mem_cons_of_mem _ m)) h
  exact⟨by rw[e,e1],e2⟩
theorem EA:∀(l m:List BS),(∀x∈l,10∉x)->(∀x∈m,10∉x)->jw [] [] l=jw [] [] m->l=m
 |[],[],_,_,_=>rfl
 |[],y::m,_,_,h=>by simp[jw] at h
 |x::l,[],_,_,h=>by simp[jw] at h
 |x::l,y::m,h1,h2,h=>by
  simp only[jw,List.nil_append,List.append_assoc,List.singleton_append] at h
  obtain⟨e1,e2⟩:=Oc x y (h1 x List.mem_cons_self) (h2 y List.mem_cons_self) h
  rw[e1,EA l m (fun z hz=>h1 z (List.mem_cons_of_mem _ hz)) (fun z hz=>h2 z (List.mem_cons_of_mem _ hz)) e2]
theorem Iq:∀(k k':Nat)(u v:BS),u.head?≠some 32->v.head?≠some 32->List.replicate k (32:UInt8)++u=List.replicate k' 32++v->k=k'/\u=v
 |0,0,u,v,_,_,h=>⟨rfl,by simpa using h⟩
 |0,k'+1,u,v,h1,_,h=>by
  rw[List.replicate_zero,List.nil_append,List.replicate_succ] at h
  exact(h1 (by rw[h];rfl)).elim
 |k+1,0,u,v,_,h2,h=>by
  rw[List.replicate_zero,List.nil_append,List.replicate_succ] at h
  exact(h2 (by rw[<-h];rfl)).elim
 |k+1,k'+1,u,v,c,d,h=>by
  rw[List.replicate_succ,List.replicate_succ,List.cons_append,List.cons_append] at h
  obtain⟨e1,e2⟩:=Iq k k' u v c d (List.cons.inj h).2
  exact⟨by rw[e1],e2⟩
theorem Gh:∀(l m:List (Nat×BS)),(∀p∈l,Tx p.2)->(∀p∈m,Tx p.2)->fO l=fO m->l=m
 |[],[],_,_,_=>rfl
 |[],y::m,_,_,h=>by simp[fO] at h
 |x::l,[],_,_,h=>by simp[fO] at h
 |x::l,y::m,h1,h2,h=>by
  have h:(List.replicate x.1 32++x.2)::fO l=(List.replicate y.1 32++y.2)::fO m:=h
  obtain⟨e,h⟩:=List.cons.inj h
  obtain⟨e1,e2⟩:=Iq _ _ _ _ (h1 x List.mem_cons_self).h32 (h2 y List.mem_cons_self).h32 e
  rw[Gh l m (fun z hz=>h1 z (List.mem_cons_of_mem _ hz)) (fun z hz=>h2 z (List.mem_cons_of_mem _ hz)) h,show x=y from Prod.ext e1 e2]
theorem EX{q:List (Nat×BS)}(h:∀p∈q,Tx p.2/\10∉p.2):∀x∈fO q,(10:UInt8)∉x:=by
 intro x hx
 obtain⟨p,hp,rfl⟩:=List.mem_map.1 hx
 intro hm
 rcases List.mem_append.1 hm with hm|hm
 ·exact absurd (List.eq_of_mem_replicate hm) (by decide)
 ·exact(h p hp).2 hm
theorem Ir{t:Nd}(hF:Fit 12 t)(h0:t.aF=0):t=Z8:=by
 obtain⟨_,_,f3,f4,_,f6,_⟩:=hF
 obtain⟨kd,tx,ks,xs⟩:=t
 simp only at h0 f3 f4 f6
 have:=f3 (by omega);have:=f4 (by omega);have:=f6 (by omega)
 subst tx;subst ks;subst xs;rw[h0]
theorem H7{q:List (Nat×BS)}(h:q≠[]):jw [] [] (fO q)≠[]:=by
 cases q with
 |nil=>exact(h rfl).elim
 |cons x q=>simp[fO,jw]
theorem Rf(a b:Nd)(hA:Fit 12 a)(hB:Fit 12 b)(sA:Shk 10000 12 a)(sB:Shk 10000 12 b)(h:wrS a=wrS b):a=b:=by
 by_cases ka:a.aF=0
 ·by_cases kb:b.aF=0
  ·rw[Ir hA ka,Ir hB kb]
  ·obtain⟨q,q1,q2,_⟩:=wE b hB sB kb
   have hw:wrS a=[]:=by unfold wrS;rw[if_pos ka]
   rw[hw,q1] at h
   exact(H7 q2 h.symm).elim
 ·obtain⟨p,p1,p2,p3,p4⟩:=wE a hA sA ka
  by_cases kb:b.aF=0
  ·have hw:wrS b=[]:=by unfold wrS;rw[if_pos kb]
   rw[hw,p1] at h
   exact(H7 p2 h).elim
  ·obtain⟨q,q1,q2,q3,q4⟩:=wE b hB sB kb
   rw[p1,q1] at h
   have e:=EA _ _ (EX p3) (EX q3) h
   have e:=Gh _ _ (fun x hx=>(p3 x hx).1) (fun x hx=>(q3 x hx).1) e
   subst e
   have g:=p4 2000000 _ (Nat.le_refl _) (vY p 0)
   rw[q4 2000000 _ (Nat.le_refl _) (vY p 0)] at g
   injection g with g
   exact(Prod.mk.inj g).1.symm
theorem parse_any(n:Nat)(s:BS)(hs:s.length<=8192)(hn:500000<=n):∃r,dL n s=some r/\(r.2.2=0->Fit 12 r.1/\sz8 12 r.1<=2000/\Shk 10000 12 r.1):=by
 rcases G4 n (by omega) s hs with⟨ls,h1,h2⟩|⟨no,e,h1,h2⟩
 ·by_cases hne:ls=[]
  ·subst hne
   refine⟨(Z8,0,0),?_,fun _=>⟨IP,by decide,(Red.null 12).2⟩⟩
   unfold dL;rw[vf,h2];rfl
  ·obtain⟨o1,o2⟩:=gB.of (by omega) h1 (by omega)
   obtain⟨f1,f2,_⟩:=NP F8 n ls hn o1 o2
   exact⟨pS n ls,ME Lt F8 n s ls hn h2 hne o1 o2,fun h=>⟨f1,(f2 h).1,(f2 h).2.1⟩⟩
 ·have he:(e != 0)=true:=by simpa using h1
  refine⟨(Z8,no,e),?_,fun h=>(h1 h).elim⟩
  unfold dL;rw[vf,h2]
  simp only[Option.bind_some]
  rw[he];rfl
theorem JZ(n:Nat)(s:BS)(hl:¬s.length<=8192):dL n s=some (Z8,0,9):=by
 unfold dL
 rw[vf]
 have:iL n s=some ([],0,9):=by
  unfold iL
  rw[if_pos (decide_eq_true (by omega))]
 rw[this]
 rfl
theorem vM(a0:BS)(_:List.length a0<=maxLen)(a1:BS)(_:List.length a1<=maxLen):∃n,mq n a0 a1=some true:=by
 obtain⟨n,hn⟩:∃n,n=60000000:=⟨_,rfl⟩
 refine⟨n,?_⟩
 have haw:=OP n (by omega)
 unfold mq
 by_cases c:a0.length<=600/\a1.length<=600
 ·have c0:decide ((List.length a0:Int)>600)=false:=decide_eq_false (by omega)
  have c1:decide ((List.length a1:Int)>600)=false:=decide_eq_false (by omega)
  obtain⟨⟨a,ia,e⟩,p1,p2⟩:=parse_any n a0 (by omega) (by omega)
  obtain⟨⟨b,ib,f⟩,q1,q2⟩:=parse_any n a1 (by omega) (by omega)
  rw[c0,c1,cond_false,if_neg Bool.false_ne_true,p1,q1,Option.bind_some,Option.bind_some]
  by_cases he:e=0
  ·by_cases hf:f=0
   ·subst he;subst hf
    obtain⟨a2,a3,a4⟩:=p2 rfl
    obtain⟨b2,b3,b4⟩:=q2 rfl
    rw[if_neg (by simp),nY n a a2 a4 a3 (by omega),Option.bind_some]
    obtain⟨v,s1,s2⟩:=same_iff n a b a2 b2 (by omega)
    obtain⟨u,t1,t2⟩:=same_iff n a a a2 a2 (by omega)
    obtain rfl:u=true:=t2.2 rfl
    have hv:(wrS a==wrS b)=v:=by
     cases v with
     |true=>rw[s2.1 rfl];simp
     |false =>
      rw[beq_eq_false_iff_ne]
      intro h
      have:=s2.2 (Rf a b a2 b2 a4 b4 h)
      cases this
    by_cases hl:(wrS a).length<=8192
    ·have hd:decide ((List.length (wrS a):Int)<=8192)=true:=decide_eq_true (by omega)
     rw[Np n a a2 a4 a3 (by omega) hl,Option.bind_some,hd,if_pos (by rfl)]
     simp only[t1,Option.bind_some]
     rw[if_pos (by rfl),nY n a a2 a4 a3 (by omega)]
     simp only[Option.bind_some,aP,beq_self_eq_true]
     rw[if_neg (by decide),nY n b b2 b4 b3 (by omega)]
     simp only[s1,Option.bind_some,hv,beq_self_eq_true,if_true,haw,cond_true]
    ·have hd:decide ((List.length (wrS a):Int)<=8192)=false:=decide_eq_false (by omega)
     rw[JZ n _ hl,Option.bind_some,hd,if_neg (by simp)]
     simp only[Option.bind_some]
     rw[if_neg (by simp)]
     simp only[Option.bind_some,aP,cond_false]
     rw[if_neg Bool.false_ne_true,nY n b b2 b4 b3 (by omega)]
     simp only[s1,Option.bind_some,hv,beq_self_eq_true,if_true,haw,cond_true]
   ·have:(bif e != 0 then true else f != 0)=true:=by
     have:(f != 0)=true:=by simpa using hf
     rw[this];cases (e != 0)<;>rfl
    simp only[this,if_true,haw,Option.bind_some]
  ·have:(bif e != 0 then true else f != 0)=true:=by
    have:(e != 0)=true:=by simpa using he
    rw[this];rfl
   simp only[this,if_true,haw,Option.bind_some]
 ·have:(bif decide ((List.length a0:Int)>600) then true else decide ((List.length a1:Int)>600))=true:=by
   by_cases c0:(List.length a0:Int)>600
   ·rw[decide_eq_true c0];rfl
   ·rw[decide_eq_false c0,decide_eq_true (show(List.length a1:Int)>600 by omega)];rfl
  rw[this,if_pos rfl,haw];rfl
end Go.Proofs.YtefojkdckfidcaaGreatDoor.M
