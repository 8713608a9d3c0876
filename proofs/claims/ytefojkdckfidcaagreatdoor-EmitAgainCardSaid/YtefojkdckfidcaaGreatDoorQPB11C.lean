import Derived.Test.YtefojkdckfidcaaGreatDoorQLoop
set_option linter.all false
namespace Go.Proofs.YtefojkdckfidcaaGreatDoor.M
open Go Go.Proofs.YtefojkdckfidcaaGreatDoor.RX Go.Proofs.YtefojkdckfidcaaGreatDoor.PL
set_option maxRecDepth 100000
def dh:BS->Nat
 |[]=>0
 |c::r=>if c=32 then dh r+1 else 0
def hd9:BS->Int
 |[]=>0
 |c::_=>(c.toNat:Int)
theorem Il:∀l:BS,dh l<=l.length
 |[]=>Nat.le_refl 0
 |c::r=>by unfold dh;have:=Il r;split<;>simp<;>omega
theorem ik(S:BS)(i:Nat)(h:i<=S.length):i+dh (S.drop i)<=S.length:=by
 have:=Il (S.drop i)
 rw[List.length_drop] at this;omega
theorem KL(n:Nat)(S:BS)(bad:Bool)(hS:S.length<=100000000):∀(k i:Nat),i<=S.length->S.length-i<k->fu n k (ah.mk S (i:Int) bad)=some (ah.mk S ((i+dh (S.drop i):Nat):Int) bad)
 |0,i,_,h=>by omega
 |k+1,i,h1,h2=>by
  rw[fu]
  by_cases h:i<S.length
  ·simp only[gy h,bU h,cY h,Bool.or_true,if_true,aP,cond_true,b32]
   rw[drop_at h]
   unfold dh
   by_cases hc:S[i]=32
   ·rw[if_pos (decide_eq_true hc),if_pos hc,aZ i (by omega),KL n S bad hS k (i+1) (by omega) (by omega)]
    congr 2
    omega
   ·rw[if_neg (by simpa using hc),if_neg hc];rfl
  ·have:i=S.length:=by omega
   subst this
   simp only[nq]
   rw[List.drop_eq_nil_of_le (Nat.le_refl _)]
   rfl
theorem sD(n:Nat)(S:BS)(bad:Bool)(i:Nat)(hS:S.length<=100000000)(hn:S.length<n)(hi:i<=S.length):dR n (ah.mk S (i:Int) bad)=some (hd9 (S.drop (i+dh (S.drop i))),ah.mk S ((i+dh (S.drop i):Nat):Int) bad):=by
 have hb:=ik S i hi
 unfold dR
 rw[KL n S bad hS n i hi (by omega),Option.bind_some]
 simp only
 generalize i+dh (S.drop i)=j at hb ⊢
 by_cases h:j<S.length
 ·have e:((j:Int)==(S.length:Int))=false:=by rw[beq_eq_false_iff_ne];omega
  rw[e,bU h,cY h,drop_at h];rfl
 ·have:j=S.length:=by omega
  subst this
  rw[List.drop_eq_nil_of_le (Nat.le_refl _),if_pos (by simp)];rfl
theorem vl(n:Nat)(S:BS)(bad:Bool)(i:Nat)(c:Int)(hS:S.length<=100000000)(hn:S.length<n)(hi:i<=S.length):bn n c (ah.mk S (i:Int) bad) =
  some (if hd9 (S.drop (i+dh (S.drop i)))=c then(true,ah.mk S ((i+dh (S.drop i)+1:Nat):Int) bad) else(false,ah.mk S ((i+dh (S.drop i):Nat):Int) bad)):=by
 have hb:=ik S i hi
 unfold bn
 rw[sD n S bad i hS hn hi,Option.bind_some]
 simp only
 generalize i+dh (S.drop i)=j at hb ⊢
 by_cases h:hd9 (S.drop j)=c
 ·rw[if_pos h,if_neg (by rw[h];simp),aZ j (by omega)]
 ·rw[if_neg h,if_pos (by simpa using h)]
theorem nz{S:BS}{j:Nat}{c:Int}(h:hd9 (S.drop j)=c)(hc:c≠0):j<S.length:=by
 rcases Nat.lt_or_ge j S.length with h1|h1
 ·exact h1
 ·rw[List.drop_eq_nil_of_le h1] at h;exact(hc h.symm).elim
theorem jV(n:Nat)(S:BS)(bad:Bool)(i:Nat)(c:Int)(hc:c≠0)(hS:S.length<=100000000)(hn:S.length<n)(hi:i<=S.length):∃(b:Bool)(j:Nat),bn n c (ah.mk S (i:Int) bad)=some (b,ah.mk S (j:Int) bad)/\(i<=j/\j<=S.length)/\(b=true->i<j):=by
 have hb:=ik S i hi
 rw[vl n S bad i c hS hn hi]
 split
 ·rename_i h
  have:=nz h hc
  exact⟨true,_,rfl,⟨by omega,by omega⟩,fun _=>by omega⟩
 ·exact⟨false,_,rfl,⟨by omega,by omega⟩,fun h=>by cases h⟩
theorem tY(n:Nat)(S:BS)(hS:S.length<=100000000)(q:Int)(hq:q=34\/q=39):∀(k i:Nat)(acc:BS),S.length<k+i->acc.length<=i->acc.length<=S.length->∃r,aS n S q (k+1) (i:Int) acc=some r/\(r=.inl ()\/r=.inr ([],0,3)\/∃(t:BS)(j:Nat),r=.inr (t,(j:Int),0)/\i<j/\j<=S.length/\t.length<=S.length)
 |k,i,acc,h1,h2,h3=>by
  by_cases h:i<S.length
  ·obtain⟨k,rfl⟩:∃m,k=m+1:=⟨k-1,by omega⟩
   rcases hq with rfl|rfl
   ·rw[q34 n (k+1) S acc i hS (by omega) h]
    split
    ·exact⟨_,rfl,.inl rfl⟩
    split
    ·exact⟨_,rfl,.inr (.inr ⟨acc,i+1,rfl,by omega,by omega,h3⟩)⟩
    split
    ·cases hu:lC (S.drop (i+1)) with
     |none=>exact⟨_,rfl,.inr (.inl rfl)⟩
     |some p =>
      obtain⟨b,l⟩:=p
      have hl:=sQ hu
      rw[List.length_drop] at hl
      obtain⟨r,g1,g2⟩:=tY n S hS 34 (.inl rfl) k (i+l) (acc++[b]) (by omega) (by simp;omega) (by simp;omega)
      refine⟨r,g1,?_⟩
      rcases g2 with g2|g2|⟨t,j,g2,g3,g4⟩
      ·exact .inl g2
      ·exact .inr (.inl g2)
      ·exact .inr (.inr ⟨t,j,g2,by omega,g4⟩)
    ·obtain⟨r,g1,g2⟩:=tY n S hS 34 (.inl rfl) k (i+1) (acc++[S[i]]) (by omega) (by simp;omega) (by simp;omega)
     refine⟨r,g1,?_⟩
     rcases g2 with g2|g2|⟨t,j,g2,g3,g4⟩
     ·exact .inl g2
     ·exact .inr (.inl g2)
     ·exact .inr (.inr ⟨t,j,g2,by omega,g4⟩)
   ·rw[q39 n (k+1) S acc i hS (by omega) h]
    split
    ·exact⟨_,rfl,.inl rfl⟩
    split
    ·by_cases hx:(if h':i+1<S.length then S[i+1]==39 else false)=true
     ·rw[if_pos hx]
      have hi2:i+1<S.length:=by
       by_cases h':i+1<S.length
       ·exact h'
       ·rw[dif_neg h'] at hx;cases hx
      obtain⟨r,g1,g2⟩:=tY n S hS 39 (.inr rfl) k (i+2) (acc++[39]) (by omega) (by simp;omega) (by simp;omega)
      refine⟨r,g1,?_⟩
      rcases g2 with g2|g2|⟨t,j,g2,g3,g4⟩
      ·exact .inl g2
      ·exact .inr (.inl g2)
      ·exact .inr (.inr ⟨t,j,g2,by omega,g4⟩)
     ·rw[if_neg hx]
      exact⟨_,rfl,.inr (.inr ⟨acc,i+1,rfl,by omega,by omega,h3⟩)⟩
    ·obtain⟨r,g1,g2⟩:=tY n S hS 39 (.inr rfl) k (i+1) (acc++[S[i]]) (by omega) (by simp;omega) (by simp;omega)
     refine⟨r,g1,?_⟩
     rcases g2 with g2|g2|⟨t,j,g2,g3,g4⟩
     ·exact .inl g2
     ·exact .inr (.inl g2)
     ·exact .inr (.inr ⟨t,j,g2,by omega,g4⟩)
  ·rw[Jt n k S acc q i (by omega)]
   exact⟨_,rfl,.inl rfl⟩
theorem qb(n:Nat)(S:BS)(i:Nat)(hS:S.length<=100000000)(hn:S.length+1<n)(h:i<S.length)(hc:S[i]=34\/S[i]=39):bp n S (i:Int)=some ([],0,3)\/∃(t:BS)(j:Nat),bp n S (i:Int)=some (t,(j:Int),0)/\i<j/\j<=S.length/\t.length<=S.length:=by
 obtain⟨m,rfl⟩:∃m,n=m+1:=⟨n-1,by omega⟩
 rw[DR (m+1) S i hS h hc]
 have hq:(S[i].toNat:Int)=34\/(S[i].toNat:Int)=39:=by
  rcases hc with hc|hc<;>rw[hc]
  ·exact .inl rfl
  ·exact .inr rfl
 obtain⟨r,g1,g2⟩:=tY (m+1) S hS _ hq m (i+1) [] (by omega) (Nat.zero_le _) (Nat.zero_le _)
 rw[g1,Option.bind_some]
 rcases g2 with rfl|rfl|⟨t,j,rfl,g3,g4⟩
 ·exact .inl rfl
 ·exact .inl rfl
 ·exact .inr ⟨t,j,rfl,by omega,g4⟩
def sp6:BS:=[32,44,91,93,123,125]
theorem ix6:∀c:UInt8,decide ((Lib.indexByte ([32,44,91,93,123,125]:Bs) (Int.toNat (c.toNat:Int)).toUInt8)>=0)=sp6.contains c:=gx (by decide +kernel)
def pl9:BS->Nat
 |[]=>0
 |c::r=>if(sp5.contains c||(c==58&&(match r with|[]=>true|d::_=>sp6.contains d)))=true then 0 else pl9 r+1
theorem LG{c:Prop}[Decidable c]{a b m:Nat}(h1:a<=m)(h2:b<=m):(if c then a else b)<=m:=by split<;>assumption
theorem uX:∀l:BS,pl9 l<=l.length
 |[]=>Nat.le_refl 0
 |c::r=>by
  have:=uX r
  unfold pl9
  exact LG (Nat.zero_le _) (by rw[List.length_cons];omega)
theorem BX(n:Nat)(v:Int)(S:BS)(bad:Bool)(hS:S.length<=100000000):∀(k i:Nat),i<=S.length->S.length-i<k->eX n v k (ah.mk S (i:Int) bad)=some (ah.mk S ((i+pl9 (S.drop i):Nat):Int) bad)
 |0,i,_,h=>by omega
 |k+1,i,h1,h2=>by
  rw[eX]
  by_cases h:i<S.length
  ·rw[drop_at h]
   unfold pl9
   simp only[gy h,bU h,cY h,ix5,b58,if_true,aP,aZ i (by omega),oy,gQ]
   by_cases h':i+1<S.length
   ·have e1:decide (i+1=S.length)=false:=decide_eq_false (by omega)
    rw[drop_at h']
    simp only[e1,bU h',cY h',ix6,Bool.or_true,if_true,cond_false]
    have ec:(bif sp5.contains S[i] then true else bif S[i]==58 then sp6.contains S[i+1] else false)=(sp5.contains S[i]||(S[i]==58&&sp6.contains S[i+1])):=by
     cases sp5.contains S[i]<;>cases (S[i]==58)<;>rfl
    rw[ec]
    by_cases hc:(sp5.contains S[i]||(S[i]==58&&sp6.contains S[i+1]))=true
    ·rw[if_pos hc,if_pos hc];rfl
    ·rw[if_neg hc,if_neg hc,BX n v S bad hS k (i+1) (by omega) (by omega),drop_at h']
     congr 2
     omega
   ·have e1:decide (i+1=S.length)=true:=decide_eq_true (by omega)
    rw[List.drop_eq_nil_of_le (by omega:S.length<=i+1)]
    have ec:(bif sp5.contains S[i] then true else bif S[i]==58 then true else false)=(sp5.contains S[i]||(S[i]==58&&true)):=by
     cases sp5.contains S[i]<;>cases (S[i]==58)<;>rfl
    simp only[e1,cond_true,ec,Bool.false_and,Bool.not_false,Bool.true_or,if_true,show(true==false)=false from rfl]
    by_cases hc:(sp5.contains S[i]||(S[i]==58&&true))=true
    ·rw[if_pos hc,if_pos hc];rfl
    ·rw[if_neg hc,if_neg hc,BX n v S bad hS k (i+1) (by omega) (by omega),List.drop_eq_nil_of_le (by omega:S.length<=i+1)]
     rfl
  ·have:i=S.length:=by omega
   subst this
   rw[nq,List.drop_eq_nil_of_le (Nat.le_refl _)]
   rfl
theorem oV(n:Nat)(S:BS)(bad:Bool)(i:Nat)(hS:S.length<=100000000)(hn:S.length<n)(hi:i<=S.length):fY n (ah.mk S (i:Int) bad)=some (Lib.trimRightB ((S.drop i).take (pl9 (S.drop i))) 32,ah.mk S ((i+pl9 (S.drop i):Nat):Int) bad):=by
 have hp:=uX (S.drop i)
 rw[List.length_drop] at hp
 unfold fY
 simp only
 rw[BX n _ S bad hS n i hi (by omega),Option.bind_some]
 simp only[tn]
 have e:i+pl9 (S.drop i)-i=pl9 (S.drop i):=by omega
 rw[if_pos (mD (by omega)),if_pos (Jg (by omega)),e,if_pos (decide_eq_true (by rw[List.length_take,List.length_drop];omega))]
theorem dropWhile_le{α:Type}(p:α->Bool):∀l:List α,(l.dropWhile p).length<=l.length
 |[]=>Nat.le_refl 0
 |x::l=>by rw[List.dropWhile_cons];have:=dropWhile_le p l;split<;>simp<;>omega
theorem yI(l:BS)(c:UInt8):(Lib.trimRightB l c).length<=l.length:=by
 unfold Lib.trimRightB
 rw[List.length_reverse]
 have:=dropWhile_le (·==c) l.reverse
 rwa[List.length_reverse] at this
theorem RV{a b:Nat}(h:a+b<=1000000000):decide ((a+b)*(16+1)<=limit)=true:=decide_eq_true (by show(a+b)*(16+1)<=140737488355328;omega)
def Red(m:Nat)(v:Nd):Prop:=∀d,BJ d v/\Shk m d v
theorem Red.leaf{m:Nat}{t:BS}(h:t.length<=m):Red m (af.mk 1 t [] []):=fun d=>by
 cases d with
 |zero=>exact⟨trivial,trivial⟩
 |succ d=>exact⟨⟨by simp,by simp,fun x hx=>(by cases hx)⟩,⟨h,fun k hk=>(by cases hk),fun x hx=>(by cases hx)⟩⟩
theorem Red.null{m:Nat}:Red m Z8:=fun d=>by
 cases d with
 |zero=>exact⟨trivial,trivial⟩
 |succ d=>exact⟨⟨by simp,by simp,fun x hx=>(by cases hx)⟩,⟨by simp,fun k hk=>(by cases hk),fun x hx=>(by cases hx)⟩⟩
theorem Red.node{m:Nat}{k:Int}{ks:List BS}{xs:List Nd}(h1:xs.length<=1000000)(h2:ks.length<=1000000)(h3:∀k∈ks,k.length<=m)(h4:∀x∈xs,Red m x):Red m (af.mk k [] ks xs):=fun d=>by
 cases d with
 |zero=>exact⟨trivial,trivial⟩
 |succ d=>exact⟨⟨h1,h2,fun x hx=>(h4 x hx d).1⟩,⟨Nat.zero_le _,h3,fun x hx=>(h4 x hx d).2⟩⟩
theorem Bi(n:Nat)(S:BS)(bad:Bool)(i:Nat)(hS:S.length<=100000000)(hn:S.length+1<n)(h:i<S.length)(hc:S[i]=34\/S[i]=39):∃t j bad',dS n (ah.mk S (i:Int) bad)=some (t,ah.mk S ((j:Nat):Int) bad')/\i<=j/\j<=S.length/\t.length<=S.length:=by
 unfold dS
 simp only
 rcases qb n S i hS hn h hc with h1|⟨t,j,h1,h2,h3,h4⟩
 ·rw[h1]
  exact⟨[],i,true,rfl,Nat.le_refl _,by omega,Nat.zero_le _⟩
 ·rw[h1]
  exact⟨t,j,bad,rfl,by omega,h3,h4⟩
theorem oM{S:BS}{j:Nat}{c:UInt8}(hj:j<S.length):(hd9 (S.drop j)==(c.toNat:Int))=decide (S[j]=c):=by
 rw[drop_at hj]
 show((S[j].toNat:Int)==(c.toNat:Int))=_
 rw[jN,gQ]
theorem Jn(n:Nat)(s:BS)(m:Nat)(hs:s.length<=m)(hm:m<=100000)(hn:200000<=n):∃x e,dK n s true=some (x,e)/\Red m x:=by
 unfold dK
 by_cases hw:s=[]\/s=[126]\/s=[110,117,108,108]
 ·refine⟨Z8,0,?_,Red.null⟩
  rcases hw with rfl|rfl|rfl<;>rfl
 ·have hne:s≠[]:=fun e=>hw (.inl e)
  have hlen:0<s.length:=List.length_pos_iff.2 hne
  have e1:(s==[])=false:=by simpa using hne
  have e2:(s==[126])=false:=by simp;exact fun e=>hw (.inr (.inl e))
  have e3:(s==[110,117,108,108])=false:=by simp;exact fun e=>hw (.inr (.inr e))
  have z0:decide (0<=(0:Int)/\(0:Int)<(List.length s:Int))=true:=bU hlen
  have z1:(s[Int.toNat 0]?.getD 0)=s[0]:=cY hlen
  obtain⟨r1,_⟩:=Bw n s (by omega) hn
  rw[e1,e2,e3,z0,z1,b34,b39]
  simp only[Bool.or_true,if_true,cond_false,Bool.false_eq_true,if_false]
  by_cases hq:(bif decide (s[0]=34) then true else decide (s[0]=39))=true
  ·rw[if_pos hq]
   have hq:s[0]=34\/s[0]=39:=by
    by_cases h4:s[0]=34
    ·exact .inl h4
    ·rw[decide_eq_false h4] at hq
     exact .inr (of_decide_eq_true hq)
   rcases qb n s 0 (by omega) (by omega) hlen hq with h1|⟨t,j,h1,h2,h3,h4⟩
   ·have h1:bp n s 0=some ([],0,3):=h1
    rw[h1]
    exact⟨Z8,3,rfl,Red.null⟩
   ·have h1:bp n s 0=some (t,(j:Int),0):=h1
    rw[h1,Option.bind_some]
    by_cases hb:(bif ((0:Int) != 0) then true else((j:Int) != (List.length s:Int)))=true
    ·exact⟨Z8,3,by rw[if_pos hb],Red.null⟩
    ·exact⟨_,0,by rw[if_neg hb];rfl,Red.leaf (t:=t) (by omega)⟩
  ·rw[if_neg hq,if_pos (by rfl),r1,Option.bind_some]
   cases rowB s with
   |true=>exact⟨_,0,rfl,Red.leaf hs⟩
   |false=>exact⟨Z8,3,rfl,Red.null⟩
theorem G9(n:Nat)(S:BS)(bad:Bool)(i:Nat)(hS:S.length<=100000)(hn:300000<=n)(hi:i<=S.length):∃k j bad',eO n (ah.mk S (i:Int) bad)=some (k,ah.mk S ((j:Nat):Int) bad')/\i<=j/\j<=S.length/\k.length<=S.length:=by
 have hb:=ik S i hi
 unfold eO
 rw[sD n S bad i (by omega) (by omega) hi,Option.bind_some]
 simp only
 generalize hj:i+dh (S.drop i)=j at hb ⊢
 have hij:i<=j:=by omega
 have hfirst:∃k j2 bad2,fF n (bif (hd9 (S.drop j)==34) then true else(hd9 (S.drop j)==39)) (ah.mk S (j:Int) bad)=some (k,ah.mk S ((j2:Nat):Int) bad2)/\j<=j2/\j2<=S.length/\k.length<=S.length:=by
  unfold fF
  by_cases hq:(bif (hd9 (S.drop j)==34) then true else(hd9 (S.drop j)==39))=true
  ·rw[if_pos hq]
   have hjl:j<S.length:=by
    rcases Nat.lt_or_ge j S.length with h1|h1
    ·exact h1
    ·rw[List.drop_eq_nil_of_le h1] at hq;exact absurd hq (by decide)
   have a1:(hd9 (S.drop j)==34)=decide (S[j]=34):=oM (c:=34) hjl
   have a2:(hd9 (S.drop j)==39)=decide (S[j]=39):=oM (c:=39) hjl
   rw[a1,a2] at hq
   have hq:S[j]=34\/S[j]=39:=by
    by_cases h4:S[j]=34
    ·exact .inl h4
    ·rw[decide_eq_false h4] at hq
     exact .inr (of_decide_eq_true hq)
   obtain⟨t,j2,b2,h1,h2,h3,h4⟩:=Bi n S bad j (by omega) (by omega) hjl hq
   rw[h1]
   exact⟨t,j2,b2,rfl,h2,h3,h4⟩
  ·rw[if_neg hq,oV n S bad j (by omega) (by omega) hb,Option.bind_some]
   have hp:=uX (S.drop j)
   rw[List.length_drop] at hp
   have ht:=yI ((S.drop j).take (pl9 (S.drop j))) 32
   rw[List.length_take,List.length_drop] at ht
   obtain⟨r1,_⟩:=Bw n (Lib.trimRightB ((S.drop j).take (pl9 (S.drop j))) 32) (by omega) (by omega)
   simp only
   rw[r1,Option.bind_some]
   split
   ·exact⟨_,_,_,rfl,by omega,by omega,by omega⟩
   ·exact⟨_,_,_,rfl,by omega,by omega,by omega⟩
 obtain⟨k,j2,bad2,h1,h2,h3,h4⟩:=hfirst
 rw[h1,Option.bind_some]
 simp only
 cases bad2 with
 |true=>exact⟨k,j2,true,rfl,by omega,h3,h4⟩
 |false =>
  obtain⟨b,j3,g1,⟨g2,g3⟩,_⟩:=jV n S false j2 58 (by decide) (by omega) (by omega) h3
  rw[if_pos (by rfl),g1,Option.bind_some]
  exact⟨k,j3,_,rfl,by omega,g3,h4⟩
abbrev Rv:=ah->Option (af×Bool×ah)
theorem Gk(R:Rv)(n:Nat)(S:BS)(i0:Nat)(hS:S.length<=100000)(hn:300000<=n)
  (hR:∀i bad,i0<i->i<=S.length->∃v sm j bad',R (ah.mk S ((i:Nat):Int) bad)=some (v,sm,ah.mk S ((j:Nat):Int) bad')/\i<=j/\j<=S.length/\Red S.length v) :
  ∀(k i:Nat)(bad:Bool)(z:Nd)(xs:List Nd),i0<i->i<=S.length->S.length-i<k->xs.length<=i->(∀x∈xs,Red S.length x) ->
   ∃v j bad',dc R n k z (af.mk 2 [] [] xs) (ah.mk S (i:Int) bad)=some (v,ah.mk S ((j:Nat):Int) bad')/\i<=j/\j<=S.length/\Red S.length v
 |0,i,_,_,_,_,_,h,_,_=>by omega
 |k+1,i,bad,z,xs,h0,hi,hk,hx,hr=>by
  obtain⟨v,sm,j,bad',r1,r2,r3,r4⟩:=hR i bad h0 hi
  rw[dc,r1,Option.bind_some]
  simp only
  split
  ·exact⟨_,j,_,rfl,r2,r3,Red.node (by omega) (by simp) (fun k hk=>by cases hk) hr⟩
  ·have hl:(xs++[v]).length=xs.length+1:=by simp
   have hrx:∀x∈xs++[v],Red S.length x:=fun x hx=>by
    rcases List.mem_append.1 hx with hx|hx
    ·exact hr x hx
    ·rw[List.mem_singleton] at hx;subst hx;exact r4
   rw[if_pos (decide_eq_true (by show(xs.length+1)*(72+1)<=140737488355328;omega))]
   obtain⟨b,j2,g1,⟨g2,g3⟩,g4⟩:=jV n S (bif bad' then true else(!sm)) j 44 (by decide) (by omega) (by omega) r3
   rw[g1,Option.bind_some]
   cases b with
   |true =>
    have:=g4 rfl
    obtain⟨w,j3,b3,w1,w2,w3,w4⟩:=Gk R n S i0 hS hn hR k j2 _ z (xs++[v]) (by omega) g3 (by omega) (by omega) hrx
    exact⟨w,j3,b3,by rw[if_pos rfl];exact w1,by omega,w3,w4⟩
   |false =>
    obtain⟨b2,j3,q1,⟨q2,q3⟩,_⟩:=jV n S (bif bad' then true else(!sm)) j2 93 (by decide) (by omega) (by omega) g3
    rw[if_neg Bool.false_ne_true]
    simp only
    rw[q1,Option.bind_some]
    exact⟨_,j3,_,rfl,by omega,q3,Red.node (by omega) (by simp) (fun k hk=>by cases hk) hrx⟩
theorem OY(R:Rv)(n:Nat)(S:BS)(i:Nat)(bad:Bool)(hS:S.length<=100000)(hn:300000<=n)(hi:i<S.length)
  (hR:∀i' bad,i<i'->i'<=S.length->∃v sm j bad',R (ah.mk S ((i':Nat):Int) bad)=some (v,sm,ah.mk S ((j:Nat):Int) bad')/\i'<=j/\j<=S.length/\Red S.length v) :
  ∃v j bad',fJ R n (ah.mk S (i:Int) bad)=some (v,ah.mk S ((j:Nat):Int) bad')/\i<=j/\j<=S.length/\Red S.length v:=by
 suffices hg:∃v j bad',cu R n n (af.mk 0 [] [] []) (ah.mk S (i:Int) bad)=some (v,ah.mk S ((j:Nat):Int) bad')/\i<=j/\j<=S.length/\Red S.length v by
  obtain⟨v,j,b,h1,h2⟩:=hg
  unfold fJ
  rw[h1]
  exact⟨v,j,b,rfl,h2⟩
 have hrec:∀k z i' bad',S.length<k->i<i'->i'<=S.length->∀v,Red S.length v->∃w j bad'',dc R n k z (af.mk 2 [] [] [v]) (ah.mk S ((i':Nat):Int) bad')=some (w,ah.mk S ((j:Nat):Int) bad'')/\i'<=j/\j<=S.length/\Red S.length w:=by
  intro k z i' bad' hk h1 h2 v hv
  refine Gk R n S i hS hn hR k i' bad' z [v] h1 h2 (by omega) (by simp;omega) fun x hx=>?_
  rw[List.mem_singleton] at hx;subst hx;exact hv
 obtain⟨m,hm⟩:∃m,n=m+1:=⟨n-1,by omega⟩
 rw[show cu R n n=cu R n (m+1) by rw[<-hm]]
 rw[cu]
 simp only
 rw[aZ i (by omega)]
 obtain⟨b,j,g1,⟨g2,g3⟩,g4⟩:=jV n S bad (i+1) 93 (by decide) (by omega) (by omega) (by omega)
 rw[g1,Option.bind_some]
 cases b with
 |true=>exact⟨_,j,_,rfl,by omega,g3,Red.node (by simp) (by simp) (fun k hk=>by cases hk) (fun x hx=>by cases hx)⟩
 |false =>
  rw[if_neg Bool.false_ne_true]
  obtain⟨v,sm,j2,bad2,r1,r2,r3,r4⟩:=hR j bad (by omega) g3
  simp only
  rw[r1,Option.bind_some]
  simp only
  split
  ·exact⟨_,j2,_,rfl,by omega,r3,Red.node (by simp) (by simp) (fun k hk=>by cases hk) (fun x hx=>by cases hx)⟩
  ·rw[if_pos (by rfl)]
   obtain⟨b3,j3,q1,⟨q2,q3⟩,q4⟩:=jV n S (bif bad2 then true else(!sm)) j2 44 (by decide) (by omega) (by omega) r3
   rw[q1,Option.bind_some]
   cases b3 with
   |true =>
    obtain⟨w,j4,b4,w1,w2,w3,w4⟩:=hrec m (af.mk 0 [] [] []) j3 (bif bad2 then true else(!sm)) (by omega) (by omega) q3 v r4
    exact⟨w,j4,b4,w1,by omega,w3,w4⟩
   |false =>
    obtain⟨b4,j4,p1,⟨p2,p3⟩,_⟩:=jV n S (bif bad2 then true else(!sm)) j3 93 (by decide) (by omega) (by omega) q3
    rw[if_neg Bool.false_ne_true]
    simp only
    rw[p1,Option.bind_some]
    exact⟨_,j4,_,rfl,by omega,p3,Red.node (by simp) (by simp) (fun k hk=>by cases hk) (fun x hx=>by
     have hx:x∈[v]:=hx
     rw[List.mem_singleton] at hx;subst hx;exact r4)⟩
theorem oW{α:Type}(x y:MK)(v:α):∀l:List (MK×α),aU (dF l x v) y=if x=y then some v else aU l y
 |[]=>by unfold dF aU;simp[aU]
 |p::r=>by
  unfold dF
  by_cases h1:p.1=x
  ·rw[if_pos h1]
   unfold aU
   by_cases h2:x=y
   ·rw[if_pos h2,if_pos h2]
   ·rw[if_neg h2,if_neg h2,if_neg (by rw[h1];exact h2)]
  ·rw[if_neg h1]
   unfold aU
   rw[oW x y v r]
   by_cases h2:p.1=y
   ·rw[if_pos h2,if_pos h2,if_neg (fun e=>h1 (by rw[h2,e]))]
   ·rw[if_neg h2,if_neg h2]
def Onc(b:List (MK×Int)):Prop:=∀x,aU b x=none\/aU b x=some 1
theorem zp{b:List (MK×Int)}{x:MK}(h:Onc b):(aU b x=none->Onc (dF b x (IntKind.wrap .i64 (((aU b x).getD 0)+1)))/\(aU (dF b x (IntKind.wrap .i64 (((aU b x).getD 0)+1))) x).getD 0=1)/\(aU b x≠none->(aU (dF b x (IntKind.wrap .i64 (((aU b x).getD 0)+1))) x).getD 0=2):=by
 have w1:IntKind.wrap .i64 ((0:Int)+1)=1:=by decide
 have w2:IntKind.wrap .i64 ((1:Int)+1)=2:=by decide
 constructor
 ·intro e
  rw[e]
  show Onc (dF b x (IntKind.wrap .i64 ((0:Int)+1)))/\(aU (dF b x (IntKind.wrap .i64 ((0:Int)+1))) x).getD 0=1
  rw[w1]
  refine⟨fun y=>?_,by rw[oW,if_pos rfl];rfl⟩
  rw[oW]
  split
  ·exact .inr rfl
  ·exact h y
 ·intro e
  rcases h x with h1|h1
  ·exact(e h1).elim
  ·rw[h1]
   show(aU (dF b x (IntKind.wrap .i64 ((1:Int)+1))) x).getD 0=2
   rw[w2,oW,if_pos rfl];rfl
theorem Bl(R:Rv)(n:Nat)(S:BS)(i0:Nat)(hS:S.length<=100000)(hn:300000<=n)
  (hR:∀i bad,i0<i->i<=S.length->∃v sm j bad',R (ah.mk S ((i:Nat):Int) bad)=some (v,sm,ah.mk S ((j:Nat):Int) bad')/\i<=j/\j<=S.length/\Red S.length v) :
  ∀(k i:Nat)(bad:Bool)(z:Nd)(b:List (MK×Int))(ks:List BS)(xs:List Nd),i0<i->i<=S.length->S.length-i<k->ks.length<=i->xs.length<=i->(∀k∈ks,k.length<=S.length)->(∀x∈xs,Red S.length x)->Onc b ->
   ∃v j bad',df R n k z (af.mk 3 [] ks xs) b (ah.mk S (i:Int) bad)=some (v,ah.mk S ((j:Nat):Int) bad')/\i<=j/\j<=S.length/\Red S.length v
 |0,i,_,_,_,_,_,_,_,h,_,_,_,_,_=>by omega
 |k+1,i,bad,z,b,ks,xs,h0,hi,hk,hkl,hxl,hkr,hxr,hb=>by
  obtain⟨key,j,bad1,k1,k2,k3,k4⟩:=G9 n S bad i hS hn hi
  rw[df,k1,Option.bind_some]
  simp only[aP]
  obtain⟨o1,o2⟩:=zp (x:=.inl key) hb
  split
  ·exact⟨_,j,_,rfl,k2,k3,Red.node (by omega) (by omega) hkr hxr⟩
  ·rename_i hc
   have hnone:aU b (.inl key)=none:=by
    rcases hb (.inl key) with h1|h1
    ·exact h1
    ·exfalso
     apply hc
     rw[o2 (by rw[h1];simp)]
     cases bad1<;>rfl
   obtain⟨o3,_⟩:=o1 hnone
   obtain⟨v,sm,j2,bad2,r1,r2,r3,r4⟩:=hR j bad1 (by omega) k3
   rw[r1,Option.bind_some]
   simp only
   rw[if_pos (RV (by simp only[List.length_cons,List.length_nil];omega)),if_pos (decide_eq_true (by show(xs.length+1)*(72+1)<=140737488355328;omega))]
   have hl:(xs++[v]).length=xs.length+1:=by simp
   have hl2:(ks++[key]).length=ks.length+1:=by simp
   have hrx:∀x∈xs++[v],Red S.length x:=fun x hx=>by
    rcases List.mem_append.1 hx with hx|hx
    ·exact hxr x hx
    ·rw[List.mem_singleton] at hx;subst hx;exact r4
   have hrk:∀x∈ks++[key],x.length<=S.length:=fun x hx=>by
    rcases List.mem_append.1 hx with hx|hx
    ·exact hkr x hx
    ·rw[List.mem_singleton] at hx;subst hx;exact k4
   split
   ·exact⟨_,j2,_,rfl,by omega,r3,Red.node (by omega) (by omega) hrk hrx⟩
   ·obtain⟨b3,j3,q1,⟨q2,q3⟩,q4⟩:=jV n S bad2 j2 44 (by decide) (by omega) (by omega) r3
    rw[q1,Option.bind_some]
    cases b3 with
    |true =>
     have:=q4 rfl
     obtain⟨w,j4,b4,w1,w2,w3,w4⟩:=Bl R n S i0 hS hn hR k j3 bad2 z _ (ks++[key]) (xs++[v]) (by omega) q3 (by omega) (by omega) (by omega) hrk hrx o3
     exact⟨w,j4,b4,w1,by omega,w3,w4⟩
    |false =>
     obtain⟨b4,j4,p1,⟨p2,p3⟩,_⟩:=jV n S bad2 j3 125 (by decide) (by omega) (by omega) q3
     rw[if_neg Bool.false_ne_true]
     simp only
     rw[p1,Option.bind_some]
     exact⟨_,j4,_,rfl,by omega,p3,Red.node (by omega) (by omega) hrk hrx⟩
theorem Lm(R:Rv)(n:Nat)(S:BS)(i:Nat)(bad:Bool)(hS:S.length<=100000)(hn:300000<=n)(hi:i<S.length)
  (hR:∀i' bad,i<i'->i'<=S.length->∃v sm j bad',R (ah.mk S ((i':Nat):Int) bad)=some (v,sm,ah.mk S ((j:Nat):Int) bad')/\i'<=j/\j<=S.length/\Red S.length v) :
  ∃v j bad',eY R n (ah.mk S (i:Int) bad)=some (v,ah.mk S ((j:Nat):Int) bad')/\i<=j/\j<=S.length/\Red S.length v:=by
 suffices hg:∃v j bad',bQ R n n (af.mk 0 [] [] []) (ah.mk S (i:Int) bad)=some (v,ah.mk S ((j:Nat):Int) bad')/\i<=j/\j<=S.length/\Red S.length v by
  obtain⟨v,j,b,h1,h2⟩:=hg
  unfold eY
  rw[h1]
  exact⟨v,j,b,rfl,h2⟩
 have hone:Onc []:=fun x=>.inl rfl
 obtain⟨m,hm⟩:∃m,n=m+1:=⟨n-1,by omega⟩
 rw[show bQ R n n=bQ R n (m+1) by rw[<-hm]]
 rw[bQ]
 simp only
 rw[aZ i (by omega)]
 obtain⟨b,j,g1,⟨g2,g3⟩,g4⟩:=jV n S bad (i+1) 125 (by decide) (by omega) (by omega) (by omega)
 rw[g1,Option.bind_some]
 cases b with
 |true=>exact⟨_,j,_,rfl,by omega,g3,Red.node (by simp) (by simp) (fun k hk=>by cases hk) (fun x hx=>by cases hx)⟩
 |false =>
  rw[if_neg Bool.false_ne_true]
  obtain⟨key,j1,bad1,k1,k2,k3,k4⟩:=G9 n S bad j hS hn g3
  simp only
  rw[k1,Option.bind_some]
  simp only[aP]
  obtain⟨o1,_⟩:=zp (x:=.inl key) hone
  obtain⟨o3,_⟩:=o1 rfl
  split
  ·exact⟨_,j1,_,rfl,by omega,k3,Red.node (by simp) (by simp) (fun k hk=>by cases hk) (fun x hx=>by cases hx)⟩
  ·obtain⟨v,sm,j2,bad2,r1,r2,r3,r4⟩:=hR j1 bad1 (by omega) k3
   rw[r1,Option.bind_some]
   simp only
   rw[if_pos (by rfl),if_pos (by rfl)]
   have hrx:∀x∈[v],Red S.length x:=fun x hx=>by rw[List.mem_singleton] at hx;subst hx;exact r4
   have hrk:∀x∈[key],x.length<=S.length:=fun x hx=>by rw[List.mem_singleton] at hx;subst hx;exact k4
   split
   ·exact⟨_,j2,_,rfl,by omega,r3,Red.node (by simp) (by simp) hrk hrx⟩
   ·obtain⟨b3,j3,q1,⟨q2,q3⟩,q4⟩:=jV n S bad2 j2 44 (by decide) (by omega) (by omega) r3
    rw[q1,Option.bind_some]
    cases b3 with
    |true =>
     obtain⟨w,j4,b4,w1,w2,w3,w4⟩:=Bl R n S i hS hn hR m j3 bad2 (af.mk 0 [] [] []) _ [key] [v] (by omega) q3 (by omega) (by simp;omega) (by simp;omega) hrk hrx o3
     exact⟨w,j4,b4,w1,by omega,w3,w4⟩
    |false =>
     obtain⟨b4,j4,p1,⟨p2,p3⟩,_⟩:=jV n S bad2 j3 125 (by decide) (by omega) (by omega) q3
     rw[if_neg Bool.false_ne_true]
     simp only
     rw[p1,Option.bind_some]
     exact⟨_,j4,_,rfl,by omega,p3,Red.node (by simp) (by simp) hrk hrx⟩
theorem Dq(S:BS)(hS:S.length<=100000):∀(q n i:Nat)(bad:Bool),i<=S.length->S.length-i<q->300000+q<n ->
  ∃v sm j bad',aT n (ah.mk S (i:Int) bad)=some (v,sm,ah.mk S ((j:Nat):Int) bad')/\i<=j/\j<=S.length/\Red S.length v
 |0,_,_,_,_,h,_=>by omega
 |q+1,0,_,_,_,_,h=>by omega
 |q+1,n+1,i,bad,hi,hq,hn=>by
  show ∃v sm j bad',eu (aT n) n (ah.mk S (i:Int) bad)=some (v,sm,ah.mk S ((j:Nat):Int) bad')/\_
  have hb:=ik S i hi
  have hR:∀i' bad,i<i'->i'<=S.length->∃v sm j bad',aT n (ah.mk S ((i':Nat):Int) bad)=some (v,sm,ah.mk S ((j:Nat):Int) bad')/\i'<=j/\j<=S.length/\Red S.length v :=
   fun i' bad h1 h2=>Dq S hS q n i' bad h2 (by omega) (by omega)
  unfold eu
  rw[sD n S bad i (by omega) (by omega) hi,Option.bind_some]
  simp only
  generalize hj:i+dh (S.drop i)=j at hb ⊢
  have hij:i<=j:=by omega
  unfold gp
  by_cases c1:hd9 (S.drop j)=91
  ·rw[if_pos (by rw[c1];rfl)]
   have hjl:=nz c1 (by decide)
   obtain⟨v,j2,b2,h1,h2,h3,h4⟩:=OY (aT n) n S j bad hS (by omega) hjl (fun i' b g1 g2=>hR i' b (by omega) g2)
   rw[h1]
   exact⟨v,true,j2,b2,rfl,by omega,h3,h4⟩
  rw[if_neg (by simpa using c1)]
  by_cases c2:hd9 (S.drop j)=123
  ·rw[if_pos (by rw[c2];rfl)]
   have hjl:=nz c2 (by decide)
   obtain⟨v,j2,b2,h1,h2,h3,h4⟩:=Lm (aT n) n S j bad hS (by omega) hjl (fun i' b g1 g2=>hR i' b (by omega) g2)
   rw[h1]
   exact⟨v,true,j2,b2,rfl,by omega,h3,h4⟩
  rw[if_neg (by simpa using c2)]
  have hj2:dI (aT n) n (hd9 (S.drop j)) (hd9 (S.drop j)==34) (af.mk 0 [] [] []) (ah.mk S (j:Int) bad)=some (decide (hd9 (S.drop j)=34\/hd9 (S.drop j)=39)):=by
   unfold dI
   by_cases h1:hd9 (S.drop j)=34
   ·rw[if_pos (by rw[h1];rfl),h1];rfl
   ·have:(hd9 (S.drop j)==34)=false:=by simpa using h1
    rw[this,if_neg Bool.false_ne_true]
    congr 1
    rw[Bool.eq_iff_iff,beq_iff_eq,decide_eq_true_eq]
    exact⟨fun h=>.inr h,fun h=>h.resolve_left h1⟩
  rw[hj2,Option.bind_some]
  by_cases c3:hd9 (S.drop j)=34\/hd9 (S.drop j)=39
  ·rw[if_pos (decide_eq_true c3)]
   have hjl:j<S.length:=by
    rcases c3 with h|h
    ·exact nz h (by decide)
    ·exact nz h (by decide)
   have hq:S[j]=34\/S[j]=39:=by
    have a1:(hd9 (S.drop j)==34)=decide (S[j]=34):=oM (c:=34) hjl
    have a2:(hd9 (S.drop j)==39)=decide (S[j]=39):=oM (c:=39) hjl
    rcases c3 with h|h
    ·rw[h] at a1;exact .inl (of_decide_eq_true a1.symm)
    ·rw[h] at a2;exact .inr (of_decide_eq_true a2.symm)
   obtain⟨t,j2,b2,h1,h2,h3,h4⟩:=Bi n S bad j (by omega) (by omega) hjl hq
   rw[h1]
   exact⟨_,true,j2,b2,rfl,by omega,h3,Red.leaf h4⟩
  ·rw[if_neg (by simpa using c3)]
   simp only[Option.bind_some,Sum.elim_inl]
   rw[oV n S bad j (by omega) (by omega) hb,Option.bind_some]
   have hp:=uX (S.drop j)
   rw[List.length_drop] at hp
   have ht:=yI ((S.drop j).take (pl9 (S.drop j))) 32
   rw[List.length_take,List.length_drop] at ht
   obtain⟨x,e,h1,h2⟩:=Jn n (Lib.trimRightB ((S.drop j).take (pl9 (S.drop j))) 32) S.length (by omega) hS (by omega)
   simp only
   rw[h1,Option.bind_some]
   exact⟨x,_,_,_,rfl,by omega,by omega,h2⟩
theorem xO(c:UInt8)(r:BS):dh (c::r)=if c=32 then dh r+1 else 0:=rfl
theorem ry{S:BS}{i:Nat}(_:i<=S.length):dh (S.drop (i+dh (S.drop i)))=0:=by
 have h:∀l:BS,dh (l.drop (dh l))=0:=by
  intro l
  induction l with
  |nil=>rfl
  |cons c r ih =>
   by_cases hc:c=32
   ·rw[xO,if_pos hc,List.drop_succ_cons];exact ih
   ·rw[xO,if_neg hc,List.drop_zero,xO,if_neg hc]
 rw[<-List.drop_drop];exact h _
theorem DW(n:Nat)(S:BS)(hS:S.length<=100000000):∀(k i:Nat),i<=S.length->S.length-i<k->mB n S k (i:Int)=some ((i+dh (S.drop i):Nat):Int)
 |0,i,_,h=>by omega
 |k+1,i,h1,h2=>by
  rw[mB]
  by_cases h:i<S.length
  ·simp only[gy h,bU h,cY h,Bool.or_true,if_true,cond_true,b32]
   rw[drop_at h]
   unfold dh
   by_cases hc:S[i]=32
   ·rw[if_pos (decide_eq_true hc),if_pos hc,aZ i (by omega),DW n S hS k (i+1) (by omega) (by omega)]
    congr 2
    omega
   ·rw[if_neg (by simpa using hc),if_neg hc];rfl
  ·have:i=S.length:=by omega
   subst this
   simp only[nq]
   rw[List.drop_eq_nil_of_le (Nat.le_refl _)]
   rfl
theorem ni(n:Nat)(S:BS)(i:Nat)(hS:S.length<=100000000)(hn:S.length<n)(hi:i<=S.length):gu n S (i:Int)=some ((i+dh (S.drop i):Nat):Int):=by
 unfold gu
 rw[DW n S hS n i hi (by omega)];rfl
theorem ris(n:Nat)(S:BS)(i:Nat)(c:Int)(hc:c≠0):iF n S (i:Int) c=some (decide (hd9 (S.drop i)=c)):=by
 unfold iF
 by_cases h:i<S.length
 ·simp only[gy h,bU h,cY h,Bool.or_true,if_true,cond_true]
  rw[drop_at h]
  congr 1
 ·have hle:S.length<=i:=by omega
  rw[iM hle,List.drop_eq_nil_of_le hle]
  show some false=some (decide ((0:Int)=c))
  rw[decide_eq_false (fun e=>hc e.symm)]
theorem N9:∀c:UInt8,vT (c.toNat:Int)=sp5.contains c:=gx (by decide +kernel)
theorem Ri:∀c:UInt8,sp6.contains c=(decide (c=32)||sp5.contains c):=gx (by decide +kernel)
theorem Fh(n:Nat)(S:BS)(hS:S.length<=100000000):∀(k i:Nat),i<=S.length->S.length-i<k->∃r,kU n S k (i:Int)=some r/\Sum.elim (fun o=>o) (fun o=>o) r=((i+pl9 (S.drop i):Nat):Int)
 |0,i,_,h=>by omega
 |k+1,i,h1,h2=>by
  rw[kU]
  by_cases h:i<S.length
  ·rw[drop_at h]
   unfold pl9
   rw[gy h,bU h,cY h,if_pos rfl,if_pos rfl,N9,aZ i (by omega)]
   by_cases hm:sp5.contains S[i]=true
   ·rw[if_pos hm,hm]
    exact⟨_,rfl,rfl⟩
   ·have hm':sp5.contains S[i]=false:=by simpa using hm
    rw[if_neg hm,if_pos rfl,hm',b58]
    have hnext:∃r,kU n S k ((i+1:Nat):Int)=some r/\Sum.elim (fun o=>o) (fun o=>o) r=((i+(pl9 (S.drop (i+1))+1):Nat):Int):=by
     obtain⟨r,g1,g2⟩:=Fh n S hS k (i+1) (by omega) (by omega)
     refine⟨r,g1,?_⟩
     rw[g2];congr 1;omega
    by_cases hx:i+1<S.length
    ·have e0:(((i+1:Nat):Int)==(S.length:Int))=false:=by rw[oy];exact decide_eq_false (by omega)
     rw[e0,bU hx,cY hx,b32,Bool.or_true,if_pos rfl,Bool.or_true,if_pos rfl,N9,drop_at hx]
     simp only[aP,cond_false]
     have e1:(bif decide (S[i]=58) then bif decide (S[i+1]=32) then true else sp5.contains S[i+1] else false)=(S[i]==58&&sp6.contains S[i+1]):=by
      rw[Ri,gQ]
      cases (S[i]==58)<;>cases decide (S[i+1]=32)<;>rfl
     simp only[e1,Bool.false_or]
     by_cases hc:(S[i]==58&&sp6.contains S[i+1])=true
     ·rw[if_pos hc,if_pos hc];exact⟨_,rfl,rfl⟩
     ·rw[if_neg hc,if_neg hc]
      rw[drop_at hx] at hnext
      exact hnext
    ·have he:i+1=S.length:=by omega
     have e0:(((i+1:Nat):Int)==(S.length:Int))=true:=by rw[oy];exact decide_eq_true he
     have hd:S.drop (i+1)=[]:=List.drop_eq_nil_of_le (by omega)
     rw[e0,hd]
     rw[hd] at hnext
     simp only[aP,cond_true,Bool.false_or,Bool.and_true,gQ]
     rw[if_pos (by rfl),if_pos (by rfl)]
     by_cases hc:(S[i]==58)=true
     ·rw[hc];exact⟨_,rfl,rfl⟩
     ·have hc':(S[i]==58)=false:=by simpa using hc
      rw[hc'];exact hnext
  ·have:i=S.length:=by omega
   subst this
   rw[nq,List.drop_eq_nil_of_le (Nat.le_refl _)]
   exact⟨_,rfl,rfl⟩
theorem LN(n:Nat)(S:BS)(i:Nat)(hS:S.length<=100000000)(hn:S.length<n)(hi:i<=S.length):qG n S (i:Int)=some ((i+pl9 (S.drop i):Nat):Int):=by
 obtain⟨r,h1,h2⟩:=Fh n S hS n i hi (by omega)
 unfold qG
 rw[h1,Option.bind_some,<-h2]
 cases r<;>rfl
theorem vQ(l:BS)(c:UInt8):Lib.trimRightB (l++[c]) 32=if c=32 then Lib.trimRightB l 32 else l++[c]:=by
 unfold Lib.trimRightB
 rw[List.reverse_append]
 show(List.dropWhile _ (c::l.reverse)).reverse=_
 rw[List.dropWhile_cons]
 by_cases h:c=32
 ·subst h;simp
 ·simp[h]
theorem MX{c:UInt8}{l:BS}(hc:c≠32):Lib.trimRightB (c::l) 32≠[]:=by
 suffices h:∀(m:Nat)(l:BS),l.length=m->Lib.trimRightB (c::l) 32≠[] from h _ l rfl
 intro m
 induction m with
 |zero =>
  intro l hl
  rw[List.length_eq_zero_iff.1 hl]
  have:=vQ [] c
  rw[List.nil_append,if_neg hc] at this
  rw[this];simp
 |succ m ih =>
  intro l hl
  rcases List.eq_nil_or_concat l with rfl|⟨l',d,rfl⟩
  ·simp at hl
  ·rw[List.concat_eq_append] at hl ⊢
   rw[<-List.cons_append,vQ]
   by_cases hd:d=32
   ·rw[if_pos hd];exact ih l' (by simpa using hl)
   ·rw[if_neg hd];simp
theorem HY(n:Nat):∀(k:Nat)(s:BS),s.length<k->s.length<=100000->lI n k s=some (Lib.trimRightB s 32)
 |0,s,h,_=>by omega
 |k+1,s,h,hs=>by
  rw[lI]
  rcases List.eq_nil_or_concat s with rfl|⟨l,c,rfl⟩
  ·rfl
  ·rw[List.concat_eq_append] at h hs ⊢
   have hl:(l++[c]).length=l.length+1:=by simp
   have hw:IntKind.wrap .i64 (((l++[c]).length:Int)-1)=(l.length:Int):=by
    rw[hl,sW _ (by omega) (by omega)];rfl
   have hp:decide (((l++[c]).length:Int)>0)=true:=decide_eq_true (by omega)
   have hat:((l++[c])[Int.toNat (l.length:Int)]?.getD 0)=c:=by rw[tn];simp
   rw[hw,hp,hat,b32,if_pos (by rw[bU (by omega:l.length<(l++[c]).length),Bool.or_true]),vQ]
   simp only[aP,cond_true]
   by_cases hc:c=32
   ·rw[if_pos (decide_eq_true hc),if_pos (mD (by omega)),if_pos hc,tn,List.take_left]
    exact HY n k l (by omega) (by omega)
   ·rw[if_neg (by simpa using hc),if_neg hc]
theorem Ox(n:Nat)(s:BS)(hs:s.length<=100000)(hn:s.length<n):oa n s=some (Lib.trimRightB s 32):=by
 unfold oa
 rw[HY n n s hn hs];rfl
theorem G5{s:BS}(h:0<s.length)(hc:s[0]=34\/s[0]=39):dm s=false/\rowB s=false:=by
 have hp:dm s=false:=by
  unfold dm
  rw[dif_pos h]
  have:yg.contains s[0]=true:=by rcases hc with hc|hc<;>rw[hc]<;>rfl
  rw[this]
  simp
 exact⟨hp,by unfold rowB;rw[hp,Bool.and_false]⟩
theorem MS(n:Nat)(s:BS)(hc:∀h:0<s.length,¬(s[0]=34\/s[0]=39)):bp n s 0=some ([],0,2):=by
 unfold bp
 cases s with
 |nil=>rfl
 |cons c t =>
  have hc:=hc (by simp)
  have hc:¬(c=34\/c=39):=hc
  have z1:((c::t)[Int.toNat 0]?.getD 0)=c:=rfl
  have n34:((c.toNat:Int) != 34)=true:=by
   have:((c.toNat:Int)==34)=false:=by rw[b34];exact decide_eq_false fun e=>hc (.inl e)
   show(!((c.toNat:Int)==34))=true
   rw[this];rfl
  have n39:((c.toNat:Int) != 39)=true:=by
   have:((c.toNat:Int)==39)=false:=by rw[b39];exact decide_eq_false fun e=>hc (.inr e)
   show(!((c.toNat:Int)==39))=true
   rw[this];rfl
  have z0:decide (0<=(0:Int)/\(0:Int)<(List.length (c::t):Int))=true:=bU (l:=c::t) (i:=0) (by simp)
  rw[z1,n34,n39,z0,Bool.or_true,if_pos rfl,Bool.or_true,if_pos rfl]
  simp only[aP]
  cases (bif decide ((0:Int)<0) then true else decide ((0:Int)>=(List.length (c::t):Int)))<;>rfl
theorem vN(n:Nat)(s:BS)(row:Bool)(hs:s.length<=10000)(hn:200000<=n):∃x e ok,dK n s row=some (x,e)/\tJ n s row=some ((if ok=true then x else Z8),ok)/\e=(if ok=true then 0 else 3)/\(ok=false->x=Z8)/\Red s.length x:=by
 unfold dK tJ
 by_cases hw:s=[]\/s=[126]\/s=[110,117,108,108]
 ·refine⟨Z8,0,true,?_,?_,rfl,fun h=>(by cases h),Red.null⟩
  ·rcases hw with rfl|rfl|rfl<;>rfl
  ·rcases hw with rfl|rfl|rfl<;>rfl
 ·have hne:s≠[]:=fun e=>hw (.inl e)
  have hlen:0<s.length:=List.length_pos_iff.2 hne
  have e1:(s==[])=false:=by simpa using hne
  have e2:(s==[126])=false:=by simp;exact fun e=>hw (.inr (.inl e))
  have e3:(s==[110,117,108,108])=false:=by simp;exact fun e=>hw (.inr (.inr e))
  have z0:decide (0<=(0:Int)/\(0:Int)<(List.length s:Int))=true:=bU hlen
  have z1:(s[Int.toNat 0]?.getD 0)=s[0]:=cY hlen
  obtain⟨r1,r2⟩:=Bw n s (by omega) hn
  obtain⟨p1,p2⟩:=tG n s (by omega) hn
  obtain⟨r,q1,q2,_⟩:=Cc n s 0 hs (by omega) (by decide)
  rw[e1,e2,e3,z0,z1,b34,b39,q2]
  simp only[Bool.or_true,if_true,cond_false,Bool.false_eq_true,if_false,Option.bind_some]
  have hcond:(if(row==true)=true then qT n s else some false)=some (row&&rowB s):=by
   cases row
   ·rfl
   ·exact r2
  have hcond':(if(row==true)=true then lg n s else some false)=some (row&&rowB s):=by
   cases row
   ·rfl
   ·exact r1
  have hcp:(if(((!row)==true)&&((bif row then(row&&rowB s) else false)==false))=true then nR n s else some false)=some (!row&&dm s):=by
   cases row
   ·exact p2
   ·rfl
  have hcp':(if(((!row)==true)&&((bif row then(row&&rowB s) else false)==false))=true then iz n s else some false)=some (!row&&dm s):=by
   cases row
   ·exact p1
   ·rfl
  have hfin:(bif (bif row then(row&&rowB s) else false) then true else(bif (!row) then(!row&&dm s) else false))=(if row=true then rowB s else dm s):=by
   cases row
   ·show(bif false then true else(bif true then(true&&dm s) else false))=_
    cases dm s<;>rfl
   ·show(bif (true&&rowB s) then true else(bif false then(false&&dm s) else false))=_
    cases rowB s<;>rfl
  rw[hcond,hcond']
  simp only[Option.bind_some]
  rw[hcp,hcp']
  simp only[Option.bind_some]
  rw[hfin]
  by_cases hq:(bif decide (s[0]=34) then true else decide (s[0]=39))=true
  ·have hq':s[0]=34\/s[0]=39:=by
    by_cases h4:s[0]=34
    ·exact .inl h4
    ·rw[decide_eq_false h4] at hq
     exact .inr (of_decide_eq_true hq)
   rw[if_pos hq,q1,Option.bind_some]
   obtain⟨f1,f2⟩:=G5 hlen hq'
   have hz:((if row=true then rowB s else dm s))=false:=by rw[f1,f2,ite_self]
   have hlenr:r.2.2=0->r.1.length<=s.length:=fun h0=>by
    rcases qb n s 0 (by omega) (by omega) hlen hq' with g1|⟨t,j,g1,_,_,g4⟩
    ·have g1:bp n s 0=some ([],0,3):=g1
     rw[q1] at g1;cases g1;simp
    ·have g1:bp n s 0=some (t,(j:Int),0):=g1
     rw[q1] at g1;cases g1;exact g4
   rw[hz,if_neg Bool.false_ne_true]
   obtain⟨rt,rj,re⟩:=r
   simp only at hlenr ⊢
   by_cases h0:re=0
   ·subst h0
    by_cases hj:rj=(s.length:Int)
    ·refine⟨af.mk 1 rt [] [],0,true,?_,?_,rfl,fun h=>(by cases h),Red.leaf (hlenr rfl)⟩
     ·rw[if_neg (by rw[hj];simp)];rfl
     ·rw[if_pos (by rw[hj];simp)];rfl
    ·refine⟨Z8,3,false,?_,?_,rfl,fun _=>rfl,Red.null⟩
     ·rw[if_pos (by simpa using hj)]
     ·rw[if_neg (by simpa using hj)];rfl
   ·have ha:(re != 0)=true:=by simpa using h0
    have hb:(re==0)=false:=by simpa using h0
    refine⟨Z8,3,false,?_,?_,rfl,fun _=>rfl,Red.null⟩
    ·rw[ha];rfl
    ·rw[hb];rfl
  ·have hq':∀h:0<s.length,¬(s[0]=34\/s[0]=39):=fun _ h=>by
    rcases h with h|h<;>rw[h] at hq<;>exact hq rfl
   have hsc:=MS n s hq'
   rw[q1] at hsc
   cases hsc
   have hz2:(bif ((2:Int)==0) then((0:Int)==(List.length s:Int)) else false)=false:=rfl
   simp only
   rw[hz2,if_neg hq,if_neg Bool.false_ne_true]
   cases (if row=true then rowB s else dm s) with
   |true=>exact⟨af.mk 1 s [] [],0,true,rfl,rfl,rfl,fun h=>(by cases h),Red.leaf (Nat.le_refl _)⟩
   |false=>exact⟨Z8,3,false,rfl,rfl,rfl,fun _=>rfl,Red.null⟩
def Agr{α:Type}(S:BS)(i:Nat)(v:α)(j:Nat)(bad:Bool)(w:α)(e:Int):Prop:=(i<=j/\j<=S.length)/\((bad=true/\e=-1)\/(bad=false/\e=(j:Int)/\w=v))
theorem Im:∀l:BS,dh (l.drop (pl9 l))=0
 |[]=>rfl
 |c::r=>by
  unfold pl9
  by_cases h:(sp5.contains c||(c==58&&(match r with|[]=>true|d::_=>sp6.contains d)))=true
  ·rw[if_pos h,List.drop_zero]
   unfold dh
   have:c≠32:=by
    rintro rfl
    revert h
    show ¬(false||(false&&_))=true
    simp
   rw[if_neg this]
  ·rw[if_neg h,List.drop_succ_cons]
   exact Im r
theorem LP{S:BS}{j:Nat}:(bif (hd9 (S.drop j)==34) then true else(hd9 (S.drop j)==39))=true↔∃h:j<S.length,S[j]=34\/S[j]=39:=by
 constructor
 ·intro hq
  have hjl:j<S.length:=by
   rcases Nat.lt_or_ge j S.length with h1|h1
   ·exact h1
   ·rw[List.drop_eq_nil_of_le h1] at hq;exact absurd hq (by decide)
  have a1:(hd9 (S.drop j)==34)=decide (S[j]=34):=oM (c:=34) hjl
  have a2:(hd9 (S.drop j)==39)=decide (S[j]=39):=oM (c:=39) hjl
  rw[a1,a2] at hq
  refine⟨hjl,?_⟩
  by_cases h4:S[j]=34
  ·exact .inl h4
  ·rw[decide_eq_false h4] at hq
   exact .inr (of_decide_eq_true hq)
 ·rintro⟨hjl,h⟩
  have a1:(hd9 (S.drop j)==34)=decide (S[j]=34):=oM (c:=34) hjl
  have a2:(hd9 (S.drop j)==39)=decide (S[j]=39):=oM (c:=39) hjl
  rw[a1,a2]
  rcases h with h|h<;>rw[h]<;>decide
theorem D3(n:Nat)(S:BS)(j:Nat)(hS:S.length<=10000)(hn:20000<=n)(hj:j<S.length)(hq:S[j]=34\/S[j]=39):∃t e,bp n S (j:Int)=some (t,e)/\j6 n S (j:Int)=some (t,e)/\((e.2≠0/\t=[])\/(e.2=0/\t.length<=S.length/\∃m:Nat,e.1=(m:Int)/\j<m/\m<=S.length)):=by
 obtain⟨r,q1,q2,_⟩:=Cc n S (j:Int) hS hn ⟨Int.le_trans (by decide) (Int.natCast_nonneg _),by show(j:Int)<=9223372036854775807;omega⟩
 rcases qb n S j (by omega) (by omega) hj hq with g1|⟨t,m,g1,g2,g3,g4⟩
 ·rw[q1] at g1;cases g1
  exact⟨[],(0,3),q1,q2,.inl ⟨by decide,rfl⟩⟩
 ·rw[q1] at g1;cases g1
  exact⟨t,((m:Int),0),q1,q2,.inr ⟨rfl,g4,m,rfl,g2,g3⟩⟩
theorem PN(n:Nat)(S:BS)(i i':Nat)(hS:S.length<=10000)(hn:300000<=n)(hi:i<=S.length)(hi':i'<=S.length)(hb':i'+dh (S.drop i')=i+dh (S.drop i)) :
  ∃k j bad k' e,eO n (ah.mk S (i:Int) false)=some (k,ah.mk S ((j:Nat):Int) bad)/\xQ n S (i':Int)=some (k',e)/\Agr S i k j bad k' e/\k.length<=S.length/\(bad=false->i<j):=by
 have hb:=ik S i hi
 unfold eO xQ
 rw[sD n S false i (by omega) (by omega) hi,ni n S i' (by omega) (by omega) hi',hb',Option.bind_some,Option.bind_some]
 simp only
 generalize hj:i+dh (S.drop i)=j at hb ⊢
 have hij:i<=j:=by omega
 rw[ris n S j 34 (by decide),Option.bind_some]
 have hor:((if(decide (hd9 (S.drop j)=34)==false)=true then iF n S (j:Int) 39 else some false))=some (!decide (hd9 (S.drop j)=34)&&decide (hd9 (S.drop j)=39)):=by
  rw[ris n S j 39 (by decide)]
  cases decide (hd9 (S.drop j)=34)<;>rfl
 rw[hor,Option.bind_some]
 have hcq:(bif decide (hd9 (S.drop j)=34) then true else(!decide (hd9 (S.drop j)=34)&&decide (hd9 (S.drop j)=39)))=(bif (hd9 (S.drop j)==34) then true else(hd9 (S.drop j)==39)):=by
  have e1:(hd9 (S.drop j)==34)=decide (hd9 (S.drop j)=34):=by rw[Bool.eq_iff_iff,beq_iff_eq,decide_eq_true_eq]
  have e2:(hd9 (S.drop j)==39)=decide (hd9 (S.drop j)=39):=by rw[Bool.eq_iff_iff,beq_iff_eq,decide_eq_true_eq]
  rw[e1,e2]
  cases decide (hd9 (S.drop j)=34)<;>rfl
 rw[hcq]
 unfold fF
 by_cases hq:(bif (hd9 (S.drop j)==34) then true else(hd9 (S.drop j)==39))=true
 ·rw[if_pos hq,if_pos hq]
  obtain⟨hjl,hq⟩:=LP.1 hq
  obtain⟨t,e,s1,s2,s3⟩:=D3 n S j hS (by omega) hjl hq
  unfold dS
  simp only
  rw[s1,s2,Option.bind_some,Option.bind_some]
  obtain⟨e1,e2⟩:=e
  simp only at s3 ⊢
  rcases s3 with⟨h0,rfl⟩|⟨h0,hl,m,rfl,hm1,hm2⟩
  ·have h0:(e2 != 0)=true:=by simpa using h0
   rw[h0,if_pos rfl,if_pos rfl]
   exact⟨[],j,true,[],-1,rfl,rfl,⟨⟨hij,hb⟩,.inl ⟨rfl,rfl⟩⟩,Nat.zero_le _,fun h=>(by cases h)⟩
  ·subst h0
   have h00:((0:Int) != 0)=false:=rfl
   have hmb:=ik S m hm2
   rw[h00,if_neg Bool.false_ne_true,if_neg Bool.false_ne_true]
   simp only[Option.bind_some]
   rw[if_pos (by rfl),vl n S false m 58 (by omega) (by omega) hm2,ni n S m (by omega) (by omega) hm2]
   simp only[Option.bind_some]
   rw[ris n S _ 58 (by decide)]
   simp only[Option.bind_some]
   by_cases c:hd9 (S.drop (m+dh (S.drop m)))=58
   ·have hlt:=nz c (by decide)
    rw[if_pos c,if_neg (by rw[decide_eq_true c];decide),aZ _ (by omega)]
    exact⟨t,m+dh (S.drop m)+1,false,t,_,rfl,rfl,⟨⟨by omega,by omega⟩,.inr ⟨rfl,rfl,rfl⟩⟩,hl,fun _=>(by omega)⟩
   ·rw[if_neg c,if_pos (by rw[decide_eq_false c];rfl)]
    exact⟨t,m+dh (S.drop m),true,[],-1,rfl,rfl,⟨⟨by omega,by omega⟩,.inl ⟨rfl,rfl⟩⟩,hl,fun h=>(by cases h)⟩
 ·rw[if_neg hq,if_neg hq,oV n S false j (by omega) (by omega) hb,LN n S j (by omega) (by omega) hb]
  have hp:=uX (S.drop j)
  rw[List.length_drop] at hp
  have ht:=yI ((S.drop j).take (pl9 (S.drop j))) 32
  rw[List.length_take,List.length_drop] at ht
  simp only[Option.bind_some]
  rw[if_pos (mD (by omega)),if_pos (Jg (by omega)),tn,tn,show j+pl9 (S.drop j)-j=pl9 (S.drop j) by omega,Ox n _ (by rw[List.length_take,List.length_drop];omega) (by rw[List.length_take,List.length_drop];omega)]
  obtain⟨r1,r2⟩:=Bw n (Lib.trimRightB ((S.drop j).take (pl9 (S.drop j))) 32) (by omega) (by omega)
  simp only[Option.bind_some]
  rw[r1,r2]
  simp only[Option.bind_some]
  have hpe:j+pl9 (S.drop j)+dh (S.drop (j+pl9 (S.drop j)))=j+pl9 (S.drop j):=by
   rw[<-List.drop_drop,Im];rfl
  cases hr:rowB (Lib.trimRightB ((S.drop j).take (pl9 (S.drop j))) 32) with
  |false =>
   exact⟨_,_,true,[],-1,rfl,rfl,⟨⟨by omega,by omega⟩,.inl ⟨rfl,rfl⟩⟩,(by simp only;omega),fun h=>(by cases h)⟩
  |true =>
   rw[if_neg (by decide),ris n S _ 58 (by decide),if_pos (by rfl)]
   simp only[Option.bind_some]
   rw[if_pos (by rfl),vl n S false _ 58 (by omega) (by omega) (by omega),hpe]
   simp only[Option.bind_some]
   by_cases c:hd9 (S.drop (j+pl9 (S.drop j)))=58
   ·have hlt:=nz c (by decide)
    rw[if_pos c,if_neg (by rw[decide_eq_true c];decide),aZ _ (by omega)]
    exact⟨_,_,false,_,_,rfl,rfl,⟨⟨by omega,by omega⟩,.inr ⟨rfl,rfl,rfl⟩⟩,by omega,fun _=>(by omega)⟩
   ·rw[if_neg c,if_pos (by rw[decide_eq_false c];rfl)]
    exact⟨_,_,true,[],-1,rfl,rfl,⟨⟨by omega,by omega⟩,.inl ⟨rfl,rfl⟩⟩,by omega,fun h=>(by cases h)⟩
def CG(S:BS)(R:Rv)(Q:BS->Int->Option (Nd×Int))(i i':Nat):Prop :=
 ∃v sm j bad w e,R (ah.mk S (i:Int) false)=some (v,sm,ah.mk S ((j:Nat):Int) bad)/\Q S (i':Int)=some (w,e)/\Agr S i v j bad w e/\(bad=false->i+dh (S.drop i)<=j/\sm=decide (i+dh (S.drop i)<j))
theorem vw(n:Nat)(S:BS)(i p:Nat)(c:Int)(hS:S.length<=100000000)(hn:S.length<n)(hi:i<=S.length)(hp:i+dh (S.drop i)=p)(h:hd9 (S.drop p)=c):bn n c (ah.mk S (i:Int) false)=some (true,ah.mk S ((p+1:Nat):Int) false):=by
 rw[vl n S false i c hS hn hi,hp,if_pos h]
theorem uY(n:Nat)(S:BS)(i p:Nat)(c:Int)(hS:S.length<=100000000)(hn:S.length<n)(hi:i<=S.length)(hp:i+dh (S.drop i)=p)(h:¬hd9 (S.drop p)=c):bn n c (ah.mk S (i:Int) false)=some (false,ah.mk S (p:Int) false):=by
 rw[vl n S false i c hS hn hi,hp,if_neg h]
theorem yM(n:Nat)(S:BS)(i:Nat)(c:Int)(hc:c≠0)(h:hd9 (S.drop i)=c):iF n S (i:Int) c=some true:=by rw[ris n S i c hc,decide_eq_true h]
theorem uB(n:Nat)(S:BS)(i:Nat)(c:Int)(hc:c≠0)(h:¬hd9 (S.drop i)=c):iF n S (i:Int) c=some false:=by rw[ris n S i c hc,decide_eq_false h]
theorem QV{S:BS}{p:Nat}{a b:Int}(h:hd9 (S.drop p)=a)(hab:a≠b):¬hd9 (S.drop p)=b:=fun h'=>hab (h▸h')
theorem C7(R:Rv)(Q:BS->Int->Option (Nd×Int))(n:Nat)(S:BS)(i0:Nat)(hS:S.length<=10000)(hn:300000<=n)
  (hR:∀i i',i0<i->i<=S.length->i'<=S.length->i'+dh (S.drop i')=i+dh (S.drop i)->CG S R Q i i') :
  ∀(k k' i i':Nat)(z z':Nd)(xs:List Nd),i0<i->i<=S.length->i'<=S.length->i'+dh (S.drop i')=i+dh (S.drop i)->S.length-i<k->S.length-i<k'->xs.length<=i ->
   ∃v j bad w e,dc R n k z (af.mk 2 [] [] xs) (ah.mk S (i:Int) false)=some (v,ah.mk S ((j:Nat):Int) bad)/\pw Q n S k' (i':Int) z' (af.mk 2 [] [] xs)=some (e,w)/\Agr S i v j bad w e
 |0,_,i,_,_,_,_,_,_,_,_,h,_,_=>by omega
 |_,0,i,_,_,_,_,_,_,_,_,_,h,_=>by omega
 |k+1,k'+1,i,i',z,z',xs,h0,hi,hi',hbb,hk,hk',hx=>by
  have hb:=ik S i hi
  have hbn:=ry hi
  generalize hm:i+dh (S.drop i)=m at hb hbn hbb
  obtain⟨v,sm,j,bad,w,e,r1,r2,⟨⟨r3,r4⟩,r5⟩,r6⟩:=hR i m h0 hi hb (by rw[hbn,hm];rfl)
  rw[dc,pw,r1,ni n S i' (by omega) (by omega) hi',hbb]
  simp only[Option.bind_some]
  rw[r2]
  simp only[Option.bind_some]
  rcases r5 with⟨rfl,rfl⟩|⟨rfl,rfl,rfl⟩
  ·have d1:decide ((-1:Int)<=(m:Int))=true:=decide_eq_true (by omega)
   rw[d1]
   simp only[cond_true,if_true]
   exact⟨_,j,true,_,-1,rfl,rfl,⟨r3,r4⟩,.inl ⟨rfl,rfl⟩⟩
  obtain⟨r6,r7⟩:=r6 rfl
  rw[hm] at r6 r7
  have c2:decide ((List.length xs+List.length [w])*(72+1)<=limit)=true:=decide_eq_true (by show(xs.length+1)*(72+1)<=140737488355328;omega)
  by_cases hlt:m<j
  ·have d1:decide ((j:Int)<=(m:Int))=false:=decide_eq_false (by omega)
   have d2:decide (m<j)=true:=decide_eq_true hlt
   rw[r7,d1,d2,c2]
   have hjb:=ik S j r4
   have hjn:=ry r4
   have hjr:=ni n S j (by omega) (by omega) r4
   generalize hp:j+dh (S.drop j)=p at hjb hjn hjr
   rw[hjr]
   simp only[cond_false,Bool.not_true,Bool.false_eq_true,if_false,if_true,Option.bind_some]
   by_cases c44:hd9 (S.drop p)=44
   ·have hpl:=nz c44 (by decide)
    rw[vw n S j p 44 (by omega) (by omega) r4 hp c44,uB n S p 93 (by decide) (QV c44 (by decide)),yM n S p 44 (by decide) c44]
    simp only[Bool.not_true,Bool.false_eq_true,if_false,if_true,Option.bind_some]
    rw[aZ p (by omega)]
    obtain⟨v2,j2,b2,w2,e2,g1,g2,⟨g3,g4⟩,g5⟩:=C7 R Q n S i0 hS hn hR k k' (p+1) (p+1) z z' (xs++[w]) (by omega) (by omega) (by omega) rfl (by omega) (by omega) (by simp;omega)
    exact⟨v2,j2,b2,w2,e2,g1,g2,⟨by omega,g4⟩,g5⟩
   ·rw[uY n S j p 44 (by omega) (by omega) r4 hp c44]
    simp only[Bool.false_eq_true,if_false,Option.bind_some]
    by_cases c93:hd9 (S.drop p)=93
    ·have hpl:=nz c93 (by decide)
     rw[vw n S p p 93 (by omega) (by omega) hjb (by rw[hjn];rfl) c93,yM n S p 93 (by decide) c93]
     simp only[Bool.not_true,if_true,Option.bind_some]
     rw[aZ p (by omega)]
     exact⟨_,p+1,false,_,_,rfl,rfl,⟨by omega,by omega⟩,.inr ⟨rfl,rfl,rfl⟩⟩
    ·rw[uY n S p p 93 (by omega) (by omega) hjb (by rw[hjn];rfl) c93,uB n S p 93 (by decide) c93,uB n S p 44 (by decide) c44]
     simp only[Bool.not_false,Bool.false_eq_true,if_false,if_true,Option.bind_some]
     exact⟨_,p,true,_,_,rfl,rfl,⟨by omega,by omega⟩,.inl ⟨rfl,rfl⟩⟩
  ·have d1:decide ((j:Int)<=(m:Int))=true:=decide_eq_true (by omega)
   have d2:decide (m<j)=false:=decide_eq_false hlt
   rw[r7,d1,d2]
   simp only[cond_false,Bool.not_false,if_true]
   exact⟨_,j,true,_,-1,rfl,rfl,⟨r3,r4⟩,.inl ⟨rfl,rfl⟩⟩
theorem PS(R:Rv)(Q:BS->Int->Option (Nd×Int))(n:Nat)(S:BS)(i:Nat)(hS:S.length<=10000)(hn:300000<=n)(hi:i<S.length)
  (hR:∀i1 i',i<i1->i1<=S.length->i'<=S.length->i'+dh (S.drop i')=i1+dh (S.drop i1)->CG S R Q i1 i') :
  ∃v j bad w e,fJ R n (ah.mk S (i:Int) false)=some (v,ah.mk S ((j:Nat):Int) bad)/\ux Q n S ((i+1:Nat):Int)=some (w,e)/\Agr S (i+1) v j bad w e:=by
 suffices hg:∃v j bad w e,cu R n n (af.mk 0 [] [] []) (ah.mk S (i:Int) false)=some (v,ah.mk S ((j:Nat):Int) bad)/\ux Q n S ((i+1:Nat):Int)=some (w,e)/\Agr S (i+1) v j bad w e by
  obtain⟨v,j,b,w,e,h1,h2⟩:=hg
  unfold fJ
  rw[h1]
  exact⟨v,j,b,w,e,rfl,h2⟩
 obtain⟨m,hm⟩:∃m,n=m+1:=⟨n-1,by omega⟩
 rw[show cu R n n=cu R n (m+1) by rw[<-hm]]
 unfold ux
 rw[cu]
 simp only
 have hi1:i+1<=S.length:=by omega
 have hb:=ik S (i+1) hi1
 have hbn:=ry hi1
 have hbr:=ni n S (i+1) (by omega) (by omega) hi1
 generalize hp:i+1+dh (S.drop (i+1))=p at hb hbn hbr
 rw[aZ i (by omega),hbr]
 simp only[Option.bind_some]
 by_cases c93:hd9 (S.drop p)=93
 ·have hpl:=nz c93 (by decide)
  rw[vw n S (i+1) p 93 (by omega) (by omega) hi1 hp c93,yM n S p 93 (by decide) c93]
  simp only[Option.bind_some,if_true]
  rw[aZ p (by omega)]
  exact⟨_,p+1,false,_,_,rfl,rfl,⟨by omega,by omega⟩,.inr ⟨rfl,rfl,rfl⟩⟩
 ·rw[uY n S (i+1) p 93 (by omega) (by omega) hi1 hp c93,uB n S p 93 (by decide) c93]
  simp only[Option.bind_some,Bool.false_eq_true,if_false]
  obtain⟨v,j,bad,w,e,g1,g2,⟨g3,g4⟩,g5⟩:=C7 R Q n S i hS hn hR (m+1) n p p (af.mk 0 [] [] []) (af.mk 0 [] [] []) [] (by omega) hb hb rfl (by omega) (by omega) (Nat.zero_le _)
  rw[dc] at g1
  refine⟨v,j,bad,w,e,g1,?_,⟨by omega,g4⟩,g5⟩
  rw[g2];rfl
theorem Ib(x:BS):∀l:List BS,l.findSome? (fun y=>if y=x then some true else none)=if x∈l then some true else none
 |[]=>by simp
 |y::l=>by
  rw[List.findSome?_cons]
  by_cases e:y=x
  ·rw[if_pos e,if_pos (by rw[e];exact List.mem_cons_self)]
  ·rw[if_neg e]
   simp only
   rw[Ib x l]
   have:(x∈y::l)↔x∈l:=by rw[List.mem_cons];exact⟨fun h=>h.resolve_left fun e'=>e e'.symm,.inr⟩
   by_cases c:x∈l
   ·rw[if_pos c,if_pos (this.2 c)]
   ·rw[if_neg c,if_neg (fun h=>c (this.1 h))]
theorem rIn(n:Nat)(l:List BS)(x:BS)(hl:l.length<=100000)(hn:200000<=n):zL n l x=some (decide (x∈l)):=by
 have h:=Oe (L:=fun k i=>lW n l x k i) l (fun y=>if y=x then some true else none) 0 (by omega) (fun k i h _=>by
  rw[lW,gy h,if_pos rfl,bU h,if_pos rfl,cY h]
  by_cases c:l[i]=x
  ·rw[if_pos (by simpa using c),if_pos c]
  ·rw[if_neg (by simpa using c),if_neg c]) (fun k=>by rw[lW,nq];rfl) n 0 (Nat.le_refl _) (Nat.zero_le _) (by omega)
 have h:lW n l x n 0=some (II ((l.drop 0).findSome? (fun y=>if y=x then some true else none))):=h
 unfold zL
 rw[h,List.drop_zero,Ib]
 by_cases c:x∈l
 ·rw[if_pos c,decide_eq_true c];rfl
 ·rw[if_neg c,decide_eq_false c];rfl
def Had(b:List (MK×Int))(ks:List BS):Prop:=Onc b/\∀k:BS,aU b (.inl k)=none↔k∉ks
theorem Nr{b:List (MK×Int)}{ks:List BS}{k:BS}(h:Had b ks):(k∉ks->Had (dF b (.inl k) (IntKind.wrap .i64 (((aU b (.inl k)).getD 0)+1))) (ks++[k])/\decide (((aU (dF b (.inl k) (IntKind.wrap .i64 (((aU b (.inl k)).getD 0)+1))) (.inl k)).getD 0)>1)=false)/\(k∈ks->decide (((aU (dF b (.inl k) (IntKind.wrap .i64 (((aU b (.inl k)).getD 0)+1))) (.inl k)).getD 0)>1)=true):=by
 obtain⟨h1,h2⟩:=h
 obtain⟨o1,o2⟩:=zp (x:=.inl k) h1
 constructor
 ·intro hk
  obtain⟨o3,o4⟩:=o1 ((h2 k).2 hk)
  refine⟨⟨o3,fun y=>?_⟩,by rw[o4];decide⟩
  rw[oW,List.mem_append,List.mem_singleton]
  by_cases e:k=y
  ·subst e
   rw[if_pos rfl]
   exact⟨fun h=>(by cases h),fun h=>(h (.inr rfl)).elim⟩
  ·rw[if_neg (fun e'=>e (Sum.inl.inj e')),h2 y]
   exact⟨fun h h'=>h' |>.elim h fun e'=>e e'.symm,fun h h'=>h (.inl h')⟩
 ·intro hk
  rw[o2 fun e=>(h2 k).1 e hk];decide
theorem Ru{a:Nat}(h:a<=1000000):decide ((a+1)*(16+1)<=limit)=true:=decide_eq_true (by show(a+1)*(16+1)<=140737488355328;omega)
theorem RB{a:Nat}(h:a<=1000000):decide ((a+1)*(72+1)<=limit)=true:=decide_eq_true (by show(a+1)*(72+1)<=140737488355328;omega)
theorem zh(R:Rv)(Q:BS->Int->Option (Nd×Int))(n:Nat)(S:BS)(i0:Nat)(hS:S.length<=10000)(hn:300000<=n)
  (hR:∀i i',i0<i->i<=S.length->i'<=S.length->i'+dh (S.drop i')=i+dh (S.drop i)->CG S R Q i i') :
  ∀(k k' i i':Nat)(z z':Nd)(b:List (MK×Int))(ks:List BS)(xs:List Nd),i0<i->i<=S.length->i'<=S.length->i'+dh (S.drop i')=i+dh (S.drop i)->S.length-i<k->S.length-i<k'->ks.length<=i->xs.length<=i->Had b ks ->
   ∃v j bad w e,df R n k z (af.mk 3 [] ks xs) b (ah.mk S (i:Int) false)=some (v,ah.mk S ((j:Nat):Int) bad)/\ng Q n S k' (i':Int) z' (af.mk 3 [] ks xs)=some (e,w)/\Agr S i v j bad w e
 |0,_,i,_,_,_,_,_,_,_,_,_,_,h,_,_,_,_=>by omega
 |_,0,i,_,_,_,_,_,_,_,_,_,_,_,h,_,_,_=>by omega
 |k+1,k'+1,i,i',z,z',b,ks,xs,h0,hi,hi',hbb,hk,hk',hkl,hxl,hhad=>by
  obtain⟨key,j,bad,key',e,k1,k2,⟨⟨k3,k4⟩,k5⟩,k6,k7⟩:=PN n S i i' hS hn hi hi' hbb
  rw[df,ng,k1,k2]
  simp only[Option.bind_some,aP]
  obtain⟨o1,o2⟩:=Nr (k:=key) hhad
  rcases k5 with⟨rfl,rfl⟩|⟨rfl,rfl,rfl⟩
  ·have d1:decide ((-1:Int)<0)=true:=rfl
   rw[d1,if_pos (by rfl),if_neg (by decide)]
   simp only[Option.bind_some]
   rw[if_pos (by rfl)]
   exact⟨_,j,true,_,-1,rfl,rfl,⟨k3,k4⟩,.inl ⟨rfl,rfl⟩⟩
  have hlt:=k7 rfl
  have hneg:decide ((j:Int)<0)=false:=decide_eq_false (by omega)
  rw[hneg,if_pos (by rfl:((false:Bool)==false)=true),rIn n ks key' (by omega) (by omega)]
  simp only[Option.bind_some,cond_false]
  by_cases hm:key'∈ks
  ·rw[o2 hm,decide_eq_true hm,if_pos rfl,if_pos rfl]
   exact⟨_,j,true,_,-1,rfl,rfl,⟨k3,k4⟩,.inl ⟨rfl,rfl⟩⟩
  obtain⟨o3,o4⟩:=o1 hm
  rw[o4,decide_eq_false hm,if_neg Bool.false_ne_true,if_neg Bool.false_ne_true]
  obtain⟨v,sm,j2,bad2,w,e2,r1,r2,⟨⟨r3,r4⟩,r5⟩,_⟩:=hR j j (by omega) k4 k4 rfl
  rw[r1,r2]
  simp only[Option.bind_some]
  have c1:decide ((List.length ks+List.length [key'])*(16+1)<=limit)=true:=Ru (by omega)
  have c2:∀u:Nd,decide ((List.length xs+List.length [u])*(72+1)<=limit)=true:=fun u=>RB (by omega)
  rw[if_pos c1,if_pos (c2 v)]
  rcases r5 with⟨rfl,rfl⟩|⟨rfl,rfl,rfl⟩
  ·have d1:decide ((-1:Int)<0)=true:=rfl
   rw[d1]
   simp only[if_true]
   exact⟨_,j2,true,_,-1,rfl,rfl,⟨by omega,r4⟩,.inl ⟨rfl,rfl⟩⟩
  have hneg2:decide ((j2:Int)<0)=false:=decide_eq_false (by omega)
  have hjb:=ik S j2 r4
  have hjn:=ry r4
  have hjr:=ni n S j2 (by omega) (by omega) r4
  generalize hp:j2+dh (S.drop j2)=p at hjb hjn hjr
  rw[hneg2,c1,c2 w,hjr]
  simp only[Bool.false_eq_true,if_false,if_true,Option.bind_some]
  by_cases c44:hd9 (S.drop p)=44
  ·have hpl:=nz c44 (by decide)
   rw[vw n S j2 p 44 (by omega) (by omega) r4 hp c44,uB n S p 125 (by decide) (QV c44 (by decide)),yM n S p 44 (by decide) c44]
   simp only[Bool.not_true,Bool.false_eq_true,if_false,if_true,Option.bind_some]
   rw[aZ p (by omega)]
   obtain⟨v2,j3,b2,w2,e3,g1,g2,⟨g3,g4⟩,g5⟩:=zh R Q n S i0 hS hn hR k k' (p+1) (p+1) z z' _ (ks++[key']) (xs++[w]) (by omega) (by omega) (by omega) rfl (by omega) (by omega) (by simp;omega) (by simp;omega) o3
   exact⟨v2,j3,b2,w2,e3,g1,g2,⟨by omega,g4⟩,g5⟩
  ·rw[uY n S j2 p 44 (by omega) (by omega) r4 hp c44]
   simp only[Bool.false_eq_true,if_false,Option.bind_some]
   by_cases c125:hd9 (S.drop p)=125
   ·have hpl:=nz c125 (by decide)
    rw[vw n S p p 125 (by omega) (by omega) hjb (by rw[hjn];rfl) c125,yM n S p 125 (by decide) c125]
    simp only[Bool.not_true,if_true,Option.bind_some]
    rw[aZ p (by omega)]
    exact⟨_,p+1,false,_,_,rfl,rfl,⟨by omega,by omega⟩,.inr ⟨rfl,rfl,rfl⟩⟩
   ·rw[uY n S p p 125 (by omega) (by omega) hjb (by rw[hjn];rfl) c125,uB n S p 125 (by decide) c125,uB n S p 44 (by decide) c44]
    simp only[Bool.not_false,Bool.false_eq_true,if_false,if_true,Option.bind_some]
    exact⟨_,p,true,_,_,rfl,rfl,⟨by omega,by omega⟩,.inl ⟨rfl,rfl⟩⟩
theorem LH(R:Rv)(Q:BS->Int->Option (Nd×Int))(n:Nat)(S:BS)(i:Nat)(hS:S.length<=10000)(hn:300000<=n)(hi:i<S.length)
  (hR:∀i1 i',i<i1->i1<=S.length->i'<=S.length->i'+dh (S.drop i')=i1+dh (S.drop i1)->CG S R Q i1 i') :
  ∃v j bad w e,eY R n (ah.mk S (i:Int) false)=some (v,ah.mk S ((j:Nat):Int) bad)/\qw Q n S ((i+1:Nat):Int)=some (w,e)/\Agr S (i+1) v j bad w e:=by
 suffices hg:∃v j bad w e,bQ R n n (af.mk 0 [] [] []) (ah.mk S (i:Int) false)=some (v,ah.mk S ((j:Nat):Int) bad)/\qw Q n S ((i+1:Nat):Int)=some (w,e)/\Agr S (i+1) v j bad w e by
  obtain⟨v,j,b,w,e,h1,h2⟩:=hg
  unfold eY
  rw[h1]
  exact⟨v,j,b,w,e,rfl,h2⟩
 obtain⟨m,hm⟩:∃m,n=m+1:=⟨n-1,by omega⟩
 rw[show bQ R n n=bQ R n (m+1) by rw[<-hm]]
 unfold qw
 rw[bQ]
 simp only
 have hi1:i+1<=S.length:=by omega
 have hb:=ik S (i+1) hi1
 have hbr:=ni n S (i+1) (by omega) (by omega) hi1
 generalize hp:i+1+dh (S.drop (i+1))=p at hb hbr
 rw[aZ i (by omega),hbr]
 simp only[Option.bind_some]
 by_cases c125:hd9 (S.drop p)=125
 ·have hpl:=nz c125 (by decide)
  rw[vw n S (i+1) p 125 (by omega) (by omega) hi1 hp c125,yM n S p 125 (by decide) c125]
  simp only[Option.bind_some,if_true]
  rw[aZ p (by omega)]
  exact⟨_,p+1,false,_,_,rfl,rfl,⟨by omega,by omega⟩,.inr ⟨rfl,rfl,rfl⟩⟩
 ·rw[uY n S (i+1) p 125 (by omega) (by omega) hi1 hp c125,uB n S p 125 (by decide) c125]
  simp only[Option.bind_some,Bool.false_eq_true,if_false]
  obtain⟨v,j,bad,w,e,g1,g2,⟨g3,g4⟩,g5⟩:=zh R Q n S i hS hn hR (m+1) n p p (af.mk 0 [] [] []) (af.mk 0 [] [] []) [] [] [] (by omega) hb hb rfl (by omega) (by omega) (Nat.zero_le _) (Nat.zero_le _) ⟨fun x=>.inl rfl,fun k=>⟨fun _ h=>(by cases h),fun _=>rfl⟩⟩
  rw[df] at g1
  refine⟨v,j,bad,w,e,g1,?_,⟨by omega,g4⟩,g5⟩
  rw[g2];rfl
theorem Da(S:BS)(hS:S.length<=10000):∀(q n i i':Nat),i<=S.length->i'<=S.length->i'+dh (S.drop i')=i+dh (S.drop i)->S.length-i<q->300000+q<n->CG S (aT n) (jO n) i i'
 |0,_,_,_,_,_,_,h,_=>by omega
 |q+1,0,_,_,_,_,_,_,h=>by omega
 |q+1,n+1,i,i',hi,hi',hbb,hq,hn=>by
  show ∃v sm j bad w e,eu (aT n) n (ah.mk S (i:Int) false)=some (v,sm,ah.mk S ((j:Nat):Int) bad)/\rM (jO n) n S (i':Int)=some (w,e)/\_
  have hb:=ik S i hi
  have hR:∀i1 i2,i<i1->i1<=S.length->i2<=S.length->i2+dh (S.drop i2)=i1+dh (S.drop i1)->CG S (aT n) (jO n) i1 i2 :=
   fun i1 i2 h1 h2 h3 h4=>Da S hS q n i1 i2 h2 h3 h4 (by omega) (by omega)
  unfold eu rM
  rw[sD n S false i (by omega) (by omega) hi,ni n S i' (by omega) (by omega) hi',hbb]
  simp only[Option.bind_some]
  generalize hj:i+dh (S.drop i)=j at hb ⊢
  have hij:i<=j:=by omega
  unfold gp
  by_cases hend:j=S.length
  ·have hd:S.drop j=[]:=List.drop_eq_nil_of_le (by omega)
   rw[hd]
   have hj2:dI (aT n) n (hd9 []) (hd9 []==34) (af.mk 0 [] [] []) (ah.mk S (j:Int) false)=some false:=rfl
   rw[if_neg (by decide),if_neg (by decide),hj2]
   simp only[Option.bind_some]
   rw[if_neg Bool.false_ne_true]
   simp only[Option.bind_some,Sum.elim_inl]
   rw[oV n S false j (by omega) (by omega) hb,hd,if_pos (by rw[hend];simp)]
   exact⟨Z8,false,j,false,Z8,_,rfl,rfl,⟨⟨hij,hb⟩,.inr ⟨rfl,rfl,rfl⟩⟩,fun _=>⟨Nat.le_refl _,by rw[decide_eq_false (Nat.lt_irrefl _)]⟩⟩
  have hjl:j<S.length:=by omega
  have hne:((j:Int)==(S.length:Int))=false:=by rw[oy];exact decide_eq_false hend
  have hhd:hd9 (S.drop j)=(S[j].toNat:Int):=by rw[drop_at hjl];rfl
  have h32:S[j]≠32:=by
   have:=ry hi
   rw[hj,drop_at hjl] at this
   unfold dh at this
   intro e
   rw[if_pos e] at this;omega
  rw[hhd,hne,if_neg Bool.false_ne_true,if_pos (bU hjl),cY hjl]
  by_cases c1:((S[j].toNat:Int)==91)=true
  ·rw[if_pos c1,if_pos c1,aZ j (by omega)]
   obtain⟨v,j2,b2,w,e,h1,h2,⟨h3,h4⟩,h5⟩:=PS (aT n) (jO n) n S j hS (by omega) hjl (fun i1 i2 g1 g2 g3 g4=>hR i1 i2 (by omega) g2 g3 g4)
   rw[h1,h2]
   exact⟨v,true,j2,b2,w,e,rfl,rfl,⟨⟨by omega,h4⟩,h5⟩,fun _=>⟨by omega,by rw[decide_eq_true (by omega:j<j2)]⟩⟩
  rw[if_neg c1,if_neg c1,if_pos (bU hjl)]
  by_cases c2:((S[j].toNat:Int)==123)=true
  ·rw[if_pos c2,if_pos c2,aZ j (by omega)]
   obtain⟨v,j2,b2,w,e,h1,h2,⟨h3,h4⟩,h5⟩:=LH (aT n) (jO n) n S j hS (by omega) hjl (fun i1 i2 g1 g2 g3 g4=>hR i1 i2 (by omega) g2 g3 g4)
   rw[h1,h2]
   exact⟨v,true,j2,b2,w,e,rfl,rfl,⟨⟨by omega,h4⟩,h5⟩,fun _=>⟨by omega,by rw[decide_eq_true (by omega:j<j2)]⟩⟩
  rw[if_neg c2,if_neg c2,if_pos (bU hjl)]
  have hj2:dI (aT n) n (S[j].toNat:Int) ((S[j].toNat:Int)==34) (af.mk 0 [] [] []) (ah.mk S (j:Int) false)=some (bif ((S[j].toNat:Int)==34) then true else((S[j].toNat:Int)==39)):=by
   unfold dI
   cases ((S[j].toNat:Int)==34)<;>rfl
  rw[hj2,if_pos (by rw[bU hjl,Bool.or_true])]
  simp only[Option.bind_some,aP]
  by_cases c3:(bif ((S[j].toNat:Int)==34) then true else((S[j].toNat:Int)==39))=true
  ·rw[if_pos c3,if_pos c3]
   rw[b34,b39] at c3
   have hq:S[j]=34\/S[j]=39:=by
    by_cases h4:S[j]=34
    ·exact .inl h4
    ·rw[decide_eq_false h4] at c3
     exact .inr (of_decide_eq_true c3)
   obtain⟨t,e,s1,s2,s3⟩:=D3 n S j hS (by omega) hjl hq
   unfold dS
   simp only
   rw[s1,s2]
   simp only[Option.bind_some]
   obtain⟨e1,e2⟩:=e
   simp only at s3 ⊢
   rcases s3 with⟨h0,rfl⟩|⟨h0,hl,m,rfl,hm1,hm2⟩
   ·have h0:(e2 != 0)=true:=by simpa using h0
    rw[h0,if_pos rfl,if_pos rfl]
    exact⟨_,true,j,true,Z8,-1,rfl,rfl,⟨⟨hij,hb⟩,.inl ⟨rfl,rfl⟩⟩,fun h=>(by cases h)⟩
   ·subst h0
    have h00:((0:Int) != 0)=false:=rfl
    rw[h00,if_neg Bool.false_ne_true,if_neg Bool.false_ne_true]
    exact⟨_,true,m,false,_,_,rfl,rfl,⟨⟨by omega,hm2⟩,.inr ⟨rfl,rfl,rfl⟩⟩,fun _=>⟨by omega,by rw[decide_eq_true hm1]⟩⟩
  ·rw[if_neg c3,if_neg c3]
   simp only[Option.bind_some,Sum.elim_inl]
   rw[oV n S false j (by omega) (by omega) hb,LN n S j (by omega) (by omega) hb]
   have hp:=uX (S.drop j)
   rw[List.length_drop] at hp
   have ht:=yI ((S.drop j).take (pl9 (S.drop j))) 32
   rw[List.length_take,List.length_drop] at ht
   simp only[Option.bind_some]
   rw[if_pos (mD (by omega)),if_pos (Jg (by omega)),tn,tn,show j+pl9 (S.drop j)-j=pl9 (S.drop j) by omega,Ox n _ (by rw[List.length_take,List.length_drop];omega) (by rw[List.length_take,List.length_drop];omega)]
   obtain⟨x,e,ok,f1,f2,f3,f4,_⟩:=vN n (Lib.trimRightB ((S.drop j).take (pl9 (S.drop j))) 32) true (by omega) (by omega)
   simp only[Option.bind_some]
   rw[f1,f2]
   simp only[Option.bind_some]
   have hempty:(!(Lib.trimRightB ((S.drop j).take (pl9 (S.drop j))) 32==[]))=decide (j<j+pl9 (S.drop j)):=by
    by_cases h0:pl9 (S.drop j)=0
    ·rw[h0,List.take_zero]
     rw[decide_eq_false (by omega)];rfl
    ·rw[decide_eq_true (by omega)]
     obtain⟨m,hm⟩:∃m,pl9 (S.drop j)=m+1:=⟨pl9 (S.drop j)-1,by omega⟩
     rw[hm,drop_at hjl,List.take_succ_cons]
     have:Lib.trimRightB (S[j]::List.take m (S.drop (j+1))) 32≠[]:=MX h32
     simpa using this
   cases ok with
   |true =>
    have f3:e=0:=f3
    subst f3
    rw[if_neg (by decide)]
    exact⟨x,_,j+pl9 (S.drop j),false,x,_,rfl,rfl,⟨⟨by omega,by omega⟩,.inr ⟨rfl,rfl,rfl⟩⟩,fun _=>⟨by omega,hempty⟩⟩
   |false =>
    have f3:e=3:=f3
    subst f3
    rw[if_pos (by rfl)]
    exact⟨x,_,j+pl9 (S.drop j),true,Z8,-1,rfl,rfl,⟨⟨by omega,by omega⟩,.inl ⟨rfl,rfl⟩⟩,fun h=>(by cases h)⟩
theorem KJ(n:Nat)(t:Nd)(hW:BJ 12 t)(hn:300000<=n):∃b,jK n t=some b/\uP n t=some b/\(b=true↔Fit 12 t/\sz8 12 t<=2000):=by
 obtain⟨b,h1,h2⟩:=od n t hW (by omega)
 refine⟨b,h1,?_,h2⟩
 unfold uP
 obtain⟨r,h3,h4⟩:=left_eq 12 n t 1 2000 (by omega) (by omega) (by omega) (by omega)
 have h3:fB n t 1 2000=some r:=h3
 rw[h3,Option.bind_some]
 congr 1
 by_cases hb:b=true
 ·obtain⟨g1,g2⟩:=h2.1 hb
  have h5:=EL 12 n t 1 2000 (by omega) (by omega) (by omega) g1 g2 (by omega)
  have h5:fB n t 1 2000=some ((2000-sz8 12 t:Nat):Int):=h5
  rw[h3] at h5
  cases h5
  rw[hb]
  exact decide_eq_true (by omega)
 ·have hb':b=false:=by simpa using hb
  rw[hb']
  rcases h4 with rfl|⟨q,rfl,g1,g2⟩
  ·rfl
  ·exact(hb (h2.2 ⟨g1,by omega⟩)).elim
theorem DC(n:Nat)(s:BS)(hs:s.length<=10000)(hn:400000<=n):∃x e,gX n s=some (x,e)/\yZ n s=some (x,e)/\(e=0->Fit 12 x/\sz8 12 x<=2000)/\Red s.length x:=by
 obtain⟨v,sm,j,bad,w,e,h1,h2,⟨h3,h4⟩,h5⟩:=Da s hs (s.length+1) n 0 0 (by omega) (by omega) rfl (by omega) (by omega)
 have h1:aT n (ah.mk s 0 false)=some (v,sm,ah.mk s (j:Int) bad):=h1
 have h2:jO n s 0=some (w,e):=h2
 have hred:Red s.length v:=by
  obtain⟨v',_,_,_,g1,_,_,g4⟩:=Dq s (by omega) (s.length+1) n 0 false (by omega) (by omega) (by omega)
  have g1:aT n (ah.mk s 0 false)=_:=g1
  rw[h1] at g1
  cases g1
  exact g4
 unfold gX yZ
 rw[h1,h2]
 simp only[Option.bind_some]
 rcases h4 with⟨rfl,rfl⟩|⟨rfl,rfl,rfl⟩
 ·exact⟨Z8,3,rfl,rfl,fun h=>(by cases h),Red.null⟩
 ·have hneg:decide ((j:Int)<0)=false:=decide_eq_false (by omega)
  have hjb:=ik s j h3.2
  rw[if_pos (by rfl),sD n s false j (by omega) (by omega) h3.2,hneg,if_pos (by rfl:((false:Bool)==false)=true),ni n s j (by omega) (by omega) h3.2]
  simp only[Option.bind_some]
  generalize hp:j+dh (s.drop j)=p at hjb
  by_cases hlt:p<s.length
  ·rw[gy hlt,if_pos (by cases (bif false then true else(hd9 (s.drop p) != 0))<;>rfl),if_pos (by rfl)]
   exact⟨Z8,3,rfl,rfl,fun h=>(by cases h),Red.null⟩
  ·have hd:s.drop p=[]:=List.drop_eq_nil_of_le (by omega)
   rw[iM (by omega),hd,if_neg (by decide),if_neg (by decide)]
   obtain⟨b,g1,g2,g3⟩:=KJ n w (hred 12).1 (by omega)
   rw[g1,g2]
   simp only[Option.bind_some]
   cases b with
   |false=>exact⟨Z8,9,rfl,rfl,fun h=>(by cases h),Red.null⟩
   |true=>exact⟨w,0,rfl,rfl,fun _=>g3.1 rfl,hred⟩
end Go.Proofs.YtefojkdckfidcaaGreatDoor.M
namespace Go.Proofs.YtefojkdckfidcaaGreatDoor.M
open Go Go.Proofs.YtefojkdckfidcaaGreatDoor.RX Go.Proofs.YtefojkdckfidcaaGreatDoor.PL
set_option maxRecDepth 100000
theorem PW(n:Nat)(s:Bs)(hs:s.length<=100000)(hn:200000<=n):iz n s=some (dm s)/\True:=⟨(tG n s hs hn).1,trivial⟩
abbrev Ln:=av
def gZ:BS->Bool
 |[]=>false
 |[c]=>c==45
 |c::d::_=>c==45&&d==32
theorem Jd(s:BS):fl s=gZ s:=by
 unfold fl Lib.hasPrefix
 match s with
 |[]=>rfl
 |[c] =>
  show(bif ([c]==[45]) then true else((45==c)&&false))=(c==45)
  rw[Bool.and_false]
  by_cases h:c=45
  ·subst h;rfl
  ·have h1:([c]==[45])=false:=by simpa using h
   have h2:(c==45)=false:=by simpa using h
   rw[h1,h2];rfl
 |c::d::r =>
  have h1:((c::d::r)==[45])=false:=by simp
  rw[h1]
  show((45==c)&&((32==d)&&true))=(c==45&&d==32)
  rw[Bool.and_true,Bool.beq_comm (a:=c),Bool.beq_comm (a:=d)]
def mkQ(s:BS)(i:Nat):Bool:=if h:i<s.length then s[i]==58&&fq s (i+1) else false
def nxB:BS->Bool
 |[]=>true
 |d::_=>d==32
def mk9:BS->Nat
 |[]=>0
 |c::r=>if(c==58&&nxB r)=true then 0 else mk9 r+1
theorem zC(c:UInt8)(r:BS):mk9 (c::r)=if(c==58&&nxB r)=true then 0 else mk9 r+1:=rfl
theorem FD{s:BS}{i:Nat}(h:i<s.length):mkQ s i=(s[i]==58&&nxB (s.drop (i+1))):=by
 unfold mkQ fq
 rw[dif_pos h]
 by_cases h1:i+1<s.length
 ·rw[dif_pos h1,drop_at h1];rfl
 ·rw[dif_neg h1,List.drop_eq_nil_of_le (by omega)];rfl
theorem MB:∀l:BS,mk9 l<=l.length
 |[]=>Nat.le_refl 0
 |c::r=>by
  have:=MB r
  unfold mk9
  exact LG (Nat.zero_le _) (by rw[List.length_cons];omega)
theorem OD(n:Nat)(s:BS)(i:Nat)(hs:s.length<=100000)(hi:i<=s.length):nH n s (i:Int)=some (mkQ s i):=by
 unfold nH
 by_cases h:i<s.length
 ·rw[gy h,bU h,cY h,aZ i (by omega),b58,FD h,if_pos (by rfl)]
  simp only[aP,cond_true]
  by_cases h1:i+1<s.length
  ·have e0:(((i+1:Nat):Int)==(s.length:Int))=false:=by rw[oy];exact decide_eq_false (by omega)
   simp only[bU h1,Bool.or_true,if_true]
   rw[cY h1,e0,b32,drop_at h1]
   congr 1
   show(bif decide (s[i]=58) then decide (s[i+1]=32) else false)=(s[i]==58&&s[i+1]==32)
   rw[gQ,gQ]
   cases (s[i]==58)<;>rfl
  ·have he:i+1=s.length:=by omega
   have e0:(((i+1:Nat):Int)==(s.length:Int))=true:=by rw[oy];exact decide_eq_true he
   rw[e0,if_pos (by rfl),List.drop_eq_nil_of_le (by omega)]
   congr 1
   show(bif decide (s[i]=58) then true else false)=(s[i]==58&&true)
   rw[gQ]
   cases (s[i]==58)<;>rfl
 ·have hi':i=s.length:=by omega
  unfold mkQ
  rw[dif_neg h,iM (by omega),if_pos (by rfl)]
  simp only[aP,cond_false]
  rw[if_pos (by cases ((IntKind.wrap .i64 ((i:Int)+1)==(s.length:Int)))<;>rfl)]
theorem C6(n:Nat)(s:BS)(hs:s.length<=100000):∀(k i:Nat),i<=s.length->s.length-i<k->jh n s k (i:Int)=some ((i+mk9 (s.drop i):Nat):Int)
 |0,i,_,h=>by omega
 |k+1,i,h1,h2=>by
  rw[jh]
  by_cases h:i<s.length
  ·rw[gy h,if_pos (by rfl:((true:Bool)==true)=true),OD n s i hs h1]
   simp only[Option.bind_some,cond_true]
   rw[FD h,drop_at h,zC]
   by_cases hc:(s[i]==58&&nxB (s.drop (i+1)))=true
   ·rw[if_pos hc,hc,if_neg (by decide)];rfl
   ·have hc':(s[i]==58&&nxB (s.drop (i+1)))=false:=by simpa using hc
    rw[if_neg hc,hc',if_pos (by decide),aZ i (by omega),C6 n s hs k (i+1) (by omega) (by omega)]
    congr 2;omega
  ·have:i=s.length:=by omega
   subst this
   rw[nq,List.drop_eq_nil_of_le (Nat.le_refl _)];rfl
def fU(n:Nat)(s:BS):BS×BS×Int :=
 match s with
 |[]=>([],[],0)
 |c::_ =>
  if(gZ s||c==91||c==123)=true then([],[],0)
  else if(c==34||c==39)=true then
   match bp n s 0 with
   |some (k,nx,e)=>if e=0/\mkQ s nx.toNat=true then(k,(s.drop (nx.toNat+1)).dropWhile (·==32),1) else([],[],0)
   |none=>([],[],0)
  else if mk9 s=s.length then([],[],0)
  else if(!dm (s.take (mk9 s))||s.take (mk9 s)==[60,60])=true then([],[],-1)
  else(s.take (mk9 s),(s.drop (mk9 s+1)).dropWhile (·==32),1)
theorem K7(n:Nat)(s:BS)(hs:s.length<=10000)(hn:300000<=n):jk n s=some (fU n s):=by
 unfold jk
 cases s with
 |nil=>rfl
 |cons c t =>
  generalize hS:c::t=S at hs ⊢
  have hlen:0<S.length:=by rw[<-hS];simp
  have h0:S[0]=c:=by subst hS;rfl
  have e1:(S==[])=false:=by rw[<-hS];rfl
  have z0:decide (0<=(0:Int)/\(0:Int)<(List.length S:Int))=true:=bU hlen
  have z1:(S[Int.toNat 0]?.getD 0)=S[0]:=cY hlen
  have hent:fU n S=(if(gZ S||c==91||c==123)=true then([],[],0)
   else if(c==34||c==39)=true then
    match bp n S 0 with
    |some (k,nx,e)=>if e=0/\mkQ S nx.toNat=true then(k,(S.drop (nx.toNat+1)).dropWhile (·==32),1) else([],[],0)
    |none=>([],[],0)
   else if mk9 S=S.length then([],[],0)
   else if(!dm (S.take (mk9 S))||S.take (mk9 S)==[60,60])=true then([],[],-1)
   else(S.take (mk9 S),(S.drop (mk9 S+1)).dropWhile (·==32),1):BS×BS×Int):=by subst hS;rfl
  rw[hent,e1,z0,z1,h0,Jd,Bool.or_true,Bool.or_true,if_pos rfl,if_pos rfl]
  simp only[aP,cond_false]
  have hc1:(bif (bif gZ S then true else((c.toNat:Int)==91)) then true else((c.toNat:Int)==123))=(gZ S||c==91||c==123):=by
   rw[show((c.toNat:Int)==91)=(c==91) from jN c 91,show((c.toNat:Int)==123)=(c==123) from jN c 123]
   cases gZ S<;>cases (c==91)<;>rfl
  rw[hc1]
  by_cases g1:(gZ S||c==91||c==123)=true
  ·rw[if_pos g1,if_pos g1]
  rw[if_neg g1,if_neg g1]
  simp only[Bool.or_true,if_true]
  have hc2:(bif ((c.toNat:Int)==34) then true else((c.toNat:Int)==39))=(c==34||c==39):=by
   rw[show((c.toNat:Int)==34)=(c==34) from jN c 34,show((c.toNat:Int)==39)=(c==39) from jN c 39]
   cases (c==34)<;>rfl
  rw[hc2]
  unfold ny
  by_cases g2:(c==34||c==39)=true
  ·rw[if_pos g2,if_pos g2]
   have hq:S[0]=34\/S[0]=39:=by rw[h0];simpa using g2
   rcases qb n S 0 (by omega) (by omega) hlen hq with q1|⟨k,j,q1,q2,q3,q4⟩
   ·have q1:bp n S 0=some ([],0,3):=q1
    rw[q1];rfl
   ·have q1:bp n S 0=some (k,(j:Int),0):=q1
    rw[q1]
    simp only[Option.bind_some]
    rw[if_pos (by rfl),OD n S j (by omega) q3]
    simp only[Option.bind_some,tn]
    by_cases g3:mkQ S j=true
    ·have hj:j<S.length:=by
      rcases Nat.lt_or_ge j S.length with h|h
      ·exact h
      ·unfold mkQ at g3;rw[dif_neg (by omega)] at g3;cases g3
     rw[g3,if_neg (by decide),if_pos (by simp)]
     simp only[Option.bind_some,Sum.elim_inl]
     rw[aZ j (by omega),if_pos (mD (by omega)),tn];rfl
    ·have g3':mkQ S j=false:=by simpa using g3
     rw[g3',if_pos (by decide),if_neg (by simp)];rfl
  ·rw[if_neg g2,if_neg g2]
   have hl2:jh n S n 0=some ((0+mk9 (S.drop 0):Nat):Int):=C6 n S (by omega) n 0 (Nat.zero_le _) (by omega)
   rw[List.drop_zero,Nat.zero_add] at hl2
   rw[hl2]
   simp only[Option.bind_some]
   have hle:=MB S
   by_cases g3:mk9 S=S.length
   ·rw[if_pos g3,if_pos (by rw[oy];exact decide_eq_true g3)];rfl
   ·rw[if_neg g3,if_neg (by rw[oy];simpa using g3),if_pos (mD hle),tn]
    obtain⟨p1,_⟩:=PW n (S.take (mk9 S)) (by rw[List.length_take];omega) (by omega)
    rw[p1]
    simp only[Option.bind_some]
    have hc3:(bif (!dm (S.take (mk9 S))) then true else(S.take (mk9 S)==[60,60]))=(!dm (S.take (mk9 S))||S.take (mk9 S)==[60,60]):=by
     cases dm (S.take (mk9 S))<;>rfl
    rw[hc3]
    by_cases g4:(!dm (S.take (mk9 S))||S.take (mk9 S)==[60,60])=true
    ·rw[if_pos g4,if_pos g4];rfl
    ·rw[if_neg g4,if_neg g4]
     simp only[Option.bind_some,Sum.elim_inl]
     rw[aZ _ (by omega),if_pos (mD (by omega)),tn];rfl
theorem sR(l:BS)(p:UInt8->Bool):(l.dropWhile p).length<=l.length:=dropWhile_le p l
theorem yF(n:Nat)(s:BS)(hs:s.length<=10000)(hn:300000<=n):(fU n s).1.length<=s.length/\(fU n s).2.1.length<=s.length/\((fU n s).2.2=0\/(fU n s).2.2=1\/(fU n s).2.2=-1)/\((fU n s).2.2=1->s≠[]):=by
 cases s with
 |nil=>exact⟨Nat.le_refl _,Nat.le_refl _,.inl rfl,fun h=>(by cases h)⟩
 |cons c t =>
  unfold fU
  simp only
  split
  ·exact⟨Nat.zero_le _,Nat.zero_le _,.inl rfl,fun _ h=>(by cases h)⟩
  split
  ·rename_i g2
   have hlen:0<(c::t).length:=by simp
   have hq:(c::t)[0]=34\/(c::t)[0]=39:=by simpa using g2
   rcases qb n (c::t) 0 (by omega) (by omega) hlen hq with q1|⟨k,j,q1,q2,q3,q4⟩
   ·have q1:bp n (c::t) 0=some ([],0,3):=q1
    rw[q1]
    exact⟨Nat.zero_le _,Nat.zero_le _,.inl rfl,fun _ h=>(by cases h)⟩
   ·have q1:bp n (c::t) 0=some (k,(j:Int),0):=q1
    rw[q1]
    simp only
    split
    ·refine⟨q4,?_,.inr (.inl rfl),fun _ h=>(by cases h)⟩
     have:=sR ((c::t).drop (Int.toNat (j:Int)+1)) (·==32)
     rw[List.length_drop] at this
     simp only;omega
    ·exact⟨Nat.zero_le _,Nat.zero_le _,.inl rfl,fun _ h=>(by cases h)⟩
  split
  ·exact⟨Nat.zero_le _,Nat.zero_le _,.inl rfl,fun _ h=>(by cases h)⟩
  split
  ·exact⟨Nat.zero_le _,Nat.zero_le _,.inr (.inr rfl),fun _ h=>(by cases h)⟩
  ·refine⟨by rw[List.length_take];omega,?_,.inr (.inl rfl),fun _ h=>(by cases h)⟩
   have:=sR ((c::t).drop (mk9 (c::t)+1)) (·==32)
   rw[List.length_drop] at this
   simp only;omega
def jf(n:Nat)(s:BS):Nd×Int :=
 match s with
 |[]=>(Z8,0)
 |c::_=>if(c==91||c==123)=true then(gX n s).getD (Z8,3) else(dK n s false).getD (Z8,3)
theorem AP(no e:Int)(h:ak)(h0:h.f_e=0):cZ no e h=(Z8,ak.mk h.f_l h.aC no e):=by
 unfold cZ ie
 rw[h0];rfl
theorem LY(n:Nat)(no:Int)(s:BS)(h:ak)(h0:h.f_e=0)(hsc:∃x e,dK n s false=some (x,e))(hp:∃x e,gX n s=some (x,e)) :
  dG n no s h=some (if(jf n s).2=0 then((jf n s).1,h) else(Z8,ak.mk h.f_l h.aC no (jf n s).2)):=by
 obtain⟨x,e,hx⟩:=hsc
 obtain⟨y,f,hy⟩:=hp
 unfold dG
 have hend:∀(w:Nd)(g:Int),(if(g != 0)=true then(aP (cZ no g h) fun r4=>some (r4.1,r4.2)) else(some (w,h)))=some (if g=0 then(w,h) else(Z8,ak.mk h.f_l h.aC no g)):=by
  intro w g
  by_cases hg:g=0
  ·rw[if_neg (by rw[hg];decide),if_pos hg]
  ·rw[if_pos (by simpa using hg),if_neg hg,AP no g h h0];rfl
 rw[hx]
 simp only[Option.bind_some]
 cases s with
 |nil =>
  have hx0:dK n [] false=some (Z8,0):=rfl
  rw[hx0] at hx
  cases hx
  rfl
 |cons c t =>
  generalize hS:c::t=S at hx hy ⊢
  have hlen:0<S.length:=by rw[<-hS];simp
  have h0':S[0]=c:=by subst hS;rfl
  have e1:(S==[])=false:=by rw[<-hS];rfl
  have z0:decide (0<=(0:Int)/\(0:Int)<(List.length S:Int))=true:=bU hlen
  have z1:(S[Int.toNat 0]?.getD 0)=S[0]:=cY hlen
  have hval:jf n S=if(c==91||c==123)=true then(gX n S).getD (Z8,3) else(dK n S false).getD (Z8,3):=by subst hS;rfl
  rw[e1,z0,z1,h0',Bool.or_true,Bool.or_true,if_pos rfl,if_pos rfl]
  simp only[aP]
  have hc1:(bif (!false) then(bif ((c.toNat:Int)==91) then true else((c.toNat:Int)==123)) else false)=(c==91||c==123):=by
   rw[show((c.toNat:Int)==91)=(c==91) from jN c 91,show((c.toNat:Int)==123)=(c==123) from jN c 123]
   cases (c==91)<;>rfl
  rw[hc1,hval]
  unfold fN
  by_cases g:(c==91||c==123)=true
  ·rw[if_pos g,if_pos g,hy]
   simp only[Option.bind_some,Option.getD_some]
   exact hend y f
  ·rw[if_neg g,if_neg g,hx]
   simp only[Option.bind_some,Option.getD_some]
   exact hend x e
abbrev Rs:=Sum (Int×Int) (Nd×List Ln)
def inS(B:List Ln->Rs)(ind:Int)(beside:Bool)(ls:List Ln):Rs :=
 match ls with
 |[]=>.inr (Z8,[])
 |x::r=>if ind<x.aI\/(beside=true/\x.aI=ind/\gZ x.au=true) then B (x::r) else .inr (Z8,x::r)
def nJ(x:Ln):Ln:=av.mk x.eG (x.aI+(x.au.length:Int)-(((x.au.drop 1).dropWhile (·==32)).length:Int)) ((x.au.drop 1).dropWhile (·==32))
def tN(n:Nat)(no:Int)(s:BS)(r:List Ln):Rs:=if(jf n s).2=0 then .inr ((jf n s).1,r) else .inl (no,(jf n s).2)
def kT(B:List Ln->Rs)(ind:Int)(x:Ln)(r:List Ln):Rs:=if x.au=[45] then inS B ind false r else B (nJ x::r)
def mG(B:List Ln->Rs)(ind:Int):Nat->List Nd->List Ln->Rs
 |0,_,_=>.inl (0,3)
 |_+1,acc,[]=>.inr (af.mk 2 [] [] acc,[])
 |k+1,acc,x::r =>
  if ind<x.aI then .inl (x.eG,3)
  else if x.aI<ind\/gZ x.au=false then .inr (af.mk 2 [] [] acc,x::r)
  else match kT B ind x r with
   |.inl e=>.inl e
   |.inr (v,rest)=>mG B ind k (acc++[v]) rest
def kS(n:Nat)(B:List Ln->Rs)(ind:Int)(x:Ln)(rest:BS)(r:List Ln):Rs:=if rest≠[] then tN n x.eG rest r else inS B ind true r
def kB(n:Nat)(B:List Ln->Rs)(ind:Int):Nat->List BS->List Nd->List Ln->Rs
 |0,_,_,_=>.inl (0,3)
 |_+1,ks,acc,[]=>.inr (af.mk 3 [] ks acc,[])
 |k+1,ks,acc,x::r =>
  if ind<x.aI\/(x.aI=ind/\((fU n x.au).2.2<0\/(0<(fU n x.au).2.2/\(fU n x.au).1∈ks))) then .inl (x.eG,3)
  else if x.aI<ind\/(fU n x.au).2.2=0 then .inr (af.mk 3 [] ks acc,x::r)
  else match kS n B ind x (fU n x.au).2.1 r with
   |.inl e=>.inl e
   |.inr (v,rest)=>kB n B ind k (ks++[(fU n x.au).1]) (acc++[v]) rest
def iI:Nat->List Ln->Rs
 |0,_=>.inl (0,3)
 |_+1,[]=>.inl (0,3)
 |n+1,x::r =>
  if gZ x.au=true then mG (iI n) x.aI n [] (x::r)
  else if 0<(fU n x.au).2.2 then kB n (iI n) x.aI n [] [] (x::r)
  else if(fU n x.au).2.2<0 then .inl (x.eG,3)
  else tN n x.eG x.au r
def mu:List Ln->Nat
 |[]=>0
 |x::r=>x.au.length+1+mu r
theorem LJ:∀l:List Ln,l.length<=mu l
 |[]=>Nat.le_refl 0
 |x::r=>by have:=LJ r;rw[List.length_cons];unfold mu;omega
theorem KE{a b:List Ln}(h:a <:+ b):mu a<=mu b:=by
 obtain⟨p,rfl⟩:=h
 induction p with
 |nil=>exact Nat.le_refl _
 |cons x p ih=>rw[List.cons_append];show _<=_+1+mu (p++a);omega
def B7(x:Ln):Prop:=0<=x.aI/\x.aI+(x.au.length:Int)<=10000
def gB(l:List Ln):Prop:=l.length<=10000/\∀x∈l,B7 x
theorem gB.suffix{a b:List Ln}(h:gB b)(hs:a <:+ b):gB a:=⟨Nat.le_trans hs.length_le h.1,fun x hx=>h.2 x (hs.mem hx)⟩
theorem Rj{x:Ln}(h:B7 x):B7 (nJ x):=by
 obtain⟨h1,h2⟩:=h
 have h3:=sR (x.au.drop 1) (·==32)
 rw[List.length_drop] at h3
 unfold nJ B7
 simp only
 omega
theorem KX{x:Ln}{r:List Ln}(h:x.au≠[]):mu (nJ x::r)<mu (x::r):=by
 have h3:=sR (x.au.drop 1) (·==32)
 rw[List.length_drop] at h3
 have h4:0<x.au.length:=List.length_pos_iff.2 h
 unfold mu nJ
 simp only
 omega
theorem BO{s:BS}(h:gZ s=true):s≠[]:=by rintro rfl;cases h
def nP(ls:List Ln)(o:Rs):Prop:=∀v rest,o=.inr (v,rest)->Red 10000 v/\rest <:+ ls.tail
theorem Red.mono{a b:Nat}{v:Nd}(h:Red a v)(hab:a<=b):Red b v:=fun d=>⟨(h d).1,(h d).2.mono hab⟩
theorem FZ{B:List Ln->Rs}{ind:Int}{b:Bool}{r:List Ln}(hB:∀ls,ls <:+ r->nP ls (B ls)){v:Nd}{rest:List Ln}(h:inS B ind b r=.inr (v,rest)):Red 10000 v/\rest <:+ r:=by
 cases r with
 |nil=>cases h;exact⟨Red.null,List.suffix_refl _⟩
 |cons x r =>
  unfold inS at h
  simp only at h
  split at h
  ·obtain⟨h1,h2⟩:=hB _ (List.suffix_refl _) v rest h
   exact⟨h1,h2.trans (List.suffix_cons x r)⟩
  ·cases h;exact⟨Red.null,List.suffix_refl _⟩
theorem oN{ls r:List Ln}{x:Ln}(h:ls <:+ r):mu ls<mu (x::r):=by
 have:=KE h
 have:mu (x::r)=x.au.length+1+mu r:=rfl
 omega
theorem MP{x:Ln}{r:List Ln}(hok:gB (x::r)):gB (nJ x::r):=⟨by simpa using hok.1,fun y hy=>by
 rcases List.mem_cons.1 hy with rfl|hy
 ·exact Rj (hok.2 x List.mem_cons_self)
 ·exact hok.2 y (List.mem_cons_of_mem _ hy)⟩
theorem gB.text{x:Ln}{r:List Ln}(hok:gB (x::r)):x.au.length<=10000:=by
 have hx:=hok.2 x List.mem_cons_self
 have:=hx.1;have:=hx.2;omega
theorem uI{B:List Ln->Rs}{ind:Int}{M:Nat}(hB:∀ls,gB ls->mu ls<M->nP ls (B ls)){x:Ln}{r:List Ln}(hok:gB (x::r))(hq:gZ x.au=true)(hM:mu (x::r)<=M){v:Nd}{rest:List Ln}(hk:kT B ind x r=.inr (v,rest)):Red 10000 v/\rest <:+ r:=by
 have hokr:gB r:=hok.suffix (List.suffix_cons x r)
 unfold kT at hk
 split at hk
 ·exact FZ (fun ls hs=>hB ls (hokr.suffix hs) (Nat.lt_of_lt_of_le (oN hs) hM)) hk
 ·exact hB (nJ x::r) (MP hok) (Nat.lt_of_lt_of_le (KX (BO hq)) hM) v rest hk
theorem Dn{B:List Ln->Rs}{ind:Int}{M:Nat}(hB:∀ls,gB ls->mu ls<M->nP ls (B ls)):∀(k:Nat)(acc:List Nd)(ls:List Ln),gB ls->mu ls<=M->acc.length+ls.length<=20000->(∀x∈acc,Red 10000 x)->∀v rest,mG B ind k acc ls=.inr (v,rest)->Red 10000 v/\rest <:+ ls
 |0,_,_,_,_,_,_,_,_,h=>by cases h
 |k+1,acc,[],_,_,hl,ha,v,rest,h=>by
  cases h
  exact⟨Red.node (by simp at hl;omega) (by simp) (fun k hk=>by cases hk) ha,List.suffix_refl _⟩
 |k+1,acc,x::r,hok,hM,hl,ha,v,rest,h=>by
  unfold mG at h
  split at h
  ·cases h
  split at h
  ·cases h
   exact⟨Red.node (by simp at hl;omega) (by simp) (fun k hk=>by cases hk) ha,List.suffix_refl _⟩
  rename_i hq
  have hq:gZ x.au=true:=by
   cases hc:gZ x.au with
   |true=>rfl
   |false=>exact(hq (.inr hc)).elim
  split at h
  ·cases h
  ·rename_i v' rest' hk
   have hkid:=uI hB hok hq hM hk
   have hlr:=hkid.2.length_le
   have hmu:=oN (x:=x) hkid.2
   obtain⟨g1,g2⟩:=Dn hB k (acc++[v']) rest' (hok.suffix (hkid.2.trans (List.suffix_cons x r))) (by omega) (by simp at hl ⊢;omega) (fun y hy=>by
    rcases List.mem_append.1 hy with hy|hy
    ·exact ha y hy
    ·rw[List.mem_singleton] at hy;subst hy;exact hkid.1) v rest h
   exact⟨g1,g2.trans (hkid.2.trans (List.suffix_cons x r))⟩
theorem tP{n:Nat}(hV:∀s:BS,s.length<=10000->Red 10000 (jf n s).1){B:List Ln->Rs}{ind:Int}{M:Nat}(hB:∀ls,gB ls->mu ls<M->nP ls (B ls)){x:Ln}{s:BS}{r:List Ln}(hs:s.length<=10000)(hok:gB (x::r))(hM:mu (x::r)<=M){v:Nd}{rest:List Ln}(hk:kS n B ind x s r=.inr (v,rest)):Red 10000 v/\rest <:+ r:=by
 have hokr:gB r:=hok.suffix (List.suffix_cons x r)
 unfold kS at hk
 split at hk
 ·unfold tN at hk
  split at hk
  ·cases hk
   exact⟨hV _ hs,List.suffix_refl _⟩
  ·cases hk
 ·exact FZ (fun ls hs=>hB ls (hokr.suffix hs) (Nat.lt_of_lt_of_le (oN hs) hM)) hk
theorem Ax{n:Nat}(hn:300000<=n)(hV:∀s:BS,s.length<=10000->Red 10000 (jf n s).1){B:List Ln->Rs}{ind:Int}{M:Nat}(hB:∀ls,gB ls->mu ls<M->nP ls (B ls)):∀(k:Nat)(ks:List BS)(acc:List Nd)(ls:List Ln),gB ls->mu ls<=M->acc.length+ls.length<=20000->ks.length+ls.length<=20000->(∀x∈acc,Red 10000 x)->(∀x∈ks,x.length<=10000)->∀v rest,kB n B ind k ks acc ls=.inr (v,rest)->Red 10000 v/\rest <:+ ls
 |0,_,_,_,_,_,_,_,_,_,_,_,h=>by cases h
 |k+1,ks,acc,[],_,_,hl,hl2,ha,hk,v,rest,h=>by
  cases h
  exact⟨Red.node (by simp at hl;omega) (by simp at hl2;omega) hk ha,List.suffix_refl _⟩
 |k+1,ks,acc,x::r,hok,hM,hl,hl2,ha,hk,v,rest,h=>by
  unfold kB at h
  split at h
  ·cases h
  split at h
  ·cases h
   exact⟨Red.node (by simp at hl;omega) (by simp at hl2;omega) hk ha,List.suffix_refl _⟩
  have hxt:=hok.text
  obtain⟨e1,e2,_,_⟩:=yF n x.au hxt hn
  split at h
  ·cases h
  ·rename_i v' rest' hk'
   have hkid:=tP hV hB (Nat.le_trans e2 hxt) hok hM hk'
   have hlr:=hkid.2.length_le
   have hmu:=oN (x:=x) hkid.2
   obtain⟨g1,g2⟩:=Ax hn hV hB k _ (acc++[v']) rest' (hok.suffix (hkid.2.trans (List.suffix_cons x r))) (by omega) (by simp at hl ⊢;omega) (by simp at hl2 ⊢;omega) (fun y hy=>by
    rcases List.mem_append.1 hy with hy|hy
    ·exact ha y hy
    ·rw[List.mem_singleton] at hy;subst hy;exact hkid.1) (fun y hy=>by
    rcases List.mem_append.1 hy with hy|hy
    ·exact hk y hy
    ·rw[List.mem_singleton] at hy;subst hy;omega) v rest h
   exact⟨g1,g2.trans (hkid.2.trans (List.suffix_cons x r))⟩
theorem uA(hV:∀(n:Nat)(s:BS),400000<=n->s.length<=10000->Red 10000 (jf n s).1):∀(n:Nat)(ls:List Ln),gB ls->mu ls+400000<n->nP ls (iI n ls)
 |0,_,_,h=>by omega
 |n+1,[],_,_=>by intro v rest h;cases h
 |n+1,x::r,hok,hn=>by
  intro v rest h
  have hxt:=hok.text
  have hB:∀ls,gB ls->mu ls<mu (x::r)->nP ls (iI n ls):=fun ls h1 h2=>uA hV n ls h1 (by omega)
  have hl:=hok.1
  rw[List.length_cons] at hl
  obtain⟨m,hm⟩:∃m,n=m+1:=⟨n-1,by omega⟩
  have hokr:gB r:=hok.suffix (List.suffix_cons x r)
  rw[List.tail_cons]
  unfold iI at h
  split at h
  ·rename_i hq
   rw[show mG (iI n) x.aI n [] (x::r)=mG (iI n) x.aI (m+1) [] (x::r) by rw[<-hm]] at h
   unfold mG at h
   rw[if_neg (by omega),if_neg (by
    rintro(h|h)
    ·omega
    ·rw[hq] at h;cases h)] at h
   split at h
   ·cases h
   ·rename_i v' rest' hk
    have hkid:=uI hB hok hq (Nat.le_refl _) hk
    have hlr:=hkid.2.length_le
    have hmu:=oN (x:=x) hkid.2
    obtain⟨g1,g2⟩:=Dn hB m ([]++[v']) rest' (hokr.suffix hkid.2) (by omega) (by simp;omega) (fun y hy=>by
     rw[List.nil_append,List.mem_singleton] at hy;subst hy;exact hkid.1) v rest h
    exact⟨g1,g2.trans hkid.2⟩
  ·split at h
   ·rename_i hq hp
    rw[show kB n (iI n) x.aI n [] [] (x::r)=kB n (iI n) x.aI (m+1) [] [] (x::r) by rw[<-hm]] at h
    unfold kB at h
    rw[if_neg (by
     rintro(h|⟨_,h|⟨_,h⟩⟩)
     ·omega
     ·omega
     ·cases h),if_neg (by rintro(h|h)<;>omega)] at h
    obtain⟨e1,e2,_,_⟩:=yF n x.au hxt (by omega)
    split at h
    ·cases h
    ·rename_i v' rest' hk
     have hkid:=tP (fun s hs=>hV n s (by omega) hs) hB (Nat.le_trans e2 hxt) hok (Nat.le_refl _) hk
     have hlr:=hkid.2.length_le
     have hmu:=oN (x:=x) hkid.2
     obtain⟨g1,g2⟩:=Ax (by omega) (fun s hs=>hV n s (by omega) hs) hB m _ ([]++[v']) rest' (hokr.suffix hkid.2) (by omega) (by simp;omega) (by simp;omega) (fun y hy=>by
      rw[List.nil_append,List.mem_singleton] at hy;subst hy;exact hkid.1) (fun y hy=>by
      rw[List.nil_append,List.mem_singleton] at hy;subst hy;omega) v rest h
     exact⟨g1,g2.trans hkid.2⟩
   ·split at h
    ·cases h
    ·unfold tN at h
     split at h
     ·cases h
      exact⟨hV n _ (by omega) hxt,List.suffix_refl _⟩
     ·cases h
theorem Hz{B:List Ln->Rs}(hB:∀ls e,B ls=.inl e->e.2≠0){ind:Int}{b:Bool}{r:List Ln}{e:Int×Int}(h:inS B ind b r=.inl e):e.2≠0:=by
 cases r with
 |nil=>cases h
 |cons x r =>
  unfold inS at h
  simp only at h
  split at h
  ·exact hB _ e h
  ·cases h
theorem Fb{n:Nat}{no:Int}{s:BS}{r:List Ln}{e:Int×Int}(h:tN n no s r=.inl e):e.2≠0:=by
 unfold tN at h
 split at h
 ·cases h
 ·rename_i hv
  cases h
  exact hv
theorem E4{B:List Ln->Rs}(hB:∀ls e,B ls=.inl e->e.2≠0){ind:Int}:∀(k:Nat)(acc:List Nd)(ls:List Ln)(e:Int×Int),mG B ind k acc ls=.inl e->e.2≠0
 |0,_,_,_,h=>by cases h;decide
 |k+1,acc,[],e,h=>by cases h
 |k+1,acc,x::r,e,h=>by
  unfold mG at h
  split at h
  ·cases h;exact(by decide:(3:Int)≠0)
  split at h
  ·cases h
  split at h
  ·rename_i e' hk
   cases h
   unfold kT at hk
   split at hk
   ·exact Hz hB hk
   ·exact hB _ _ hk
  ·exact E4 hB k _ _ e h
theorem D1{n:Nat}{B:List Ln->Rs}(hB:∀ls e,B ls=.inl e->e.2≠0){ind:Int}:∀(k:Nat)(ks:List BS)(acc:List Nd)(ls:List Ln)(e:Int×Int),kB n B ind k ks acc ls=.inl e->e.2≠0
 |0,_,_,_,_,h=>by cases h;decide
 |k+1,ks,acc,[],e,h=>by cases h
 |k+1,ks,acc,x::r,e,h=>by
  unfold kB at h
  split at h
  ·cases h;exact(by decide:(3:Int)≠0)
  split at h
  ·cases h
  split at h
  ·rename_i e' hk
   cases h
   unfold kS at hk
   split at hk
   ·exact Fb hk
   ·exact Hz hB hk
  ·exact D1 hB k _ _ _ e h
theorem zH:∀(n:Nat)(ls:List Ln)(e:Int×Int),iI n ls=.inl e->e.2≠0
 |0,_,_,h=>by cases h;decide
 |n+1,[],_,h=>by cases h;decide
 |n+1,x::r,e,h=>by
  unfold iI at h
  split at h
  ·exact E4 (zH n) _ _ _ e h
  split at h
  ·exact D1 (zH n) _ _ _ _ e h
  split at h
  ·cases h;exact(by decide:(3:Int)≠0)
  ·exact Fb h
def PR(len at0:Nat)(o:Rs)(p:Nd×ak):Prop :=
 match o with
 |.inl e=>e.2≠0/\p.2.f_e=e.2/\p.2.mF=e.1
 |.inr w=>p.1=w.1/\p.2.f_e=0/\p.2.f_l.length=len/\∃at':Nat,p.2.aC=(at':Int)/\at'<=len/\p.2.f_l.drop at'=w.2/\at0<=at'
theorem PR.mono{len a b:Nat}{o:Rs}{p:Nd×ak}(h:PR len b o p)(hab:a<=b):PR len a o p:=by
 unfold PR at h ⊢
 cases o with
 |inl e=>exact h
 |inr w =>
  obtain⟨h1,h2,h3,at',h4,h5,h6,h7⟩:=h
  exact⟨h1,h2,h3,at',h4,h5,h6,by omega⟩
abbrev Rb:=ak->Option (Nd×ak)
def E5(R:Rb)(B:List Ln->Rs)(M:Nat):Prop:=∀(l:List Ln)(a:Nat)(no:Int),a<l.length->l.length<=100000->gB (l.drop a)->mu (l.drop a)<M->∃p,R (ak.mk l (a:Int) no 0)=some p/\PR l.length a (B (l.drop a)) p
theorem MH(R:Rb)(B:List Ln->Rs)(M:Nat)(hB:E5 R B M)(n:Nat)(ind:Int)(b:Bool)(l:List Ln)(a:Nat)(no:Int)(ha:a<=l.length)(hl:l.length<=100000)(hok:gB (l.drop a))(hM:mu (l.drop a)<M) :
  ∃p,eF R n ind b (ak.mk l (a:Int) no 0)=some p/\PR l.length a (inS B ind b (l.drop a)) p:=by
 unfold eF iO
 by_cases h:a<l.length
 ·have e0:((a:Int)==(l.length:Int))=false:=by rw[oy];exact decide_eq_false (by omega)
  have hR:=hB l a no h hl hok hM
  rw[drop_at h] at hR ⊢
  simp only
  rw[e0,if_neg (by decide),if_pos (bU h),cY h]
  simp only[Option.bind_some,aP]
  rw[e0,Jd]
  have hc:(bif (!(decide (l[a].aI>ind))) then(bif (bif (bif (bif (!b) then true else((0:Int) != 0)) then true else false) then true else(l[a].aI != ind)) then true else(!(gZ l[a].au))) else false)=!decide (ind<l[a].aI\/(b=true/\l[a].aI=ind/\gZ l[a].au=true)):=by
   by_cases c1:ind<l[a].aI
   ·rw[decide_eq_true (show l[a].aI>ind from c1),decide_eq_true (.inl c1)];rfl
   ·rw[decide_eq_false (show ¬l[a].aI>ind from c1)]
    by_cases c2:l[a].aI=ind
    ·have:(l[a].aI != ind)=false:=by simpa using c2
     rw[this]
     cases b with
     |false =>
      rw[decide_eq_false (by rintro(h|h);exact c1 h;exact absurd h.1 (by decide))];rfl
     |true =>
      cases hq:gZ l[a].au with
      |false=>rw[decide_eq_false (by rintro(h|h);exact c1 h;exact absurd h.2.2 (by decide))];rfl
      |true=>rw[decide_eq_true (.inr ⟨rfl,c2,rfl⟩)];rfl
    ·have:(l[a].aI != ind)=true:=by simpa using c2
     rw[this,decide_eq_false (by rintro(h|h);exact c1 h;exact c2 h.2.1)]
     cases b<;>rfl
  rw[hc]
  unfold inS
  simp only
  by_cases c:ind<l[a].aI\/(b=true/\l[a].aI=ind/\gZ l[a].au=true)
  ·rw[decide_eq_true c,if_neg (by decide),if_pos c]
   obtain⟨p,h1,h2⟩:=hR
   rw[h1]
   exact⟨p,rfl,h2⟩
  ·rw[decide_eq_false c,if_pos (by decide),if_neg c]
   exact⟨_,rfl,rfl,rfl,rfl,a,rfl,by omega,drop_at h,Nat.le_refl _⟩
 ·have e0:((a:Int)==(l.length:Int))=true:=by rw[oy];exact decide_eq_true (by omega)
  have hd:l.drop a=[]:=List.drop_eq_nil_of_le (by omega)
  rw[hd]
  simp only
  rw[e0,if_pos (by decide)]
  simp only[Option.bind_some,aP]
  rw[e0]
  cases b
  ·exact⟨_,rfl,rfl,rfl,rfl,a,rfl,by omega,hd,Nat.le_refl _⟩
  ·exact⟨_,rfl,rfl,rfl,rfl,a,rfl,by omega,hd,Nat.le_refl _⟩
theorem Sv(n:Nat)(x:Ln)(hx:B7 x)(hne:x.au≠[]):tf n x 1=some (nJ x):=by
 unfold tf nJ
 have hlen:0<x.au.length:=List.length_pos_iff.2 hne
 have hd:=sR (x.au.drop 1) (·==32)
 rw[List.length_drop] at hd
 obtain⟨h1,h2⟩:=hx
 rw[show decide ((1:Int)<0)=false from rfl,decide_eq_false (show ¬(1:Int)>(x.au.length:Int) by omega),if_neg (by decide),if_pos (decide_eq_true (by omega))]
 simp only[aP]
 have ht:Lib.trimLeftB (List.drop (Int.toNat 1) x.au) 32=(x.au.drop 1).dropWhile (·==32):=rfl
 rw[ht,iQ (x.aI+(x.au.length:Int)) (by omega) (by omega),iQ _ (by omega) (by omega)]
def E8(o:Sum (Nd×Nd×ak) (Nd×ak)):Nd×ak:=Sum.elim (fun o=>(o.2.1,o.2.2)) (fun o=>(o.1,o.2)) o
theorem set_drop{l:List Ln}{a:Nat}(h:a<l.length)(y:Ln):(l.set a y).drop a=y::l.drop (a+1):=by
 rw[List.drop_eq_getElem_cons (by rw[List.length_set];exact h),List.getElem_set_self,List.drop_set_of_lt (by omega)]
theorem KY(R:Rb)(n k:Nat)(ind:Int)(z v:Nd)(h:ak)(he:h.f_e≠0):cv R n ind (k+1) z v h=some (.inl (z,v,h)):=by
 have:(h.f_e==0)=false:=by simpa using he
 rw[cv,this];rfl
theorem KD(R:Rb)(B:List Ln->Rs)(M:Nat)(hB:E5 R B M)(hG:∀ls,gB ls->mu ls<M->nP ls (B ls))(n:Nat)(ind:Int):∀(k:Nat)(l:List Ln)(a:Nat)(no:Int)(z:Nd)(acc:List Nd),a<=l.length->l.length<=100000->gB (l.drop a)->mu (l.drop a)<=M->l.length-a<k->acc.length+(l.length-a)<=200000 ->
  ∃o,cv R n ind k z (af.mk 2 [] [] acc) (ak.mk l (a:Int) no 0)=some o/\PR l.length a (mG B ind k acc (l.drop a)) (E8 o)
 |0,_,_,_,_,_,_,_,_,_,h,_=>by omega
 |k+1,l,a,no,z,acc,ha,hl,hok,hM,hk,hc=>by
  rw[cv]
  by_cases h:a<l.length
  ·have hd:=drop_at h
   generalize hx:l[a]=x at hd
   rw[hd] at hok hM ⊢
   have hxok:=hok.2 x List.mem_cons_self
   have hokr:gB (l.drop (a+1)):=hok.suffix (List.suffix_cons x _)
   simp only
   rw[gy h,if_pos (by rfl),if_pos (bU h),cY h,hx]
   unfold mG
   by_cases c1:ind<x.aI
   ·rw[if_pos (decide_eq_true c1),if_pos c1,AP _ _ _ rfl]
    exact⟨_,rfl,show(3:Int)≠0 by decide,rfl,rfl⟩
   rw[if_neg (by simpa using c1),if_neg c1]
   simp only[aP]
   rw[Jd]
   by_cases c2:x.aI<ind\/gZ x.au=false
   ·rw[if_pos c2,if_pos (by
     rcases c2 with c|c
     ·rw[decide_eq_true c];rfl
     ·rw[c];cases decide (x.aI<ind)<;>rfl)]
    refine⟨_,rfl,rfl,rfl,rfl,a,rfl,ha,hd,Nat.le_refl _⟩
   have hq:gZ x.au=true:=by
    cases hq:gZ x.au with
    |true=>rfl
    |false=>exact(c2 (.inr hq)).elim
   rw[if_neg c2,if_neg (by rw[decide_eq_false (fun h=>c2 (.inl h)),hq];decide)]
   have hkid:∀v rest,kT B ind x (l.drop (a+1))=.inr (v,rest)->rest <:+ l.drop (a+1):=fun v rest hk=>(uI hG hok hq hM hk).2
   have hnext:∀(l2:List Ln)(p:Nd×ak),l2.length=l.length->PR l2.length a (kT B ind x (l.drop (a+1))) p ->
     ∃o,(if(decide ((List.length acc+List.length ([p.1]:List Nd))*(72+1)<=limit))=true then(cv R n ind k z (af.mk 2 [] [] (acc++([p.1]:List Nd))) p.2) else none)=some o /\
      PR l.length a (match kT B ind x (l.drop (a+1)) with
       |.inl e=>.inl e
       |.inr (v,rest)=>mG B ind k (acc++[v]) rest) (E8 o):=by
    intro l2 p hl2 hp
    rw[if_pos (decide_eq_true (by show(acc.length+1)*(72+1)<=140737488355328;omega))]
    cases hr:kT B ind x (l.drop (a+1)) with
    |inl e =>
     rw[hr] at hp
     obtain⟨h1,h2,h3⟩:=hp
     obtain⟨k',rfl⟩:∃k',k=k'+1:=⟨k-1,by omega⟩
     rw[KY R n k' ind z _ p.2 (by rw[h2];exact h1)]
     exact⟨_,rfl,h1,h2,h3⟩
    |inr w =>
     obtain⟨v,rest⟩:=w
     have hsuf:=hkid v rest hr
     rw[hr] at hp
     obtain⟨h1,h2,h3,a',h4,h5,h6,h7⟩:=hp
     obtain⟨v',⟨l',at',no',e'⟩⟩:=p
     simp only at h1 h2 h3 h4 h6
     subst h1 h2 h4 h6
     have hlen:=hsuf.length_le
     rw[List.length_drop,List.length_drop] at hlen
     have hmu:=oN (x:=x) hsuf
     obtain⟨o,g1,g2⟩:=KD R B M hB hG n ind k l' a' no' z (acc++[v']) (by omega) (by omega) (hokr.suffix hsuf) (by omega) (by omega) (by simp;omega)
     exact⟨o,g1,by rw[h3,hl2] at g2;exact g2.mono h7⟩
   by_cases c3:x.au=[45]
   ·rw[if_pos (by rw[c3];rfl),aZ a (by omega)]
    have hmu:mu (x::l.drop (a+1))=x.au.length+1+mu (l.drop (a+1)):=rfl
    obtain⟨p,h1,h2⟩:=MH R B M hB n ind false l (a+1) no (by omega) hl hokr (by omega)
    rw[h1]
    simp only[Option.bind_some]
    refine hnext l p rfl ?_
    unfold kT
    rw[if_pos c3]
    exact h2.mono (by omega)
   ·have hcut:=KX (x:=x) (r:=l.drop (a+1)) (BO hq)
    rw[if_neg (by simpa using c3),Sv n x hxok (BO hq)]
    simp only[Option.bind_some]
    rw[if_pos (bU h),tn]
    have hset:=set_drop h (nJ x)
    obtain⟨p,h1,h2⟩:=hB (l.set a (nJ x)) a no (by rw[List.length_set];exact h) (by rw[List.length_set];exact hl) (by rw[hset];exact MP hok) (by rw[hset];omega)
    rw[hset] at h2
    rw[h1]
    simp only[Option.bind_some]
    refine hnext (l.set a (nJ x)) p (List.length_set ..) ?_
    unfold kT
    rw[if_neg c3]
    exact h2
  ·have hd:l.drop a=[]:=List.drop_eq_nil_of_le (by omega)
   simp only
   rw[hd,iM (by omega),if_neg (by decide)]
   unfold mG
   exact⟨_,rfl,rfl,rfl,rfl,a,rfl,ha,hd,Nat.le_refl _⟩
theorem Qm(n:Nat)(l:List BS)(x:BS)(hl:l.length<=100000):∀(k i:Nat),i<=l.length->l.length-i<k->∃r,du n l x (l.length:Int) k (i:Int)=some r/\(match r with|.inl _=>x∉l.drop i|.inr j=>0<=j/\x∈l.drop i)
 |0,i,_,h=>by omega
 |k+1,i,h1,h2=>by
  rw[du]
  by_cases h:i<l.length
  ·rw[gy h,if_pos rfl,bU h,if_pos rfl,cY h,drop_at h]
   by_cases c:x=l[i]
   ·rw[if_pos (by rw[c];exact beq_self_eq_true _)]
    exact⟨_,rfl,Int.natCast_nonneg _,by rw[c];exact List.mem_cons_self⟩
   ·rw[if_neg (by simpa using c),aZ i (by omega)]
    obtain⟨r,g1,g2⟩:=Qm n l x hl k (i+1) (by omega) (by omega)
    refine⟨r,g1,?_⟩
    cases r with
    |inl _ =>
     intro h
     rcases List.mem_cons.1 h with h|h
     ·exact c h
     ·exact g2 h
    |inr j=>exact⟨g2.1,List.mem_cons_of_mem _ g2.2⟩
  ·have:i=l.length:=by omega
   subst this
   rw[nq,List.drop_eq_nil_of_le (Nat.le_refl _)]
   exact⟨_,rfl,fun h=>(by cases h)⟩
theorem nIn(n:Nat)(l:List BS)(x:BS)(hl:l.length<=100000)(hn:200000<=n):oO n l x=some (decide (x∈l)):=by
 unfold oO fZ iD
 obtain⟨r,g1,g2⟩:=Qm n l x hl n 0 (Nat.zero_le _) (by omega)
 have g1:du n l x (l.length:Int) n 0=some r:=g1
 rw[g1]
 rw[List.drop_zero] at g2
 cases r with
 |inl _=>rw[decide_eq_false g2];rfl
 |inr j =>
  rw[decide_eq_true g2.2]
  simp only[Option.bind_some,Sum.elim_inr]
  rw[decide_eq_true g2.1]
theorem GZ(R:Rb)(n k:Nat)(ind:Int)(z v:Nd)(h:ak)(he:h.f_e≠0):bW R n ind (k+1) z v h=some (.inl (z,v,h)):=by
 have:(h.f_e==0)=false:=by simpa using he
 rw[bW,this];rfl
def Ag(n:Nat):Prop:=∀s:BS,s.length<=10000->(∃x e,dK n s false=some (x,e))/\∃x e,gX n s=some (x,e)
theorem F7(R:Rb)(B:List Ln->Rs)(M:Nat)(hB:E5 R B M)(hG:∀ls,gB ls->mu ls<M->nP ls (B ls))(n:Nat)(hn:400000<=n)(hV:Ag n)(hVR:∀s:BS,s.length<=10000->Red 10000 (jf n s).1)(ind:Int):∀(k:Nat)(l:List Ln)(a:Nat)(no:Int)(z:Nd)(ks:List BS)(acc:List Nd),a<=l.length->l.length<=100000->gB (l.drop a)->mu (l.drop a)<=M->l.length-a<k->acc.length+(l.length-a)<=100000->ks.length+(l.length-a)<=100000 ->
  ∃o,bW R n ind k z (af.mk 3 [] ks acc) (ak.mk l (a:Int) no 0)=some o/\PR l.length a (kB n B ind k ks acc (l.drop a)) (E8 o)
 |0,_,_,_,_,_,_,_,_,_,_,h,_,_=>by omega
 |k+1,l,a,no,z,ks,acc,ha,hl,hok,hM,hk,hc,hc2=>by
  rw[bW]
  by_cases h:a<l.length
  ·have hd:=drop_at h
   generalize hx:l[a]=x at hd
   rw[hd] at hok hM ⊢
   have hxt:=hok.text
   have hokr:gB (l.drop (a+1)):=hok.suffix (List.suffix_cons x _)
   obtain⟨e1,e2,e3,e4⟩:=yF n x.au hxt (by omega)
   simp only
   rw[gy h,if_pos (by rfl),if_pos (bU h),cY h,hx,K7 n x.au hxt (by omega)]
   simp only[Option.bind_some,aP]
   unfold kB
   generalize hE:fU n x.au=E at e1 e2 e3 e4
   obtain⟨key,rest,kind⟩:=E
   simp only at e1 e2 e3 e4 ⊢
   have hin:(if(((decide (kind>0))==true)&&(((decide (kind<0))==false)&&(((x.aI==ind)==true)&&((decide (x.aI>ind))==false))))=true then oO n ks key else some false)=some (decide (kind>0)&&(decide (x.aI=ind)&&decide (key∈ks))):=by
    rw[nIn n ks key (by omega) (by omega)]
    by_cases k1:kind>0
    ·have k1':¬kind<0:=by omega
     by_cases k2:x.aI=ind
     ·simp[k1,k1',k2]
     ·simp[k1,k1',k2]
    ·simp[k1]
   rw[hin]
   simp only[Option.bind_some]
   have hx3:(bif (decide (x.aI>ind)) then true else(bif (x.aI==ind) then(bif (decide (kind<0)) then true else(bif (decide (kind>0)) then(decide (kind>0)&&(decide (x.aI=ind)&&decide (key∈ks))) else false)) else false))=decide (ind<x.aI\/(x.aI=ind/\(kind<0\/(0<kind/\key∈ks)))):=by
    by_cases c1:ind<x.aI
    ·simp[c1]
    ·by_cases c2:x.aI=ind
     ·subst c2
      by_cases c3:kind<0
      ·simp[c3]
      ·by_cases c4:kind>0<;>by_cases c5:key∈ks<;>simp[c3,c4,c5]
     ·simp[c1,c2]
   rw[hx3]
   by_cases c1:ind<x.aI\/(x.aI=ind/\(kind<0\/(0<kind/\key∈ks)))
   ·rw[decide_eq_true c1,if_pos rfl,if_pos c1,AP _ _ _ rfl]
    exact⟨_,rfl,show(3:Int)≠0 by decide,rfl,rfl⟩
   rw[decide_eq_false c1,if_neg Bool.false_ne_true,if_neg c1]
   by_cases c2:x.aI<ind\/kind=0
   ·rw[if_pos c2,if_pos (by
     rcases c2 with c|c
     ·rw[decide_eq_true c];rfl
     ·rw[c];cases decide (x.aI<ind)<;>rfl)]
    exact⟨_,rfl,rfl,rfl,rfl,a,rfl,ha,hd,Nat.le_refl _⟩
   have hk0:(kind==0)=false:=by
    have:¬kind=0:=fun h=>c2 (.inr h)
    simpa using this
   rw[if_neg c2,if_neg (by rw[decide_eq_false (fun h=>c2 (.inl h)),hk0];decide),aZ a (by omega)]
   have hkid:∀v r',kS n B ind x rest (l.drop (a+1))=.inr (v,r')->r' <:+ l.drop (a+1):=fun v r' hk=>(tP hVR hG (Nat.le_trans e2 hxt) hok hM hk).2
   have hp:∃p,dC R n ind key rest (!(rest==[])) z (af.mk 3 [] ks acc) x (af.mk 0 [] [] []) (ak.mk l ((a+1:Nat):Int) no 0)=some p/\PR l.length a (kS n B ind x rest (l.drop (a+1))) p:=by
    unfold dC kS
    by_cases c3:rest=[]
    ·have hmu:mu (x::l.drop (a+1))=x.au.length+1+mu (l.drop (a+1)):=rfl
     obtain⟨p,h1,h2⟩:=MH R B M hB n ind true l (a+1) no (by omega) hl hokr (by omega)
     rw[if_neg (by rw[c3];decide),h1,if_neg (by simpa using c3)]
     exact⟨p,rfl,h2.mono (by omega)⟩
    ·have hne:(!(rest==[]))=true:=by simpa using c3
     obtain⟨v1,v2⟩:=hV rest (Nat.le_trans e2 hxt)
     rw[hne,if_pos rfl,LY n _ _ _ rfl v1 v2,if_pos c3]
     unfold tN
     by_cases c4:(jf n rest).2=0
     ·rw[if_pos c4,if_pos c4]
      exact⟨_,rfl,rfl,rfl,rfl,a+1,rfl,by omega,rfl,by omega⟩
     ·rw[if_neg c4,if_neg c4]
      exact⟨_,rfl,c4,rfl,rfl⟩
   obtain⟨p,p1,p2⟩:=hp
   rw[p1]
   simp only[Option.bind_some]
   rw[if_pos (decide_eq_true (by show(ks.length+1)*(16+1)<=140737488355328;omega)),if_pos (decide_eq_true (by show(acc.length+1)*(72+1)<=140737488355328;omega))]
   cases hr:kS n B ind x rest (l.drop (a+1)) with
   |inl e =>
    rw[hr] at p2
    obtain⟨h1,h2,h3⟩:=p2
    obtain⟨k',rfl⟩:∃k',k=k'+1:=⟨k-1,by omega⟩
    rw[GZ R n k' ind z _ p.2 (by rw[h2];exact h1)]
    exact⟨_,rfl,h1,h2,h3⟩
   |inr w =>
    obtain⟨v,r'⟩:=w
    have hsuf:=hkid v r' hr
    rw[hr] at p2
    obtain⟨h1,h2,h3,a',h4,h5,h6,h7⟩:=p2
    obtain⟨v',⟨l',at',no',e'⟩⟩:=p
    simp only at h1 h2 h3 h4 h6
    subst h1 h2 h4 h6
    have hlen:=hsuf.length_le
    rw[List.length_drop,List.length_drop] at hlen
    have hmu:=oN (x:=x) hsuf
    obtain⟨o,g1,g2⟩:=F7 R B M hB hG n hn hV hVR ind k l' a' no' z (ks++[key]) (acc++[v']) (by omega) (by omega) (hokr.suffix hsuf) (by omega) (by omega) (by simp;omega) (by simp;omega)
    exact⟨o,g1,by rw[h3] at g2;exact g2.mono h7⟩
  ·have hd:l.drop a=[]:=List.drop_eq_nil_of_le (by omega)
   simp only
   rw[hd,iM (by omega),if_neg (by decide)]
   unfold kB
   exact⟨_,rfl,rfl,rfl,rfl,a,rfl,ha,hd,Nat.le_refl _⟩
theorem LC(hV:∀n,400000<=n->Ag n)(hVR:∀(n:Nat)(s:BS),400000<=n->s.length<=10000->Red 10000 (jf n s).1):∀(n M:Nat),M+400000<=n->E5 (bX n) (iI n) M
 |0,_,h=>by omega
 |n+1,M,hn=>by
  intro l a no ha hl hok hM
  have hd:=drop_at ha
  generalize hx:l[a]=x at hd
  rw[hd] at hok hM ⊢
  have hxt:=hok.text
  have hll:=hok.1
  rw[List.length_cons,List.length_drop] at hll
  have hmux:mu (x::l.drop (a+1))=x.au.length+1+mu (l.drop (a+1)):=rfl
  have hlm:=LJ (l.drop (a+1))
  rw[List.length_drop] at hlm
  have hB:E5 (bX n) (iI n) (M-1):=LC hV hVR n (M-1) (by omega)
  have hG:∀ls,gB ls->mu ls<M-1->nP ls (iI n ls):=fun ls h1 h2=>uA hVR n ls h1 (by omega)
  obtain⟨e1,e2,e3,e4⟩:=yF n x.au hxt (by omega)
  show ∃p,dH (bX n) n (ak.mk l (a:Int) no 0)=some p/\_
  unfold dH
  simp only
  rw[if_pos (bU ha),cY ha,hx,K7 n x.au hxt (by omega)]
  simp only[Option.bind_some]
  unfold eU iI
  rw[Jd]
  by_cases c1:gZ x.au=true
  ·rw[if_pos c1,if_pos c1]
   obtain⟨o,g1,g2⟩:=KD _ _ (M-1) hB hG n x.aI n l a no (af.mk 0 [] [] []) [] (by omega) hl (by rw[hd];exact hok) (by rw[hd];omega) (by omega) (by simp;omega)
   unfold iV
   rw[g1]
   rw[hd] at g2
   refine⟨E8 o,?_,g2⟩
   cases o<;>rfl
  rw[if_neg c1,if_neg c1]
  by_cases c2:0<(fU n x.au).2.2
  ·rw[if_pos (decide_eq_true c2),if_pos c2]
   obtain⟨o,g1,g2⟩:=F7 _ _ (M-1) hB hG n (by omega) (hV n (by omega)) (fun s hs=>hVR n s (by omega) hs) x.aI n l a no (af.mk 0 [] [] []) [] [] (by omega) hl (by rw[hd];exact hok) (by rw[hd];omega) (by omega) (by simp;omega) (by simp;omega)
   unfold iy
   rw[g1]
   rw[hd] at g2
   refine⟨E8 o,?_,g2⟩
   cases o<;>rfl
  rw[if_neg (by simpa using c2),if_neg c2]
  by_cases c3:(fU n x.au).2.2<0
  ·rw[if_pos (decide_eq_true c3),if_pos c3,AP _ _ _ rfl]
   exact⟨_,rfl,show(3:Int)≠0 by decide,rfl,rfl⟩
  rw[if_neg (by simpa using c3),if_neg c3,aZ a (by omega)]
  obtain⟨v1,v2⟩:=hV n (by omega) x.au hxt
  rw[LY n _ _ _ rfl v1 v2]
  unfold tN
  by_cases c4:(jf n x.au).2=0
  ·rw[if_pos c4,if_pos c4]
   exact⟨_,rfl,rfl,rfl,rfl,a+1,rfl,by omega,rfl,by omega⟩
  ·rw[if_neg c4,if_neg c4]
   exact⟨_,rfl,c4,rfl,rfl⟩
theorem F5:∀s:BS,(10:UInt8)∉(rowOf s).1/\(s=(rowOf s).1++10::(rowOf s).2\/(s=(rowOf s).1/\(rowOf s).2=[]))
 |[]=>⟨by simp[rowOf,upto],.inr ⟨rfl,rfl⟩⟩
 |c::s=>by
  obtain⟨h1,h2⟩:=F5 s
  rw[rV]
  by_cases hc:c=10
  ·rw[if_pos hc];subst hc;exact⟨by simp,.inl rfl⟩
  ·rw[if_neg hc]
   refine⟨by simp only[List.mem_cons,not_or];exact⟨fun e=>hc e.symm,h1⟩,?_⟩
   rcases h2 with h2|⟨h2,h3⟩
   ·left;simp only[List.cons_append];rw[<-h2]
   ·right;simp only;rw[<-h2];exact⟨rfl,h3⟩
theorem DN:∀(a b:BS),(10:UInt8)∉a->rowOf (a++10::b)=(a,b)
 |[],b,_=>by rw[List.nil_append,rV,if_pos rfl]
 |c::a,b,h=>by
  simp only[List.mem_cons,not_or] at h
  rw[List.cons_append,rV,if_neg (fun e=>h.1 e.symm),DN a b h.2]
theorem QO{n:Nat}{no:Nat}{ls:List av}(h:Sp n [] no ls):ls=[]:=by
 cases h with
 |nil=>rfl
 |skip _ _ _ hs=>exact absurd rfl hs
 |line _ _ _ _ hs=>exact absurd rfl hs
theorem RG{n:Nat}(hn:20000<=n){s:BS}{no:Nat}{ls:List av}(h:Sp n s no ls):s.length<=10000->(∀x∈ls,B7 x)/\ls.length<=s.length/\mu ls<=s.length+1:=by
 induction h with
 |nil no=>exact fun _=>⟨fun x hx=>(by cases hx),Nat.le_refl _,by simp[mu]⟩
 |skip s no ls hs h hr ih =>
  intro hl
  obtain⟨g1,g2,g3⟩:=kZ s
  have g2:=g2 hs
  obtain⟨h1,h2,h3⟩:=ih (by omega)
  exact⟨h1,by omega,by omega⟩
 |line s no t ls hs ht h hb hr ih =>
  intro hl
  obtain⟨g1,g2,g3⟩:=kZ s
  have g2:=g2 hs
  obtain⟨h1,h2,h3⟩:=ih (by omega)
  have hil:=FT (rowOf s).1
  obtain⟨t',t1,_,t3⟩:=Bf n ((rowOf s).1.drop (ind (rowOf s).1)) hn (by rw[List.length_drop];omega)
  rw[h] at t1
  cases t1
  rw[List.length_drop] at t3
  have t3:t.length<=(rowOf s).1.length-ind (rowOf s).1:=t3
  refine⟨fun x hx=>?_,by rw[List.length_cons];omega,?_⟩
  ·rcases List.mem_cons.1 hx with rfl|hx
   ·exact⟨by simp only;omega,by simp only;omega⟩
   ·exact h1 x hx
  ·show t.length+1+mu ls<=_
   rcases(F5 s).2 with e|⟨e1,e2⟩
   ·have:=congrArg List.length e
    rw[List.length_append,List.length_cons] at this
    omega
   ·have hls:ls=[]:=by rw[e2] at hr;exact QO hr
    have:=congrArg List.length e1
    rw[hls]
    show t.length+1+0<=_
    omega
theorem gB.of{n:Nat}(hn:20000<=n){s:BS}{ls:List av}(h:Sp n s 0 ls)(hs:s.length<=10000):gB ls/\mu ls<=10001:=by
 obtain⟨h1,h2,h3⟩:=RG hn h hs
 exact⟨⟨by omega,h1⟩,by omega⟩
theorem vf(n:Nat)(s:BS):kG n s=iL n s:=by
 have hl:∀(k:Nat)(v:BS)(o:List av)(i:Int),jv n k v o i=dM n k v o i:=by
  intro k
  induction k with
  |zero=>intro v o i;rfl
  |succ k ih =>
   intro v o i
   rw[jv,dM]
   have hj:mr n v o i=jZ n v o i:=rfl
   rw[hj]
   congr 1
   ·congr 1
    funext o1
    cases o1 with
    |inl o1=>exact ih ..
    |inr o1=>rfl
 unfold kG iL
 rw[hl]
def pS(n:Nat)(ls:List Ln):Nd×Int×Int :=
 match iI n ls with
 |.inl e=>(Z8,e.1,e.2)
 |.inr (_,x::_)=>(Z8,x.eG,3)
 |.inr (v,[])=>bif (jK n v).getD false then(v,0,0) else(Z8,0,9)
theorem ME(hV:∀n,400000<=n->Ag n)(hVR:∀(n:Nat)(s:BS),400000<=n->s.length<=10000->Red 10000 (jf n s).1)(n:Nat)(s:BS)(ls:List Ln)(hn:500000<=n)(hs:iL n s=some (ls,0,0))(hne:ls≠[])(hok:gB ls)(hmu:mu ls<=10001):dL n s=some (pS n ls):=by
 have hlen:0<ls.length:=List.length_pos_iff.2 hne
 have hlm:=hok.1
 unfold dL
 rw[vf,hs]
 simp only[Option.bind_some]
 have e0:((List.length ls:Int)==0)=false:=by
  have:¬(List.length ls:Int)=0:=by omega
  simpa using this
 rw[if_neg (by decide),e0,if_neg Bool.false_ne_true]
 obtain⟨p,p1,p2⟩:=LC hV hVR n 20000 (by omega) ls 0 0 hlen (by omega) hok (by rw[List.drop_zero];omega)
 have p1:bX n (ak.mk ls 0 0 0)=some p:=p1
 rw[p1]
 simp only[Option.bind_some]
 rw[List.drop_zero] at p2
 unfold pS nI
 have hgood:=uA hVR n ls hok (by omega)
 obtain⟨v,⟨l',at',no',e'⟩⟩:=p
 cases hr:iI n ls with
 |inl e =>
  rw[hr] at p2
  obtain⟨h1,h2,h3⟩:=p2
  simp only at h2 h3 ⊢
  have e1:(e'==0)=false:=by rw[h2];simpa using h1
  have e2:(e' != 0)=true:=by rw[h2];simpa using h1
  rw[e1,cond_false,if_neg Bool.false_ne_true]
  simp only[Option.bind_some]
  rw[e2,if_pos rfl,h2,h3]
 |inr w =>
  obtain⟨w,rest⟩:=w
  rw[hr] at p2
  obtain⟨h1,h2,h3,a',h4,h5,h6,_⟩:=p2
  simp only at h1 h2 h3 h4 h5 h6 ⊢
  subst h1 h2 h4
  rw[show((0:Int)==0)=true from rfl,cond_true]
  cases rest with
  |nil =>
   have hle:l'.length<=a':=by
    have:=congrArg List.length h6
    rw[List.length_drop,List.length_nil] at this;omega
   rw[iM hle,if_neg Bool.false_ne_true]
   simp only[Option.bind_some]
   obtain⟨b,b1,_⟩:=od n v (((hgood v [] hr).1 12).1) (by omega)
   rw[if_neg (by decide),b1]
   cases b<;>rfl
  |cons x r =>
   have hlt:a'<l'.length:=by
    rcases Nat.lt_or_ge a' l'.length with h|h
    ·exact h
    ·rw[List.drop_eq_nil_of_le h] at h6;cases h6
   have hx:l'[a']=x:=by
    rw[drop_at hlt] at h6
    exact(List.cons.inj h6).1
   rw[gy hlt,if_pos rfl,if_pos (bU hlt),cY hlt,hx,AP _ _ _ rfl]
   rfl
theorem IP:Fit 12 Z8:=⟨Nat.zero_le _,Nat.zero_le _,fun _=>rfl,fun _=>rfl,fun h=>absurd h (by decide),fun _=>rfl,⟨by decide,by decide⟩,fun x hx=>(by cases hx)⟩
theorem NP(hVR:∀(n:Nat)(s:BS),400000<=n->s.length<=10000->Red 10000 (jf n s).1)(n:Nat)(ls:List Ln)(hn:500000<=n)(hok:gB ls)(hmu:mu ls<=10001):Fit 12 (pS n ls).1/\((pS n ls).2.2=0->sz8 12 (pS n ls).1<=2000/\Shk 10000 12 (pS n ls).1/\(pS n ls).2.1=0/\iI n ls=.inr ((pS n ls).1,[]))/\((pS n ls).2.2≠0->(pS n ls).1=Z8):=by
 have hgood:=uA hVR n ls hok (by omega)
 unfold pS
 cases hr:iI n ls with
 |inl e =>
  refine⟨IP,fun h=>?_,fun _=>rfl⟩
  have:∀(n:Nat)(ls:List Ln)(e:Int×Int),iI n ls=.inl e->e.2≠0:=zH
  exact(this n ls e hr h).elim
 |inr w =>
  obtain⟨v,rest⟩:=w
  cases rest with
  |cons x r=>exact⟨IP,fun h=>absurd h (show ¬(3:Int)=0 by decide),fun _=>rfl⟩
  |nil =>
   simp only
   obtain⟨b,b1,b2⟩:=od n v (((hgood v [] hr).1 12).1) (by omega)
   rw[b1,Option.getD_some]
   cases b with
   |false=>exact⟨IP,fun h=>absurd h (show ¬(9:Int)=0 by decide),fun _=>rfl⟩
   |true =>
    obtain⟨g1,g2⟩:=b2.1 rfl
    exact⟨g1,fun _=>⟨g2,((hgood v [] hr).1 12).2,rfl,rfl⟩,fun h=>(h rfl).elim⟩
theorem Lt:∀n,400000<=n->Ag n:=fun n hn s hs=>by
 obtain⟨x,e,ok,p1,_⟩:=vN n s false hs (by omega)
 obtain⟨y,f,q1,_⟩:=DC n s hs hn
 exact⟨⟨x,e,p1⟩,y,f,q1⟩
theorem F8(n:Nat)(s:BS)(hn:400000<=n)(hs:s.length<=10000):Red 10000 (jf n s).1:=by
 unfold jf
 cases s with
 |nil=>exact Red.null
 |cons c t =>
  simp only
  split
  ·obtain⟨y,f,q1,_,_,q4⟩:=DC n (c::t) hs hn
   rw[q1];exact q4.mono hs
  ·obtain⟨x,e,ok,p1,_,_,_,p5⟩:=vN n (c::t) false hs (by omega)
   rw[p1];exact p5.mono hs
end Go.Proofs.YtefojkdckfidcaaGreatDoor.M
