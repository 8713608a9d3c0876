import Derived.Test.YtefojkdckfidcaaGreatDoorQRxSeq
import Derived.Laws.StructEq
import Derived.Lib.Bytealg
import Derived.Scope
import Derived.Deep.Slices
import Derived.Carry
import Derived.ChangeOld
import Derived.OpenShut
import Derived.ProofKit
import Derived.HandedShaped
import Derived.Lay
import Derived.MakeChecks
import Derived.SevenTiedAt
set_option linter.all false
namespace Go.Proofs.YtefojkdckfidcaaGreatDoor.RX
open Go.RowKit
section
variable {P:Program} {F0:Fz} {w0:Pt P} {B:Env} {F:Fz} {w:World} {a:Act} {Q:Exit->Act->World->Prop} {Γ:Nat->Option TI} {nt:Nat} {ops:List Oper} {L0:ax} {orc:List (Nat×D)} {K:List (Nat×D)} {st:Nat->DS}
theorem kL(k:Nat)(c:List D):∀(T:List (Nat×Nat×Nat×List D)),fJ k c T=fJ k c (T.filter fun x=>x.2.1==k)
 |[]=>rfl
 |s::T=>by
  by_cases h:s.2.1=k
  ·rw[List.filter_cons_of_pos (by simpa using h)]
   simp only[fJ,h,if_true]
   rw[kL k c T]
  ·rw[List.filter_cons_of_neg (by simpa using h)]
   simp only[fJ,h,if_false]
   exact kL k c T
theorem nO{k:Nat}{c:List D}{T T':List (Nat×Nat×Nat×List D)}(h:(T.filter fun x=>x.2.1==k)=T'.filter fun x=>x.2.1==k):fJ k c T=fJ k c T':=by
 rw[kL k c T,kL k c T',h]
def mC(L0:ax)(A T:List (Nat×Nat×Nat×List D))(N:Option xN)(S:Nat->Bool):Mem:=fun k t ds =>
 (∃c0,(((k,t,c0)∈L0/\jy c0=false)\/∃i,S i=true/\(i,k,t,c0)∈A)/\ds=fJ k c0 (T.filter fun x=>S x.1)) \/
 ((k,t,ds)∈L0/\jy ds=true/\∀n,N=some n->n.old=some k->S n.i=false) \/
 (∃n,N=some n/\S n.i=true/\k=n.t/\t=n.e/\ds=[n.r])
theorem tW{s:DS}{k t:Nat}{ds:List D}(h:(k,t,ds)∈yV L0 s):∃c0,(((k,t,c0)∈L0/\jy c0=false)\/∃i,(i,k,t,c0)∈s.A)/\ds=fJ k c0 s.T:=by
 unfold yV at h
 obtain⟨x,hx,he⟩:=List.mem_map.1 h
 obtain⟨x1,x2,x3⟩:=x
 cases he
 refine⟨x3,?_,rfl⟩
 rcases List.mem_append.1 hx with h|h
 ·obtain⟨h1,h2⟩:=List.mem_filter.1 h
  exact .inl ⟨h1,by simpa using h2⟩
 ·obtain⟨y,hy,he⟩:=List.mem_map.1 h
  obtain⟨y1,y2,y3,y4⟩:=y
  cases he
  exact .inr ⟨y1,hy⟩
theorem Br{ds cs:List D}{off:Nat}(hd:ds.all D.flat=true)(hc:cs.all D.flat=true):(setCells ds off cs).all D.flat=true:=by
 unfold setCells
 simp only[List.all_append,Bool.and_eq_true]
 exact⟨⟨List.all_eq_true.2 fun x hx=>List.all_eq_true.1 hd x (List.mem_of_mem_take hx),hc⟩,List.all_eq_true.2 fun x hx=>List.all_eq_true.1 hd x (List.mem_of_mem_drop hx)⟩
theorem pK{k:Nat}{c:List D}(hc:c.all D.flat=true):∀{T:List (Nat×Nat×Nat×List D)},(∀x∈T,x.2.2.2.all D.flat=true)->(fJ k c T).all D.flat=true
 |[],_=>hc
 |s::T,h=>by
  unfold fJ
  split
  ·exact Br (pK hc fun x hx=>h x (List.mem_cons_of_mem _ hx)) (h s List.mem_cons_self)
  ·exact pK hc fun x hx=>h x (List.mem_cons_of_mem _ hx)
theorem BH{S:Nat->Bool}{i:Nat}(hcl:∀k o,S k=true->ops[k]? = some o->∀j∈onL o,S j=true){o:Oper}(ho:ops[i]? = some o)(hr:∀j∈onL o,S j=true):∀j∈kX ops i,S j=true:=by
 have key:∀(l:List Nat)(acc:List Nat),(∀j∈acc,S j=true)->∀j∈l.foldl (fun acc j=>if(i::acc).any fun m=>(match ops[m]? with|some o=>(onL o).contains j|none=>false) then j::acc else acc) acc,S j=true:=by
  intro l
  induction l with
  |nil=>intro acc h j hj;exact h j hj
  |cons q l ih =>
   intro acc h
   simp only[List.foldl_cons]
   refine ih _ ?_
   split
   ·rename_i hany
    intro j hj
    rcases List.mem_cons.1 hj with rfl|hj
    ·obtain⟨m,hm,hc⟩:=List.any_eq_true.1 hany
     rcases List.mem_cons.1 hm with rfl|hm
     ·rw[ho] at hc
      exact hr _ (by simpa using hc)
     ·cases hom:ops[m]? with
      |none=>rw[hom] at hc;cases hc
      |some om=>rw[hom] at hc;exact hcl m om (h m hm) hom _ (by simpa using hc)
    ·exact h j hj
   ·exact h
 exact key _ [] (by simp)
structure np{P:Program}(nt:Nat)(ops:List Oper)(L0:ax)(K:List (Nat×D))(sn:DS)(S:Nat->Bool)(F0:Fz)(w0:Pt P)(B:Env)(F:Fz)(a:Act)(w:World):Prop where
 base:Base F0 w0 B F (mC L0 sn.A sn.T sn.N S) w
 defers:a.defers=w0.defs
 size:a.tmps.size=nt
 old:∀x∈K,(∀k o,S k=true->ops[k]? = some o->o.dst≠some x.1)->∃v,a.tmps[x.1]? = some v/\Rep F w B x.2 v
 new:∀e∈sn.K,∀j,e.src=j+1->S j=true->iJ F w B sn.tab a e
 fresh:∀x∈sn.A,S x.1=false->B x.2.1=none/\∀y∈sn.T,y.2.1=x.2.1->S y.1=false
 GH:∀n,sn.N=some n->S n.i=false->B n.t=none
 closed:∀k o,S k=true->ops[k]? = some o->∀j∈onL o,S j=true
variable {S:Nat->Bool} {i:Nat} {o:Oper}
theorem np.kr(ht:Trace (CX P) Γ nt orc ops L0 K st)(hi:np nt ops L0 K (st ops.length) S F0 w0 B F a w)(ho:ops[i]? = some o)(hS:S i=false)(hr:∀j∈onL o,S j=true) :
  ∀e∈(st i).K.filter (dX ops i (onL o)),iJ F w B (st ops.length).tab a e:=by
 have hlt:i<ops.length:=(List.getElem?_eq_some_iff.1 ho).1
 intro e he
 obtain⟨hm,hok⟩:=List.mem_filter.1 he
 unfold dX at hok
 obtain⟨⟨K1,hK1,_⟩,_⟩:=ht.ext (Nat.le_of_lt hlt) (Nat.le_refl _)
 split at hok
 ·rename_i hsrc
  have hst:e∈(st 0).K:=by
   obtain⟨⟨K2,hK2,hK3⟩,_⟩:=ht.ext (Nat.zero_le i) (Nat.le_of_lt hlt)
   rw[hK2] at hm
   rcases List.mem_append.1 hm with h|h
   ·have:=hK3 e h;omega
   ·exact h
  rw[ht.zero] at hst
  obtain⟨x,hx,rfl⟩:=List.mem_map.1 hst
  have:=hi.old x hx (fun k o' hk ho' hd=>by
   have hz:(o',k)∈ops.zipIdx:=List.mem_zipIdx_iff_getElem?.2 ho'
   have h1:=List.all_eq_true.1 hok _ hz
   simp only[Bool.or_eq_true,beq_iff_eq,Bool.not_eq_true',hd,List.contains_iff_mem,beq_self_eq_true,Bool.false_eq_true,or_false] at h1
   rcases h1 with(h1|h1)|h1
   ·subst h1;rw[hS] at hk;cases hk
   ·cases h1
   ·have:=hi.closed k o' hk ho' i (by simpa using h1);rw[hS] at this;cases this)
  exact⟨fun _=>this,fun h=>by simp[holds] at h⟩
 ·rename_i hsrc
  have hmem:e∈(st ops.length).K:=by rw[hK1];exact List.mem_append_right _ hm
  exact hi.new e hmem (e.src-1) (by omega) (hr _ (by simpa using hok))
theorem Gw{Kr:List Ent}{tab:List (Nat×Bool)}(hE:∀e∈Kr,iJ F w B tab a e)(hD:∀e∈Kr,∀j,e.src=j+1->(ops[j]?).bind (·.dst)=some e.slot/\∀b,e.d=.val (.bool b)->tv tab j=b){g:Cnd}{gd:Option (Nat×Bool)}
  (h:iP ops Kr gd=some g) (ho:o.guard=gd):Region.wanted o (yielded ops.toArray a.tmps)=holds tab g:=by
 unfold iP at h
 split at h
 ·cases h
  simp[Region.wanted,ho,holds]
 ·rename_i j want
  split at h
  ·cases h
  ·rename_i t ht
   split at h
   ·cases h
   ·rename_i e he
    split at h
    ·rename_i hsrc
     obtain⟨hm,hslot⟩:=kE he
     obtain⟨hd1,hd2⟩:=hD e hm j hsrc
     split at h
     ·rename_i b hb
      cases h
      rw[ko]
      simp only[Region.wanted,ho]
      have hy:yielded ops.toArray a.tmps j=match a.tmps[t]? with|some (.bool b)=>some b|_=>none:=by
       unfold yielded
       simp only[List.getElem?_toArray,ht]
       rfl
      rw[hd2 b hb]
      cases hc:holds tab e.cnd with
      |true =>
       obtain⟨v,h1,h2⟩:=(hE e hm).1 hc
       rw[hb] at h2;cases h2
       rw[hy,<-hslot,h1]
       cases b<;>cases want<;>rfl
      |false =>
       have h1:=(hE e hm).2 hc
       rw[hy,<-hslot,h1]
       simp[undef]
     ·cases h
    ·cases h
def dm(S:Nat->Bool)(i:Nat):Nat->Bool:=fun k=>k==i||S k
theorem tM:∀{l:List Oper},nZ l=true->∀{j k:Nat}{x y:Oper}{t:Nat},l[j]? = some x->l[k]? = some y->x.dst=some t->y.dst=some t->j=k
 |[],_,j,k,x,y,t,hj,_,_,_=>by simp at hj
 |o::l,h,j,k,x,y,t,hj,hk,hx,hy=>by
  unfold nZ at h
  rw[Bool.and_eq_true] at h
  have key:∀(z:Oper)(m:Nat),l[m]? = some z->z.dst=some t->o.dst=some t->False:=by
   intro z m hm hz ho
   rw[ho] at h
   simp only at h
   have:=List.all_eq_true.1 h.1 z (List.mem_of_getElem? hm)
   rw[hz] at this;simp at this
  cases j with
  |zero =>
   cases k with
   |zero=>rfl
   |succ k =>
    simp only[List.getElem?_cons_zero,Option.some.injEq] at hj
    subst hj
    exact(key y k (by simpa using hk) hy hx).elim
  |succ j =>
   cases k with
   |zero =>
    simp only[List.getElem?_cons_zero,Option.some.injEq] at hk
    subst hk
    exact(key x j (by simpa using hj) hx hy).elim
   |succ k =>
    exact congrArg (·+1) (tM h.2 (by simpa using hj) (by simpa using hk) hx hy)
theorem Aq(ht:Trace (CX P) Γ nt orc ops L0 K st)(hi:np nt ops L0 K (st ops.length) S F0 w0 B F a w)(ho:ops[i]? = some o)(hS:S i=false)(hr:∀j∈onL o,S j=true){k:Nat}
  (hbx:pw (onL o) (st i) (some k)=true) (hlater:∀x∈(st ops.length).T,x.2.1=k->i<x.1->∃o',ops[x.1]? = some o'/\i∈onL o') (hnot:∀x∈(st ops.length).T,x.1≠i\/S i=false) :
  (((st ops.length).T.filter fun x=>S x.1).filter fun x=>x.2.1==k)=(st i).T.filter fun x=>x.2.1==k:=by
 have hlt:i<ops.length:=(List.getElem?_eq_some_iff.1 ho).1
 obtain⟨_,_,⟨T1,hT1,hT2⟩,_⟩:=ht.ext (Nat.le_of_lt hlt) (Nat.le_refl _)
 have hmem:∀x∈T1,x∈(st ops.length).T:=fun x hx=>by rw[hT1];exact List.mem_append_left _ hx
 rw[hT1,List.filter_append,List.filter_append]
 have h1:(T1.filter fun x=>S x.1).filter (fun x=>x.2.1==k)=[]:=by
  rw[List.filter_eq_nil_iff]
  intro x hx
  obtain⟨hx1,hx2⟩:=List.mem_filter.1 hx
  have hge:=hT2 x hx1
  intro hk
  have hk':x.2.1=k:=by simpa using hk
  by_cases he:x.1=i
  ·rw[he,hS] at hx2;cases hx2
  ·obtain⟨o',ho',hon⟩:=hlater x (hmem x hx1) hk' (by omega)
   have:=hi.closed x.1 o' hx2 ho' i hon
   rw[hS] at this;cases this
 rw[h1,List.nil_append,List.filter_filter]
 apply List.filter_congr
 intro x hx
 cases hk:x.2.1==k with
 |false=>simp
 |true =>
  simp only[Bool.true_and]
  have h2:=List.all_eq_true.1 hbx x hx
  rw[hk] at h2
  exact hr _ (by simpa using h2)
theorem Reads.jU{get:Operand->Option D}{op:Op}{k:Nat}(h:Reads get op k):RX.jU get op=some k:=by
 obtain⟨t,x,off,h1,h2⟩:=h
 rcases h1 with rfl|⟨y,rfl⟩<;>simp[RX.jU,h2]
theorem np.put(ht:Trace (CX P) Γ nt orc ops L0 K st)(hd:nZ ops=true)(hi:np nt ops L0 K (st ops.length) S F0 w0 B F a w)(ho:ops[i]? = some o)(hr:∀j∈onL o,S j=true)
  {B':Env} {F':Fz} {w':World} (hB:∀k b,B k=some b->B' k=some b) (hg:Grow F F' w w') (hb:Base F0 w0 B' F' (mC L0 (st ops.length).A (st ops.length).T (st ops.length).N (dm S i)) w')
  (hfresh:∀x∈(st ops.length).A,dm S i x.1=false->B' x.2.1=none/\∀y∈(st ops.length).T,y.2.1=x.2.1->dm S i y.1=false) (hfN:∀n,(st ops.length).N=some n->dm S i n.i=false->B' n.t=none)
  {v:Value} (hv:∀t,o.dst=some t->t<nt/\∀e∈(st ops.length).K,e.src=i+1->(holds (st ops.length).tab e.cnd=true->Rep F' w' B' e.d v)/\(holds (st ops.length).tab e.cnd=false->v=undef)) :
  np nt ops L0 K (st ops.length) (dm S i) F0 w0 B' F' (a.put o.dst v) w':=by
 have hgood:=ht.good ops.length (Nat.le_refl _)
 have hS:∀k,dm S i k=true↔k=i\/S k=true:=by intro k;simp[dm]
 refine⟨hb,by rw[put_defers];exact hi.defers,by rw[CM];exact hi.size,fun x hx hnd=>?_,fun e he j hj hSj=>?_,hfresh,hfN,fun k o' hk ho' j hj=>?_⟩
 ·obtain⟨u,h1,h2⟩:=hi.old x hx fun k o' hk ho'=>hnd k o' ((hS k).2 (.inr hk)) ho'
  refine⟨u,?_,(h2.rE hB).grow hg⟩
  cases hdd:o.dst with
  |none=>exact h1
  |some t=>rw[Be (fun e=>hnd i o ((hS i).2 (.inl rfl)) ho (by rw[hdd,e]))];exact h1
 ·obtain⟨hds,_⟩:=hgood.lJ e he j hj
  by_cases hji:j=i
  ·subst hji
   rw[ho] at hds
   simp only[Option.bind] at hds
   obtain⟨hnt,hvv⟩:=hv _ hds
   obtain⟨h1,h2⟩:=hvv e he hj
   rw[hds]
   have hsz:e.slot<a.tmps.size:=by rw[hi.size];exact hnt
   exact⟨fun hh=>⟨v,uA hsz,h1 hh⟩,fun hh=>by rw[uA hsz,h2 hh]⟩
  ·have hSj':S j=true:=by rcases(hS j).1 hSj with h|h<;>first|exact absurd h hji|exact h
   have h0:=hi.new e he j hj hSj'
   have h1:iJ F' w' B' (st ops.length).tab a e:=⟨fun hh=>let ⟨u,h2,h3⟩:=h0.1 hh;⟨u,h2,(h3.rE hB).grow hg⟩,h0.2⟩
   cases hdd:o.dst with
   |none=>exact h1
   |some t =>
    refine h1.put fun e'=>hji ?_
    cases hoj:ops[j]? with
    |none=>rw[hoj] at hds;cases hds
    |some oj =>
     rw[hoj] at hds
     exact tM hd hoj ho hds (by rw[hdd,e'])
 ·rcases(hS k).1 hk with rfl|hk
  ·rw[ho] at ho';cases ho'
   exact(hS j).2 (.inr (hr j hj))
  ·exact(hS j).2 (.inr (hi.closed k o' hk ho' j hj))
theorem nT(ht:Trace (CX P) Γ nt orc ops L0 K st)(hlt:i<ops.length){e0:Ent}(h1:(st (i+1)).K=e0::(st i).K):∀e∈(st ops.length).K,e.src=i+1->e=e0:=by
 intro e he hs
 obtain⟨⟨K1,hK1,hK2⟩,_⟩:=ht.ext (show i+1<=ops.length by omega) (Nat.le_refl _)
 rw[hK1] at he
 rcases List.mem_append.1 he with h|h
 ·have:=hK2 e h;omega
 ·rw[h1] at h
  rcases List.mem_cons.1 h with h|h
  ·exact h
  ·have:=(ht.good i (by omega)).srcs e h;omega
theorem xO(ht:Trace (CX P) Γ nt orc ops L0 K st)(hlt:i<ops.length){x}(hx:x∈(st ops.length).A)(h:x.1=i):x∈(st (i+1)).A/\x∉(st i).A:=by
 obtain⟨_,⟨A1,hA1,hA2⟩,_⟩:=ht.ext (show i+1<=ops.length by omega) (Nat.le_refl _)
 rw[hA1] at hx
 refine⟨?_,fun h2=>?_⟩
 ·rcases List.mem_append.1 hx with h1|h1
  ·have:=hA2 x h1;omega
  ·exact h1
 ·have:=(ht.good i (by omega)).A x h2;omega
theorem EP(ht:Trace (CX P) Γ nt orc ops L0 K st)(hlt:i<ops.length){x}(hx:x∈(st ops.length).T)(h:x.1=i):x∈(st (i+1)).T/\x∉(st i).T:=by
 obtain⟨_,_,⟨T1,hT1,hT2⟩,_⟩:=ht.ext (show i+1<=ops.length by omega) (Nat.le_refl _)
 rw[hT1] at hx
 refine⟨?_,fun h2=>?_⟩
 ·rcases List.mem_append.1 hx with h1|h1
  ·have:=hT2 x h1;omega
  ·exact h1
 ·have:=(ht.good i (by omega)).T x h2;omega
theorem xU(ht:Trace (CX P) Γ nt orc ops L0 K st){n:xN}(hn:(st ops.length).N=some n):n.i<ops.length/\(st (n.i+1)).N=some n/\(st n.i).N=none:=by
 have hlt:=(ht.good ops.length (Nat.le_refl _)).N n hn
 have h1:(st (n.i+1)).N=some n:=by
  rcases(ht.ext (show n.i+1<=ops.length by omega) (Nat.le_refl _)).N.2 n hn with h|⟨_,h⟩
  ·exact h
  ·omega
 refine⟨hlt,h1,?_⟩
 cases hm:(st n.i).N with
 |none=>rfl
 |some m =>
  have:=(ht.ext (Nat.le_succ n.i) (by omega)).N.1 m hm
  rw[h1] at this;cases this
  have:=(ht.good n.i (by omega)).N n hm
  omega
theorem Aw(hA:∀x∈(st ops.length).A,x.1≠i)(hT:∀x∈(st ops.length).T,x.1≠i)(hN:∀n,(st ops.length).N=some n->n.i≠i):∀k t ds,mC L0 (st ops.length).A (st ops.length).T (st ops.length).N (dm S i) k t ds->mC L0 (st ops.length).A (st ops.length).T (st ops.length).N S k t ds:=by
 rintro k t ds (⟨c0,h,rfl⟩|⟨h1,h2,h3⟩|⟨n,h1,h2,h3⟩)
 ·refine .inl ⟨c0,h.imp id fun⟨j,hj,hm⟩=>⟨j,?_,hm⟩,?_⟩
  ·congr 1
   apply List.filter_congr
   intro x hx
   have:=hT x hx
   simp[dm,this]
  ·have:=hA _ hm
   simp only at this
   simpa[dm,this] using hj
 ·refine .inr (.inl ⟨h1,h2,fun n hn hk=>?_⟩)
  have:=h3 n hn hk
  simp[dm] at this
  exact this.2
 ·refine .inr (.inr ⟨n,h1,?_,h3⟩)
  have:=hN n h1
  simpa[dm,this] using h2
theorem pq(hi:np nt ops L0 K (st ops.length) S F0 w0 B F a w):∀n,(st ops.length).N=some n->dm S i n.i=false->B n.t=none:=by
 intro n hn hs
 simp[dm] at hs
 exact hi.GH n hn hs.2
theorem zn(hi:np nt ops L0 K (st ops.length) S F0 w0 B F a w)(hT:∀x∈(st ops.length).T,x.1≠i):∀x∈(st ops.length).A,dm S i x.1=false->B x.2.1=none/\∀y∈(st ops.length).T,y.2.1=x.2.1->dm S i y.1=false:=by
 intro x hx hs
 have hs':S x.1=false:=by simp[dm] at hs;exact hs.2
 obtain⟨h1,h2⟩:=hi.fresh x hx hs'
 refine⟨h1,fun y hy hk=>?_⟩
 have:=hT y hy
 simp[dm,this,h2 y hy hk]
theorem wH{i:Nat}(ht:Trace (CX P) Γ nt orc ops L0 K st)(hlt:i<ops.length)(h:(st (i+1)).T=(st i).T):∀x∈(st ops.length).T,x.1≠i:=fun x hx he=>by
 obtain⟨h1,h2⟩:=EP ht hlt hx he
 rw[h] at h1;exact h2 h1
theorem BK{i:Nat}(ht:Trace (CX P) Γ nt orc ops L0 K st)(h:(st (i+1)).N=(st i).N):∀n,(st ops.length).N=some n->n.i≠i:=fun n hn he=>by
 obtain⟨_,h1,h2⟩:=xU ht hn
 subst he
 rw[h,h2] at h1;cases h1
theorem keepA{i:Nat}(ht:Trace (CX P) Γ nt orc ops L0 K st)(hlt:i<ops.length)(h:(st (i+1)).A=(st i).A):∀x∈(st ops.length).A,x.1≠i:=fun x hx he=>by
 obtain⟨h1,h2⟩:=xO ht hlt hx he
 rw[h] at h1;exact h2 h1
theorem qM(ht:Trace (CX P) Γ nt orc ops L0 K st)(hlt:i<ops.length){k:Nat}(hin:(i,k)∈(st (i+1)).R\/∃off cs,(i,k,off,cs)∈(st (i+1)).T) :
  ∀x∈(st ops.length).T,x.2.1=k->i<x.1->∃o',ops[x.1]? = some o'/\i∈onL o':=by
 intro x hx hk hlt'
 have hxl:x.1<ops.length:=(ht.good ops.length (Nat.le_refl _)).T x hx
 have ho':=List.getElem?_eq_getElem hxl
 refine⟨_,ho',?_⟩
 obtain⟨g,hg,hs⟩:=ht.inv ho'
 obtain⟨hx1,hx2⟩:=EP ht hxl hx rfl
 obtain⟨_,_,⟨T1,hT1,_⟩,⟨R1,hR1,_⟩,_⟩:=ht.ext (show i+1<=x.1 by omega) (Nat.le_of_lt hxl)
 cases hs with
 |store k' off cells hg hd hfl hR hbk he hbx hs =>
  rw[hs] at hx1
  rcases List.mem_cons.1 hx1 with h|h
  ·have hkk:k'=k:=by rw[h] at hk;exact hk
   subst hkk
   rcases hin with hin|⟨off',cs',hin⟩
   ·have:=List.all_eq_true.1 hR (i,k') (by rw[hR1];exact List.mem_append_right _ hin)
    simpa using this
   ·
    rw[hbk] at hbx
    have:=List.all_eq_true.1 hbx (i,k',off',cs') (by rw[hT1];exact List.mem_append_right _ hin)
    simpa using this
  ·exact absurd h hx2
 |pick c a b t tc e bc ba bb hop hd hc he hle hsrc ht hec hea heb hs=>rw[hs] at hx1;exact absurd hx1 hx2
 |val d cs t hd ht he hbx hs=>rw[hs] at hx1;exact absurd hx1 hx2
 |call f args r t hd ht hr hna he hbx hs=>rw[hs] at hx1;exact absurd hx1 hx2
 |box ty cells t hg hd ht hfl hK hL hA he hbx hs=>rw[hs] at hx1;exact absurd hx1 hx2
 |fresh e m spec cs r t hd ht he hbx hs=>rw[hs] at hx1;exact absurd hx1 hx2
 |known spec r t hd ht he hbx hs=>rw[hs] at hx1;exact absurd hx1 hx2
 |app e m k spec cs d enc l t hg hd ht hNn hQ hK hL hA he hbx hs=>rw[hs] at hx1;exact absurd hx1 hx2
theorem GN(ht:Trace (CX P) Γ nt orc ops L0 K st):∀x∈(st ops.length).T,x.2.2.2.all D.flat=true:=by
 intro x hx
 have hxl:x.1<ops.length:=(ht.good ops.length (Nat.le_refl _)).T x hx
 obtain⟨g,hg,hs⟩:=ht.inv (List.getElem?_eq_getElem hxl)
 obtain⟨hx1,hx2⟩:=EP ht hxl hx rfl
 cases hs with
 |store k' off cells hg hd hfl hR hbk he hbx hs =>
  rw[hs] at hx1
  rcases List.mem_cons.1 hx1 with h|h
  ·rw[h];exact hfl
  ·exact absurd h hx2
 |pick c a b t tc e bc ba bb hop hd hc he hle hsrc ht hec hea heb hs=>rw[hs] at hx1;exact absurd hx1 hx2
 |val d cs t hd ht he hbx hs=>rw[hs] at hx1;exact absurd hx1 hx2
 |call f args r t hd ht hr hna he hbx hs=>rw[hs] at hx1;exact absurd hx1 hx2
 |box ty cells t hg hd ht hfl hK hL hA he hbx hs=>rw[hs] at hx1;exact absurd hx1 hx2
 |fresh e m spec cs r t hd ht he hbx hs=>rw[hs] at hx1;exact absurd hx1 hx2
 |known spec r t hd ht he hbx hs=>rw[hs] at hx1;exact absurd hx1 hx2
 |app e m k spec cs d enc l t hg hd ht hNn hQ hK hL hA he hbx hs=>rw[hs] at hx1;exact absurd hx1 hx2
theorem Ii(ht:Trace (CX P) Γ nt orc ops L0 K st):∀x∈(st ops.length).A,x.2.2.2.all D.flat=true:=by
 intro x hx
 have hxl:x.1<ops.length:=(ht.good ops.length (Nat.le_refl _)).A x hx
 obtain⟨g,hg,hs⟩:=ht.inv (List.getElem?_eq_getElem hxl)
 obtain⟨hx1,hx2⟩:=xO ht hxl hx rfl
 cases hs with
 |box ty cells t hg hd ht hfl hK hL hA he hbx hs =>
  rw[hs] at hx1
  rcases List.mem_cons.1 hx1 with h|h
  ·rw[h];exact hfl
  ·exact absurd h hx2
 |store k' off cells hg hd hfl hR hbk he hbx hs=>rw[hs] at hx1;exact absurd hx1 hx2
 |pick c a b t tc e bc ba bb hop hd hc he hle hsrc ht hec hea heb hs=>rw[hs] at hx1;exact absurd hx1 hx2
 |val d cs t hd ht he hbx hs=>rw[hs] at hx1;exact absurd hx1 hx2
 |call f args r t hd ht hr hna he hbx hs=>rw[hs] at hx1;exact absurd hx1 hx2
 |fresh e m spec cs r t hd ht he hbx hs=>rw[hs] at hx1;exact absurd hx1 hx2
 |known spec r t hd ht he hbx hs=>rw[hs] at hx1;exact absurd hx1 hx2
 |app e m k spec cs d enc l t hg hd ht hNn hQ hK hL hA he hbx hs=>rw[hs] at hx1;exact absurd hx1 hx2
theorem LY(ht:Trace (CX P) Γ nt orc ops L0 K st){n:xN}(hn:(st ops.length).N=some n){k:Nat}(hk:n.old=some k):((st n.i).Q.all fun x=>!(x.2==k)||(kX ops n.i).contains x.1)=true:=by
 obtain⟨hlt,h1,h2⟩:=xU ht hn
 obtain⟨g,hg,hs⟩:=ht.inv (List.getElem?_eq_getElem hlt)
 cases hs with
 |app e m k' spec cs d enc l t hg hd ht hNn hQ hK hL hA he hbx hs =>
  rw[hs] at h1
  have h1:=Option.some.inj h1
  rw[<-h1] at hk
  cases hk
  exact hQ
 |box ty cells t hg hd ht hfl hK hL hA he hbx hs=>rw[hs] at h1;simp only at h1;rw[h2] at h1;cases h1
 |store k' off cells hg hd hfl hR hbk he hbx hs=>rw[hs] at h1;simp only at h1;rw[h2] at h1;cases h1
 |pick c a b t tc e bc ba bb hop hd hc he hle hsrc ht hec hea heb hs=>rw[hs] at h1;simp only at h1;rw[h2] at h1;cases h1
 |val d cs t hd ht he hbx hs=>rw[hs] at h1;simp only at h1;rw[h2] at h1;cases h1
 |call f args r t hd ht hr hna he hbx hs=>rw[hs] at h1;simp only at h1;rw[h2] at h1;cases h1
 |fresh e m spec cs r t hd ht he hbx hs=>rw[hs] at h1;simp only at h1;rw[h2] at h1;cases h1
 |known spec r t hd ht he hbx hs=>rw[hs] at h1;simp only at h1;rw[h2] at h1;cases h1
theorem zA(ht:Trace (CX P) Γ nt orc ops L0 K st)(hi:np nt ops L0 K (st ops.length) S F0 w0 B F a w)(ho:ops[i]? = some o)(hS:S i=false)(hr:∀j∈onL o,S j=true){ks:List Nat}(hks:∀k∈ks,(i,k)∈(st (i+1)).Q){k t:Nat}{ds:List D}
  (h:(k,t,ds)∈E3 L0 (st i) ks (kX ops i)):mC L0 (st ops.length).A (st ops.length).T (st ops.length).N S k t ds:=by
 have hlt:i<ops.length:=(List.getElem?_eq_some_iff.1 ho).1
 unfold E3 at h
 rcases List.mem_append.1 h with h|h
 ·obtain⟨h1,h2⟩:=List.mem_filter.1 h
  simp only[Bool.and_eq_true,Bool.not_eq_true',List.contains_iff_mem] at h2
  obtain⟨⟨h2,h3⟩,h4⟩:=h2
  refine .inr (.inl ⟨h1,h2,fun n hn hk=>?_⟩)
  cases hSn:S n.i with
  |false=>rfl
  |true =>
   exfalso
   rcases(ht.ext (Nat.le_of_lt hlt) (Nat.le_refl _)).N.2 n hn with h5|⟨h5,h6⟩
   ·rw[h5] at h3;simp[taken,hk] at h3
   ·have hne:n.i≠i:=fun e=>by rw[e,hS] at hSn;cases hSn
    have hq:=LY ht hn hk
    have h7:(i,k)∈(st n.i).Q:=by
     obtain⟨hl,_,_⟩:=xU ht hn
     exact(ht.ext (show i+1<=n.i by omega) (Nat.le_of_lt hl)).Q _ (hks k h4)
    have h8:=List.all_eq_true.1 hq _ h7
    simp only[beq_self_eq_true,Bool.not_true,Bool.false_or,List.contains_iff_mem] at h8
    obtain⟨hl,_,_⟩:=xU ht hn
    have h9:=BH hi.closed (List.getElem?_eq_getElem hl) (hi.closed n.i _ hSn (List.getElem?_eq_getElem hl)) i h8
    rw[hS] at h9;cases h9
 ·split at h
  ·rename_i n hn
   split at h
   ·rename_i hc
    simp only[Bool.and_eq_true,List.contains_iff_mem] at hc
    rw[List.mem_singleton] at h
    cases h
    exact .inr (.inr ⟨n,(ht.ext (Nat.le_of_lt hlt) (Nat.le_refl _)).N.1 n hn,BH hi.closed ho hr _ hc.2,rfl,rfl,rfl⟩)
   ·simp at h
  ·simp at h
theorem yN(ht:Trace (CX P) Γ nt orc ops L0 K st)(hlt:i<=ops.length)(hfl:(L0.all fun x=>jy x.2.2||x.2.2.all D.flat)=true){k t:Nat}{ds:List D}(h:(k,t,ds)∈yV L0 (st i)):ds.all D.flat=true:=by
 obtain⟨c0,hc,rfl⟩:=tW h
 obtain⟨_,⟨A1,hA1,_⟩,⟨T1,hT1,_⟩,_⟩:=ht.ext hlt (Nat.le_refl _)
 refine pK ?_ fun x hx=>GN ht x (by rw[hT1];exact List.mem_append_right _ hx)
 rcases hc with⟨hc,hr⟩|⟨j,hj⟩
 ·have:=List.all_eq_true.1 hfl _ hc
  simpa[hr] using this
 ·exact Ii ht _ (by rw[hA1];exact List.mem_append_right _ hj)
theorem K4(ht:Trace (CX P) Γ nt orc ops L0 K st){x y}(hx:x∈(st ops.length).A)(hy:y∈(st ops.length).A)(h:x.2.1=y.2.1):x.1=y.1:=by
 have key:∀{x y:Nat×Nat×Nat×List D},x∈(st ops.length).A->y∈(st ops.length).A->x.2.1=y.2.1->x.1<y.1->False:=by
  intro x y hx hy h hlt
  have hyl:y.1<ops.length:=(ht.good ops.length (Nat.le_refl _)).A y hy
  obtain⟨hy1,hy2⟩:=xO ht hyl hy rfl
  obtain⟨g,hg,hs⟩:=ht.inv (List.getElem?_eq_getElem hyl)
  have hxi:x∈(st y.1).A:=by
   obtain⟨_,⟨A1,hA1,hA2⟩,_⟩:=ht.ext (Nat.le_of_lt hyl) (Nat.le_refl _)
   rw[hA1] at hx
   rcases List.mem_append.1 hx with h|h
   ·have:=hA2 x h;omega
   ·exact h
  cases hs with
  |box ty cells t hg0 hdt htn hfl hK0 hL0 hA0 he hbx hs =>
   rw[hs] at hy1
   rcases List.mem_cons.1 hy1 with h1|h1
   ·have:=List.all_eq_true.1 hA0 x hxi
    rw[h,h1] at this
    simp at this
   ·exact absurd h1 hy2
  |pick c a b t tc e bc ba bb hop hd hc he hle hsrc ht hec hea heb hs=>rw[hs] at hy1;exact absurd hy1 hy2
  |val d cs t hd ht he hbx hs=>rw[hs] at hy1;exact absurd hy1 hy2
  |call f args r t hd ht hr hna he hbx hs=>rw[hs] at hy1;exact absurd hy1 hy2
  |store k off cells hg hd hfl hR hbk he hbx hs=>rw[hs] at hy1;exact absurd hy1 hy2
  |fresh e m spec cs r t hd ht he hbx hs=>rw[hs] at hy1;exact absurd hy1 hy2
  |known spec r t hd ht he hbx hs=>rw[hs] at hy1;exact absurd hy1 hy2
  |app e m k spec cs d enc l t hg hd ht hNn hQ hK hL hA he hbx hs=>rw[hs] at hy1;exact absurd hy1 hy2
 rcases Nat.lt_trichotomy x.1 y.1 with h1|h1|h1
 ·exact(key hx hy h h1).elim
 ·exact h1
 ·exact(key hy hx h.symm h1).elim
mutual
theorem Rep.mH{F:Fz}{w:World}{B:Env}{t:Nat}(ht:B t=none):∀{d v},Rep F w B d v->D.names t d=false
 |_,_,.val v hv=>rfl
 |_,_,.str l=>rfl
 |_,_,.own i off b h=>by
  simp only[D.names,beq_eq_false_iff_ne];intro e;subst e;rw[ht] at h;cases h
 |_,_,.opt i b v h hv=>by
  simp only[D.names,beq_eq_false_iff_ne];intro e;subst e;rw[ht] at h;cases h
 |_,_,.aY j p n cap h=>by
  simp only[D.names,beq_eq_false_iff_ne];intro e;subst e;rw[ht] at h;cases h
 |_,_,.mp j b h=>by
  simp only[D.names,beq_eq_false_iff_ne];intro e;subst e;rw[ht] at h;cases h
 |_,_,.agg ds vs h=>aA.mH ht h
 |_,_,.tup ds vs h=>aA.mH ht h
 |_,_,.bW d enc p=>rfl
 |_,_,.recs d enc l gb off cap size vs hz h1 h2 h3 hc=>rfl
 |_,_,.el ds vs gb off h h2=>rfl
 |_,_,.fn f ds vs h=>aA.mH ht h
 |_,_,.row j p n cap h=>by
  simp only[D.names,beq_eq_false_iff_ne];intro e;subst e;rw[ht] at h;cases h
 |_,_,.dn j q h=>by
  simp only[D.names,beq_eq_false_iff_ne];intro e;subst e;rw[ht] at h;cases h
 |_,_,.elm j n z off b nn cap h=>by
  simp only[D.names,beq_eq_false_iff_ne];intro e;subst e;rw[ht] at h;cases h
 |_,_,.tree d pre kids l v h=>rfl
 |_,_,.arr d enc l vs hg h=>rfl
 |_,_,.hole v hv=>rfl
theorem aA.mH{F:Fz}{w:World}{B:Env}{t:Nat}(ht:B t=none):∀{ds vs},aA F w B ds vs->D.bu t ds=false
 |_,_,.nil=>rfl
 |_,_,.cons d v ds vs h hs=>by
  simp only[D.bu,Bool.or_eq_false_iff]
  exact⟨Rep.mH ht h,aA.mH ht hs⟩
end
theorem iF.mH{k t u:Nat}{ds:List D}(h:iF F w B k t ds)(hu:B u=none):k≠u/\D.bu u ds=false:=by
 cases h with
 |box _ b vs hB hr hfl hh hnf=>exact⟨(fun e=>by subst e;rw[hu] at hB;cases hB),hr.mH hu⟩
 |row m d enc l p n cap hB h=>exact⟨(fun e=>by subst e;rw[hu] at hB;cases hB),rfl⟩
 |map kk ag d enc l b hB h=>exact⟨(fun e=>by subst e;rw[hu] at hB;cases hB),rfl⟩
 |obj b o S hB=>exact⟨(fun e=>by subst e;rw[hu] at hB;cases hB),rfl⟩
theorem Js(ht:Trace (CX P) Γ nt orc ops L0 K st){n:xN}(hn:(st ops.length).N=some n):(ops[n.i]?).bind (·.dst)=some n.t/\(∀y∈K,D.names n.t y.2=false)/\(∀y∈L0,y.1≠n.t/\D.bu n.t y.2.2=false):=by
 obtain⟨hlt,h1,h2⟩:=xU ht hn
 obtain⟨g,hg,hs⟩:=ht.inv (List.getElem?_eq_getElem hlt)
 cases hs with
 |app e m k' spec cs d enc l t hg hd htn hNn hQ hK hL hA he hbx hs =>
  rw[hs] at h1
  have h1:=Option.some.inj h1
  have hnt:n.t=t:=by rw[<-h1]
  rw[hnt]
  refine⟨by rw[List.getElem?_eq_getElem hlt];exact hd,fun y hy=>?_,fun y hy=>?_⟩
  ·obtain⟨⟨K1,hK1,_⟩,_⟩:=ht.ext (Nat.zero_le n.i) (Nat.le_of_lt hlt)
   have hm:(⟨y.1,0,[],y.2⟩:Ent)∈(st n.i).K:=by
    rw[hK1,ht.zero]
    exact List.mem_append_right _ (List.mem_map.2 ⟨y,hy,rfl⟩)
   have:=List.all_eq_true.1 hK _ hm
   simpa using this
  ·have:=List.all_eq_true.1 hL y hy
   simpa using this
 |box ty cells t hg hd ht hfl hK hL hA he hbx hs=>rw[hs] at h1;simp only at h1;rw[h2] at h1;cases h1
 |store k' off cells hg hd hfl hR hbk he hbx hs=>rw[hs] at h1;simp only at h1;rw[h2] at h1;cases h1
 |pick c a b t tc e bc ba bb hop hd hc he hle hsrc ht hec hea heb hs=>rw[hs] at h1;simp only at h1;rw[h2] at h1;cases h1
 |val d cs t hd ht he hbx hs=>rw[hs] at h1;simp only at h1;rw[h2] at h1;cases h1
 |call f args r t hd ht hr hna he hbx hs=>rw[hs] at h1;simp only at h1;rw[h2] at h1;cases h1
 |fresh e m spec cs r t hd ht he hbx hs=>rw[hs] at h1;simp only at h1;rw[h2] at h1;cases h1
 |known spec r t hd ht he hbx hs=>rw[hs] at h1;simp only at h1;rw[h2] at h1;cases h1
theorem L8(ht:Trace (CX P) Γ nt orc ops L0 K st){x:Nat×Nat×Nat×List D}(hx:x∈(st ops.length).A):(ops[x.1]?).bind (·.dst)=some x.2.1:=by
 have hxl:x.1<ops.length:=(ht.good ops.length (Nat.le_refl _)).A x hx
 obtain⟨g,hg,hs⟩:=ht.inv (List.getElem?_eq_getElem hxl)
 obtain⟨hx1,hx2⟩:=xO ht hxl hx rfl
 cases hs with
 |box ty cells t hg hd ht hfl hK hL hA he hbx hs =>
  rw[hs] at hx1
  rcases List.mem_cons.1 hx1 with h|h
  ·rw[List.getElem?_eq_getElem hxl]
   have:x.2.1=t:=by rw[h]
   rw[this];exact hd
  ·exact absurd h hx2
 |store k' off cells hg hd hfl hR hbk he hbx hs=>rw[hs] at hx1;exact absurd hx1 hx2
 |pick c a b t tc e bc ba bb hop hd hc he hle hsrc ht hec hea heb hs=>rw[hs] at hx1;exact absurd hx1 hx2
 |val d cs t hd ht he hbx hs=>rw[hs] at hx1;exact absurd hx1 hx2
 |call f args r t hd ht hr hna he hbx hs=>rw[hs] at hx1;exact absurd hx1 hx2
 |fresh e m spec cs r t hd ht he hbx hs=>rw[hs] at hx1;exact absurd hx1 hx2
 |known spec r t hd ht he hbx hs=>rw[hs] at hx1;exact absurd hx1 hx2
 |app e m k spec cs d enc l t hg hd ht hNn hQ hK hL hA he hbx hs=>rw[hs] at hx1;exact absurd hx1 hx2
theorem dst_at(hd:nZ ops=true){i j t:Nat}(hi:(ops[i]?).bind (·.dst)=some t)(hj:(ops[j]?).bind (·.dst)=some t):i=j:=by
 cases hi':ops[i]? with
 |none=>rw[hi'] at hi;cases hi
 |some x =>
  cases hj':ops[j]? with
  |none=>rw[hj'] at hj;cases hj
  |some y =>
   rw[hi'] at hi;rw[hj'] at hj
   exact tM hd hi' hj' hi hj
theorem Lc(ht:Trace (CX P) Γ nt orc ops L0 K st){n:xN}(hn:(st ops.length).N=some n):∃(m:Bool)(α:Type)(d:α)(enc:α->List D)(l:List α),n.r=.aO m d enc l:=by
 obtain⟨hlt,h1,h2⟩:=xU ht hn
 obtain⟨g,hg,hs⟩:=ht.inv (List.getElem?_eq_getElem hlt)
 cases hs with
 |app e m k' spec cs d enc l t hg hd htn hNn hQ hK hL hA he hbx hs =>
  rw[hs] at h1
  have h1:=Option.some.inj h1
  rw[<-h1]
  exact⟨m,_,d,enc,l,rfl⟩
 |box ty cells t hg hd ht hfl hK hL hA he hbx hs=>rw[hs] at h1;simp only at h1;rw[h2] at h1;cases h1
 |store k' off cells hg hd hfl hR hbk he hbx hs=>rw[hs] at h1;simp only at h1;rw[h2] at h1;cases h1
 |pick c a b t tc e bc ba bb hop hd hc he hle hsrc ht hec hea heb hs=>rw[hs] at h1;simp only at h1;rw[h2] at h1;cases h1
 |val d cs t hd ht he hbx hs=>rw[hs] at h1;simp only at h1;rw[h2] at h1;cases h1
 |call f args r t hd ht hr hna he hbx hs=>rw[hs] at h1;simp only at h1;rw[h2] at h1;cases h1
 |fresh e m spec cs r t hd ht he hbx hs=>rw[hs] at h1;simp only at h1;rw[h2] at h1;cases h1
 |known spec r t hd ht he hbx hs=>rw[hs] at h1;simp only at h1;rw[h2] at h1;cases h1
theorem Ij(hΓ:ΓOK P Γ)(hd:nZ ops=true)(hfl0:(L0.all fun x=>jy x.2.2||x.2.2.all D.flat)=true)(ht:Trace (CX P) Γ nt orc ops L0 K st)(hobl:∀p∈(st ops.length).obl,p)(hi:np nt ops L0 K (st ops.length) S F0 w0 B F a w)(ho:ops[i]? = some o)(hS:S i=false)(hr:∀j∈onL o,S j=true)
  {R:Act->World->Prop} (hR:∀B' F' a' w',np nt ops L0 K (st ops.length) (dm S i) F0 w0 B' F' a' w'->R a' w'):wpOp P ops.toArray Q i R a w:=by
 have hlt:i<ops.length:=(List.getElem?_eq_some_iff.1 ho).1
 obtain⟨g,hg,hs⟩:=ht.inv ho
 have hE:=hi.kr ht ho hS hr
 have hext:=ht.ext (Nat.le_of_lt hlt) (Nat.le_refl ops.length)
 have hgi:=ht.good i (Nat.le_of_lt hlt)
 have hD:∀e∈(st i).K.filter (dX ops i (onL o)),∀j,e.src=j+1->(ops[j]?).bind (·.dst)=some e.slot/\∀b,e.d=.val (.bool b)->tv (st ops.length).tab j=b:=by
  intro e he j hj
  have hm:=(List.mem_filter.1 he).1
  obtain⟨h1,h2⟩:=hgi.lJ e hm j hj
  have:=hgi.srcs e hm
  exact⟨h1,fun b hb=>by rw[hext.tab j (by omega)];exact h2 b hb⟩
 have hgk:=yX hg (fun e he=>hgi.keys e (List.mem_filter.1 he).1) (fun e he=>hgi.srcs e (List.mem_filter.1 he).1)
 have hhold:holds (st ops.length).tab g=holds (st i).tab g:=pF fun x hx=>hext.tab _ (hgk x hx)
 have hw:=Gw hE hD hg rfl
 unfold wpOp
 rw[List.getElem?_toArray,ho]
 simp only
 rw[hw]
 have hskip:∀(e0:Ent)(t:Nat),o.dst=some t->t<nt->(st (i+1)).K=e0::(st i).K->e0.cnd=g->(st (i+1)).T=(st i).T->(st (i+1)).A=(st i).A->(st (i+1)).N=(st i).N->holds (st ops.length).tab g=false->R (a.put o.dst undef) w:=by
  intro e0 t hdt htn hK he0 hT hA hN hh
  refine hR B F _ _ (hi.put ht hd ho hr (fun _ _ h=>h) (Grow.refl _ _) (hi.base.sub (Aw (keepA ht hlt hA) (wH ht hlt hT) (BK ht hN))) (zn hi (wH ht hlt hT)) (pq hi) fun t' ht'=>⟨by rw[hdt] at ht';cases ht';exact htn,fun e he hsrc=>?_⟩)
  have:=nT ht hlt hK e he hsrc
  subst this
  exact⟨fun h=>by rw[he0,hh] at h;(cases h),fun _=>rfl⟩
 have hnew:∀(e0:Ent)(t:Nat)(v:Value)(F':Fz)(w':World),o.dst=some t->t<nt->(st (i+1)).K=e0::(st i).K->e0.cnd=g->(st (i+1)).T=(st i).T->(st (i+1)).A=(st i).A->(st (i+1)).N=(st i).N->holds (st ops.length).tab g=true->Grow F F' w w'->Base F0 w0 B F' (mC L0 (st ops.length).A (st ops.length).T (st ops.length).N S) w'->Rep F' w' B e0.d v->R (a.put o.dst v) w':=by
  intro e0 t v F' w' hdt htn hK he0 hT hA hN hh hgr hb hv
  refine hR B F' _ _ (hi.put ht hd ho hr (fun _ _ h=>h) hgr (hb.sub (Aw (keepA ht hlt hA) (wH ht hlt hT) (BK ht hN))) (zn hi (wH ht hlt hT)) (pq hi) fun t' ht'=>⟨by rw[hdt] at ht';cases ht';exact htn,fun e he hsrc=>?_⟩)
  have:=nT ht hlt hK e he hsrc
  subst this
  exact⟨fun _=>hv,fun h=>by rw[he0,hh] at h;(cases h)⟩
 have hrows:(∀k∈keysOf (getOp ((st i).K.filter (dX ops i (onL o))) g) o.op,(i,k)∈(st (i+1)).Q)->RowsIn (mC L0 (st ops.length).A (st ops.length).T (st ops.length).N S) (viewAt L0 (st i) (keysOf (getOp ((st i).K.filter (dX ops i (onL o))) g) o.op) (kX ops i)):=by
  intro hks k t m α d enc l hl
  rcases List.mem_append.1 (aB hl) with h|h
  ·have:=yN ht (Nat.le_of_lt hlt) hfl0 h
   simp[D.flat] at this
  ·exact zA ht hi ho hS hr hks h
 have hview:pw (onL o) (st i) (jU (getOp ((st i).K.filter (dX ops i (onL o))) g) o.op)=true->holds (st ops.length).tab g=true->(∀k∈keysOf (getOp ((st i).K.filter (dX ops i (onL o))) g) o.op,(i,k)∈(st (i+1)).Q) ->
   ((∀k,jU (getOp ((st i).K.filter (dX ops i (onL o))) g) o.op=some k->(i,k)∈(st (i+1)).R\/∃off cs,(i,k,off,cs)∈(st (i+1)).T)) ->
   ∀k t ds,Reads (getOp ((st i).K.filter (dX ops i (onL o))) g) o.op k->(viewAt L0 (st i) (keysOf (getOp ((st i).K.filter (dX ops i (onL o))) g) o.op) (kX ops i)).lookup k=some (t,ds)->mC L0 (st ops.length).A (st ops.length).T (st ops.length).N S k t ds:=by
  intro hbx hh hks hin k t ds hrd hl
  have hbo:=hrd.jU
  rw[hbo] at hbx
  rcases List.mem_append.1 (aB hl) with h|h
  ·obtain⟨c0,hc,rfl⟩:=tW h
   refine .inl ⟨c0,hc.imp id fun⟨j,hj⟩=>?_,?_⟩
   ·exact nO (Aq ht hi ho hS hr hbx (qM ht hlt (hin k hbo)) (fun _ _=>.inr hS)).symm
   ·obtain⟨_,⟨A1,hA1,_⟩,_⟩:=hext
    have hjn:(j,k,t,c0)∈(st ops.length).A:=by rw[hA1];exact List.mem_append_right _ hj
    refine⟨j,?_,hjn⟩
    cases hSj:S j with
    |true=>rfl
    |false =>
     obtain⟨hnone,_⟩:=hi.fresh _ hjn hSj
     obtain⟨ty,x,off,_,hx⟩:=hrd
     have:=bH hE hh x _ hx
     generalize a.eval x=vx at this
     cases this with
     |own _ _ b hB=>rw[hnone] at hB;cases hB
  ·exact zA ht hi ho hS hr hks h
 cases hs with
 |pick c x y t tc e bc ba bb hop hdt hc he hle hsrc htn hec hea heb hs =>
  have hK:(st (i+1)).K=⟨t,i+1,g,.val (.bool (bif bc then ba else bb))⟩::(st i).K:=by rw[hs]
  cases hh:holds (st ops.length).tab g with
  |false=>simp only[Bool.false_eq_true,if_false];exact hskip _ t hdt htn hK rfl (by rw[hs]) (by rw[hs]) (by rw[hs]) hh
  |true =>
   simp only[if_true]
   obtain⟨hm,hslot⟩:=kE he
   have htv:=(hD e hm (e.src-1) (by omega)).2 bc hec
   obtain⟨v,hv1,hv2⟩:=(hE e hm).1 (ym hle hh)
   rw[hec] at hv2;cases hv2
   have hval:∀b',bc=b'->∀(z:Operand)(bz:Bool),getOp ((st i).K.filter (dX ops i (onL o))) ((e.src-1,b')::g) z=some (.val (.bool bz))->a.eval z=.bool bz:=by
    intro b' hb' z bz hz
    have hh':holds (st ops.length).tab ((e.src-1,b')::g)=true:=by
     rw[ko,hh,htv,hb'];simp
    have:=bH hE hh' z _ hz
    generalize a.eval z=vz at this
    cases this;rfl
   have hrun:(execOp a.eval o).run P w=.ok (.value (.bool (bif bc then ba else bb))) w:=by
    unfold execOp
    rw[hslot] at hv1
    simp only[hop,hc,nc hv1,asBool,Sem.run_bind,Sem.run_pure,Result.andThen_ok]
    cases hbc:bc with
    |true=>rw[hval true hbc x ba hea];rfl
    |false=>rw[hval false hbc y bb heb];rfl
   left
   unfold Oper.wp
   rw[hrun]
   exact hnew _ t _ F w hdt htn hK rfl (by rw[hs]) (by rw[hs]) (by rw[hs]) hh (Grow.refl _ _) hi.base (.val _ rfl)
 |val d cs t hdt htn he hbx hs =>
  have hK:(st (i+1)).K=⟨t,i+1,g,d⟩::(st i).K:=by rw[hs]
  cases hh:holds (st ops.length).tab g with
  |false=>simp only[Bool.false_eq_true,if_false];exact hskip _ t hdt htn hK rfl (by rw[hs]) (by rw[hs]) (by rw[hs]) hh
  |true =>
   simp only[if_true]
   left
   have hcs:∀c∈cs,c=true:=by
    refine tV (tab:=(st i).tab) (g:=g) (obl:=(st i).obl) (fun p hp=>?_) (by rw[<-hhold];exact hh)
    have he1:=(ht.ext (show i+1<=ops.length by omega) (Nat.le_refl _)).obl p
    refine hobl p (he1 ?_)
    rw[hs];exact hp
   have hks:∀k∈keysOf (getOp ((st i).K.filter (dX ops i (onL o))) g) o.op,(i,k)∈(st (i+1)).Q:=fun k hk=>by rw[hs];exact List.mem_append_left _ (List.mem_map.2 ⟨k,hk,rfl⟩)
   refine Gu (bp hΓ hi.base (hrows hks) (bH hE hh) (hview hbx hh hks fun k hk=>.inl ?_) he hcs) fun v hv=>hnew _ t v F w hdt htn hK rfl (by rw[hs]) (by rw[hs]) (by rw[hs]) hh (Grow.refl _ _) hi.base hv
   rw[hs];simp only[hk];exact List.mem_cons_self
 |call f args r t hdt htn hor hna he hbx hs =>
  have hK:(st (i+1)).K=⟨t,i+1,g,r⟩::(st i).K:=by rw[hs]
  cases hh:holds (st ops.length).tab g with
  |false=>simp only[Bool.false_eq_true,if_false];exact hskip _ t hdt htn hK rfl (by rw[hs]) (by rw[hs]) (by rw[hs]) hh
  |true =>
   simp only[if_true]
   left
   have hc:CX P f args r:=by
    have he1:=(ht.ext (show i+1<=ops.length by omega) (Nat.le_refl _)).obl (holds (st i).tab g=true->CX P f args r) (by rw[hs];simp)
    exact hobl _ he1 (by rw[<-hhold];exact hh)
   have hnr:∀k,¬Reads (getOp ((st i).K.filter (dX ops i (onL o))) g) o.op k:=by
    intro k hk
    obtain⟨ty,x,off,h1,h2⟩:=hk
    rcases h1 with h1|⟨y,h1⟩
    ·rw[h1] at he;simp only[fV,evX,jV] at he
     repeat' (first|(cases he;done)|(simp only[Option.map] at he)|split at he)
    ·rw[h1] at he;simp only[fV,evX,jV] at he
     repeat' (first|(cases he;done)|(simp only[Option.map] at he)|split at he)
   have hks:∀k∈keysOf (getOp ((st i).K.filter (dX ops i (onL o))) g) o.op,(i,k)∈(st (i+1)).Q:=fun k hk=>by rw[hs];exact List.mem_append_left _ (List.mem_map.2 ⟨k,hk,rfl⟩)
   exact zu (bp hΓ hi.base (hrows hks) (bH hE hh) (fun k _ _ hk _=>absurd hk (hnr k)) he (by simp)) hi.base hna hc fun v w' F' h1 h2 h3=>hnew _ t v F' w' hdt htn hK rfl (by rw[hs]) (by rw[hs]) (by rw[hs]) hh h2 h1 h3
 |known spec r t hdt htn he hbx hs =>
  have hK:(st (i+1)).K=⟨t,i+1,g,r⟩::(st i).K:=by rw[hs]
  cases hh:holds (st ops.length).tab g with
  |false=>simp only[Bool.false_eq_true,if_false];exact hskip _ t hdt htn hK rfl (by rw[hs]) (by rw[hs]) (by rw[hs]) hh
  |true =>
   simp only[if_true]
   left
   have hc:spec r:=by
    have he1:=(ht.ext (show i+1<=ops.length by omega) (Nat.le_refl _)).obl (holds (st i).tab g=true->spec r) (by rw[hs];simp)
    exact hobl _ he1 (by rw[<-hhold];exact hh)
   have hnr:∀k,¬Reads (getOp ((st i).K.filter (dX ops i (onL o))) g) o.op k:=by
    intro k hk
    obtain⟨ty,x,off,h1,h2⟩:=hk
    rcases h1 with h1|⟨y,h1⟩
    ·rw[h1] at he;simp only[fV,evX,jV] at he
     repeat' (first|(cases he;done)|(simp only[Option.map] at he)|split at he)
    ·rw[h1] at he;simp only[fV,evX,jV] at he
     repeat' (first|(cases he;done)|(simp only[Option.map] at he)|split at he)
   have hks:∀k∈keysOf (getOp ((st i).K.filter (dX ops i (onL o))) g) o.op,(i,k)∈(st (i+1)).Q:=fun k hk=>by rw[hs];exact List.mem_append_left _ (List.mem_map.2 ⟨k,hk,rfl⟩)
   exact B9 (bp hΓ hi.base (hrows hks) (bH hE hh) (fun k _ _ hk _=>absurd hk (hnr k)) he (by simp)) hc fun v h3=>hnew _ t v F w hdt htn hK rfl (by rw[hs]) (by rw[hs]) (by rw[hs]) hh (Grow.refl _ _) hi.base h3
 |fresh e m spec cs r t hdt htn he hbx hs =>
  have hK:(st (i+1)).K=⟨t,i+1,g,r⟩::(st i).K:=by rw[hs]
  cases hh:holds (st ops.length).tab g with
  |false=>simp only[Bool.false_eq_true,if_false];exact hskip _ t hdt htn hK rfl (by rw[hs]) (by rw[hs]) (by rw[hs]) hh
  |true =>
   simp only[if_true]
   left
   have hc:spec r/\aQ r:=by
    have he1:=(ht.ext (show i+1<=ops.length by omega) (Nat.le_refl _)).obl (holds (st i).tab g=true->spec r/\aQ r) (by rw[hs];simp)
    exact hobl _ he1 (by rw[<-hhold];exact hh)
   have hcs:∀c∈cs,c=true:=by
    refine tV (tab:=(st i).tab) (g:=g) (obl:=(st i).obl) (fun p hp=>?_) (by rw[<-hhold];exact hh)
    have he1:=(ht.ext (show i+1<=ops.length by omega) (Nat.le_refl _)).obl p
    refine hobl p (he1 ?_)
    rw[hs];exact List.mem_append_left _ hp
   have hnr:∀k,¬Reads (getOp ((st i).K.filter (dX ops i (onL o))) g) o.op k:=by
    intro k hk
    obtain⟨ty,x,off,h1,h2⟩:=hk
    rcases h1 with h1|⟨y,h1⟩
    ·rw[h1] at he;simp only[fV,evX,jV] at he
     repeat' (first|(cases he;done)|(simp only[Option.map] at he)|split at he)
    ·rw[h1] at he;simp only[fV,evX,jV] at he
     repeat' (first|(cases he;done)|(simp only[Option.map] at he)|split at he)
   have hks:∀k∈keysOf (getOp ((st i).K.filter (dX ops i (onL o))) g) o.op,(i,k)∈(st (i+1)).Q:=fun k hk=>by rw[hs];exact List.mem_append_left _ (List.mem_map.2 ⟨k,hk,rfl⟩)
   exact I8 (bp hΓ hi.base (hrows hks) (bH hE hh) (fun k _ _ hk _=>absurd hk (hnr k)) he hcs) hi.base hc.1 hc.2 fun v w' F' h1 h2 h3=>hnew _ t v F' w' hdt htn hK rfl (by rw[hs]) (by rw[hs]) (by rw[hs]) hh h2 h1 h3
 |app e m k spec cs d enc l t hg0 hdt htn hN0 hQ0 hK0 hL0 hA0 he hbx hs =>
  subst hg0
  have hh:holds (st ops.length).tab []=true:=rfl
  simp only[hh,if_true]
  left
  have hK:(st (i+1)).K=⟨t,i+1,[],.row t⟩::(st i).K:=by rw[hs]
  have hA:(st (i+1)).A=(st i).A:=by rw[hs]
  have hT:(st (i+1)).T=(st i).T:=by rw[hs]
  have hTn:=wH ht hlt hT
  have hAn:=keepA ht hlt hA
  have hNf:(st ops.length).N=some ⟨i,some k,t,e,.aO m d enc l⟩:=(ht.ext (show i+1<=ops.length by omega) (Nat.le_refl _)).N.1 _ (by rw[hs])
  have hnone:B t=none:=hi.GH _ hNf hS
  have hc:spec (.recs d enc l)/\aQ (.recs d enc l):=by
   refine hobl _ ((ht.ext (show i+1<=ops.length by omega) (Nat.le_refl _)).obl _ ?_)
   rw[hs];exact List.mem_append_right _ (List.mem_singleton.2 rfl)
  have hcs:∀c∈cs,c=true:=by
   refine tV (tab:=(st i).tab) (g:=[]) (obl:=(st i).obl) (fun p hp=>?_) rfl
   have he1:=(ht.ext (show i+1<=ops.length by omega) (Nat.le_refl _)).obl p
   refine hobl p (he1 ?_)
   rw[hs];exact List.mem_append_left _ hp
  have hnr:∀k,¬Reads (getOp ((st i).K.filter (dX ops i (onL o))) []) o.op k:=by
   intro k hk
   obtain⟨ty,x,off,h1,h2⟩:=hk
   rcases h1 with h1|⟨y,h1⟩
   ·rw[h1] at he;simp only[fV,evX,jV] at he
    repeat' (first|(cases he;done)|(simp only[Option.map] at he)|split at he)
   ·rw[h1] at he;simp only[fV,evX,jV] at he
    repeat' (first|(cases he;done)|(simp only[Option.map] at he)|split at he)
  have hks:∀k∈keysOf (getOp ((st i).K.filter (dX ops i (onL o))) []) o.op,(i,k)∈(st (i+1)).Q:=fun k hk=>by rw[hs];exact List.mem_append_left _ (List.mem_map.2 ⟨k,hk,rfl⟩)
  have hext':∀r k b,B k=some b->setB B t r k=some b:=by
   intro r k b hk
   by_cases hkt:k=t
   ·subst hkt;rw[hnone] at hk;cases hk
   ·rw[br _ _ _ _ hkt];exact hk
  have hold:∃(tt:Nat)(α:Type)(d:α)(enc:α->List D)(l:List α),mC L0 (st ops.length).A (st ops.length).T (st ops.length).N S k tt [.aO m d enc l]:=by
   obtain⟨tt,α',d',enc',l',hm⟩:=EC he rfl
   rcases List.mem_append.1 hm with h|h
   ·have:=yN ht (Nat.le_of_lt hlt) hfl0 h
    simp[D.flat] at this
   ·exact⟨tt,α',d',enc',l',zA ht hi ho hS hr hks h⟩
  refine B7 (bp hΓ hi.base (hrows hks) (bH hE hh) (fun k _ _ hk _=>absurd hk (hnr k)) he hcs) hi.base hc.1 hc.2 (t:=t) (ht:=htn.2) (M':=fun k' t' ds=>mC L0 (st ops.length).A (st ops.length).T (st ops.length).N S k' t' ds/\k'≠k)
   (fun k' hk'=>by cases hk';exact hold) (fun k' t' ds hm=>?_) fun v w' F' r h1 h2 h3=>?_
  ·have:=(hi.base.boxes _ _ _ hm.1).mH hnone
   exact⟨hm.1,this.1,fun e=>hm.2 (Option.some.inj e),this.2⟩
  refine hR _ F' _ _ (hi.put ht hd ho hr (hext' r) h2 (h1.sub ?_) ?_ ?_ fun t' ht'=>⟨by rw[hdt] at ht';cases ht';exact htn.1,fun e he hsrc=>?_⟩)
  ·have hTT:((st ops.length).T.filter fun x=>dm S i x.1)=(st ops.length).T.filter fun x=>S x.1:=by
    apply List.filter_congr
    intro x hx
    have:=hTn x hx
    simp[dm,this]
   rintro k' t' ds (⟨c0,h,rfl⟩|⟨h4,h5,h6⟩|⟨n,h4,h5,h6,h7,h8⟩)
   ·rw[hTT]
    have hm:mC L0 (st ops.length).A (st ops.length).T (st ops.length).N S k' t' (fJ k' c0 ((st ops.length).T.filter fun x=>S x.1)):=by
     refine .inl ⟨c0,h.imp id fun⟨j,hj,hm⟩=>⟨j,?_,hm⟩,rfl⟩
     have:=hAn _ hm
     simp only at this
     simpa[dm,this] using hj
    refine .inr ⟨hm,fun hkk=>?_⟩
    subst hkk
    obtain⟨tt,α',d',enc',l',hm2⟩:=hold
    obtain⟨p,n,cap,hB,_⟩:=hi.base.i7 hm2
    have hflat:(fJ k' c0 ((st ops.length).T.filter fun x=>S x.1)).all D.flat=true:=by
     refine pK ?_ fun x hx=>GN ht x (List.mem_filter.1 hx).1
     rcases h with⟨h,hrc⟩|⟨j,_,h⟩
     ·have:=List.all_eq_true.1 hfl0 _ h
      simpa[hrc] using this
     ·exact Ii ht _ h
    have hheld:=hi.base.boxes _ _ _ hm
    generalize fJ k' c0 ((st ops.length).T.filter fun x=>S x.1)=ds at hheld hflat
    cases hheld with
    |box _ b vs hB' hr hfl hh hnf=>rw[hB] at hB';cases hB'
    |row m d enc l p n cap hB' h=>simp[D.flat] at hflat
    |map kk ag d enc l b hB' h=>simp[D.flat] at hflat
    |obj b o S hB'=>simp[D.flat] at hflat
   ·refine .inr ⟨.inr (.inl ⟨h4,h5,fun n hn hk'=>?_⟩),fun hkk=>?_⟩
    ·rw[hNf] at hn;cases hn;exact hS
    ·subst hkk
     have:=h6 _ hNf rfl
     simp[dm] at this
   ·rw[hNf] at h4;cases h4
    exact .inl ⟨h6,h7,h8⟩
  ·intro x hx hsx
   have hx1:x.1≠i/\S x.1=false:=by simp[dm] at hsx;exact hsx
   obtain⟨h4,h5⟩:=hi.fresh x hx hx1.2
   refine⟨?_,fun y hy hk=>?_⟩
   ·rw[br _ _ _ _ fun e=>hx1.1 (dst_at hd (L8 ht hx) (by rw[ho,e];exact hdt))];exact h4
   ·have:=hTn y hy
    simp[dm,this,h5 y hy hk]
  ·intro n hn hsn
   rw[hNf] at hn;cases hn
   simp[dm] at hsn
  ·have:=nT ht hlt hK e he hsrc
   subst this
   exact⟨fun _=>h3,fun h=>by cases h⟩
 |box ty cells t hg0 hdt htn hfl hK0 hL0 hA0 he hbx hs =>
  subst hg0
  have hh:holds (st ops.length).tab []=true:=rfl
  simp only[hh,if_true]
  left
  have hK:(st (i+1)).K=⟨t,i+1,[],.own t 0⟩::(st i).K:=by rw[hs]
  have hA:(st (i+1)).A=(i,t,ty,cells)::(st i).A:=by rw[hs]
  have hT:(st (i+1)).T=(st i).T:=by rw[hs]
  have hTn:=wH ht hlt hT
  have hin:(i,t,ty,cells)∈(st ops.length).A:=by
   obtain⟨_,⟨A1,hA1,_⟩,_⟩:=ht.ext (show i+1<=ops.length by omega) (Nat.le_refl _)
   rw[hA1,hA];exact List.mem_append_right _ List.mem_cons_self
  obtain⟨hnone,hnost⟩:=hi.fresh _ hin hS
  have hB':=br B t (.box w.heap.size)
  have hext':∀k b,B k=some b->setB B t (.box w.heap.size) k=some b:=by
   intro k b hk
   by_cases hkt:k=t
   ·subst hkt;rw[hnone] at hk;cases hk
   ·rw[hB' k hkt];exact hk
  have hnr:∀k,¬Reads (getOp ((st i).K.filter (dX ops i (onL o))) []) o.op k:=by
   intro k hk
   obtain⟨ty',x,off,h1,h2⟩:=hk
   rcases h1 with h1|⟨y,h1⟩
   ·rw[h1] at he;simp only[fV,evX,jV] at he
    repeat' (first|(cases he;done)|(simp only[Option.map] at he)|split at he)
   ·rw[h1] at he;simp only[fV,evX,jV] at he
    repeat' (first|(cases he;done)|(simp only[Option.map] at he)|split at he)
  have hks:∀k∈keysOf (getOp ((st i).K.filter (dX ops i (onL o))) []) o.op,(i,k)∈(st (i+1)).Q:=fun k hk=>by rw[hs];exact List.mem_append_left _ (List.mem_map.2 ⟨k,hk,rfl⟩)
  have hNn:=BK ht (i:=i) (by rw[hs])
  have hkey:∀k t' ds,mC L0 (st ops.length).A (st ops.length).T (st ops.length).N S k t' ds->k≠t:=fun k t' ds hm=>((hi.base.boxes _ _ _ hm).mH hnone).1
  refine G6 (bp hΓ hi.base (hrows hks) (bH hE hh) (fun k _ _ hk _=>absurd hk (hnr k)) he (by simp)) hi.base hfl (dY B t (.box w.heap.size)) (fun k hk=>br _ _ _ _ (by have:=htn.2;unfold LIM at hk;omega)) (M':=mC L0 (st ops.length).A (st ops.length).T (st ops.length).N S)
   (fun F w vs hr=>hr.rE hext') (fun k t' ds hm=>⟨hm,hkey k t' ds hm,hB' k (hkey k t' ds hm),fun F w vs hr=>hr.rE hext'⟩) fun w' h1 h2=>?_
  refine hR _ F _ _ (hi.put ht hd ho hr hext' h2 (h1.sub ?_) ?_ ?_ fun t' ht'=>⟨by rw[hdt] at ht';cases ht';exact htn.1,fun e he hsrc=>?_⟩)
  ·have hTT:((st ops.length).T.filter fun x=>dm S i x.1)=(st ops.length).T.filter fun x=>S x.1:=by
    apply List.filter_congr
    intro x hx
    have:=hTn x hx
    simp[dm,this]
   rintro k t' ds (⟨c0,h,rfl⟩|⟨h4,h5,h6⟩|⟨n,h4,h5,h6⟩)
   ·rw[hTT]
    rcases h with h|⟨j,hj,h⟩
    ·exact .inr (.inl ⟨c0,.inl h,rfl⟩)
    ·by_cases hji:j=i
     ·subst hji
      obtain⟨h3,h4⟩:=xO ht hlt h rfl
      rw[hA] at h3
      rcases List.mem_cons.1 h3 with h3|h3
      ·cases h3
       refine .inl ⟨rfl,rfl,?_⟩
       rw[kL]
       have:(((st ops.length).T.filter fun x=>S x.1).filter fun x=>x.2.1==t)=[]:=by
        rw[List.filter_eq_nil_iff]
        intro x hx
        obtain⟨hx1,hx2⟩:=List.mem_filter.1 hx
        intro hk
        have:=hnost x hx1 (by simpa using hk)
        rw[this] at hx2;cases hx2
       rw[this];rfl
      ·exact absurd h3 h4
     ·exact .inr (.inl ⟨c0,.inr ⟨j,by simpa[dm,hji] using hj,h⟩,rfl⟩)
   ·refine .inr (.inr (.inl ⟨h4,h5,fun n hn hk=>?_⟩))
    have:=h6 n hn hk
    simp[dm] at this
    exact this.2
   ·refine .inr (.inr (.inr ⟨n,h4,?_,h6⟩))
    have:=hNn n h4
    simpa[dm,this] using h5
  ·intro x hx hsx
   have hx1:x.1≠i/\S x.1=false:=by simp[dm] at hsx;exact hsx
   obtain⟨h3,h4⟩:=hi.fresh x hx hx1.2
   refine⟨?_,fun y hy hk=>?_⟩
   ·rw[hB' _ (fun e=>hx1.1 (K4 ht hx hin e))];exact h3
   ·have:=hTn y hy
    simp[dm,this,h4 y hy hk]
  ·intro n hn hsn
   rw[hB' _ (fun e=>hNn n hn (dst_at hd (Js ht hn).1 (by rw[ho,e];exact hdt)))]
   exact pq hi n hn hsn
  ·have:=nT ht hlt hK e he hsrc
   subst this
   exact⟨fun _=>.own _ _ _ (dY _ _ _),fun h=>by cases h⟩
 |store k off cells hg0 hdt hfl hR0 hbk he hbx hs =>
  subst hg0
  have hh:holds (st ops.length).tab []=true:=rfl
  simp only[hh,if_true]
  left
  have hK:(st (i+1)).K=(st i).K:=by rw[hs]
  have hA:(st (i+1)).A=(st i).A:=by rw[hs]
  have hT:(st (i+1)).T=(i,k,off,cells)::(st i).T:=by rw[hs]
  have hAn:=keepA ht hlt hA
  have hNn:=BK ht (i:=i) (by rw[hs])
  have hks:∀k∈keysOf (getOp ((st i).K.filter (dX ops i (onL o))) []) o.op,(i,k)∈(st (i+1)).Q:=fun k hk=>by rw[hs];exact List.mem_append_left _ (List.mem_map.2 ⟨k,hk,rfl⟩)
  have hin:(i,k,off,cells)∈(st (i+1)).T:=by rw[hT];exact List.mem_cons_self
  have hat:∀x∈(st ops.length).T,x.1=i->x=(i,k,off,cells):=by
   intro x hx he'
   obtain⟨h3,h4⟩:=EP ht hlt hx he'
   rw[hT] at h3
   exact(List.mem_cons.1 h3).resolve_right h4
  have hstores:=Aq ht hi ho hS hr (by rw[hbk] at hbx;exact hbx) (qM ht hlt (.inr ⟨_,_,hin⟩)) (fun _ _=>.inr hS)
  refine Cj (bp hΓ hi.base (hrows hks) (bH hE hh) (hview hbx hh hks fun k' hk'=>by rw[hbk] at hk';cases hk';exact .inr ⟨_,_,hin⟩) he (by simp)) hi.base hfl fun w' h1 h2=>?_
  refine hR B F _ _ (hi.put ht hd ho hr (fun _ _ h=>h) h2 (h1.sub ?_) ?_ (pq hi) fun t' ht'=>by rw[hdt] at ht';cases ht')
  ·rintro k' t' ds (⟨c0,h,rfl⟩|⟨h4,h5,h6⟩|⟨n,h4,h5,h6,h7,h8⟩)
   rotate_left
   ·have hm:mC L0 (st ops.length).A (st ops.length).T (st ops.length).N S k' t' ds:=by
     refine .inr (.inl ⟨h4,h5,fun n hn hk=>?_⟩)
     have:=h6 n hn hk
     simp[dm] at this
     exact this.2
    refine⟨ds,hm,?_⟩
    rw[if_neg]
    intro hkk
    subst hkk
    obtain⟨b,t0,ds0,vs0,us0,hBk,_⟩:=bp hΓ hi.base (hrows hks) (bH hE hh) (hview hbx hh hks fun k' hk'=>by rw[hbk] at hk';cases hk';exact .inr ⟨_,_,hin⟩) he (by simp)
    have hheld:=hi.base.boxes _ _ _ hm
    cases hheld with
    |box _ b vs hB' hr hfl hh hnf =>
     unfold jy at h5
     split at h5
     ·simp[D.flat] at hfl
     ·cases h5
    |row m d enc l p n cap hB' h=>rw[hBk] at hB';cases hB'
    |map kk ag d enc l b hB' h=>simp[jy] at h5
    |obj b o S hB'=>simp[jy] at h5
   ·have hSn:S n.i=true:=by
     have:=hNn n h4
     simpa[dm,this] using h5
    have hm:mC L0 (st ops.length).A (st ops.length).T (st ops.length).N S k' t' ds:=.inr (.inr ⟨n,h4,hSn,h6,h7,h8⟩)
    refine⟨ds,hm,?_⟩
    rw[if_neg]
    intro hkk
    subst hkk
    obtain⟨b,t0,ds0,vs0,us0,hBk,_⟩:=bp hΓ hi.base (hrows hks) (bH hE hh) (hview hbx hh hks fun k' hk'=>by rw[hbk] at hk';cases hk';exact .inr ⟨_,_,hin⟩) he (by simp)
    obtain⟨m,α,d,enc,l,hnr⟩:=Lc ht h4
    have hheld:=hi.base.boxes _ _ _ hm
    rw[h8,hnr] at hheld
    generalize hds:[D.aO m d enc l]=ds1 at hheld
    cases hheld with
    |box _ b vs hB' hr hfl hh hnf=>subst hds;simp[D.flat] at hfl
    |row m d enc l p n cap hB' h=>rw[hBk] at hB';cases hB'
    |map kk ag d enc l b hB' h=>cases hds
    |obj b o S hB'=>cases hds
   refine⟨fJ k' c0 ((st ops.length).T.filter fun x=>S x.1),.inl ⟨c0,h.imp id fun⟨j,hj,hm⟩=>⟨j,?_,hm⟩,rfl⟩,?_⟩
   ·by_cases hkk:k'=k
    ·subst hkk
     simp only[if_true]
     rw[nO (T':=(st i).T) hstores]
     have:fJ k' c0 ((i,k',off,cells)::(st i).T)=setCells (fJ k' c0 (st i).T) off cells:=by simp[fJ]
     rw[<-this]
     apply nO
     obtain⟨_,_,⟨T1,hT1,hT2⟩,_⟩:=ht.ext (show i+1<=ops.length by omega) (Nat.le_refl _)
     rw[hT1,hT,List.filter_append,List.filter_append]
     have h5:(T1.filter fun x=>dm S i x.1).filter (fun x=>x.2.1==k')=[]:=by
      rw[List.filter_eq_nil_iff]
      intro x hx hk
      obtain⟨hx1,hx2⟩:=List.mem_filter.1 hx
      have hge:=hT2 x hx1
      obtain⟨o',ho',hon⟩:=qM ht hlt (.inr ⟨_,_,hin⟩) x (by rw[hT1];exact List.mem_append_left _ hx1) (by simpa using hk) (by omega)
      have hne:x.1≠i:=by omega
      have hSx:S x.1=true:=by simpa[dm,hne] using hx2
      have:=hi.closed x.1 o' hSx ho' i hon
      rw[hS] at this;cases this
     rw[h5,List.nil_append,List.filter_filter]
     apply List.filter_congr
     intro x hx
     cases hk:x.2.1==k' with
     |false=>simp
     |true =>
      simp only[Bool.true_and]
      rcases List.mem_cons.1 hx with rfl|hx
      ·simp[dm]
      ·rw[hbk] at hbx
       have h6:=List.all_eq_true.1 hbx x hx
       rw[hk] at h6
       have:=hr x.1 (by simpa using h6)
       simp[dm,this]
    ·simp only[hkk,if_false]
     apply nO
     rw[List.filter_filter,List.filter_filter]
     apply List.filter_congr
     intro x hx
     by_cases hxi:x.1=i
     ·have:=hat x hx hxi
      have hne:(x.2.1==k')=false:=by rw[this];simp;exact fun e=>hkk e.symm
      simp[hne]
     ·have h7:(x.1==i)=false:=by simpa using hxi
      simp only[dm,h7,Bool.false_or]
   ·have:=hAn _ hm
    simp only at this
    simpa[dm,this] using hj
  ·intro x hx hsx
   have hx1:x.1≠i/\S x.1=false:=by simp[dm] at hsx;exact hsx
   obtain⟨h3,h4⟩:=hi.fresh x hx hx1.2
   refine⟨h3,fun y hy hk=>?_⟩
   by_cases hyi:y.1=i
   ·exfalso
    have hy':=hat y hy hyi
    have hkx:x.2.1=k:=by rw[<-hk,hy']
    obtain⟨b,t0,ds0,vs0,us0,hBk,_⟩:=bp hΓ hi.base (hrows hks) (bH hE hh) (hview hbx hh hks fun k' hk'=>by rw[hbk] at hk';cases hk';exact .inr ⟨_,_,hin⟩) he (by simp)
    rw[hkx,hBk] at h3;cases h3
   ·simp[dm,hyi,h4 y hy hk]
end
end Go.Proofs.YtefojkdckfidcaaGreatDoor.RX
namespace Go.Proofs.YtefojkdckfidcaaGreatDoor.RX
open Go.RowKit
section
variable {P:Program} {F0:Fz} {w0:Pt P} {B:Env} {F:Fz} {w:World} {a:Act} {Q:Exit->Act->World->Prop} {Γ:Nat->Option TI} {nt:Nat} {ops:List Oper} {L0:ax} {orc:List (Nat×D)} {K:List (Nat×D)} {st:Nat->DS}
def unset(B:Env):List Nat->Env
 |[]=>B
 |k::ks=>fun i=>if i=k then none else unset B ks i
theorem vt{B:Env}:∀{ks:List Nat}{k:Nat},k∈ks->unset B ks k=none
 |[],k,h=>by simp at h
 |k'::ks,k,h=>by
  unfold unset
  split
  ·rfl
  ·rename_i hne
   exact vt ((List.mem_cons.1 h).resolve_left hne)
theorem uP{B:Env}:∀{ks:List Nat}{k:Nat},k∉ks->unset B ks k=B k
 |[],k,h=>rfl
 |k'::ks,k,h=>by
  unfold unset
  rw[if_neg (fun e=>h (by rw[e];exact List.mem_cons_self))]
  exact uP fun h'=>h (List.mem_cons_of_mem _ h')
theorem Rep.unset{B:Env}{d:D}{v:Value}(h:Rep F w B d v):∀{ks:List Nat},(∀k∈ks,D.names k d=false)->Rep F w (unset B ks) d v
 |[],_=>h
 |k::ks,hn=>by
  have:=Rep.unset h (ks:=ks) fun j hj=>hn j (List.mem_cons_of_mem _ hj)
  exact this.fB k (fun i hi=>by simp[RX.unset,hi]) (hn k List.mem_cons_self)
theorem aA.unset{B:Env}{d:List D}{v:List Value}(h:aA F w B d v):∀{ks:List Nat},(∀k∈ks,D.bu k d=false)->aA F w (RX.unset B ks) d v
 |[],_=>h
 |k::ks,hn=>by
  have:=aA.unset h (ks:=ks) fun j hj=>hn j (List.mem_cons_of_mem _ hj)
  exact this.fB k (fun i hi=>by simp[RX.unset,hi]) (hn k List.mem_cons_self)
def wL(s:DS):List Nat:=s.A.map (·.2.1)++(match s.N with|some n=>[n.t]|none=>[])
theorem J3(ht:Trace (CX P) Γ nt orc ops L0 K st):∀k∈wL (st ops.length),k<1000000:=by
 intro k hk
 rcases List.mem_append.1 hk with hk|hk
 ·obtain⟨x,hx,rfl⟩:=List.mem_map.1 hk
  have hl:x.1<ops.length:=(ht.good ops.length (Nat.le_refl _)).A x hx
  obtain⟨hx1,hx2⟩:=xO ht hl hx rfl
  obtain⟨g,hg,hs⟩:=ht.inv (List.getElem?_eq_getElem hl)
  cases hs with
  |box ty cells t hg0 hdt htn hfl hK0 hL0 hA0 he hbx hs =>
   rw[hs] at hx1
   have hxe:=(List.mem_cons.1 hx1).resolve_right hx2
   rw[hxe];exact htn.2
  |pick c a b t tc e bc ba bb hop hd hc he hle hsrc ht hec hea heb hs=>rw[hs] at hx1;exact absurd hx1 hx2
  |val d cs t hd ht he hbx hs=>rw[hs] at hx1;exact absurd hx1 hx2
  |call f args r t hd ht hr hna he hbx hs=>rw[hs] at hx1;exact absurd hx1 hx2
  |store k off cells hg0 hdt hfl hR0 hbk he hbx hs=>rw[hs] at hx1;exact absurd hx1 hx2
  |fresh e m spec cs r t hd ht he hbx hs=>rw[hs] at hx1;exact absurd hx1 hx2
  |known spec r t hd ht he hbx hs=>rw[hs] at hx1;exact absurd hx1 hx2
  |app e m k spec cs d enc l t hg hd ht hNn hQ hK hL hA he hbx hs=>rw[hs] at hx1;exact absurd hx1 hx2
 ·cases hn:(st ops.length).N with
  |none=>rw[hn] at hk;simp at hk
  |some n =>
   rw[hn] at hk
   obtain rfl:=List.mem_singleton.1 hk
   obtain⟨hlt,h1,h2⟩:=xU ht hn
   obtain⟨g,hg,hs⟩:=ht.inv (List.getElem?_eq_getElem hlt)
   cases hs with
   |app e m k' spec cs d enc l t hg hd htn hNn hQ hK hL hA he hbx hs =>
    rw[hs] at h1
    have h1:=Option.some.inj h1
    rw[<-h1];exact htn.2
   |box ty cells t hg hd ht hfl hK hL hA he hbx hs=>rw[hs] at h1;simp only at h1;rw[h2] at h1;cases h1
   |store k' off cells hg hd hfl hR hbk he hbx hs=>rw[hs] at h1;simp only at h1;rw[h2] at h1;cases h1
   |pick c a b t tc e bc ba bb hop hd hc he hle hsrc ht hec hea heb hs=>rw[hs] at h1;simp only at h1;rw[h2] at h1;cases h1
   |val d cs t hd ht he hbx hs=>rw[hs] at h1;simp only at h1;rw[h2] at h1;cases h1
   |call f args r t hd ht hr hna he hbx hs=>rw[hs] at h1;simp only at h1;rw[h2] at h1;cases h1
   |fresh e m spec cs r t hd ht he hbx hs=>rw[hs] at h1;simp only at h1;rw[h2] at h1;cases h1
   |known spec r t hd ht he hbx hs=>rw[hs] at h1;simp only at h1;rw[h2] at h1;cases h1
theorem GL(ht:Trace (CX P) Γ nt orc ops L0 K st)(hb:Base F0 w0 B F (aN L0) w)(hd:a.defers=w0.defs)(hs:a.tmps.size=nt)(hK:∀x∈K,∃v,a.tmps[x.1]? = some v/\Rep F w B x.2 v) :
  np nt ops L0 K (st ops.length) (fun _=>false) F0 w0 (unset B (wL (st ops.length))) F a w:=by
 have hboxes:∀x∈(st ops.length).A,(∀y∈K,D.names x.2.1 y.2=false)/\(∀y∈L0,y.1≠x.2.1/\D.bu x.2.1 y.2.2=false):=by
  intro x hx
  have hl:x.1<ops.length:=(ht.good ops.length (Nat.le_refl _)).A x hx
  obtain⟨hx1,hx2⟩:=xO ht hl hx rfl
  obtain⟨g,hg,hstep⟩:=ht.inv (List.getElem?_eq_getElem hl)
  cases hstep with
  |box ty cells t hg0 hdt htn hfl hK0 hL0 hA0 he hbx hs =>
   rw[hs] at hx1
   have hxe:=(List.mem_cons.1 hx1).resolve_right hx2
   have hxt:x.2.1=t:=by rw[hxe]
   rw[hxt]
   refine⟨fun y hy=>?_,fun y hy=>?_⟩
   ·obtain⟨⟨K1,hK1,_⟩,_⟩:=ht.ext (Nat.zero_le x.1) (Nat.le_of_lt hl)
    have hm:(⟨y.1,0,[],y.2⟩:Ent)∈(st x.1).K:=by
     rw[hK1,ht.zero]
     exact List.mem_append_right _ (List.mem_map.2 ⟨y,hy,rfl⟩)
    have:=List.all_eq_true.1 hK0 _ hm
    simpa using this
   ·have:=List.all_eq_true.1 hL0 y hy
    simpa using this
  |pick c a b t tc e bc ba bb hop hd hc he hle hsrc ht hec hea heb hs=>rw[hs] at hx1;exact absurd hx1 hx2
  |val d cs t hd ht he hbx hs=>rw[hs] at hx1;exact absurd hx1 hx2
  |call f args r t hd ht hr hna he hbx hs=>rw[hs] at hx1;exact absurd hx1 hx2
  |store k off cells hg hd hfl hR hbk he hbx hs=>rw[hs] at hx1;exact absurd hx1 hx2
  |fresh e m spec cs r t hd ht he hbx hs=>rw[hs] at hx1;exact absurd hx1 hx2
  |known spec r t hd ht he hbx hs=>rw[hs] at hx1;exact absurd hx1 hx2
  |app e m k spec cs d enc l t hg hd ht hNn hQ hK hL hA he hbx hs=>rw[hs] at hx1;exact absurd hx1 hx2
 have hkeys:∀k∈wL (st ops.length),(∀y∈K,D.names k y.2=false)/\(∀y∈L0,y.1≠k/\D.bu k y.2.2=false):=by
  intro k hk
  rcases List.mem_append.1 hk with hk|hk
  ·obtain⟨x,hx,rfl⟩:=List.mem_map.1 hk
   exact hboxes x hx
  ·cases hn:(st ops.length).N with
   |none=>rw[hn] at hk;simp at hk
   |some n =>
    rw[hn] at hk
    obtain rfl:=List.mem_singleton.1 hk
    exact(Js ht hn).2
 have hmem:∀k t ds,mC L0 (st ops.length).A (st ops.length).T (st ops.length).N (fun _=>false) k t ds->(k,t,ds)∈L0:=by
  rintro k t ds (⟨c0,h,rfl⟩|⟨h,_,_⟩|⟨n,_,h,_⟩)
  ·rcases h with⟨h,_⟩|⟨i,hi,_⟩
   ·have hf:((st ops.length).T.filter fun _=>false)=[]:=by simp
    show(k,t,fJ k c0 ((st ops.length).T.filter fun _=>false))∈L0
    rw[hf];exact h
   ·cases hi
  ·exact h
  ·cases h
 have hB:∀k t ds,(k,t,ds)∈L0->unset B (wL (st ops.length)) k=B k:=fun k t ds h=>uP fun hk=>((hkeys k hk).2 _ h).1 rfl
 refine⟨⟨fun k t ds h=>?_,fun k t ds b h hbk=>?_,fun i j b hi hj hBi hBj=>?_,hb.frz,hb.more,hb.grow,hb.below,fun k b h=>?_⟩,hd,hs,fun x hx _=>?_,(fun e he j hj hS=>by cases hS),(fun x hx _=>⟨vt (List.mem_append_left _ (List.mem_map.2 ⟨x,hx,rfl⟩)),fun _ _ _=>rfl⟩),(fun n hn _=>vt (List.mem_append_right _ (by rw[hn];exact List.mem_singleton.2 rfl))),(fun k o hk=>by cases hk)⟩
 ·have h':=hmem _ _ _ h
  have hh:=hb.boxes _ _ _ h'
  cases hh with
  |box _ b vs h1 h2 h3 h4 h5=>exact .box _ b vs (by rw[hB _ _ _ h'];exact h1) (h2.unset fun k hk=>((hkeys k hk).2 _ h').2) h3 h4 h5
  |row m d enc l p n cap h1 h2=>exact .row m d enc l p n cap (by rw[hB _ _ _ h'];exact h1) h2
  |map kk ag d enc l b h1 h2=>exact .map kk ag d enc l b (by rw[hB _ _ _ h'];exact h1) h2
  |obj b o S h1 h2 h3 h4 h5=>exact .obj b o S (by rw[hB _ _ _ h'];exact h1) h2 h3 h4 h5
 ·have h':=hmem _ _ _ h
  rw[gx (hB _ _ _ h')] at hbk
  exact hb.new _ _ _ _ h' hbk
 ·obtain⟨t1,d1,h1⟩:=hi;obtain⟨t2,d2,h2⟩:=hj
  rw[gx (hB _ _ _ (hmem _ _ _ h1))] at hBi
  rw[gx (hB _ _ _ (hmem _ _ _ h2))] at hBj
  exact hb.inj i j b ⟨_,_,hmem _ _ _ h1⟩ ⟨_,_,hmem _ _ _ h2⟩ hBi hBj
 ·rw[uP fun hk=>?_]
  ·exact hb.env k b h
  ·have:=J3 ht k hk
   have:=w0.low k (by rw[h];exact fun e=>by cases e)
   unfold LIM at this
   omega
 ·obtain⟨v,h1,h2⟩:=hK x hx
  exact⟨v,h1,h2.unset fun k hk=>(hkeys k hk).1 x hx⟩
theorem l4(he:kW ops=true){listed:Array Bool}(hr:Region.ready .any ops.toArray listed=[])(hsz:listed.size=ops.length):∀j,j<ops.length->listed.getD j false=true:=by
 intro j
 induction j using Nat.strongRecOn with
 |_ j ih =>
  intro hj
  cases hl:listed.getD j false with
  |true=>rfl
  |false =>
   exfalso
   have ho:=List.getElem?_eq_getElem hj
   have:j∈Region.ready .any ops.toArray listed:=by
    rw[mem_ready]
    refine⟨?_,ops[j],by rw[List.getElem?_toArray];exact ho,fun e hem hb=>?_⟩
    ·have hj':j<listed.size:=by omega
     simp only[Array.getD_eq_getD_getElem?,Array.getElem?_eq_getElem hj',Option.getD_some] at hl ⊢
     exact hl
    ·have hon:e.on∈onL ops[j]:=by
      unfold onL
      rw[List.mem_filterMap]
      exact⟨e,by simpa using hem,by rw[hb];rfl⟩
     have hz:(ops[j],j)∈ops.zipIdx:=List.mem_zipIdx_iff_getElem?.2 ho
     have h1:=List.all_eq_true.1 he _ hz
     have h2:=List.all_eq_true.1 h1 e.on hon
     have h3:e.on<j:=of_decide_eq_true h2
     exact ih e.on h3 (by omega)
   rw[hr] at this
   simp at this
def left(n:Nat)(listed:Array Bool):Nat:=((List.range n).filter fun j=>!(listed.getD j false)).length
theorem Ja{n i:Nat}{listed:Array Bool}(hi:i<n)(hsz:listed.size=n)(h:listed.getD i false=false):left n (listed.setIfInBounds i true)<left n listed:=by
 unfold left
 have hsub:∀(l:List Nat),i∈l->((l.filter fun j=>!((listed.setIfInBounds i true).getD j false)).length<(l.filter fun j=>!(listed.getD j false)).length):=by
  intro l
  have hle:∀(l:List Nat),(l.filter fun j=>!((listed.setIfInBounds i true).getD j false)).length<=(l.filter fun j=>!(listed.getD j false)).length:=by
   intro l
   induction l with
   |nil=>simp
   |cons x l ih =>
    simp only[List.filter_cons]
    by_cases hx:x=i
    ·subst hx
     have:(listed.setIfInBounds x true).getD x false=true:=by simp[Array.getD_eq_getD_getElem?,hsz,hi]
     simp only[this,h,Bool.not_true,Bool.not_false,if_true,if_false,Bool.false_eq_true,List.length_cons]
     omega
    ·rw[getD_set_ne false (fun e=>hx e.symm)]
     split<;>(try simp only[List.length_cons])<;>omega
  induction l with
  |nil=>intro h;simp at h
  |cons x l ih =>
   intro hm
   simp only[List.filter_cons]
   by_cases hx:x=i
   ·subst hx
    have:(listed.setIfInBounds x true).getD x false=true:=by simp[Array.getD_eq_getD_getElem?,hsz,hi]
    simp only[this,h,Bool.not_true,Bool.not_false,if_true,if_false,Bool.false_eq_true,List.length_cons]
    have:=hle l
    omega
   ·rw[getD_set_ne false (fun e=>hx e.symm)]
    have:=ih ((List.mem_cons.1 hm).resolve_left (fun e=>hx e.symm))
    split<;>(try simp only[List.length_cons])<;>omega
 exact hsub _ (List.mem_range.2 hi)
theorem Am(hΓ:ΓOK P Γ)(hd:nZ ops=true)(hfl0:(L0.all fun x=>jy x.2.2||x.2.2.all D.flat)=true)(he:kW ops=true)(ht:Trace (CX P) Γ nt orc ops L0 K st)(hobl:∀p∈(st ops.length).obl,p)
  (hQ:∀B F a w (S:Nat->Bool),(∀j,j<ops.length->S j=true)->np nt ops L0 K (st ops.length) S F0 w0 B F a w->Q .normal a w) :
  ∀(fuel:Nat)(listed:Array Bool)(B:Env)(F:Fz)(a:Act)(w:World),listed.size=ops.length->left ops.length listed<=fuel->np nt ops L0 K (st ops.length) (fun j=>listed.getD j false) F0 w0 B F a w ->
   wpAny P .any ops.toArray Q fuel listed a w:=by
 intro fuel
 induction fuel with
 |zero =>
  intro listed B F a w hsz hle hi
  have hall:∀j,j<ops.length->listed.getD j false=true:=by
   intro j hj
   cases hl:listed.getD j false with
   |true=>rfl
   |false =>
    have:j∈(List.range ops.length).filter fun j=>!(listed.getD j false):=List.mem_filter.2 ⟨List.mem_range.2 hj,by rw[hl];rfl⟩
    have h0:left ops.length listed=0:=by omega
    unfold left at h0
    rw[List.length_eq_zero_iff.1 h0] at this
    simp at this
  refine⟨?_,hQ B F a w _ hall hi⟩
  apply List.eq_nil_iff_forall_not_mem.2
  intro j hj
  obtain⟨h1,o,h2,_⟩:=mem_ready.1 hj
  rw[List.getElem?_toArray] at h2
  have hlt:=(List.getElem?_eq_some_iff.1 h2).1
  have h3:=hall j hlt
  have hj':j<listed.size:=by omega
  simp only[Array.getD_eq_getD_getElem?,Array.getElem?_eq_getElem hj',Option.getD_some] at h1 h3
  rw[h3] at h1;cases h1
 |succ fuel ih =>
  intro listed B F a w hsz hle hi
  refine⟨fun hr=>hQ B F a w _ (l4 he hr hsz) hi,fun i him=>?_⟩
  obtain⟨h1,o,h2,h3⟩:=mem_ready.1 him
  rw[List.getElem?_toArray] at h2
  have hlt:=(List.getElem?_eq_some_iff.1 h2).1
  have hj':i<listed.size:=by omega
  have hfalse:listed.getD i false=false:=by
   simp only[Array.getD_eq_getD_getElem?,Array.getElem?_eq_getElem hj',Option.getD_some] at h1 ⊢
   exact h1
  have hon:∀j∈onL o,listed.getD j false=true:=by
   intro j hj
   unfold onL at hj
   obtain⟨e,he1,he2⟩:=List.mem_filterMap.1 hj
   split at he2
   ·rename_i hb
    cases he2
    exact h3 e (by simpa using he1) hb
   ·cases he2
  have hset:(fun j=>(listed.setIfInBounds i true).getD j false)=dm (fun j=>listed.getD j false) i:=by
   funext j
   by_cases hji:j=i
   ·subst hji
    simp[dm,Array.getD_eq_getD_getElem?,hj']
   ·rw[getD_set_ne false (fun e=>hji e.symm)]
    simp[dm,hji]
  have hlt':=Ja hlt hsz hfalse
  exact Ij hΓ hd hfl0 ht hobl hi h2 hfalse hon fun B' F' a' w' hi'=>ih _ B' F' a' w' (by simp[hsz]) (by omega) (by rw[hset];exact hi')
theorem y7{K0:List Ent}:∀{ts:List Nat}{r:List (Nat×D)},zd ops K0 ts=some r->∀x∈r,∃e∈K0,e.slot=x.1/\e.d=x.2/\e.cnd=[]/\(e.src≠0\/∀o∈ops,o.dst≠some x.1)
 |[],r,h,x,hx=>by cases h;simp at hx
 |t::ts,r,h,x,hx=>by
  unfold zd at h
  split at h
  ·rename_i e r' he hr
   split at h
   ·rename_i hc
    cases h
    rcases List.mem_cons.1 hx with rfl|hx
    ·obtain⟨h1,h2⟩:=kE he
     refine⟨e,h1,h2,rfl,by simpa using hc.1,hc.2.imp id fun h o ho=>?_⟩
     have:=List.all_eq_true.1 h o ho
     simpa using this
    ·exact y7 hr x hx
   ·cases h
  ·cases h
theorem Wp.dP(hm:P.follows .mixedOrders=true)(hΓ:ΓOK P Γ){id:Nat}{l:List Oper}{L L':ax}{K':List (Nat×D)}(orc:List (Nat×D))(kk kl:List Nat){ob:List Prop}(h:A8 (CX P) Γ nt orc l L K kk kl=some (K',L',ob))(hob:aj ob)(hn:To nt F0 w0 K' L' .normal Q) :
  Wp P nt F0 w0 K L (.region id l.toArray true) Q:=by
 rintro a w ⟨B,F,hb,hd,hs,hK⟩
 unfold A8 at h
 split at h
 ·rename_i hok
  simp only[Bool.and_eq_true] at hok
  obtain⟨⟨hdst,hedg⟩,hfl0⟩:=hok
  split at h
  ·rename_i s hs'
   split at h
   ·rename_i K1 L1 hk hl
    cases h
    obtain⟨st,h0,h1,h2⟩:=xG l 0 hs'
    have ht:Trace (CX P) Γ nt orc l L K st:=⟨h0,fun i o ho=>by have:=h2 i o ho;simpa using this⟩
    rw[Nat.zero_add] at h1
    have hi:=GL ht hb.draw hd hs (fun x hx=>by
     obtain⟨v,h3,h4⟩:=hK x hx
     have hgr:Grow F F w w.drew:=⟨fun _ _ h=>h,fun _ _ _=>rfl⟩
     exact⟨v,h3,h4.grow hgr⟩)
    refine qq hm (by simpa using vk _ _ hs') ?_
    have hw:({ w with drawn:=w.drawn+1 }:World)=w.drew:=rfl
    rw[hw]
    refine Am (F0:=F0) (w0:=w0) (Q:=nrm Q) hΓ hdst hfl0 hedg ht (by rw[h1];exact aj.mem hob) (fun B' F' a w S hS hi=>?_) _ _ (unset B (wL (st l.length))) F a w.drew (by simp) ?_ ?_
    ·refine hn a w ⟨B',F',hi.base.sub fun k t ds h=>?_,hi.defers,hi.size,fun x hx=>?_⟩
     ·have hv:=kh hl _ h
      rw[<-h1] at hv
      rcases List.mem_append.1 hv with hv|hv
      ·obtain⟨c0,hc,rfl⟩:=tW hv
       refine .inl ⟨c0,hc.imp (fun h=>h) fun⟨j,hj⟩=>⟨j,hS j ((ht.good _ (Nat.le_refl _)).A _ hj),hj⟩,?_⟩
       congr 1
       symm
       rw[List.filter_eq_self]
       intro x hx
       exact hS _ ((ht.good _ (Nat.le_refl _)).T x hx)
      ·rcases List.mem_append.1 hv with hv|hv
       ·obtain⟨h7,h8⟩:=List.mem_filter.1 hv
        simp only[Bool.and_eq_true,Bool.not_eq_true'] at h8
        refine .inr (.inl ⟨h7,h8.1,fun n hn hk=>?_⟩)
        have h9:=h8.2
        rw[hn] at h9
        simp[taken,hk] at h9
       ·split at hv
        ·rename_i n hn
         rw[List.mem_singleton] at hv
         cases hv
         exact .inr (.inr ⟨n,hn,hS _ ((ht.good _ (Nat.le_refl _)).N n hn),rfl,rfl,rfl⟩)
        ·simp at hv
     ·obtain⟨e,he,h3,h4,h5,h6⟩:=y7 hk x hx
      rw[<-h1] at he
      by_cases hsrc:e.src=0
      ·rcases h6 with h6|h6
       ·exact absurd hsrc h6
       ·obtain⟨⟨K2,hK2,hK3⟩,_⟩:=ht.ext (Nat.zero_le _) (Nat.le_refl l.length)
        have hst:e∈(st 0).K:=by
         rw[hK2] at he
         rcases List.mem_append.1 he with h|h
         ·have:=hK3 e h;omega
         ·exact h
        rw[ht.zero] at hst
        obtain⟨y,hy,rfl⟩:=List.mem_map.1 hst
        have hyx:y=x:=by
         obtain⟨y1,y2⟩:=y;obtain⟨x1,x2⟩:=x
         simp only at h3 h4;rw[h3,h4]
        subst hyx
        exact hi.old y hy fun k o hk ho=>h6 o (List.mem_of_getElem? ho)
      ·have hle:=(ht.good _ (Nat.le_refl _)).srcs e he
       have:=(hi.new e he (e.src-1) (by omega) (hS _ (by omega))).1 (by rw[h5];rfl)
       rw[h3,h4] at this
       exact this
    ·unfold left
     have:=List.length_filter_le (fun j=>!((Array.replicate l.toArray.size false).getD j false)) (List.range l.length)
     simp only[List.length_range] at this
     simpa using this
    ·have hfun:(fun j=>(Array.replicate l.toArray.size false).getD j false)=fun _=>false:=by
      funext j
      simp only[Array.getD_eq_getD_getElem?,Array.getElem?_replicate]
      split<;>rfl
     rw[hfun];exact hi
   ·cases h
  ·cases h
 ·cases h
end
end Go.Proofs.YtefojkdckfidcaaGreatDoor.RX
namespace Go.Proofs.YtefojkdckfidcaaGreatDoor.RX
open Go.RowKit
section
variable {P:Program} {Γ:Nat->Option TI} {nt:Nat} {F0:Fz} {w0:Pt P} {K K':List (Nat×D)} {L L':ax} {Q Q':Exit->Act->World->Prop}
def Lp(ro:Option Nat)(P:Program)(c:Code)(Q:Exit->Act->World->Prop)(a:Act)(w:World):Prop :=
 ∀(b:Frame)(k:List Item)(cs:List Frame),b.roundOf=ro->∃e a' w',Q e a' w'/\ArrivesIn (Machine.fenced P (Fr ro)) P (lone (b.atR a (.code c::.inLoop c::k)) cs w) b k cs e a' w'
def WL(P:Program)(nt:Nat)(F0:Fz)(w0:Pt P)(K:List (Nat×D))(L:ax)(c:Code)(Q:Exit->Act->World->Prop):Prop :=
 ∀a w,St nt F0 w0 K L a w->Lp w0.rnd P c Q a w
theorem Wp.fP{c:Code}(h:WL P nt F0 w0 K L c Q):Wp P nt F0 w0 K L (.loop c) Q:=by
 intro a w hs b k cs hro _ _
 obtain⟨e,a',w',hq,harr⟩:=h a w hs b k cs hro
 exact⟨e,a',w',hq,.of_steps (.one (iZ _) stepR_loop) harr⟩
theorem WL.round{c:Code}(h:Wp P nt F0 w0 K L c (Exit.then (fun a w=>Lp w0.rnd P c Q a w) Q)):WL P nt F0 w0 K L c Q:=by
 intro a w hs b k cs hro
 obtain⟨e,a₁,w₁,hq,harr⟩:=h a w hs b (.inLoop c::k) cs hro trivial (Fr.room _ _)
 cases e with
 |normal =>
  obtain⟨e₂,a₂,w₂,hq₂,harr₂⟩:=hq b k cs hro
  exact⟨e₂,a₂,w₂,hq₂,.of_steps (StepsIn.trans harr (.one (iZ _) stepR_inLoop)) harr₂⟩
 |exit id=>exact⟨_,a₁,w₁,hq,.pass (x:=.inLoop c) rfl (fun _ _=>.inl (by simp)) harr⟩
 |goto l=>exact⟨_,a₁,w₁,hq,.pass (x:=.inLoop c) rfl (fun _ _=>.inl (by simp)) harr⟩
 |ret=>exact⟨_,a₁,w₁,hq,.pass (x:=.inLoop c) rfl (fun _ _=>.inl (by simp)) harr⟩
 |panic ch=>exact⟨_,a₁,w₁,hq,.pass (x:=.inLoop c) rfl (fun _ _=>.inl (by simp)) harr⟩
 |outgrown=>exact⟨_,a₁,w₁,hq,.pass (x:=.inLoop c) rfl (fun _ _=>.inl (by simp)) harr⟩
theorem To.again{c:Code}(h:WL P nt F0 w0 K L c Q):To nt F0 w0 K L .normal (Exit.then (fun a w=>Lp w0.rnd P c Q a w) Q):=h
def kz:List (Nat×D)->List Nat->Option (List (Nat×D))
 |_,[]=>some []
 |K,t::ts=>match K.lookup t,kz K ts with|some d,some r=>some ((t,d)::r)|_,_=>none
theorem lT{K:List (Nat×D)}:∀{ts:List Nat}{r:List (Nat×D)},kz K ts=some r->∀x∈r,x∈K
 |[],r,h,x,hx=>by cases h;simp at hx
 |t::ts,r,h,x,hx=>by
  unfold kz at h
  split at h
  ·rename_i d r' hd hr
   cases h
   rcases List.mem_cons.1 hx with rfl|hx
   ·exact aB hd
   ·exact lT hr x hx
  ·cases h
theorem To.keep{e:Exit}{kk kl:List Nat}(hk:kz K kk=some K')(hl:ia L kl=some L')(h:To nt F0 w0 K' L' e Q):To nt F0 w0 K L e Q:=To.sub (lT hk) (kh hl) h
theorem Wp.keep{c:Code}{kk kl:List Nat}(hk:kz K kk=some K')(hl:ia L kl=some L')(h:Wp P nt F0 w0 K' L' c Q):Wp P nt F0 w0 K L c Q:=Wp.sub (lT hk) (kh hl) h
inductive qA:List (Nat×D)->List (Nat×D)->Prop
 |nil:qA [] []
 |cons {t:Nat} {d e:D} {K K':List (Nat×D)} (h:ju d e) (hs:qA K K'):qA ((t,d)::K) ((t,e)::K')
inductive oY:ax->ax->Prop
 |nil:oY [] []
 |cons {k t:Nat} {ds es:List D} {L L':ax} (h:bq ds es) (hs:oY L L'):oY ((k,t,ds)::L) ((k,t,es)::L')
theorem qA.mem:∀{K K':List (Nat×D)},qA K K'->∀x∈K',∃d,(x.1,d)∈K/\ju d x.2
 |_,_,.nil,x,hx=>by simp at hx
 |_,_,.cons h hs,x,hx=>by
  rcases List.mem_cons.1 hx with rfl|hx
  ·exact⟨_,List.mem_cons_self,h⟩
  ·obtain⟨d,h1,h2⟩:=qA.mem hs x hx
   exact⟨d,List.mem_cons_of_mem _ h1,h2⟩
theorem oY.mem:∀{L L':ax},oY L L'->∀x∈L',∃ds,(x.1,x.2.1,ds)∈L/\bq ds x.2.2
 |_,_,.nil,x,hx=>by simp at hx
 |_,_,.cons h hs,x,hx=>by
  rcases List.mem_cons.1 hx with rfl|hx
  ·exact⟨_,List.mem_cons_self,h⟩
  ·obtain⟨d,h1,h2⟩:=oY.mem hs x hx
   exact⟨d,List.mem_cons_of_mem _ h1,h2⟩
theorem Base.weak{B:Env}{F:Fz}{w:World}(hL:oY L L')(hb:Base F0 w0 B F (aN L) w):Base F0 w0 B F (aN L') w:=by
 have hmem:∀k t es,(k,t,es)∈L'->∃ds,(k,t,ds)∈L/\bq ds es:=fun k t es hm=>hL.mem _ hm
 refine⟨fun k t es hm=>?_,fun k t es b hm hbk=>?_,fun i j b hi hj=>hb.inj i j b ?_ ?_,hb.frz,hb.more,hb.grow,hb.below,hb.env⟩
 ·obtain⟨ds,h1,h2⟩:=hmem _ _ _ hm
  have hh:=hb.boxes _ _ _ h1
  cases hh with
  |box _ b vs h3 h4 h5 h6 h7=>exact .box _ b vs h3 (h2.rep h4) (h2.flat h5) h6 h7
  |row m d enc l p n cap h3 h4 =>
   have:es=[.aO m d enc l]:=by
    cases h2 with
    |cons h hs=>cases hs;cases h;rfl
   rw[this];exact .row m d enc l p n cap h3 h4
  |map kk ag d enc l b h3 h4 =>
   have:es=[.eE kk ag d enc l]:=by
    cases h2 with
    |cons h hs=>cases hs;cases h;rfl
   rw[this];exact .map kk ag d enc l b h3 h4
  |obj b o S h3 h4 h5 h6 h7 =>
   have:es=[.qX b o S]:=by
    cases h2 with
    |cons h hs=>cases hs;cases h;rfl
   rw[this];exact .obj b o S h3 h4 h5 h6 h7
 ·obtain⟨ds,h1,_⟩:=hmem _ _ _ hm
  exact hb.new _ _ _ _ h1 hbk
 ·obtain⟨t,es,hm⟩:=hi
  obtain⟨ds,h1,_⟩:=hmem _ _ _ hm
  exact⟨_,_,h1⟩
 ·obtain⟨t,es,hm⟩:=hj
  obtain⟨ds,h1,_⟩:=hmem _ _ _ hm
  exact⟨_,_,h1⟩
theorem St.weak{a:Act}{w:World}(hK:qA K K')(hL:oY L L')(h:St nt F0 w0 K L a w):St nt F0 w0 K' L' a w:=by
 obtain⟨B,F,hb,hd,hs,hk⟩:=h
 have hmem:∀k t es,(k,t,es)∈L'->∃ds,(k,t,ds)∈L/\bq ds es:=fun k t es hm=>hL.mem _ hm
 refine⟨B,F,⟨fun k t es hm=>?_,fun k t es b hm hbk=>?_,fun i j b hi hj=>hb.inj i j b ?_ ?_,hb.frz,hb.more,hb.grow,hb.below,hb.env⟩,hd,hs,fun x hx=>?_⟩
 ·obtain⟨ds,h1,h2⟩:=hmem _ _ _ hm
  have hh:=hb.boxes _ _ _ h1
  cases hh with
  |box _ b vs h3 h4 h5 h6 h7=>exact .box _ b vs h3 (h2.rep h4) (h2.flat h5) h6 h7
  |row m d enc l p n cap h3 h4 =>
   have:es=[.aO m d enc l]:=by
    cases h2 with
    |cons h hs=>cases hs;cases h;rfl
   rw[this];exact .row m d enc l p n cap h3 h4
  |map kk ag d enc l b h3 h4 =>
   have:es=[.eE kk ag d enc l]:=by
    cases h2 with
    |cons h hs=>cases hs;cases h;rfl
   rw[this];exact .map kk ag d enc l b h3 h4
  |obj b o S h3 h4 h5 h6 h7 =>
   have:es=[.qX b o S]:=by
    cases h2 with
    |cons h hs=>cases hs;cases h;rfl
   rw[this];exact .obj b o S h3 h4 h5 h6 h7
 ·obtain⟨ds,h1,_⟩:=hmem _ _ _ hm
  exact hb.new _ _ _ _ h1 hbk
 ·obtain⟨t,es,hm⟩:=hi
  obtain⟨ds,h1,_⟩:=hmem _ _ _ hm
  exact⟨_,_,h1⟩
 ·obtain⟨t,es,hm⟩:=hj
  obtain⟨ds,h1,_⟩:=hmem _ _ _ hm
  exact⟨_,_,h1⟩
 ·obtain⟨d,h1,h2⟩:=hK.mem _ hx
  obtain⟨v,h3,h4⟩:=hk _ h1
  exact⟨v,h3,h2.rep h4⟩
theorem To.weak{e:Exit}(hK:qA K K')(hL:oY L L')(h:To nt F0 w0 K' L' e Q):To nt F0 w0 K L e Q:=fun a w hs=>h a w (hs.weak hK hL)
theorem Wp.weak{c:Code}(hK:qA K K')(hL:oY L L')(h:Wp P nt F0 w0 K' L' c Q):Wp P nt F0 w0 K L c Q:=fun a w hs=>h a w (hs.weak hK hL)
theorem Wp.pre{c:Code}(h:∀a w,St nt F0 w0 K L a w->St nt F0 w0 K' L' a w)(hc:Wp P nt F0 w0 K' L' c Q):Wp P nt F0 w0 K L c Q:=fun a w hs=>hc a w (h a w hs)
theorem To.pre{e:Exit}(h:∀a w,St nt F0 w0 K L a w->St nt F0 w0 K' L' a w)(hc:To nt F0 w0 K' L' e Q):To nt F0 w0 K L e Q:=fun a w hs=>hc a w (h a w hs)
def Di(ks:List Nat)(K:List (Nat×D))(L:ax)(kk kl:List Nat):Option (List (Nat×D)×ax) :=
 match pJ (ks.foldl settle (nu K L)).K kk,ia (ks.foldl settle (nu K L)).L kl with
 |some K',some L'=>some (K',L')
 |_,_=>none
theorem St.settle{ks kk kl:List Nat}(h:Di ks K L kk kl=some (K',L')):∀a w,St nt F0 w0 K L a w->St nt F0 w0 K' L' a w:=by
 rintro a w ⟨B,F,hb,hd,hs,hK⟩
 unfold Di at h
 split at h
 ·rename_i K1 L1 hk hl
  cases h
  have key:∀(ks:List Nat)(s:ES)(F:Fz),fC nt [] F0 w0 B F s (fun j=>j<0) a w->∃F',fC nt [] F0 w0 B F' (ks.foldl RX.settle s) (fun j=>j<0) a w:=by
   intro ks
   induction ks with
   |nil=>intro s F h;exact⟨F,h⟩
   |cons k ks ih =>
    intro s F h
    obtain⟨F',h'⟩:=h.settle k
    exact ih _ F' h'
  obtain⟨F',h'⟩:=key ks _ F (rQ hb hd hs hK)
  exact qJ h' hk hl
 ·cases h
def jM(k:Nat)(K:List (Nat×D))(L:ax):Bool:=(K.all fun x=>!(D.names k x.2))&&L.all fun x=>!(x.1==k)&&!(D.bu k x.2.2)
def F6(t k:Nat):List (Nat×D)->Option (List (Nat×D))
 |[]=>some []
 |(s,d)::r =>
  match F6 t k r with
  |some r'=>if s=t then(match d with|.val (.slice none 0 0)=>some ((s,.row k)::r')|_=>none) else some ((s,d)::r')
  |none=>none
theorem C6{t k:Nat}:∀{K K':List (Nat×D)},F6 t k K=some K'->∀x∈K',x∈K\/((t,.val (.slice none 0 0))∈K/\x=(t,.row k))
 |[],K',h,x,hx=>by cases h;simp at hx
 |(s,d)::r,K',h,x,hx=>by
  unfold F6 at h
  split at h
  ·rename_i r' hr
   have ih:=C6 hr
   split at h
   ·rename_i hst
    subst hst
    split at h
    ·cases h
     rcases List.mem_cons.1 hx with rfl|hx
     ·exact .inr ⟨List.mem_cons_self,rfl⟩
     ·rcases ih x hx with h|⟨h,h'⟩
      ·exact .inl (List.mem_cons_of_mem _ h)
      ·exact .inr ⟨List.mem_cons_of_mem _ h,h'⟩
    ·cases h
   ·cases h
    rcases List.mem_cons.1 hx with rfl|hx
    ·exact .inl List.mem_cons_self
    ·rcases ih x hx with h|⟨h,h'⟩
     ·exact .inl (List.mem_cons_of_mem _ h)
     ·exact .inr ⟨List.mem_cons_of_mem _ h,h'⟩
  ·cases h
theorem St.zm{t k e:Nat}{α:Type}{d:α}{enc:α->List D}(hg:aQ (.recs d enc []))(hlt:k<1000000)(hf:jM k K L=true)(hv:F6 t k K=some K'):∀a w,St nt F0 w0 K L a w->St nt F0 w0 K' ((k,e,[.aO false d enc []])::L) a w:=by
 rintro a w ⟨B,F,hb,hd,hs,hK⟩
 simp only[jM,Bool.and_eq_true] at hf
 have hfK:∀x∈K,D.names k x.2=false:=fun x hx=>by simpa using List.all_eq_true.1 hf.1 x hx
 have hfL:∀x∈L,x.1≠k/\D.bu k x.2.2=false:=fun x hx=>by simpa using List.all_eq_true.1 hf.2 x hx
 have hB':setB B k (.row none 0 0) k=some (.row none 0 0):=dY _ _ _
 have hbase:=hb.qY (t:=k) (ty:=e) (ds:=[.aO false d enc []]) (F':=F) (w':=w) (B':=setB B k (.row none 0 0)) (M':=aN L) (Grow.refl _ _)
  (.row false d enc [] none 0 0 hB' ⟨rfl,hg.1,hg.2,[],.nil,⟨by simp,.inl ⟨rfl,rfl,rfl⟩⟩,fun b hb=>by cases hb⟩) (fun b hbk=>by rw[bX hB'] at hbk;cases hbk)
  (fun j t' ds hm=>⟨hm,(hfL _ hm).1,br _ _ _ _ (hfL _ hm).1,fun F w vs hr=>hr.fB k (br _ _ _) (hfL _ hm).2⟩) (fun b _=>⟨rfl,fun _ h=>h⟩) hb.frz (fun g j h=>.inl h) (du.refl _ _ _) (fun q hq=>br _ _ _ _ (by unfold LIM at hq;omega))
 refine⟨_,F,hbase.sub fun j t' ds hm=>?_,hd,hs,fun x hx=>?_⟩
 ·rcases List.mem_cons.1 hm with hm|hm
  ·cases hm;exact .inl ⟨rfl,rfl,rfl⟩
  ·exact .inr hm
 ·rcases C6 hv x hx with h|⟨h,rfl⟩
  ·obtain⟨v,h1,h2⟩:=hK x h
   exact⟨v,h1,h2.fB k (br _ _ _) (hfK x h)⟩
  ·obtain⟨v,h1,h2⟩:=hK _ h
   cases h2
   exact⟨_,h1,.row k none 0 0 hB'⟩
def FI(k k':Nat)(L:ax):ax:=L.map fun x=>(bif x.1==k then k' else x.1,x.2.1,D.subs (rename k k') x.2.2)
def Lh(k k':Nat)(K:List (Nat×D)):List (Nat×D):=K.map fun x=>(x.1,x.2.sub (rename k k'))
theorem AZ{F:Fz}{w:World}{B:Env}{k k':Nat}:mj F w (fun i=>if i=k' then B k else B i) (fun i=>if i=k' then B k else B i) (rename k k'):=by
 refine⟨fun d r v h hv=>?_,fun _ _ _=>rfl,fun _ _=>rfl,fun _ _=>rfl,fun _ _=>rfl,fun _ _ _ _ _=>rfl,fun _ _=>rfl⟩
 cases d<;>simp only[rename] at h<;>first|(cases h;done)|skip
 ·rename_i j off
  split at h
  ·rename_i hjk;subst hjk;cases h
   cases hv with
   |own _ _ b hB =>
    refine .own _ _ b ?_
    simp only at hB ⊢
    simp only[if_true]
    split at hB<;>exact hB
  ·cases h
 ·rename_i j
  split at h
  ·rename_i hjk;subst hjk;cases h
   cases hv with
   |opt _ b v hB hv =>
    refine .opt _ b v ?_ hv
    simp only at hB ⊢
    simp only[if_true]
    split at hB<;>exact hB
  ·cases h
 ·rename_i j
  split at h
  ·rename_i hjk;subst hjk;cases h
   cases hv with
   |aY _ p n cap hB =>
    refine .aY _ p n cap ?_
    simp only at hB ⊢
    simp only[if_true]
    split at hB<;>exact hB
  ·cases h
 ·rename_i j
  split at h
  ·rename_i hjk;subst hjk;cases h
   cases hv with
   |mp _ b hB =>
    refine .mp _ b ?_
    simp only at hB ⊢
    simp only[if_true]
    split at hB<;>exact hB
  ·cases h
 ·rename_i j
  split at h
  ·rename_i hjk;subst hjk;cases h
   cases hv with
   |row _ p n cap hB =>
    refine .row _ p n cap ?_
    simp only at hB ⊢
    simp only[if_true]
    split at hB<;>exact hB
   |dn _ q hB =>
    refine .dn _ q ?_
    simp only at hB ⊢
    simp only[if_true]
    split at hB<;>exact hB
  ·cases h
 ·rename_i j i z off
  split at h
  ·rename_i hjk;subst hjk;cases h
   cases hv with
   |elm _ _ _ _ b nn cap hB =>
    refine .elm _ _ _ _ b nn cap ?_
    simp only at hB ⊢
    simp only[if_true]
    split at hB<;>exact hB
  ·cases h
theorem DD{k k':Nat}:∀d r,rename k k' d=some r->r.flat=true:=by
 intro d r h
 cases d<;>simp only[rename] at h<;>first|(cases h;done)|(split at h<;>cases h<;>rfl)
theorem St.rename(k k':Nat)(hlt:k'<1000000)(hf:jM k' K L=true)(hK':Lh k k' K=K')(hL':FI k k' L=L'):∀a w,St nt F0 w0 K L a w->St nt F0 w0 K' L' a w:=by
 rintro a w ⟨B,F,hb,hd,hs,hK⟩
 subst hK';subst hL'
 simp only[jM,Bool.and_eq_true] at hf
 have hfK:∀x∈K,D.names k' x.2=false:=fun x hx=>by simpa using List.all_eq_true.1 hf.1 x hx
 have hfL:∀x∈L,x.1≠k'/\D.bu k' x.2.2=false:=fun x hx=>by simpa using List.all_eq_true.1 hf.2 x hx
 have hne:∀i,i≠k'->(fun i=>if i=k' then B k else B i) i=B i:=fun i hi=>by simp[hi]
 have hkey:∀j t es,(j,t,es)∈FI k k' L->∃i ds,(i,t,ds)∈L/\es=D.subs (rename k k') ds/\(if j=k' then B k else B j)=B i/\(i=k->j=k')/\(i≠k->j=i):=by
  intro j t es hm
  obtain⟨x,hx,he⟩:=List.mem_map.1 hm
  obtain⟨i,t',ds⟩:=x
  simp only[Prod.mk.injEq] at he
  obtain⟨h1,h2,h3⟩:=he
  subst h2
  refine⟨i,ds,hx,h3.symm,?_,fun e=>?_,fun e=>?_⟩
  ·by_cases hik:i=k
   ·subst hik;simp at h1;subst h1;simp
   ·have:(i==k)=false:=by simpa using hik
    rw[this] at h1;simp at h1;subst h1
    rw[if_neg (hfL _ hx).1]
  ·subst e;simp at h1;exact h1.symm
  ·have:(i==k)=false:=by simpa using e
   rw[this] at h1;simpa using h1.symm
 refine⟨fun i=>if i=k' then B k else B i,F,⟨fun j t es hm=>?_,fun j t es b hm hbk=>?_,fun i j b hi hj hBi hBj=>?_,hb.frz,hb.more,hb.grow,hb.below,fun q b h=>?_⟩,hd,hs,fun x hx=>?_⟩
 ·obtain⟨i,ds,h1,rfl,h3,_⟩:=hkey _ _ _ hm
  have hh:=hb.boxes _ _ _ h1
  cases hh with
  |box _ b vs h4 h5 h6 h7 h8=>exact .box _ b vs (by rw[h3];exact h4) ((h5.fB k' hne (hfL _ h1).2).sub AZ) (nF DD h6) h7 h8
  |row m d enc l p n cap h4 h5=>exact .row m d enc l p n cap (by rw[h3];exact h4) h5
  |map kk ag d enc l b h4 h5=>exact .map kk ag d enc l b (by rw[h3];exact h4) h5
  |obj b o S h4 h5 h6 h7 h8=>exact .obj b o S (by rw[h3];exact h4) h5 h6 h7 h8
 ·obtain⟨i,ds,h1,rfl,h3,_⟩:=hkey _ _ _ hm
  refine hb.new _ _ _ b h1 ?_
  simpa[bG,h3] using hbk
 ·obtain⟨t1,e1,h1⟩:=hi;obtain⟨t2,e2,h2⟩:=hj
  obtain⟨i',ds1,h3,_,h4,h5,h6⟩:=hkey _ _ _ h1
  obtain⟨j',ds2,h3',_,h4',h5',h6'⟩:=hkey _ _ _ h2
  have:=hb.inj i' j' b ⟨_,_,h3⟩ ⟨_,_,h3'⟩ (by simpa[bG,h4] using hBi) (by simpa[bG,h4'] using hBj)
  subst this
  by_cases hik:i'=k
  ·rw[h5 hik,h5' hik]
  ·rw[h6 hik,h6' hik]
 ·have:=w0.low q (by rw[h];exact fun e=>by cases e)
  have hq:q≠k':=by unfold LIM at this;omega
  simp only[hq,if_false]
  exact hb.env q b h
 ·obtain⟨y,hy,rfl⟩:=List.mem_map.1 hx
  obtain⟨v,h1,h2⟩:=hK y hy
  exact⟨v,h1,(h2.fB k' hne (hfK y hy)).sub AZ⟩
def LQ(ss:List Nat)(L:ax)(K:List (Nat×D)):List (Nat×D):=K.map fun x=>bif ss.contains x.1 then(x.1,x.2.shut L) else x
theorem St.MB(ss:List Nat)(h:LQ ss L K=K'):∀a w,St nt F0 w0 K L a w->St nt F0 w0 K' L a w:=by
 rintro a w ⟨B,F,hb,hd,hs,hK⟩
 subst h
 refine⟨B,F,hb,hd,hs,fun x hx=>?_⟩
 obtain⟨y,hy,rfl⟩:=List.mem_map.1 hx
 obtain⟨v,h1,h2⟩:=hK y hy
 cases hc:ss.contains y.1 with
 |false=>exact⟨v,by simpa[hc] using h1,by simpa[hc] using h2⟩
 |true=>exact⟨v,by simpa[hc] using h1,by simpa[hc] using h2.jD hb (fun _ _ _ _ _ _ _ h=>aB h)⟩
def H6(bs:List Nat)(L:ax):ax:=L.map fun x=>bif bs.contains x.1 then(x.1,x.2.1,D.ic L x.2.2) else x
theorem E5{L:ax}:∀d r,lG L d=some r->r.flat=true:=by
 intro d r h
 cases d<;>simp only[lG] at h<;>first|(cases h;done)|(split at h<;>cases h<;>rfl)
theorem St.BG(bs:List Nat)(h:H6 bs L=L'):∀a w,St nt F0 w0 K L a w->St nt F0 w0 K L' a w:=by
 rintro a w ⟨B,F,hb,hd,hs,hK⟩
 subst h
 have hL:RowsIn (aN L) L:=fun _ _ _ _ _ _ _ h=>aB h
 have hmem:∀k t es,(k,t,es)∈H6 bs L->∃ds,(k,t,ds)∈L/\(es=ds\/es=D.ic L ds):=by
  intro k t es hm
  obtain⟨x,hx,he⟩:=List.mem_map.1 hm
  obtain⟨k',t',ds⟩:=x
  cases hc:bs.contains k' with
  |false=>simp only[hc,cond_false] at he;cases he;exact⟨_,hx,.inl rfl⟩
  |true=>simp only[hc,cond_true] at he;cases he;exact⟨_,hx,.inr rfl⟩
 refine⟨B,F,⟨fun k t es hm=>?_,fun k t es b hm hbk=>?_,fun i j b hi hj=>hb.inj i j b ?_ ?_,hb.frz,hb.more,hb.grow,hb.below,hb.env⟩,hd,hs,hK⟩
 ·obtain⟨ds,h1,h2⟩:=hmem _ _ _ hm
  have hh:=hb.boxes _ _ _ h1
  rcases h2 with rfl|rfl
  ·exact hh
  ·cases hh with
   |box _ b vs h3 h4 h5 h6 h7=>exact .box _ b vs h3 (h4.jD hb hL) (nF E5 h5) h6 h7
   |row m d enc l p n cap h3 h4=>exact .row m d enc l p n cap h3 h4
   |map kk ag d enc l b h3 h4=>exact .map kk ag d enc l b h3 h4
   |obj b o S h3 h4 h5 h6 h7=>exact .obj b o S h3 h4 h5 h6 h7
 ·obtain⟨ds,h1,_⟩:=hmem _ _ _ hm
  exact hb.new _ _ _ _ h1 hbk
 ·obtain⟨t,es,hm⟩:=hi
  obtain⟨ds,h1,_⟩:=hmem _ _ _ hm
  exact⟨_,_,h1⟩
 ·obtain⟨t,es,hm⟩:=hj
  obtain⟨ds,h1,_⟩:=hmem _ _ _ hm
  exact⟨_,_,h1⟩
def LW(s:D->Option D)(K:List (Nat×D)):List (Nat×D):=K.map fun x=>(x.1,x.2.sub s)
theorem St.F8(k z m:Nat){t:Nat}{α:Type}{d:α}{enc:α->List D}{l:List α}(hkl:k<1000000)(hm:m<=1000000)(hg:aQ (.recs d enc l))(hlen:l.length=m)(hz:(enc d).length=z)(hl:L.lookup k=some (t,l.flatMap enc))(hno:D.bP (l.flatMap enc)=true)
  (hK':LW (ie k z) K=K') (hL':setRow k t (.aO false d enc l) (zM (ie k z) (L.filter fun x=>!(x.1==k)))=L'):∀a w,St nt F0 w0 K L a w->St nt F0 w0 K' L' a w:=by
 rintro a w ⟨B,F,hb,hd,hs,hK⟩
 subst hK';subst hL'
 have hk:=aB hl
 have hh:=hb.boxes _ _ _ hk
 generalize hds:l.flatMap enc=ds at hh
 cases hh with
 |row m' d' enc' l' p n cap hB h =>
  have:=nz hg
  rw[hds] at this
  simp[D.flat] at this
 |map kk ag d' enc' l' b hB h =>
  have:=nz hg
  rw[hds] at this
  simp[D.flat] at this
 |obj b o S hB =>
  have:=nz hg
  rw[hds] at this
  simp[D.flat] at this
 |box _ b vs hB hr hfl hheap hnf =>
  have hu:aA F w NB (l.flatMap enc) vs:=by rw[hds];exact hr.bare (by rw[<-hds];exact hno)
  obtain⟨h1,h2,h3⟩:=Base.F8 hb hk hkl hB hheap hnf hu hg hlen hz (by simp only[maxLen];omega)
  rw[setRow_self w b _ _ _ hheap] at h1 h2 h3
  refine⟨_,F,h1.sub fun j t' es hm=>?_,hd,hs,fun x hx=>?_⟩
  ·unfold aN setRow at hm
   rcases List.mem_cons.1 hm with hm|hm
   ·cases hm;exact .inl ⟨rfl,rfl,rfl⟩
   ·obtain⟨h4,h5⟩:=List.mem_filter.1 hm
    unfold zM at h4
    obtain⟨y,h6,h7⟩:=List.mem_map.1 h4
    obtain⟨h8,h9⟩:=List.mem_filter.1 h6
    cases h7
    exact .inr ⟨by simpa using h5,_,h8,rfl⟩
  ·obtain⟨y,hy,rfl⟩:=List.mem_map.1 hx
   obtain⟨v,h4,h5⟩:=hK y hy
   exact⟨v,h4,h5.sub h3⟩
theorem Wp.scope{c:Code}(h:Wp P nt F0 w0 K L c (Exit.noGoto Q)):Wp P nt F0 w0 K L (.scope c) Q:=fun a w hs=>XC.scope (h a w hs)
theorem To.scope{e:Exit}(he:e=.normal\/e=.ret\/∃id,e=.exit id)(h:To nt F0 w0 K L e Q):To nt F0 w0 K L e (Exit.noGoto Q):=by
 rcases he with rfl|rfl|⟨id,rfl⟩<;>exact h
def e8:UInt8->List D:=fun b=>[.val (.int .u8 (b.toNat:Int))]
theorem dh(l:Bs):aQ (.recs 0 e8 l):=⟨Nat.zero_lt_one,fun _=>⟨rfl,rfl⟩⟩
theorem BJ:∀l:Bs,l.flatMap e8=l.map fun b=>.val (.int .u8 (b.toNat:Int))
 |[]=>rfl
 |b::l=>by simp[e8,BJ l]
theorem Gf{n:Int}(h:(decide (0<=n/\n<256))=true):((UInt8.ofNat n.toNat).toNat:Int)=n:=by
 have:=of_decide_eq_true h
 simp only[UInt8.toNat_ofNat']
 omega
inductive iE:Bs->List Int->Prop
 |nil:iE [] []
 |cons {b:UInt8} {n:Int} {l:Bs} {ns:List Int} (h:(b.toNat:Int)=n) (hs:iE l ns):iE (b::l) (n::ns)
theorem iE.cells:∀{l:Bs}{ns:List Int},iE l ns->l.flatMap e8=ns.map fun n=>.val (.int .u8 n)
 |_,_,.nil=>rfl
 |_,_,.cons h hs=>by simp only[List.flatMap_cons,e8,h,iE.cells hs,List.map_cons];rfl
theorem iE.len:∀{l:Bs}{ns:List Int},iE l ns->l.length=ns.length
 |_,_,.nil=>rfl
 |_,_,.cons _ hs=>by simp[iE.len hs]
theorem aj.nil:aj []:=trivial
theorem aj.cons{p:Prop}{l:List Prop}(h:p)(hs:aj l):aj (p::l):=by
 cases l with
 |nil=>exact h
 |cons q l=>exact⟨h,hs⟩
theorem cx{f:Nat}{ds:List D}{r:D}(h:aT P f ds r):CX P f ds r:=.inl h
theorem fL{α:Type}{d:α}{enc:α->List D}{l:List α}{z n:Nat}{cs:List D}(h1:l.flatMap enc=cs)(h2:l.length=n)(h3:(enc d).length=z)(hg:aQ (.recs d enc l)):dC z cs n (.recs d enc l)/\aQ (.recs d enc l):=⟨⟨α,d,enc,l,.of_eq h1.symm,h2,h3,rfl⟩,hg⟩
theorem eG{α:Type}{d:α}{enc:α->List D}{l xs:List α}{n:Nat}{cs:List D}(h1:xs.flatMap enc=cs)(h2:xs.length=n)(hg:aQ (.recs d enc (l++xs))):eQ d enc l cs n (.recs d enc (l++xs))/\aQ (.recs d enc (l++xs)):=⟨⟨xs,.of_eq h1.symm,h2,rfl⟩,hg⟩
theorem LK{α:Type}{d:α}{enc:α->List D}{n:Nat}{cs:List D}(h1:enc d=cs)(hg:aQ (.recs d enc (List.replicate n d))):yL cs n (.recs d enc (List.replicate n d))/\aQ (.recs d enc (List.replicate n d)):=⟨⟨α,d,enc,.of_eq h1.symm,rfl⟩,hg⟩
theorem E7{s:Bs}{cs:List D}(h:cs=s.map fun b=>.val (.int .u8 b.toNat)):wB cs (.str s):=⟨s,h,rfl⟩
theorem Me{α:Type}{d:α}{enc:α->List D}{l:List α}{n:Int}{off:Nat}{cells:List D}{x:α}(h:enc x=setCells (enc (l[n.toNat]?.getD d)) off cells):BL d enc l n off cells (.recs d enc (l.set n.toNat x)):=⟨x,.of_eq h.symm,rfl⟩
theorem Ho{fd:ax}{c:CBd}(h:ua c.dJ c.dT=fd):tK fd c:=h
theorem iq{c:Bool}{α:Type _}{x y:α}{r:α}(hc:c=true)(h:(if c=true then x else y)=r):x=r:=by rwa[if_pos hc] at h
theorem yc{c:Bool}{α:Type _}{x y:α}{r:α}(hc:c=false)(h:(if c=true then x else y)=r):y=r:=by rwa[if_neg (by simp[hc])] at h
theorem aF{c:Bool}{α:Type _}{x:Option α}{r:α}(h:(if c=true then x else none)=some r):c=true/\x=some r:=by
 by_cases hc:c=true
 ·exact⟨hc,iq hc h⟩
 ·rw[if_neg hc] at h;cases h
theorem ay{α β:Type _}{x:Option α}{f:α->Option β}{r:β}(h:x.bind f=some r):∃y,x=some y/\f y=some r:=Option.bind_eq_some_iff.1 h
def bM{α β:Type _}(a:α)(f:α->β):β:=f a
theorem aW{α β:Type _}{a:α}{f:α->β}{r:β}(h:bM a f=r):∃x,a=x/\f x=r:=⟨a,rfl,h⟩
theorem fZ{α β γ:Type _}{f:α->γ}{g:β->γ}{a:α}{r:γ}(h:Sum.elim f g (.inl a)=r):f a=r:=h
theorem gv{α β γ:Type _}{f:α->γ}{g:β->γ}{b:β}{r:γ}(h:Sum.elim f g (.inr b)=r):g b=r:=h
def xP(tab:List (Nat×TI)):Nat->Option TI:=fun t=>tab.lookup t
def tN(P:Program):List (Nat×TI)->Prop
 |[]=>True
 |x::l=>(rB P x.1=some { x.2 with eqs:=[] }/\(x.2.eqs≠[]->zN P x.1 x.2.eqs))/\tN P l
theorem tN.mem:∀{l:List (Nat×TI)},tN P l->∀x∈l,rB P x.1=some { x.2 with eqs:=[] }/\(x.2.eqs≠[]->zN P x.1 x.2.eqs)
 |[],_,x,hx=>by simp at hx
 |y::l,h,x,hx=>by
  rcases List.mem_cons.1 hx with rfl|hx
  ·exact h.1
  ·exact tN.mem h.2 x hx
theorem ΓOK.of{tab:List (Nat×TI)}(h:tN P tab):ΓOK P (xP tab):=fun _ _ ht=>tN.mem h _ (aB ht)
end
def cA:Code->Code|.seq a _=>a|c=>c
def cB:Code->Code|.seq _ b=>b|c=>c
def cT:Code->Code|.cond _ a _=>a|c=>c
def cE:Code->Code|.cond _ _ b=>b|c=>c
def cI:Code->Code|.block _ c=>c|.loop c=>c|.scope c=>c|c=>c
def cF(f:Func):Code:=f.body.getD .skip
end Go.Proofs.YtefojkdckfidcaaGreatDoor.RX
namespace Go.Proofs.YtefojkdckfidcaaGreatDoor.RX
open Go.RowKit Go.ChangeShapes Go.WideShapes Go.Deep
def Old(W:World):Fz:=fun g _=>g<W.heap.size
def mq(P:Program)(t:Nat){α:Type}(wf:α->Prop)(cells:α->List D):Prop :=
 ∀(H:Type)(enc:TypeId×Value->H)(W:World)(fuel:Nat)(cs:List Value)(d:DataW H)(ps:List MemPlace),DataW.trod enc P W 0 (fun _=>true) true fuel t cs=some (d,ps)->∃x,wf x/\aA (Old W) W NB (cells x) cs
section
variable {P:Program}
theorem Gt{t:Nat}{k:IntKind}(ht:P.underlying t=some (.int k)):mq P t (fun n:Int=>k.min<=n/\n<=k.max) (fun n=>[.val (.int k n)]):=by
 intro H enc W fuel cs d ps h
 obtain⟨n,rfl,_,hw⟩:=DataW.trod_int ht h
 exact⟨n,by simpa[Lit.wf] using hw,.cons _ _ _ _ (.val _ rfl) .nil⟩
theorem Ib{t:Nat}(ht:P.underlying t=some .string):mq P t (fun l:Bs=>l.length<=maxLen) (fun l=>[.str l]):=by
 intro H enc W fuel cs d ps h
 obtain⟨s,rfl,_,hw⟩:=DataW.trod_string ht h
 refine⟨s.data.toList,?_,?_⟩
 ·have:s.data.toList.length=s.size:=by simp
  show s.data.toList.length<=maxLen
  rw[this];exact hw
 ·have:=aA.cons (F:=Old W) (w:=W) (B:=NB) _ _ _ _ (.str s.data.toList) .nil
  simpa using this
theorem Cc{W:World}{a:Addr}{v:Value}(h:W.cell? a=some v):a.block<W.heap.size/\a.spot=none:=by
 unfold World.cell? at h
 split at h
 ·rename_i hh
  refine⟨(Array.getElem?_eq_some_iff.1 hh).1,?_⟩
  split at h
  ·cases h
  ·rename_i hs;simpa using hs
 ·cases h
def nQ(P:Program)(t:Nat){α:Type}(wf:α->Prop)(cells:α->List D)(N:Nat):Prop :=
 ∀(H:Type)(enc:TypeId×Value->H)(W:World)(fuel:Nat)(cs:List Value)(d:DataW H)(ps:List MemPlace),SizeOf.sizeOf d<N->DataW.trod enc P W 0 (fun _=>true) true fuel t cs=some (d,ps)->∃x,wf x/\aA (Old W) W NB (cells x) cs
theorem mq.n{t:Nat}{α:Type}{wf:α->Prop}{cells:α->List D}(h:mq P t wf cells)(N:Nat):nQ P t wf cells N:=fun H enc W fuel cs d ps _=>h H enc W fuel cs d ps
theorem Hw{t:Nat}{α:Type}{wf:α->Prop}{cells:α->List D}(h:∀N,nQ P t wf cells N->nQ P t wf cells (N+1)):mq P t wf cells:=by
 have key:∀N,nQ P t wf cells N:=by
  intro N
  induction N with
  |zero=>intro H enc W fuel cs d ps hN;omega
  |succ N ih=>exact h N ih
 exact fun H enc W fuel cs d ps=>key (SizeOf.sizeOf d+1) H enc W fuel cs d ps (by omega)
theorem uU{t e:Nat}{α:Type}{wf:α->Prop}{cells:α->List D}{N:Nat}(d0:α)(ht:P.underlying t=some (.slice e))(hsz:P.cellsOf e=(cells d0).length)(hpos:0<P.cellsOf e)(he:nQ P e wf cells N) :
  nQ P t (fun l:List α=>l.length<=maxLen/\∀x∈l,wf x) (fun l=>[.recs d0 cells l]) N:=by
 intro H enc W fuel cs d ps hN h
 rcases open_slice ht h with⟨rfl,_⟩|⟨a,len,cap,m,n,Dt,Pl,rfl,hb,hl,hm,hmm,hd,hx⟩
 ·exact⟨[],⟨by simp,by simp⟩,.cons _ _ _ _ (.bW _ _ none) .nil⟩
 simp only[if_true] at hmm
 obtain rfl:=hmm
 have hel:∀i,i<len->∃y:α×List Value,wf y.1/\aA (Old W) W NB (cells y.1) y.2/\y.2.length=P.cellsOf e/\∀j,j<P.cellsOf e->W.cell? ((a.add (i*P.cellsOf e)).add j)=y.2[j]?:=by
  intro i hi
  obtain⟨cs',h1,h2⟩:=hx i (by omega)
  have hlt:SizeOf.sizeOf (Dt i)<N:=by
   cases hd
   have h3:Dt i∈(List.range len).map Dt:=List.mem_map.2 ⟨i,List.mem_range.2 hi,rfl⟩
   have h4:=List.sizeOf_lt_of_mem h3
   simp only[DataW.slice.sizeOf_spec] at hN
   omega
  obtain⟨x,hw,hr⟩:=he H enc W n cs' _ _ hlt h2
  obtain⟨_,hlen,hc⟩:=World.cells?_some h1
  exact⟨(x,cs'),hw,hr,hlen,hc⟩
 haveI:Inhabited (α×List Value):=⟨(d0,[])⟩
 obtain⟨f,hf⟩:=choose_lt hel
 by_cases h0:m=0
 ·have hl0:len=0:=by omega
  subst h0;subst hl0
  exact⟨[],⟨by simp,by simp⟩,.cons _ _ _ _ (.bW _ _ (some a)) .nil⟩
 have hspot:a.spot=none:=by
  obtain⟨cs',h1,_⟩:=hx 0 (by omega)
  obtain⟨_,hlen,hc⟩:=World.cells?_some h1
  have h2:=hc 0 hpos
  have h3:(0:Nat)<cs'.length:=by omega
  rw[List.getElem?_eq_getElem h3] at h2
  have:=(Cc h2).2
  simpa[Addr.add] using this
 obtain⟨g,off,spot⟩:=a
 simp only at hspot
 subst hspot
 refine⟨(List.range len).map fun i=>(f i).1,⟨by simp;exact Nat.le_trans hl hm,fun x hx=>?_⟩,.cons _ _ _ _ ?_ .nil⟩
 ·obtain⟨i,hi,rfl⟩:=List.mem_map.1 hx
  exact(hf i (List.mem_range.1 hi)).1
 ·have hlen:((List.range len).map fun i=>(f i).1).length=len:=by simp
  have key:=Rep.recs (F:=Old W) (w:=W) (B:=NB) d0 cells ((List.range len).map fun i=>(f i).1) g off m (P.cellsOf e) (fun i=>(f i).2) hsz
   (fun i hi=>(hf i (by omega)).2.2.1)
   (fun i hi=>by
    have hi':i<len:=by omega
    have:((List.range len).map fun i=>(f i).1)[i]?.getD d0=(f i).1:=by simp[hi']
    rw[this];exact(hf i hi').2.1)
   (fun i j hi hj=>by
    have hi':i<len:=by omega
    have h2:=(hf i hi').2.2.2 j hj
    rw[add_add] at h2
    have h3:(Addr.add ⟨g,off,none⟩ (i*P.cellsOf e+j))=⟨g,off+i*P.cellsOf e+j,none⟩:=by
     unfold Addr.add;split<;>simp_all<;>omega
    rw[h3] at h2
    refine⟨?_,h2⟩
    have h4:j<(f i).2.length:=by rw[(hf i hi').2.2.1];exact hj
    rw[List.getElem?_eq_getElem h4] at h2
    exact(Cc h2).1)
   (by omega)
  rw[hlen] at key
  exact key
theorem DV{t e:Nat}{α:Type}{wf:α->Prop}{cells:α->List D}(d0:α)(ht:P.underlying t=some (.slice e))(hsz:P.cellsOf e=(cells d0).length)(hpos:0<P.cellsOf e)(he:mq P e wf cells) :
  mq P t (fun l:List α=>l.length<=maxLen/\∀x∈l,wf x) (fun l=>[.recs d0 cells l]) :=
 fun H enc W fuel cs d ps=>uU d0 ht hsz hpos (he.n (SizeOf.sizeOf d+1)) H enc W fuel cs d ps (by omega)
theorem Dz{t e:Nat}{α:Type}{wf:α->Prop}{pre:α->List D}{kids:α->List α}{N:Nat}(d0:α)(ht:P.underlying t=some (.slice e))(hsz:P.cellsOf e=(oM d0 pre kids d0).length)(hpos:0<P.cellsOf e)(he:nQ P e wf (oM d0 pre kids) N) :
  nQ P t (fun l:List α=>l.length<=maxLen/\∀x∈l,wf x) (fun l=>[.tree d0 pre kids l]) N:=by
 intro H enc W fuel cs d ps hN h
 obtain⟨l,hw,hr⟩:=uU d0 ht hsz hpos he H enc W fuel cs d ps hN h
 refine⟨l,hw,?_⟩
 cases hr with
 |cons _ v _ vs hv hs=>cases hs;exact .cons _ _ _ _ (.tree _ _ _ _ _ hv) .nil
def wz(F:Fz)(w:World):List (List D×Nat)->List Value->Prop
 |[],cs=>cs=[]
 |(ds,s)::l,cs=>aA F w NB ds (cs.take s)/\wz F w l (cs.drop s)
theorem wz.rep{F w}:∀{l:List (List D×Nat)}{cs:List Value},wz F w l cs->aA F w NB (l.flatMap (·.1)) cs
 |[],cs,h=>by cases h;exact .nil
 |(ds,s)::l,cs,h=>by
  have:=aA.append h.1 (wz.rep h.2)
  rwa[List.take_append_drop] at this
def PartsAt(F:Fz)(w:World)(cs:List Value):Nat->List (List D×Nat)->Prop
 |o,[]=>cs.length<=o
 |o,(ds,s)::l=>aA F w NB ds ((cs.drop o).take s)/\PartsAt F w cs (o+s) l
theorem PartsAt.rep{F w}{cs:List Value}:∀{o:Nat}{l:List (List D×Nat)},PartsAt F w cs o l->aA F w NB (l.flatMap (·.1)) (cs.drop o)
 |o,[],h=>by rw[List.drop_eq_nil_of_le h];exact .nil
 |o,(ds,s)::l,h=>by
  have:=aA.append h.1 (PartsAt.rep h.2)
  rw[<-List.drop_drop,List.take_append_drop] at this
  exact this
theorem BF{F w}{cs:List Value}{ds:List D}{a b a' b':Nat}(h:aA F w NB ds ((cs.drop a).take b))(ha:a=a')(hb:b=b'):aA F w NB ds ((cs.drop a').take b'):=by subst ha;subst hb;exact h
theorem parts_all{F w}{cs:List Value}{l:List (List D×Nat)}{ds:List D}(h:PartsAt F w cs 0 l)(e:l.flatMap (·.1)=ds):aA F w NB ds cs:=by subst e;simpa using PartsAt.rep h
theorem Ht{H:Type}{enc:TypeId×Value->H}{W:World}{fuel t:Nat}{cs:List Value}{d:DataW H}{ps:List MemPlace}{fs:Array Field}{N:Nat}(ht:P.underlying t=some (.struct fs))(hN:SizeOf.sizeOf d<N+1)
  (h:DataW.trod enc P W 0 (fun _=>true) true fuel t cs=some (d,ps)):cs.length=P.cellsOf t/\∀(i:Nat)(f:Field){α:Type}{wf:α->Prop}{cells:α->List D},fs[i]? = some f->nQ P f.type wf cells N ->
   ∃x,wf x/\aA (Old W) W NB (cells x) ((cs.drop f.offset).take (P.cellsOf f.type)):=by
 obtain⟨xs,n,_,hd,hlen,hxs,hx⟩:=DataW.trod_struct ht h
 refine⟨hlen,fun i f α wf cells hf ho=>?_⟩
 have hi:i<fs.size:=(Array.getElem?_eq_some_iff.1 hf).1
 have h1:=hx i f hf
 rw[List.getElem?_eq_getElem (by omega)] at h1
 refine ho H enc W n _ _ _ ?_ h1
 cases hd
 have h2:(xs[i]'(by omega)).1∈xs.map (·.1):=List.mem_map.2 ⟨_,List.getElem_mem _,rfl⟩
 have h3:=List.sizeOf_lt_of_mem h2
 simp only[DataW.agg.sizeOf_spec] at hN
 simp only[List.get_eq_getElem]
 omega
theorem FX{W:World}{r:Reach}{b t:Nat}{v:Value}{d:TypeDesc}(hd:P.underlying t=some d)(ha:l5 d=false)(h:Value.okWide P W r b t v):v.cells.toList=[v]:=by
 unfold Value.okWide at h
 rw[hd] at h
 cases v<;>first|rfl|skip
 all_goals cases d<;>simp_all [l5,Cell.okWide,Cell.ok]
theorem J5{H:Type}{enc:TypeId×Value->H}{W:World}{r:Reach}{b t:Nat}{v:Value}{d:TypeDesc}{dw:DataW H}{ps:List MemPlace}{α:Type}{wf:α->Prop}{cell:α->D}(hd:P.underlying t=some d)(ha:l5 d=false)
  (hv:Value.okWide P W r b t v) (h:DataW.Trod enc P W 0 (fun _=>true) true t v dw ps) (ho:mq P t wf fun x=>[cell x]):∃x,wf x/\Rep (Old W) W NB (cell x) v:=by
 obtain⟨fuel,hf⟩:=h
 rw[FX hd ha hv] at hf
 obtain⟨x,hw,hr⟩:=ho H enc W fuel _ _ _ hf
 cases hr with
 |cons _ _ _ _ h _=>exact⟨x,hw,h⟩
theorem Kw{H:Type}{enc:TypeId×Value->H}{W:World}{r:Reach}{b t:Nat}{v:Value}{fs:Array Field}{dw:DataW H}{ps:List MemPlace}{α:Type}{wf:α->Prop}{cells:α->List D}(hd:P.underlying t=some (.struct fs))
  (hv:Value.okWide P W r b t v) (h:DataW.Trod enc P W 0 (fun _=>true) true t v dw ps) (ho:mq P t wf cells):∃x,wf x/\Rep (Old W) W NB (.agg (cells x)) v:=by
 obtain⟨fuel,hf⟩:=h
 unfold Value.okWide at hv
 rw[hd] at hv
 obtain⟨cs,rfl,_,_⟩:=hv
 obtain⟨x,hw,hr⟩:=ho H enc W fuel _ _ _ hf
 refine⟨x,hw,?_⟩
 have:=Rep.agg (F:=Old W) (w:=W) (B:=NB) _ _ hr
 simpa[Value.cells] using this
theorem Ao(hl:laidOutB P=true){H:Type}{enc:TypeId×Value->H}{W W':World}(hb:Below W.heap.size W W'):∀{ts:List TypeId}{vs:List Value}{ds:List (DataW H)}{ps:List MemPlace},
  (ts.all fun t=>P.readableRec t&&decide (t<P.types.size))=true->(∀x∈ps,x.block<W.heap.size)->DataW.TrodAll enc P W 0 (fun _=>true) true ts vs ds ps->DataW.TrodAll enc P W' 0 (fun b=>decide (b<W.heap.size)) true ts vs ds ps
 |[],vs,ds,ps,_,_,h=>by
  obtain⟨rfl,rfl,rfl⟩:=trodAll_nil h
  exact trodAll_mk0
 |t::ts,vs,ds,ps,hr,hlt,h=>by
  obtain⟨v,vs',d,ds',p,q,rfl,rfl,rfl,h1,h2⟩:=trodAll_cons h
  simp only[List.all_cons,Bool.and_eq_true,decide_eq_true_eq] at hr
  exact trodAll_cons_mk (Below.trod hl hr.1.1 hr.1.2 h1 hb fun x hx=>hlt x (List.mem_append_left _ hx)) (Ao hl hb hr.2 (fun x hx=>hlt x (List.mem_append_right _ hx)) h2)
end
theorem KX(P:Program):P.low=P.globals.size+5:=by simp[Program.low,begin]
theorem LJ{P:Program}{W:World}(h:W.ShapedOpen P):Shp P W:=by
 refine⟨W,h,?_,fun _ _=>rfl⟩
 have hl:=KX P
 obtain⟨o,o₀,h1,_⟩:=h.2 (P.globals.size+4) (by omega) (by have:P.low=(begin P (fun _ _=>0) default).world.heap.size:=rfl;omega)
 have:=(Array.getElem?_eq_some_iff.1 h1).1
 omega
end Go.Proofs.YtefojkdckfidcaaGreatDoor.RX
namespace Go.Proofs.YtefojkdckfidcaaGreatDoor.RX
open Go
theorem BN{H:Type}{enc:TypeId×Value->H}{C:Checked}{os:Os}{f:FuncId}{fn:Func}{s:ChangeSpec}{conds:List PathCond}{apart fresh handsOn again:Bool}{laid:List (String×DataW Unit)}
  (own:ownKnob C.prog.godebug=none) (started:os.Started) (noInit:C.prog.inits.idxOf? f=none) (hfn:C.prog.funcs[f]? = some fn)
  (witness:∃(w:World)(tape:Tape)(i:Input),w.os=os/\(w.forCall tape i).Shaped C.prog/\i.vars=[]/\Input.okWide C.prog (w.forCall tape i) .any w.heap.size f i /\
   ((s.pre enc C.prog fn conds apart (w.forCall tape i).memory i.args/\laidMetH C.prog laid (w.forCall tape i).memory)/\sizedMet enc C.prog fn (OpenSpec.ofChange s) apart (w.forCall tape i).memory i.args)/\({}:Assume).holds C.prog (lone (Frame.enter C.prog f i.args .normal) [] (w.forCall tape i)))
  (contract:∀(W:World)(base:Nat)(args:Array Value)(ds gs:List (DataW H))(before:List MemPlace),
   (∀(j:Nat) t v,fn.params[j]? = some t->args[j]? = some v->Value.okWide C.prog W .any base t v) ->
   DataW.Whole enc C.prog fn.params.toList s.vars apart W args.toList ds gs before ->
   W.ShapedOpen C.prog ->
   Calls C.prog f args W fun e W'=>∃v,e=.returned v/\s.post enc C.prog fn apart fresh handsOn again W args v W') :
  ReturnsInHanded {} C os f .any (fun w args=>(s.pre enc C.prog fn conds apart w args/\laidMetH C.prog laid w)/\sizedMet enc C.prog fn (OpenSpec.ofChange s) apart w args) (s.post enc C.prog fn apart fresh handsOn again):=by
 refine returnsInHanded_of_calls own started noInit witness ?_
 intro w tape i _ hsh _ hok hpre _
 obtain⟨_,_,_,fn',hfn',_,_,_,_,hval⟩:=hok
 have e:fn'=fn:=Option.some.inj (hfn'.symm.trans hfn)
 subst e
 obtain⟨⟨⟨ds,gs,before,hw,hc⟩,_⟩,_⟩:=hpre
 have hw':=DataW.Whole.of_heap (w':=w.forCall tape i) (by rfl) hw
 refine(contract (w.forCall tape i) w.heap.size i.args ds gs before hval hw' hsh).mono fun e W' ⟨v,he,hp⟩=>?_
 subst he
 exact ChangeSpec.post_blind hp
end Go.Proofs.YtefojkdckfidcaaGreatDoor.RX
