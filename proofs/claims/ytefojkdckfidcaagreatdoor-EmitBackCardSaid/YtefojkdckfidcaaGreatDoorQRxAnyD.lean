import Derived.Test.YtefojkdckfidcaaGreatDoorQRxAnyB
import Derived.Lib.LazyBuf
import Derived.ChangeKeysEq
import Derived.Recover
import Derived.RangeFuncSeq
set_option linter.all false
namespace Go.Proofs.YtefojkdckfidcaaGreatDoor.RX
open Go.RowKit
def J4(l:List Oper)(n:Nat):Bool:=l.zipIdx.all fun x=>decide (x.2<n)||(List.range x.2).all fun j=>(lZ l x.2).contains j
def Fg(l:List Oper)(n:Nat):Bool:=l.all fun o=>match o.guard with|some g=>decide (g.1<n)|none=>true
def Qm(pre:List Oper)(K:List Ent):List Ent:=K.filter fun e=>e.src != 0||pre.all fun o=>!(o.dst==some e.slot)
section
variable (C:Nat->List D->D->Prop) (CB:Nat->List D->aA->D->aA->Prop) (Γ:Nat->Option TI) (nt:Nat) (orc:List (Nat×D)) (orb:List (Nat×CBd)) (ops:List Oper)
def Dx(n:Nat)(fz:List (Nat×List Nat))(L0:aA)(K:List (Nat×D))(kk kl:List Nat):Option (List (Nat×D)×aA×List Prop) :=
 if pG (ops.take n)&&lT ops&&lT (ops.take n)&&J4 ops n&&Fg (ops.take n) n&&decide (n<=ops.length)&&(L0.all fun x=>ki x.2.2||x.2.2.all D.flat) then
  match tP C Γ nt orc (ops.take n) L0 (ops.take n) 0 (sJ K) with
  |some s =>
   match mr C CB Γ nt orc orb ops fz (ops.drop n) n { K:=Qm (ops.take n) s.K,L:=I4 L0 s,tab:=s.tab,obl:=s.obl } with
   |some s'=>match qy s'.K kk,i6 s'.L kl with|some K',some L'=>some (K',L',s'.obl)|_,_=>none
   |none=>none
  |none=>none
 else none
end
section
variable {P:Program} {F0:Fz} {w0:Pt P} {B:Env} {F:Fz} {w:World} {a:Act} {Q:Exit->Act->World->Prop} {Γ:Nat->Option TI} {nt:Nat} {L0:aA} {orc:List (Nat×D)} {K:List (Nat×D)} {st:Nat->DS}
theorem NK{pre l:List Oper}{i:Nat}{R:Act->World->Prop}(hp:∀j,j<pre.length->l[j]? = pre[j]?)(hi:i<pre.length)(hg:∀o gi,pre[i]? = some o->o.guard=some gi->gi.1<pre.length)(h:wpOp P pre.toArray Q i R a w):wpOp P l.toArray Q i R a w:=by
 unfold wpOp at *
 have e:=hp i hi
 rw[List.getElem?_toArray] at *
 rw[e]
 cases ho:pre[i]? with
 |none=>rw[ho] at h;exact h
 |some o =>
  rw[ho] at h
  simp only at h ⊢
  have ew:Region.wanted o (yielded l.toArray a.tmps)=Region.wanted o (yielded pre.toArray a.tmps):=by
   unfold Region.wanted
   cases hgd:o.guard with
   |none=>rfl
   |some gi =>
    obtain⟨j,want⟩:=gi
    have hj:=hg o (j,want) ho hgd
    simp only
    unfold yielded
    rw[List.getElem?_toArray,List.getElem?_toArray,hp j hj]
  rw[ew];exact h
theorem Jj{l:List Oper}(he:lT l=true){n:Nat}(hs:J4 l n=true):∀(fuel i:Nat)(listed:Array Bool)(a:Act)(w:World),n<=i->i<=l.length->listed.size=l.length->(∀j,j<l.length->listed.getD j false=decide (j<i))->l.length-i<=fuel->wpList P l.toArray Q (l.drop i) a w->wpAny P .any l.toArray Q fuel listed a w:=by
 intro fuel
 induction fuel with
 |zero =>
  intro i listed a w hn hi hsz hl hf h
  have e:i=l.length:=by omega
  subst e
  rw[List.drop_eq_nil_of_le (Nat.le_refl _)] at h
  refine⟨?_,h⟩
  apply List.eq_nil_iff_forall_not_mem.2
  intro j hj
  obtain⟨h1,o,h2,_⟩:=mem_ready.1 hj
  rw[List.getElem?_toArray] at h2
  have hlt:=(List.getElem?_eq_some_iff.1 h2).1
  have h3:=hl j hlt
  have hj':j<listed.size:=by omega
  simp only[Array.getD_eq_getD_getElem?,Array.getElem?_eq_getElem hj',Option.getD_some] at h1 h3
  rw[h3] at h1;simp at h1;omega
 |succ fuel ih =>
  intro i listed a w hn hi hsz hl hf h
  by_cases hlt:i<l.length
  ·have hd:l.drop i=l[i]::l.drop (i+1):=List.drop_eq_getElem_cons hlt
   rw[hd,wpList] at h
   refine⟨fun hr=>?_,fun j hj=>?_⟩
   ·have:=ng he hr hsz i hlt
    rw[hl i hlt] at this;simp at this
   ·obtain⟨h1,o,h2,h3⟩:=mem_ready.1 hj
    rw[List.getElem?_toArray] at h2
    have hjl:=(List.getElem?_eq_some_iff.1 h2).1
    have hj':j<listed.size:=by omega
    have hjf:listed.getD j false=false:=by
     simp only[Array.getD_eq_getD_getElem?,Array.getElem?_eq_getElem hj',Option.getD_some] at h1 ⊢
     exact h1
    have hge:i<=j:=by
     rw[hl j hjl] at hjf;simpa using hjf
    have hji:j=i:=by
     rcases Nat.lt_or_ge i j with hlt2|hge2
     ·exfalso
      have hz:(o,j)∈l.zipIdx:=List.mem_zipIdx_iff_getElem?.2 h2
      have h4:=List.all_eq_true.1 hs _ hz
      simp only[Bool.or_eq_true,decide_eq_true_eq] at h4
      have h5:=h4.resolve_left (by omega)
      have h6:=List.all_eq_true.1 h5 i (List.mem_range.2 hlt2)
      have h7:i∈lZ l j:=by simpa using h6
      have h8:=EG (ops:=l) (S:=fun q=>decide (q<i)) (fun k o' hk ho' q hq=>by
       have hz':(o',k)∈l.zipIdx:=List.mem_zipIdx_iff_getElem?.2 ho'
       have h9:=List.all_eq_true.1 (List.all_eq_true.1 he _ hz') q hq
       simp only[decide_eq_true_eq] at hk h9 ⊢
       omega) h2 (fun q hq=>by
       unfold onL at hq
       obtain⟨e,he1,he2⟩:=List.mem_filterMap.1 hq
       split at he2
       ·rename_i hb
        cases he2
        have h9:=h3 e (by simpa using he1) hb
        have hz':(o,j)∈l.zipIdx:=List.mem_zipIdx_iff_getElem?.2 h2
        have h10:=List.all_eq_true.1 (List.all_eq_true.1 he _ hz') e.on (by unfold onL;exact List.mem_filterMap.2 ⟨e,he1,by rw[hb];rfl⟩)
        simp only[decide_eq_true_eq] at h10
        rw[hl _ (by omega)] at h9;exact h9
       ·cases he2) i h7
      simp at h8
     ·omega
    subst hji
    have ho:l[j]? = some l[j]:=List.getElem?_eq_getElem hlt
    unfold wpOp
    rw[List.getElem?_toArray,ho]
    simp only
    have hnext:∀a w,wpList P l.toArray Q (l.drop (j+1)) a w->wpAny P .any l.toArray Q fuel (listed.setIfInBounds j true) a w:=fun a w hw =>
     ih (j+1) _ a w (by omega) (by omega) (by simp[hsz]) (fun q hq=>by
      by_cases hqj:q=j
      ·subst hqj
       simp[Array.getD_eq_getD_getElem?,hj']
      ·rw[getD_set_ne false (fun e=>hqj e.symm),hl q hq]
       rw[decide_eq_decide];omega) (by omega) hw
    split
    ·rename_i hw
     rw[if_pos hw] at h
     exact h.imp (Oper.wp_mono hnext) id
    ·rename_i hw
     rw[if_neg hw] at h
     exact hnext _ _ h
  ·have e:i=l.length:=by omega
   subst e
   rw[List.drop_eq_nil_of_le (Nat.le_refl _)] at h
   refine⟨fun _=>h,fun j hj=>?_⟩
   exfalso
   obtain⟨h1,o,h2,_⟩:=mem_ready.1 hj
   rw[List.getElem?_toArray] at h2
   have hjl:=(List.getElem?_eq_some_iff.1 h2).1
   have h3:=hl j hjl
   have hj':j<listed.size:=by omega
   simp only[Array.getD_eq_getD_getElem?,Array.getElem?_eq_getElem hj',Option.getD_some] at h1 h3
   rw[h3] at h1;simp at h1;omega
def Gf(P:Program)(l:List Oper)(n:Nat)(Q:Exit->Act->World->Prop):Exit->Act->World->Prop
 |.normal,a,w=>wpList P l.toArray Q (l.drop n) a w
 |e,a,w=>Q e a w
theorem N6{l:List Oper}{n:Nat}(h:LetsOut (Gf P l n Q)):LetsOut Q:=h
theorem QH{l:List Oper}{n:Nat}{o:Oper}{K K':Act->World->Prop}(h:∀a w,K a w->K' a w)(hh:o.wp P a w K (Gf P l n Q)):o.wp P a w K' Q:=by
 unfold Oper.wp at *
 generalize (execOp a.eval o).run P w=r at *
 cases r with
 |ok n w' =>
  cases n<;>simp only[Oper.upon] at hh ⊢ <;>
   first
    |exact h _ _ hh
    |exact Calls.mono hh (fun e w'' he=>by cases e<;>first|exact h _ _ he|exact he)
    |exact Rows.mono hh (fun _ _ he=>h _ _ he)
 |halt x w'=>cases x<;>simp only[Oper.upon] at hh ⊢<;>exact hh
theorem Ob{l:List Oper}{n i:Nat}{ops:Array Oper}{K K':Act->World->Prop}(h:∀a w,K a w->K' a w)(hh:wpOp P ops (Gf P l n Q) i K a w):wpOp P ops Q i K' a w:=by
 unfold wpOp at *
 split
 ·exact h _ _ (by simpa[*] using hh)
 ·rename_i o ho
  simp only[ho] at hh
  split
  ·rename_i hw;simp only[hw,if_true] at hh;exact hh.imp (QH h) (And.imp id N6)
  ·rename_i hw;simp only[hw] at hh;exact h _ _ hh
theorem qY{listed:Array Bool}{n m j:Nat}(hsz:listed.size=n)(hj:j<n)(b:Bool):(listed++Array.replicate m false).getD j b=listed.getD j b:=by
 simp[Array.getD_eq_getD_getElem?,Array.getElem?_append,hsz,hj]
theorem yW{listed:Array Bool}{n m j:Nat}(hsz:listed.size=n)(hj:n<=j):(listed++Array.replicate m false).getD j false=false:=by
 have:¬j<n:=by omega
 simp only[Array.getD_eq_getD_getElem?,Array.getElem?_append,hsz,this,if_false,Array.getElem?_replicate]
 split<;>rfl
theorem MU{l:List Oper}{n:Nat}(he:lT l=true)(hep:lT (l.take n)=true)(hs:J4 l n=true)(hg:Fg (l.take n) n=true)(hn:n<=l.length) :
  ∀(fuel:Nat)(listed:Array Bool)(a:Act)(w:World),listed.size=n->(∀k o,listed.getD k false=true->(l.take n)[k]? = some o->∀j∈onL o,listed.getD j false=true)->wpAny P .any (l.take n).toArray (Gf P l n Q) fuel listed a w->wpAny P .any l.toArray Q (fuel+(l.length-n)) (listed++Array.replicate (l.length-n) false) a w:=by
 have hlen:(l.take n).length=n:=by simp[hn]
 have hpre:∀j,j<(l.take n).length->l[j]? = (l.take n)[j]?:=by
  intro j hj
  rw[hlen] at hj
  rw[List.getElem?_take];simp[hj]
 have hrest:∀(fuel:Nat)(listed:Array Bool)(a:Act)(w:World),listed.size=n->(∀j,j<n->listed.getD j false=true)->wpList P l.toArray Q (l.drop n) a w->wpAny P .any l.toArray Q (fuel+(l.length-n)) (listed++Array.replicate (l.length-n) false) a w:=by
  intro fuel listed a w hsz hall h
  refine Jj he hs _ n _ a w (Nat.le_refl _) hn (by simp[hsz];omega) (fun j hj=>?_) (by omega) h
  by_cases hjn:j<n
  ·rw[qY hsz hjn,hall j hjn];simp[hjn]
  ·rw[yW hsz (by omega)];simp[hjn]
 intro fuel
 induction fuel with
 |zero =>
  intro listed a w hsz hcl h
  obtain⟨hr,h⟩:=h
  exact hrest 0 listed a w hsz (fun j hj=>ng hep hr (by rw[hlen];exact hsz) j (by rw[hlen];exact hj)) h
 |succ fuel ih =>
  intro listed a w hsz hcl h
  obtain⟨h0,h1⟩:=h
  by_cases hr:Region.ready .any (l.take n).toArray listed=[]
  ·exact hrest _ listed a w hsz (fun j hj=>ng hep hr (by rw[hlen];exact hsz) j (by rw[hlen];exact hj)) (h0 hr)
  ·obtain⟨i0,hi0⟩:=List.exists_mem_of_ne_nil _ hr
   obtain⟨h2,o0,h3,_⟩:=mem_ready.1 hi0
   rw[List.getElem?_toArray] at h3
   have hi0n:i0<n:=by have:=(List.getElem?_eq_some_iff.1 h3).1;omega
   have h2':listed.getD i0 false=false:=by
    have:i0<listed.size:=by omega
    simp only[Array.getD_eq_getD_getElem?,Array.getElem?_eq_getElem this,Option.getD_some] at h2 ⊢
    exact h2
   have hfu:fuel+1+(l.length-n)=(fuel+(l.length-n))+1:=by omega
   rw[hfu]
   refine⟨fun hr'=>?_,fun i hi=>?_⟩
   ·exfalso
    have:=ng he hr' (by simp[hsz];omega) i0 (by omega)
    rw[qY hsz hi0n,h2'] at this;cases this
   ·obtain⟨h4,o,h5,h6⟩:=mem_ready.1 hi
    rw[List.getElem?_toArray] at h5
    have hil:=(List.getElem?_eq_some_iff.1 h5).1
    have hin:i<n:=by
     rcases Nat.lt_or_ge i n with h|h
     ·exact h
     ·exfalso
      have hz:(o,i)∈l.zipIdx:=List.mem_zipIdx_iff_getElem?.2 h5
      have h7:=List.all_eq_true.1 hs _ hz
      simp only[Bool.or_eq_true,decide_eq_true_eq] at h7
      have h8:=h7.resolve_left (by omega)
      have h9:=List.all_eq_true.1 h8 i0 (List.mem_range.2 (by omega))
      have h10:i0∈lZ l i:=by simpa using h9
      have hlt:∀q,listed.getD q false=true->q<n:=by
       intro q hq
       rcases Nat.lt_or_ge q n with h|h
       ·exact h
       ·have:¬q<listed.size:=by omega
        simp[Array.getD_eq_getD_getElem?,this] at hq
      have h11:=EG (ops:=l) (S:=fun q=>listed.getD q false||decide (n<=q/\q<i/\False)) (fun k o' hk ho' q hq=>by
       have hk':listed.getD k false=true:=by simpa using hk
       have hkn:=hlt k hk'
       have:=hcl k o' hk' (by rw[<-hpre k (by rw[hlen];exact hkn)];exact ho') q hq
       simp[this]) h5 (fun q hq=>by
       unfold onL at hq
       obtain⟨e,he1,he2⟩:=List.mem_filterMap.1 hq
       split at he2
       ·rename_i hb
        cases he2
        have h12:=h6 e (by simpa using he1) hb
        rcases Nat.lt_or_ge e.on n with h|h
        ·rw[qY hsz h] at h12;simp[h12]
        ·rw[yW hsz h] at h12;cases h12
       ·cases he2) i0 h10
      simp only[Bool.or_eq_true,decide_eq_true_eq] at h11
      rcases h11 with h11|h11
      ·rw[h2'] at h11;cases h11
      ·exact h11.2.2
    have ho':(l.take n)[i]? = some o:=by rw[<-hpre i (by omega)];exact h5
    have hmem:i∈Region.ready .any (l.take n).toArray listed:=by
     rw[mem_ready]
     refine⟨by rw[<-qY hsz hin (m:=l.length-n)];exact h4,o,by rw[List.getElem?_toArray];exact ho',fun e hem hb=>?_⟩
     have hz:(o,i)∈(l.take n).zipIdx:=List.mem_zipIdx_iff_getElem?.2 ho'
     have h7:=List.all_eq_true.1 hep _ hz
     have hon:e.on∈onL o:=by
      unfold onL
      rw[List.mem_filterMap]
      exact⟨e,by simpa using hem,by rw[hb];rfl⟩
     have h8:e.on<i:=of_decide_eq_true (List.all_eq_true.1 h7 e.on hon)
     have:=h6 e hem hb
     rw[qY hsz (by omega)] at this;exact this
    have h11:=h1 i hmem
    have h12:=NK (l:=l) hpre (by omega) (fun o' gi ho1 ho2=>by
     have:=List.all_eq_true.1 hg o' (List.mem_of_getElem? ho1)
     rw[ho2] at this
     rw[hlen];simpa using this) h11
    refine Ob (fun a' w' hk=>?_) h12
    have h13:=ih (listed.setIfInBounds i true) a' w' (by simp[hsz]) (fun k o' hk1 hk2 q hq=>by
     have hmono:∀q,listed.getD q false=true->(listed.setIfInBounds i true).getD q false=true:=by
      intro q hq
      by_cases hqi:q=i
      ·subst hqi
       have:q<listed.size:=by omega
       simp[Array.getD_eq_getD_getElem?,this]
      ·rw[getD_set_ne false (fun e=>hqi e.symm)];exact hq
     apply hmono
     by_cases hki:k=i
     ·subst hki
      rw[ho'] at hk2;cases hk2
      obtain⟨_,o2,h14,h15⟩:=mem_ready.1 hmem
      rw[List.getElem?_toArray,ho'] at h14;cases h14
      unfold onL at hq
      obtain⟨e,he1,he2⟩:=List.mem_filterMap.1 hq
      split at he2
      ·rename_i hb
       cases he2
       exact h15 e (by simpa using he1) hb
      ·cases he2
     ·rw[getD_set_ne false (fun e=>hki e.symm)] at hk1
      exact hcl k o' hk1 hk2 q hq) hk
    have he':(listed++Array.replicate (l.length-n) false).setIfInBounds i true=listed.setIfInBounds i true++Array.replicate (l.length-n) false:=by
     rw[Array.setIfInBounds_append_left (by omega)]
    rw[he'];exact h13
theorem Po{l pre:List Oper}{st:Nat->DS}(hpre:pre=l.take pre.length)(ht:Trace (CX P) Γ nt orc pre L0 K st){S:Nat->Bool}(hS:∀j,j<pre.length->S j=true)(hi:od nt pre L0 K (st pre.length) S F0 w0 B F a w) :
  gJ nt l F0 w0 B F { K:=Qm pre (st pre.length).K,L:=I4 L0 (st pre.length),tab:=(st pre.length).tab,obl:=(st pre.length).obl } (fun j=>j<pre.length) a w:=by
 have hg:=ht.good pre.length (Nat.le_refl _)
 refine⟨hi.base.sub fun k t ds h=>?_,hi.defers,hi.size,fun e he=>?_,fun e he x hx=>?_,fun e he=>?_,fun e he j hj=>?_⟩
 ·rcases List.mem_append.1 h with hv|hv
  ·obtain⟨c0,hc,rfl⟩:=vT hv
   refine .inl ⟨c0,hc.imp (fun h=>h) fun⟨j,hj⟩=>⟨j,hS j ((ht.good _ (Nat.le_refl _)).A _ hj),hj⟩,?_⟩
   congr 1
   symm
   rw[List.filter_eq_self]
   intro x hx
   exact hS _ ((ht.good _ (Nat.le_refl _)).T x hx)
  ·rcases List.mem_append.1 hv with hv|hv
   ·obtain⟨h7,h8⟩:=List.mem_filter.1 hv
    simp only[Bool.and_eq_true,Bool.not_eq_true'] at h8
    refine .inr (.inl ⟨h7,h8.1,fun n hn hk=>?_⟩)
    have h9:=h8.2
    rw[hn] at h9
    simp[taken,hk] at h9
   ·split at hv
    ·rename_i n hn
     rw[List.mem_singleton] at hv
     cases hv
     exact .inr (.inr ⟨n,hn,hS _ ((ht.good _ (Nat.le_refl _)).N n hn),rfl,rfl,rfl⟩)
    ·simp at hv
 ·obtain⟨hm,hsrc⟩:=List.mem_filter.1 he
  by_cases h0:e.src=0
  ·have hno:∀o∈pre,o.dst≠some e.slot:=by
    intro o ho
    simp only[Bool.or_eq_true,bne_iff_ne,ne_eq] at hsrc
    have:=List.all_eq_true.1 (hsrc.resolve_left (by simpa using h0)) o ho
    simpa using this
   obtain⟨⟨K2,hK2,hK3⟩,_⟩:=ht.ext (Nat.zero_le _) (Nat.le_refl pre.length)
   have hst:e∈(st 0).K:=by
    rw[hK2] at hm
    rcases List.mem_append.1 hm with h|h
    ·have:=hK3 e h;omega
    ·exact h
   rw[ht.zero] at hst
   obtain⟨y,hy,rfl⟩:=List.mem_map.1 hst
   exact⟨fun _=>hi.old y hy fun k o hk ho=>hno o (List.mem_of_getElem? ho),fun h=>by simp[holds] at h⟩
  ·have hle:=hg.srcs e hm
   exact hi.new e hm (e.src-1) (by omega) (hS _ (by omega))
 ·have h1:=hg.keys e (List.mem_filter.1 he).1 x hx
  have h2:=hg.srcs e (List.mem_filter.1 he).1
  omega
 ·have h2:=hg.srcs e (List.mem_filter.1 he).1
  rcases Nat.eq_zero_or_pos e.src with h|h
  ·exact .inl h
  ·exact .inr (by omega)
 ·obtain⟨h1,h2⟩:=hg.mY e (List.mem_filter.1 he).1 j hj
  have h3:=hg.srcs e (List.mem_filter.1 he).1
  refine⟨?_,h2⟩
  have:l[j]? = pre[j]?:=by rw[hpre,List.getElem?_take];simp;intro h;omega
  rw[this];exact h1
theorem Wp.Pg(hm:P.follows .mixedOrders=true)(hΓ:ΓOK P Γ){id:Nat}{l:List Oper}{L L':aA}{K':List (Nat×D)}(n:Nat)(fz:List (Nat×List Nat))(orc:List (Nat×D))(orb:List (Nat×CBd))(kk kl:List Nat){ob:List Prop}(h:Dx (CX P) (aZ P) Γ nt orc orb l n fz L K kk kl=some (K',L',ob))(hob:au ob)(hn:To nt F0 w0 K' L' .normal Q) :
  Wp P nt F0 w0 K L (.region id l.toArray true) Q:=by
 rintro a w ⟨B,F,hb,hd,hs,hK⟩
 unfold Dx at h
 split at h
 ·rename_i hok
  simp only[Bool.and_eq_true,decide_eq_true_eq] at hok
  obtain⟨⟨⟨⟨⟨⟨hdst,hedg⟩,hedgp⟩,hsuf⟩,hgin⟩,hnl⟩,hfl0⟩:=hok
  split at h
  ·rename_i s hs'
   split at h
   ·rename_i s2 hs2
    split at h
    ·rename_i K1 L1 hk hl
     cases h
     have hlen:(l.take n).length=n:=by simp[hnl]
     obtain⟨st,h0,h1,h2⟩:=Aa (l.take n) 0 hs'
     have ht:Trace (CX P) Γ nt orc (l.take n) L K st:=⟨h0,fun i o ho=>by have:=h2 i o ho;simpa using this⟩
     rw[Nat.zero_add] at h1
     have hobs:∀p∈s.obl,p:=fun p hp=>au.mem hob p (uA _ _ hs2 p hp)
     have hi:=LN ht hb.draw hd hs (fun x hx=>by
      obtain⟨v,h3,h4⟩:=hK x hx
      have hgr:Grow F F w w.drew:=⟨fun _ _ h=>h,fun _ _ _=>rfl⟩
      exact⟨v,h3,h4.grow hgr⟩)
     refine rI hm (fun o ho=>?_) ?_
     ·have ho':o∈l.take n++l.drop n:=by rw[List.take_append_drop];simpa using ho
      rcases List.mem_append.1 ho' with h|h
      ·exact yn _ _ hs' o h
      ·exact Ad _ _ hs2 o h
     have hw:({ w with drawn:=w.drawn+1 }:World)=w.drew:=rfl
     rw[hw]
     have hrep:(Array.replicate l.toArray.size false)=Array.replicate n false++Array.replicate (l.length-n) false:=by
      rw[Array.replicate_append_replicate];congr 1;simp;omega
     have hsz:l.toArray.size=n+(l.length-n):=by simp;omega
     rw[hrep,hsz]
     refine MU hedg hedgp hsuf hgin hnl _ _ _ _ (by simp) (fun k o hk=>by simp[Array.getD_eq_getD_getElem?,Array.getElem?_replicate] at hk;split at hk<;>simp at hk) ?_
     refine DC (F0:=F0) (w0:=w0) (Q:=Gf P l n (nrm Q)) hΓ hdst hfl0 hedgp ht (by rw[h1];exact hobs) (fun B' F' a w S hS hi=>?_) _ _ (unset B (yM (st (l.take n).length))) F a w.drew (by simp[hnl]) ?_ ?_
     ·have hmid:=Po (l:=l) (by rw[hlen]) ht hS hi
      rw[h1,hlen] at hmid
      exact qI hΓ (l.drop n) n (fun j=>by rw[List.getElem?_drop]) hs2 (au.mem hob) hmid fun B'' F'' a' w' hi'=>hn a' w' (sF hi' hk hl)
     ·unfold left
      have:=List.length_filter_le (fun j=>!((Array.replicate n false).getD j false)) (List.range (l.take n).length)
      simp only[List.length_range,hlen] at this ⊢
      exact this
     ·have hfun:(fun j=>(Array.replicate n false).getD j false)=fun _=>false:=by
       funext j
       simp only[Array.getD_eq_getD_getElem?,Array.getElem?_replicate]
       split<;>rfl
      rw[hfun];exact hi
    ·cases h
   ·cases h
  ·cases h
 ·cases h
end
end Go.Proofs.YtefojkdckfidcaaGreatDoor.RX
namespace Go.Proofs.YtefojkdckfidcaaGreatDoor.RX
open Go.RowKit
def cG(l:Nat)(c:Code):Code:=(findLabel (cI c) l).getD .skip
section
variable {P:Program} {nt:Nat} {F0:Fz} {w0:Pt P} {K:List (Nat×D)} {L:aA} {Q:Exit->Act->World->Prop}
def Lg(ro:Option Nat)(P:Program)(c rest:Code)(Q:Exit->Act->World->Prop)(a:Act)(w:World):Prop :=
 ∀(b:Frame)(k:List Item)(cs:List Frame),b.roundOf=ro->∃e a' w',Q e a' w'/\ArrivesIn (Machine.fenced P (Fr ro)) P (lone (b.atR a (.code rest::.inScope c::k)) cs w) b k cs e a' w'
def WG(P:Program)(nt:Nat)(F0:Fz)(w0:Pt P)(K:List (Nat×D))(L:aA)(c rest:Code)(Q:Exit->Act->World->Prop):Prop :=
 ∀a w,St nt F0 w0 K L a w->Lg w0.rnd P c rest Q a w
def goes(ro:Option Nat)(P:Program)(c:Code)(Q:Exit->Act->World->Prop):Exit->Act->World->Prop
 |.goto l,a,w=>∃rest,findLabel c l=some rest/\Lg ro P c rest Q a w
 |e,a,w=>Q e a w
theorem Wp.FH{c:Code}(h:WG P nt F0 w0 K L c c Q):Wp P nt F0 w0 K L (.scope c) Q:=by
 intro a w hs b k cs hro _ _
 obtain⟨e,a',w',hq,harr⟩:=h a w hs b k cs hro
 exact⟨e,a',w',hq,.of_steps (.one (jU _) kC) harr⟩
theorem WG.pass{c rest:Code}(h:Wp P nt F0 w0 K L rest (goes w0.rnd P c Q)):WG P nt F0 w0 K L c rest Q:=by
 intro a w hs b k cs hro
 obtain⟨e,a₁,w₁,hq,harr⟩:=h a w hs b (.inScope c::k) cs hro trivial (Fr.room _ _)
 cases e with
 |normal=>exact⟨.normal,a₁,w₁,hq,StepsIn.trans harr (.one (jU _) wL)⟩
 |exit id=>exact⟨.exit id,a₁,w₁,hq,fun k' hk=>harr.1 k' (by simp[exitTo,hk]),fun hr hk=>harr.2 hr (by simp[exitTo,hk])⟩
 |goto l =>
  obtain⟨r,hf,hl⟩:=hq
  obtain⟨e₂,a₂,w₂,hq₂,harr₂⟩:=hl b k cs hro
  exact⟨e₂,a₂,w₂,hq₂,.of_steps (harr.1 _ (by simp[gotoIn,hf])) harr₂⟩
 |ret=>exact⟨_,a₁,w₁,hq,harr⟩
 |panic ch=>exact⟨_,a₁,w₁,hq,harr⟩
 |outgrown=>exact⟨_,a₁,w₁,hq,harr⟩
theorem Wp.goto{l:Nat}(h:To nt F0 w0 K L (.goto l) Q):Wp P nt F0 w0 K L (.goto l) Q:=fun a w hs=>wpIn_goto (h a w hs)
theorem To.goto{c rest:Code}{l:Nat}(hf:findLabel c l=some rest)(h:WG P nt F0 w0 K L c rest Q):To nt F0 w0 K L (.goto l) (goes w0.rnd P c Q):=fun a w hs=>⟨rest,hf,h a w hs⟩
theorem To.kF{c:Code}{e:Exit}(he:e=.normal\/e=.ret\/∃id,e=.exit id)(h:To nt F0 w0 K L e Q):To nt F0 w0 K L e (goes w0.rnd P c Q):=by
 rcases he with rfl|rfl|⟨id,rfl⟩<;>exact h
theorem To.yE{N:Act->World->Prop}{l:Nat}(h:To nt F0 w0 K L (.goto l) Q):To nt F0 w0 K L (.goto l) (Exit.then N Q):=h
theorem To.LZ{id l:Nat}(h:To nt F0 w0 K L (.goto l) Q):To nt F0 w0 K L (.goto l) (Exit.inBlock id Q):=h
end
end Go.Proofs.YtefojkdckfidcaaGreatDoor.RX
namespace Go.Proofs.YtefojkdckfidcaaGreatDoor.RX
open Go.RowKit
section
variable {P:Program} {nt:Nat} {F0:Fz} {w0:Pt P} {K:List (Nat×D)} {L:aA} {Q:Exit->Act->World->Prop}
mutual
def D.plain:D->Bool
 |.val _=>true
 |.str _=>true
 |.agg ds=>D.xB ds
 |.tup ds=>D.xB ds
 |_=>false
def D.xB:List D->Bool
 |[]=>true
 |d::ds=>D.plain d&&D.xB ds
end
mutual
theorem Rep.plain{F F':Fz}{w w':World}{B B':Env}:∀{d:D}{v:Value},D.plain d=true->Rep F w B d v->Rep F' w' B' d v
 |.val _,_,_,hr=>by cases hr;exact .val _ (by assumption)
 |.str _,_,_,hr=>by cases hr;exact .str _
 |.agg ds,_,h,hr=>by cases hr with|agg _ vs hr=>exact .agg ds vs (aB.plain (ds:=ds) h hr)
 |.tup ds,_,h,hr=>by cases hr with|tup _ vs hr=>exact .tup ds vs (aB.plain (ds:=ds) h hr)
theorem aB.plain{F F':Fz}{w w':World}{B B':Env}:∀{ds:List D}{vs:List Value},D.xB ds=true->aB F w B ds vs->aB F' w' B' ds vs
 |[],_,_,.nil=>.nil
 |d::ds,_,h,.cons _ v _ vs hr hrs=>by
  simp only[D.xB,Bool.and_eq_true] at h
  exact .cons d v ds vs (Rep.plain h.1 hr) (aB.plain h.2 hrs)
end
def IP(j k:Nat)(ds:List D):List D:=match ds[j]? with|some (.val (.slice none 0 0))=>ds.set j (.row k)|_=>ds
def QV(b j k:Nat)(L:aA):aA:=L.map fun x=>bif x.1==b then(x.1,x.2.1,IP j k x.2.2) else x
theorem aB.setAt{F:Fz}{w:World}{B:Env}:∀{ds:List D}{vs:List Value}{j:Nat}{d d':D},aB F w B ds vs->ds[j]? = some d->(∀v,Rep F w B d v->Rep F w B d' v)->aB F w B (ds.set j d') vs
 |[],_,j,d,d',_,h,_=>by simp at h
 |x::ds,_,0,d,d',.cons _ v _ vs hr hrs,h,hd=>by
  simp only[List.getElem?_cons_zero,Option.some.injEq] at h
  subst h
  exact .cons d' v ds vs (hd v hr) hrs
 |x::ds,_,j+1,d,d',.cons _ v _ vs hr hrs,h,hd=>by
  simp only[List.getElem?_cons_succ] at h
  exact .cons x v _ vs hr (aB.setAt hrs h hd)
theorem EN:∀{ds:List D}{j:Nat}{d:D},ds.all D.flat=true->d.flat=true->(ds.set j d).all D.flat=true
 |[],_,_,_,_=>rfl
 |x::ds,0,d,h,hd=>by
  simp only[List.all_cons,Bool.and_eq_true] at h
  simp only[List.set_cons_zero,List.all_cons,Bool.and_eq_true]
  exact⟨hd,h.2⟩
 |x::ds,j+1,d,h,hd=>by
  simp only[List.all_cons,Bool.and_eq_true] at h
  simp only[List.set_cons_succ,List.all_cons,Bool.and_eq_true]
  exact⟨h.1,EN h.2 hd⟩
theorem St.nj(b j k e:Nat){α:Type}{d:α}{enc:α->List D}(hg:aX (.recs d enc []))(hlt:k<1000000)(hf:kB k K L=true){L':aA}(hv:QV b j k L=L'):∀a w,St nt F0 w0 K L a w->St nt F0 w0 K ((k,e,[.aP false d enc []])::L') a w:=by
 rintro a w ⟨B,F,hb,hd,hs,hK⟩
 subst hv
 simp only[kB,Bool.and_eq_true] at hf
 have hfK:∀x∈K,D.names k x.2=false:=fun x hx=>by simpa using List.all_eq_true.1 hf.1 x hx
 have hfL:∀x∈L,x.1≠k/\D.bQ k x.2.2=false:=fun x hx=>by simpa using List.all_eq_true.1 hf.2 x hx
 have hB':setB B k (.row none 0 0) k=some (.row none 0 0):=fJ _ _ _
 have hbase:=hb.tN (t:=k) (ty:=e) (ds:=[.aP false d enc []]) (F':=F) (w':=w) (B':=setB B k (.row none 0 0)) (M':=aN L) (Grow.refl _ _)
  (.row false d enc [] none 0 0 hB' ⟨rfl,hg.1,hg.2,[],.nil,⟨by simp,.inl ⟨rfl,rfl,rfl⟩⟩,fun b hb=>by cases hb⟩) (fun b hbk=>by rw[dA hB'] at hbk;cases hbk)
  (fun j t' ds hm=>⟨hm,(hfL _ hm).1,bM _ _ _ _ (hfL _ hm).1,fun F w vs hr=>hr.gV k (bM _ _ _) (hfL _ hm).2⟩) (fun b _=>⟨rfl,fun _ h=>h⟩) hb.frz (fun g j h=>.inl h) (dZ.refl _ _ _) (fun q hq=>bM _ _ _ _ (by unfold LIM at hq;omega))
 have hmem:∀q t es,aN ((k,e,[D.aP false d enc []])::QV b j k L) q t es->∃ds,mZ k e [.aP false d enc []] (aN L) q t ds/\(es=ds\/(ds[j]? = some (.val (.slice none 0 0))/\es=ds.set j (.row k))):=by
  intro q t es hm
  rcases List.mem_cons.1 hm with hm|hm
  ·cases hm;exact⟨_,.inl ⟨rfl,rfl,rfl⟩,.inl rfl⟩
  ·obtain⟨x,hx,he⟩:=List.mem_map.1 hm
   obtain⟨q',t',ds⟩:=x
   cases hc:q'==b with
   |false=>simp only[hc,cond_false] at he;cases he;exact⟨_,.inr hx,.inl rfl⟩
   |true =>
    simp only[hc,cond_true] at he
    cases he
    refine⟨ds,.inr hx,?_⟩
    unfold IP
    split
    ·rename_i hcell;exact .inr ⟨hcell,rfl⟩
    ·exact .inl rfl
 refine⟨setB B k (.row none 0 0),F,⟨fun q t es hm=>?_,fun q t es c hm hbk=>?_,fun i i' c hi hi'=>hbase.inj i i' c ?_ ?_,hbase.frz,hbase.more,hbase.grow,hbase.below,hbase.env⟩,hd,hs,fun x hx=>?_⟩
 ·obtain⟨ds,h1,h2⟩:=hmem _ _ _ hm
  have hh:=hbase.boxes _ _ _ h1
  rcases h2 with rfl|⟨hcell,rfl⟩
  ·exact hh
  ·cases hh with
   |box _ b vs h3 h4 h5 h6 h7=>exact .box _ b vs h3 (h4.setAt hcell fun v hv=>by cases hv;exact .row k none 0 0 hB') (EN h5 rfl) h6 h7
   |row m d enc l p n cap h3 h4 =>
    cases j with
    |zero=>simp at hcell
    |succ j=>simp at hcell
   |map kk ag d enc l b h3 h4 =>
    cases j with
    |zero=>simp at hcell
    |succ j=>simp at hcell
   |obj b o S h3 h4 =>
    cases j with
    |zero=>simp at hcell
    |succ j=>simp at hcell
 ·obtain⟨ds,h1,_⟩:=hmem _ _ _ hm
  exact hbase.new _ _ _ _ h1 hbk
 ·obtain⟨t,es,hm⟩:=hi
  obtain⟨ds,h1,_⟩:=hmem _ _ _ hm
  exact⟨_,_,h1⟩
 ·obtain⟨t,es,hm⟩:=hi'
  obtain⟨ds,h1,_⟩:=hmem _ _ _ hm
  exact⟨_,_,h1⟩
 ·obtain⟨v,h1,h2⟩:=hK x hx
  exact⟨v,h1,h2.gV k (bM _ _ _) (hfK x hx)⟩
end
end Go.Proofs.YtefojkdckfidcaaGreatDoor.RX
namespace Go.Proofs.YtefojkdckfidcaaGreatDoor.RX
open Go.RowKit
def rdy(ops:List Oper)(m i:Nat):Bool:=!(m.testBit i)&&(match ops[i]? with|some o=>(onL o).all fun j=>m.testBit j|none=>false)
def LL(o:Oper):Bool:=match o.op,o.guard,o.dst with|.move _,none,some _=>true|_,_,_=>false
def Oz(ops:List Oper)(m i:Nat):Bool :=
 match ops[i]? with
 |some oi=>(List.range ops.length).all fun j=>j==i||m.testBit j||match ops[j]? with|some oj=>(onL oj).contains i||oi.apart ops.toArray oj|none=>true
 |none=>false
def vo(ops:List Oper)(m:Nat):Option Nat:=(List.range ops.length).find? fun i=>(match ops[i]? with|some o=>LL o|none=>false)&&(rdy ops m i&&Oz ops m i)
def oQ(slots keys:List Nat)(n:Nat)(s:ES):ES :=
 { K:=slots.filterMap (kz s.K),L:=keys.filterMap fun k=>(s.L.lookup k).map fun x=>(k,x),tab:=(List.range n).filterMap fun j=>(s.tab.lookup j).map fun b=>(j,b),obl:=[] }
structure OA where
 lv:List (Nat×ES)
 ps:List (ES×ES)
 ob:List (Nat×List Prop)
 os:List (List Prop×List Prop)
def xE(m:Nat)(s:ES)(A:OA):OA:=match A.lv.lookup m with|some s'=>{ A with ps:=(s,s')::A.ps }|none=>{ A with lv:=A.lv++[(m,s)] }
def Dc(i:Nat)(o:List Prop)(A:OA):OA:=match A.ob.lookup i with|some o'=>{ A with os:=(o,o')::A.os }|none=>{ A with ob:=A.ob++[(i,o)] }
section
variable (C:Nat->List D->D->Prop) (CB:Nat->List D->aA->D->aA->Prop) (Γ:Nat->Option TI) (nt:Nat) (orc:List (Nat×D)) (orb:List (Nat×CBd)) (ops:List Oper) (fz:List (Nat×List Nat)) (slots keys:List Nat)
def JD(i:Nat)(s:ES):Option ES:=match ops[i]? with|some o=>ru C CB Γ nt orc orb ops i o (kK fz i { s with obl:=[] })|none=>none
def qj(m:Nat)(s:ES):List Nat->OA->Option OA
 |[],A=>some A
 |i::is,A =>
  match rdy ops m i with
  |true=>match JD C CB Γ nt orc orb ops fz i s with|some s'=>qj m s is (Dc i s'.obl (xE (m ||| 1 <<< i) (oQ slots keys ops.length s') A))|none=>none
  |false=>qj m s is A
def expand:List (Nat×ES)->OA->Option OA
 |[],A=>some A
 |x::rest,A=>match qj C CB Γ nt orc orb ops fz slots keys x.1 x.2 (match vo ops x.1 with|some i=>[i]|none=>List.range ops.length) A with|some A'=>expand rest A'|none=>none
def levels:Nat->OA->Option OA
 |0,A=>some A
 |r+1,A=>match expand C CB Γ nt orc orb ops fz slots keys A.lv { A with lv:=[] } with|some A'=>levels r A'|none=>none
def Io(K:List (Nat×D))(L:aA):OA:={ lv:=[(0,oQ slots keys ops.length (oC K L))],ps:=[],ob:=[],os:=[] }
def Og(n:Nat)(ob:List (Nat×List Prop)):List Prop:=(List.range n).flatMap fun i=>(ob.lookup i).getD []
def ndB(o:Oper):Bool:=match o.op with|.defer _=>false|_=>true
def BB(K:List (Nat×D))(L:aA):Option OA :=
 if lT ops&&Region.noSelect ops.toArray&&ops.all ndB then levels C CB Γ nt orc orb ops fz slots keys ops.length (Io ops slots keys K L) else none
def K8(kk kl:List Nat):Option OA->Option (List (Nat×D)×aA×List Prop)
 |some A=>match A.lv with|[(_,s)]=>(match qy s.K kk,i6 s.L kl with|some K',some L'=>some (K',L',Og ops.length A.ob)|_,_=>none)|_=>none
 |none=>none
end
def QM:Option OA->List ES×List (List Prop)
 |some A=>(A.ps.map (·.1),A.os.map (·.1))
 |none=>([],[])
def Rf:Option OA->List ES×List (List Prop)
 |some A=>(A.ps.map (·.2),A.os.map (·.2))
 |none=>([],[])
theorem Be{α:Type 1}:∀{l:List (α×α)},l.map (·.1)=l.map (·.2)->∀p∈l,p.1=p.2
 |[],_,p,hp=>by simp at hp
 |q::l,h,p,hp=>by
  simp only[List.map_cons,List.cons.injEq] at h
  rcases List.mem_cons.1 hp with rfl|hp
  ·exact h.1
  ·exact Be h.2 p hp
theorem zj{α:Type}:∀{l:List (α×α)},l.map (·.1)=l.map (·.2)->∀p∈l,p.1=p.2
 |[],_,p,hp=>by simp at hp
 |q::l,h,p,hp=>by
  simp only[List.map_cons,List.cons.injEq] at h
  rcases List.mem_cons.1 hp with rfl|hp
  ·exact h.1
  ·exact zj h.2 p hp
theorem Aj{β:Type 1}:∀{l:List (Nat×β)}{m:Nat}{s:β}{r:List (Nat×β)},l.lookup m=some s->(l++r).lookup m=some s
 |[],m,s,r,h=>by simp at h
 |(k,x)::l,m,s,r,h=>by
  rw[List.cons_append,List.lookup_cons]
  rw[List.lookup_cons] at h
  split
  ·rename_i he;rw[he] at h;exact h
  ·rename_i he;rw[he] at h;exact Aj h
theorem zd{β:Type 1}:∀{l:List (Nat×β)}{m:Nat}{s:β},l.lookup m=none->(l++[(m,s)]).lookup m=some s
 |[],m,s,_=>by simp
 |(k,x)::l,m,s,h=>by
  rw[List.cons_append,List.lookup_cons]
  rw[List.lookup_cons] at h
  split
  ·rename_i he;rw[he] at h;cases h
  ·rename_i he;rw[he] at h;exact zd h
theorem zg{β:Type}:∀{l:List (Nat×β)}{m:Nat}{s:β}{r:List (Nat×β)},l.lookup m=some s->(l++r).lookup m=some s
 |[],m,s,r,h=>by simp at h
 |(k,x)::l,m,s,r,h=>by
  rw[List.cons_append,List.lookup_cons]
  rw[List.lookup_cons] at h
  split
  ·rename_i he;rw[he] at h;exact h
  ·rename_i he;rw[he] at h;exact zg h
theorem yc{β:Type}:∀{l:List (Nat×β)}{m:Nat}{s:β},l.lookup m=none->(l++[(m,s)]).lookup m=some s
 |[],m,s,_=>by simp
 |(k,x)::l,m,s,h=>by
  rw[List.cons_append,List.lookup_cons]
  rw[List.lookup_cons] at h
  split
  ·rename_i he;rw[he] at h;cases h
  ·rename_i he;rw[he] at h;exact yc h
structure po(A A':OA):Prop where
 lv:∀m s,A.lv.lookup m=some s->A'.lv.lookup m=some s
 ob:∀i o,A.ob.lookup i=some o->A'.ob.lookup i=some o
 ps:∀p∈A.ps,p∈A'.ps
 os:∀p∈A.os,p∈A'.os
theorem po.refl(A:OA):po A A:=⟨fun _ _ h=>h,fun _ _ h=>h,fun _ h=>h,fun _ h=>h⟩
theorem po.trans{A B C:OA}(h:po A B)(h':po B C):po A C:=⟨fun m s x=>h'.lv m s (h.lv m s x),fun i o x=>h'.ob i o (h.ob i o x),fun p x=>h'.ps p (h.ps p x),fun p x=>h'.os p (h.os p x)⟩
theorem KP(m:Nat)(s:ES)(A:OA):po A (xE m s A):=by
 unfold xE
 split
 ·exact⟨fun _ _ h=>h,fun _ _ h=>h,fun _ h=>List.mem_cons_of_mem _ h,fun _ h=>h⟩
 ·exact⟨fun _ _ h=>Aj h,fun _ _ h=>h,fun _ h=>h,fun _ h=>h⟩
theorem Le(i:Nat)(o:List Prop)(A:OA):po A (Dc i o A):=by
 unfold Dc
 split
 ·exact⟨fun _ _ h=>h,fun _ _ h=>h,fun _ h=>h,fun _ h=>List.mem_cons_of_mem _ h⟩
 ·exact⟨fun _ _ h=>h,fun _ _ h=>zg h,fun _ h=>h,fun _ h=>h⟩
theorem NJ(m:Nat)(s:ES)(A:OA){A':OA}(h:po (xE m s A) A')(hp:∀p∈A'.ps,p.1=p.2):A'.lv.lookup m=some s:=by
 unfold xE at h
 split at h
 ·rename_i s' hs
  have:=hp _ (h.ps _ List.mem_cons_self)
  simp only at this
  rw[this];exact h.lv m s' hs
 ·rename_i hs
  exact h.lv m s (zd hs)
theorem NA(i:Nat)(o:List Prop)(A:OA){A':OA}(h:po (Dc i o A) A')(hp:∀p∈A'.os,p.1=p.2):A'.ob.lookup i=some o:=by
 unfold Dc at h
 split at h
 ·rename_i o' ho
  have:=hp _ (h.os _ List.mem_cons_self)
  simp only at this
  rw[this];exact h.ob i o' ho
 ·rename_i ho
  exact h.ob i o (yc ho)
section
variable {C:Nat->List D->D->Prop} {CB:Nat->List D->aA->D->aA->Prop} {P:Program} {F0:Fz} {w0:Pt P} {B:Env} {F:Fz} {w:World} {a:Act} {Q:Exit->Act->World->Prop} {Γ:Nat->Option TI} {nt:Nat} {ops:List Oper} {orc:List (Nat×D)} {orb:List (Nat×CBd)} {fz:List (Nat×List Nat)} {slots keys:List Nat}
def Next(C:Nat->List D->D->Prop)(CB:Nat->List D->aA->D->aA->Prop)(Γ:Nat->Option TI)(nt:Nat)(orc:List (Nat×D))(orb:List (Nat×CBd))(ops:List Oper)(fz:List (Nat×List Nat))(slots keys:List Nat)(m:Nat)(s:ES)(i:Nat)(lv:List (Nat×ES))(ob:List (Nat×List Prop)):Prop :=
 ∃s',JD C CB Γ nt orc orb ops fz i s=some s'/\lv.lookup (m ||| 1 <<< i)=some (oQ slots keys ops.length s')/\ob.lookup i=some s'.obl
theorem vD{m:Nat}{s:ES}:∀{is:List Nat}{A A':OA},qj C CB Γ nt orc orb ops fz slots keys m s is A=some A' ->
  po A A'/\∀A'',po A' A''->(∀p∈A''.ps,p.1=p.2)->(∀p∈A''.os,p.1=p.2)->∀i∈is,rdy ops m i=true->Next C CB Γ nt orc orb ops fz slots keys m s i A''.lv A''.ob
 |[],A,A',h=>by cases h;exact⟨.refl _,fun _ _ _ _ i hi=>by simp at hi⟩
 |i::is,A,A',h=>by
  unfold qj at h
  split at h
  ·rename_i hr
   split at h
   ·rename_i s' hs
    obtain⟨h1,h2⟩:=vD h
    have hm1:=KP (m ||| 1 <<< i) (oQ slots keys ops.length s') A
    have hm2:=Le i s'.obl (xE (m ||| 1 <<< i) (oQ slots keys ops.length s') A)
    refine⟨hm1.trans (hm2.trans h1),fun A'' hA hp ho j hj hrj=>?_⟩
    rcases List.mem_cons.1 hj with rfl|hj
    ·exact⟨s',hs,NJ _ _ A (hm2.trans (h1.trans hA)) hp,NA _ _ _ (h1.trans hA) ho⟩
    ·exact h2 A'' hA hp ho j hj hrj
   ·cases h
  ·rename_i hr
   obtain⟨h1,h2⟩:=vD h
   refine⟨h1,fun A'' hA hp ho j hj hrj=>?_⟩
   rcases List.mem_cons.1 hj with rfl|hj
   ·rw[hr] at hrj;cases hrj
   ·exact h2 A'' hA hp ho j hj hrj
theorem xr:∀{lv:List (Nat×ES)}{A A':OA},expand C CB Γ nt orc orb ops fz slots keys lv A=some A' ->
  po A A'/\∀A'',po A' A''->(∀p∈A''.ps,p.1=p.2)->(∀p∈A''.os,p.1=p.2)->∀x∈lv,∀i,i<ops.length->rdy ops x.1 i=true->(vo ops x.1=none\/vo ops x.1=some i)->Next C CB Γ nt orc orb ops fz slots keys x.1 x.2 i A''.lv A''.ob
 |[],A,A',h=>by cases h;exact⟨.refl _,fun _ _ _ _ x hx=>by simp at hx⟩
 |x::lv,A,A',h=>by
  unfold expand at h
  split at h
  ·rename_i A1 hA1
   obtain⟨h1,h2⟩:=vD hA1
   obtain⟨h3,h4⟩:=xr h
   refine⟨h1.trans h3,fun A'' hA hp ho y hy i hi hr ht=>?_⟩
   rcases List.mem_cons.1 hy with rfl|hy
   ·refine h2 A'' (h3.trans hA) hp ho i ?_ hr
    rcases ht with ht|ht
    ·rw[ht];exact List.mem_range.2 hi
    ·rw[ht];exact List.mem_singleton.2 rfl
   ·exact h4 A'' hA hp ho y hy i hi hr ht
  ·cases h
structure RS(A A':OA):Prop where
 ob:∀i o,A.ob.lookup i=some o->A'.ob.lookup i=some o
 ps:∀p∈A.ps,p∈A'.ps
 os:∀p∈A.os,p∈A'.os
theorem y8:∀{r:Nat}{A A':OA},levels C CB Γ nt orc orb ops fz slots keys r A=some A'->RS A A'
 |0,A,A',h=>by cases h;exact⟨fun _ _ h=>h,fun _ h=>h,fun _ h=>h⟩
 |r+1,A,A',h=>by
  unfold levels at h
  split at h
  ·rename_i A1 hA1
   have h1:=(xr hA1).1
   have h2:=y8 h
   exact⟨fun i o x=>h2.ob i o (h1.ob i o x),fun p x=>h2.ps p (h1.ps p x),fun p x=>h2.os p (h1.os p x)⟩
  ·cases h
theorem xI(f:Nat->Option Bool)(j:Nat):∀l:List Nat,(l.filterMap fun j=>(f j).map fun b=>(j,b)).lookup j=if j∈l then f j else none
 |[]=>by simp
 |k::l=>by
  rw[List.filterMap_cons]
  cases hf:f k with
  |none =>
   simp only[Option.map_none]
   rw[xI f j l]
   by_cases hjk:j=k
   ·subst hjk
    rw[hf];simp
   ·simp[hjk]
  |some b =>
   simp only[Option.map_some,List.lookup_cons]
   by_cases hjk:j=k
   ·subst hjk;simp[hf]
   ·have:(j==k)=false:=by simpa using hjk
    rw[this]
    simp only
    rw[xI f j l]
    simp[hjk]
theorem IG{tab:List (Nat×Bool)}{n j:Nat}(h:j<n):tv ((List.range n).filterMap fun j=>(tab.lookup j).map fun b=>(j,b)) j=tv tab j:=by
 unfold tv
 rw[xI (fun j=>tab.lookup j),if_pos (List.mem_range.2 h)]
theorem F5{s:ES}{S:Nat->Prop}(hi:gJ nt ops F0 w0 B F s S a w){n:Nat}(hn:∀j,S j->j<n):gJ nt ops F0 w0 B F (oQ slots keys n s) S a w:=by
 have hmem:∀e∈(oQ slots keys n s).K,e∈s.K:=by
  intro e he
  obtain⟨t,_,h⟩:=List.mem_filterMap.1 he
  exact(kZ h).1
 refine⟨hi.base.sub fun k t ds h=>?_,hi.defers,hi.size,fun e he=>(hi.ents e (hmem e he)).tab fun x hx=>IG (hn _ (hi.keys e (hmem e he) x hx)),fun e he=>hi.keys e (hmem e he),fun e he=>hi.srcs e (hmem e he),fun e he j hj=>?_⟩
 ·obtain⟨k',_,hk⟩:=List.mem_filterMap.1 h
  cases hl:s.L.lookup k' with
  |none=>rw[hl] at hk;cases hk
  |some x =>
   rw[hl] at hk
   cases hk
   exact aD hl
 ·obtain⟨h1,h2⟩:=hi.mY e (hmem e he) j hj
  refine⟨h1,fun b hb=>?_⟩
  have hsj:S j:=by
   have:=hi.srcs e (hmem e he)
   rw[hj] at this
   simpa using this
  rw[<-h2 b hb]
  exact IG (hn j hsj)
theorem P9{s:ES}{S:Nat->Prop}(hi:gJ nt ops F0 w0 B F s S a w)(o:List Prop):gJ nt ops F0 w0 B F { s with obl:=o } S a w:=⟨hi.base,hi.defers,hi.size,hi.ents,hi.keys,hi.srcs,hi.mY⟩
theorem za:∀{l:List Nat}{i:Nat}{p p':Nat->Bool},l.Nodup->i∈l->p i=true->p' i=false->(∀j,j≠i->p' j=p j)->(l.filter p').length+1=(l.filter p).length
 |[],i,p,p',_,h,_,_,_=>by simp at h
 |x::l,i,p,p',hn,h,h1,h2,h3=>by
  have hn':=List.nodup_cons.1 hn
  by_cases hx:x=i
  ·subst hx
   have he:l.filter p'=l.filter p:=List.filter_congr fun j hj=>h3 j fun e=>hn'.1 (e▸hj)
   rw[List.filter_cons,List.filter_cons,h1,h2,he]
   simp
  ·have ih:=za hn'.2 ((List.mem_cons.1 h).resolve_left fun e=>hx e.symm) h1 h2 h3
   rw[List.filter_cons,List.filter_cons,h3 x hx]
   split
   ·rw[List.length_cons,List.length_cons];omega
   ·exact ih
theorem left_eq{n i:Nat}{listed:Array Bool}(hi:i<n)(hsz:listed.size=n)(h:listed.getD i false=false):left n (listed.setIfInBounds i true)+1=left n listed:=by
 unfold left
 refine za List.nodup_range (List.mem_range.2 hi) (by rw[h];rfl) ?_ fun j hj=>?_
 ·simp[Array.getD_eq_getD_getElem?,hsz,hi]
 ·rw[getD_set_ne false (fun e=>hj e.symm)]
theorem J3:∀{l:List (Nat×ES)}{m:Nat}{s:ES},l.lookup m=some s->(m,s)∈l:=fun h=>aD h
theorem Lc(hΓ:ΓOK P Γ)(he:lT ops=true)(hsel:Region.noSelect ops.toArray=true)(hQp:∀c a w,¬Q (.panic c) a w){Af:OA}(hps:∀p∈Af.ps,p.1=p.2)(hos:∀p∈Af.os,p.1=p.2)(hob:∀i o,Af.ob.lookup i=some o->∀p∈o,p)
  {mf:Nat} {sf:ES} (hf:Af.lv=[(mf,sf)]) (hQ:∀B F a w (S:Nat->Prop),gJ nt ops F0 w0 B F sf S a w->Q .normal a w) :
  ∀(r fuel:Nat)(A:OA)(m:Nat)(s:ES)(listed:Array Bool)(B:Env)(F:Fz)(a:Act)(w:World),levels (CX P) (aZ P) Γ nt orc orb ops fz slots keys r A=some Af->(m,s)∈A.lv->listed.size=ops.length ->
   (∀j,j<ops.length->listed.getD j false=m.testBit j)->(∀j,m.testBit j=true->j<ops.length)->left ops.length listed=r->r<=fuel->gJ nt ops F0 w0 B F s (fun j=>m.testBit j=true) a w->wpAny P .any ops.toArray Q fuel listed a w:=by
 have hnone:∀(listed:Array Bool),listed.size=ops.length->left ops.length listed=0->∀j,j<ops.length->listed.getD j false=true:=by
  intro listed hsz hl j hj
  cases hc:listed.getD j false with
  |true=>rfl
  |false =>
   have:j∈(List.range ops.length).filter fun j=>!(listed.getD j false):=List.mem_filter.2 ⟨List.mem_range.2 hj,by rw[hc];rfl⟩
   unfold left at hl
   rw[List.length_eq_zero_iff.1 hl] at this
   simp at this
 have hready0:∀(listed:Array Bool),listed.size=ops.length->(∀j,j<ops.length->listed.getD j false=true)->Region.ready .any ops.toArray listed=[]:=by
  intro listed hsz hall
  apply List.eq_nil_iff_forall_not_mem.2
  intro j hj
  obtain⟨h1,o,h2,_⟩:=mem_ready.1 hj
  rw[List.getElem?_toArray] at h2
  have hlt:=(List.getElem?_eq_some_iff.1 h2).1
  have h3:=hall j hlt
  have hj':j<listed.size:=by omega
  simp only[Array.getD_eq_getD_getElem?,Array.getElem?_eq_getElem hj',Option.getD_some] at h1 h3
  rw[h3] at h1;cases h1
 intro r
 induction r with
 |zero =>
  intro fuel A m s listed B F a w hl hm hsz hbit hlt hleft hfuel hi
  cases hl
  rw[hf] at hm
  cases List.mem_singleton.1 hm
  have hr:=hready0 listed hsz (hnone listed hsz hleft)
  have hq:=hQ B F a w _ hi
  cases fuel with
  |zero=>exact⟨hr,hq⟩
  |succ fuel=>exact⟨fun _=>hq,fun i hi=>by rw[hr] at hi;simp at hi⟩
 |succ r ih =>
  intro fuel A m s listed B F a w hl hm hsz hbit hlt hleft hfuel hi
  unfold levels at hl
  split at hl
  rotate_left
  ·cases hl
  rename_i A1 hA1
  obtain⟨_,hex⟩:=xr hA1
  have hmp:=y8 hl
  obtain⟨fuel,rfl⟩:∃f,fuel=f+1:=⟨fuel-1,by omega⟩
  have hstep:∀i o,i<ops.length->ops[i]? = some o->rdy ops m i=true->(vo ops m=none\/vo ops m=some i) ->
    if Region.wanted o (yielded ops.toArray a.tmps)=true then o.wp P a w (wpAny P .any ops.toArray Q fuel (listed.setIfInBounds i true)) Q else wpAny P .any ops.toArray Q fuel (listed.setIfInBounds i true) (a.put o.dst undef) w:=by
   intro i o hil h2 hrdy htake
   have hni:m.testBit i=false:=by
    unfold rdy at hrdy
    rw[Bool.and_eq_true] at hrdy
    simpa using hrdy.1
   have hfalse:listed.getD i false=false:=by rw[hbit i hil];exact hni
   have hA1p:∀p∈A1.ps,p.1=p.2:=fun p hp=>hps p (hmp.ps p hp)
   have hA1o:∀p∈A1.os,p.1=p.2:=fun p hp=>hos p (hmp.os p hp)
   obtain⟨s',hs',hlv,hobl⟩:=hex A1 (.refl _) hA1p hA1o (m,s) hm i hil hrdy htake
   simp only at hs' hlv hobl
   unfold JD at hs'
   rw[h2] at hs'
   simp only at hs'
   obtain⟨F1,hi1⟩:=(P9 hi []).kK fz (i:=i)
   have hobs:∀p∈s'.obl,p:=hob i _ (hmp.ob i _ hobl)
   have hbit':∀j,(m ||| 1 <<< i).testBit j=(m.testBit j||decide (i=j)):=by
    intro j
    rw[Nat.testBit_or,Nat.one_shiftLeft,Nat.testBit_two_pow]
   have hst:=Bj (Q:=Q) (S:=fun j=>m.testBit j=true) (S':=fun j=>(m ||| 1 <<< i).testBit j=true) hΓ hi1 (by rw[hni];simp) (fun j hj=>by rw[hbit',hj];rfl) (by rw[hbit'];simp) h2 hs' hobs
    (K:=wpAny P .any ops.toArray Q fuel (listed.setIfInBounds i true)) (fun B' F' a' w' hi'=>by
     refine ih fuel A1 (m ||| 1 <<< i) (oQ slots keys ops.length s') _ B' F' a' w' hl (J3 hlv) (by simp[hsz]) (fun j hj=>?_) (fun j hj=>?_) ?_ (by omega) (F5 hi' fun j hj=>?_)
     ·rw[hbit']
      by_cases hji:j=i
      ·subst hji
       have hj':j<listed.size:=by omega
       simp[Array.getD_eq_getD_getElem?,hj']
      ·rw[getD_set_ne false (fun e=>hji e.symm),hbit j hj]
       have:decide (i=j)=false:=by simpa using fun e=>hji e.symm
       rw[this,Bool.or_false]
     ·rw[hbit'] at hj
      rw[Bool.or_eq_true] at hj
      rcases hj with h|h
      ·exact hlt j h
      ·have:=of_decide_eq_true h;omega
     ·have:=left_eq hil hsz hfalse;omega
     ·rw[hbit'] at hj
      rw[Bool.or_eq_true] at hj
      rcases hj with h|h
      ·exact hlt j h
      ·have:=of_decide_eq_true h;omega)
   exact hst
  cases htk:vo ops m with
  |some i =>
   have hfi:=List.find?_some htk
   have hil:i<ops.length:=List.mem_range.1 (List.mem_of_find?_eq_some htk)
   obtain⟨o,h2⟩:∃o,ops[i]? = some o:=⟨_,List.getElem?_eq_getElem hil⟩
   rw[h2] at hfi
   simp only[Bool.and_eq_true] at hfi
   obtain⟨hmv,hrdy,hfree⟩:=hfi
   have hst:=hstep i o hil h2 hrdy (.inr htk)
   obtain⟨x,hopx,hg⟩:∃x,o.op=.move x/\o.guard=none:=by
    unfold LL at hmv
    split at hmv
    ·rename_i x _ h3 h4 h5;exact⟨x,h3,h4⟩
    ·cases hmv
   have hw:Region.wanted o (yielded ops.toArray a.tmps)=true:=by simp[Region.wanted,hg]
   have hrun:∀w,(execOp a.eval o).run P w=.ok (.value (a.eval x)) w:=by
    intro w
    unfold execOp
    simp only[hopx,Sem.run_pure]
   rw[if_pos hw] at hst
   unfold Oper.wp at hst
   rw[hrun] at hst
   have hdef:∀j,j<ops.length->listed.getD j true=m.testBit j:=by
    intro j hj
    have hj':j<listed.size:=by omega
    rw[<-hbit j hj]
    simp only[Array.getD_eq_getD_getElem?,Array.getElem?_eq_getElem hj',Option.getD_some]
   have hni:m.testBit i=false:=by
    unfold rdy at hrdy
    rw[Bool.and_eq_true] at hrdy
    simpa using hrdy.1
   refine wpAny_take (oi:=o) (i:=i) (v:=a.eval x) (by rw[List.getElem?_toArray];exact h2) hsel ?_ ?_ (fun c a w h=>absurd h (hQp c _ _)) (.inl ⟨hw,hrun⟩) hst
   ·unfold Region.free
    rw[List.getElem?_toArray,h2]
    simp only[List.all_eq_true,List.mem_range]
    intro j hj
    have hj:j<ops.length:=by simpa using hj
    unfold Oz at hfree
    rw[h2] at hfree
    have h5:=List.all_eq_true.1 hfree j (List.mem_range.2 hj)
    rw[hdef j hj,List.getElem?_toArray]
    simp only[Bool.or_eq_true] at h5 ⊢
    rcases h5 with h5|h5
    ·exact .inl h5
    ·refine .inr ?_
     cases hoj:ops[j]? with
     |none=>rfl
     |some oj =>
      rw[hoj] at h5
      simp only[Bool.or_eq_true] at h5 ⊢
      rcases h5 with h5|h5
      ·refine .inl ?_
       rw[List.contains_iff_mem] at h5
       unfold onL at h5
       obtain⟨e,he1,he2⟩:=List.mem_filterMap.1 h5
       split at he2
       ·rename_i hb
        cases he2
        refine Array.any_eq_true'.2 ⟨e,by simpa using he1,by simp[hb]⟩
       ·cases he2
      ·exact .inr h5
   ·rw[List.contains_iff_mem,mem_ready]
    refine⟨by rw[hdef i hil];exact hni,o,by rw[List.getElem?_toArray];exact h2,fun e he1 hb=>?_⟩
    have hz:(o,i)∈ops.zipIdx:=List.mem_zipIdx_iff_getElem?.2 h2
    have hon:e.on∈onL o:=by
     unfold onL
     exact List.mem_filterMap.2 ⟨e,by simpa using he1,by rw[if_pos hb]⟩
    have hji:e.on<i:=of_decide_eq_true (List.all_eq_true.1 (List.all_eq_true.1 he _ hz) _ hon)
    unfold rdy at hrdy
    rw[h2,Bool.and_eq_true] at hrdy
    have:=List.all_eq_true.1 hrdy.2 _ hon
    rw[hbit e.on (by omega)]
    exact this
  |none =>
  refine⟨fun hr=>?_,fun i him=>?_⟩
  ·exfalso
   have hall:=ng he hr hsz
   have:left ops.length listed=0:=by
    unfold left
    rw[List.length_eq_zero_iff,List.filter_eq_nil_iff]
    intro j hj
    rw[hall j (List.mem_range.1 hj)];simp
   omega
  ·obtain⟨h1,o,h2,h3⟩:=mem_ready.1 him
   rw[List.getElem?_toArray] at h2
   have hil:=(List.getElem?_eq_some_iff.1 h2).1
   have hfalse:listed.getD i false=false:=by
    have hj':i<listed.size:=by omega
    simp only[Array.getD_eq_getD_getElem?,Array.getElem?_eq_getElem hj',Option.getD_some] at h1 ⊢
    exact h1
   have hni:m.testBit i=false:=by rw[<-hbit i hil];exact hfalse
   have hrdy:rdy ops m i=true:=by
    unfold rdy
    rw[hni,h2]
    simp only[Bool.not_false,Bool.true_and]
    rw[List.all_eq_true]
    intro j hj
    have hz:(o,i)∈ops.zipIdx:=List.mem_zipIdx_iff_getElem?.2 h2
    have hji:j<i:=of_decide_eq_true (List.all_eq_true.1 (List.all_eq_true.1 he _ hz) j hj)
    unfold onL at hj
    obtain⟨e,he1,he2⟩:=List.mem_filterMap.1 hj
    split at he2
    ·rename_i hb
     cases he2
     have:=h3 e (by simpa using he1) hb
     rw[hbit e.on (by omega)] at this;exact this
    ·cases he2
   have hst:=hstep i o hil h2 hrdy (.inl htk)
   unfold wpOp
   rw[List.getElem?_toArray,h2]
   simp only
   split
   ·rename_i hw
    rw[if_pos hw] at hst;exact .inl hst
   ·rename_i hw
    rw[if_neg hw] at hst;exact hst
theorem Wp.sK(hm:P.follows .mixedOrders=true)(hΓ:ΓOK P Γ){id:Nat}{l:List Oper}{K K':List (Nat×D)}{L L':aA}(fz:List (Nat×List Nat))(orc:List (Nat×D))(orb:List (Nat×CBd))(slots keys kk kl:List Nat){ob:List Prop}
  (h:K8 l kk kl (BB (CX P) (aZ P) Γ nt orc orb l fz slots keys K L)=some (K',L',ob)) (hp:QM (BB (CX P) (aZ P) Γ nt orc orb l fz slots keys K L)=Rf (BB (CX P) (aZ P) Γ nt orc orb l fz slots keys K L)) (hob:au ob) (hn:To nt F0 w0 K' L' .normal Q) :
  Wp P nt F0 w0 K L (.region id l.toArray true) Q:=by
 have hn:To nt F0 w0 K' L' .normal (nrm Q):=hn
 rintro a w ⟨B,F,hb,hd,hs,hK⟩
 have hQp:∀c a w,¬nrm Q (.panic c) a w:=fun _ _ _ h=>h
 cases hA:BB (CX P) (aZ P) Γ nt orc orb l fz slots keys K L with
 |none=>rw[hA] at h;cases h
 |some Af =>
  rw[hA] at h hp
  unfold BB at hA
  split at hA
  rotate_left
  ·cases hA
  rename_i hed2
  rw[Bool.and_eq_true,Bool.and_eq_true] at hed2
  obtain⟨hed2,hnd⟩:=hed2
  have hed:=hed2.1
  unfold K8 at h
  simp only at h
  split at h
  rotate_left
  ·cases h
  rename_i mf sf hlv
  split at h
  rotate_left
  ·cases h
  rename_i K1 L1 hk hl
  cases h
  simp only[QM,Rf,Prod.mk.injEq] at hp
  refine rI hm (fun o ho c hc=>by have:=List.all_eq_true.1 hnd o (by simpa using ho);rw[ndB,hc] at this;cases this) ?_
  have hw:({ w with drawn:=w.drawn+1 }:World)=w.drew:=rfl
  rw[hw]
  have hobs:∀i o,Af.ob.lookup i=some o->i<l.length->∀p∈o,p:=by
   intro i o hio hil p hpo
   refine au.mem hob p ?_
   unfold Og
   exact List.mem_flatMap.2 ⟨i,List.mem_range.2 hil,by rw[hio];exact hpo⟩
  have hlen:∀i o,Af.ob.lookup i=some o->¬i<l.length->∀p∈o,p:=by
   intro i o hio hil
   exfalso
   have hkeys:∀(r:Nat)(A A':OA),levels (CX P) (aZ P) Γ nt orc orb l fz slots keys r A=some A'->(∀x∈A.ob,x.1<l.length)->∀x∈A'.ob,x.1<l.length:=by
    have h1:∀(m:Nat)(s:ES)(is:List Nat)(A A':OA),qj (CX P) (aZ P) Γ nt orc orb l fz slots keys m s is A=some A'->(∀i∈is,i<l.length)->(∀x∈A.ob,x.1<l.length)->∀x∈A'.ob,x.1<l.length:=by
     intro m s is
     induction is with
     |nil=>intro A A' h _ hx;cases h;exact hx
     |cons i is ih =>
      intro A A' h his hx
      unfold qj at h
      split at h
      ·split at h
       ·refine ih _ _ h (fun j hj=>his j (List.mem_cons_of_mem _ hj)) fun x hxx=>?_
        unfold Dc at hxx
        have hS:∀(m:Nat)(s:ES)(A:OA),(xE m s A).ob=A.ob:=by intro m s A;unfold xE;split<;>rfl
        split at hxx
        ·simp only[hS] at hxx;exact hx x hxx
        ·simp only[hS] at hxx
         rcases List.mem_append.1 hxx with h|h
         ·exact hx x h
         ·rw[List.mem_singleton.1 h];exact his i List.mem_cons_self
       ·cases h
      ·exact ih _ _ h (fun j hj=>his j (List.mem_cons_of_mem _ hj)) hx
    have h2:∀(lv:List (Nat×ES))(A A':OA),expand (CX P) (aZ P) Γ nt orc orb l fz slots keys lv A=some A'->(∀x∈A.ob,x.1<l.length)->∀x∈A'.ob,x.1<l.length:=by
     intro lv
     induction lv with
     |nil=>intro A A' h hx;cases h;exact hx
     |cons y lv ih =>
      intro A A' h hx
      unfold expand at h
      split at h
      ·rename_i A1 hA1
       exact ih _ _ h (h1 _ _ _ _ _ hA1 (fun i hi=>by
        split at hi
        ·rename_i j hj
         rw[List.mem_singleton.1 hi]
         exact List.mem_range.1 (List.mem_of_find?_eq_some hj)
        ·exact List.mem_range.1 hi) hx)
      ·cases h
    intro r
    induction r with
    |zero=>intro A A' h hx;cases h;exact hx
    |succ r ih =>
     intro A A' h hx
     unfold levels at h
     split at h
     ·rename_i A1 hA1
      exact ih _ _ h (h2 _ _ _ hA1 hx)
     ·cases h
   have hmem:∀(q:List (Nat×List Prop))(i:Nat)(o:List Prop),q.lookup i=some o->(i,o)∈q:=by
    intro q i o hq
    induction q with
    |nil=>simp at hq
    |cons x q ih =>
     obtain⟨k,y⟩:=x
     rw[List.lookup_cons] at hq
     split at hq
     ·rename_i he
      have:i=k:=by simpa using he
      cases hq;rw[this];exact List.mem_cons_self
     ·exact List.mem_cons_of_mem _ (ih hq)
   exact hil (hkeys _ _ _ hA (by simp[Io]) _ (hmem _ _ _ hio))
  have hsz:l.toArray.size=l.length:=by simp
  rw[hsz]
  have hK':∀x∈K,∃v,a.tmps[x.1]? = some v/\Rep F w.drew B x.2 v:=fun x hx=>by
   obtain⟨v,h3,h4⟩:=hK x hx
   have hgr:Grow F F w w.drew:=⟨fun _ _ h=>h,fun _ _ _=>rfl⟩
   exact⟨v,h3,h4.grow hgr⟩
  have hinv:=uz (ops:=l) hb.draw hd hs hK'
  have hz:∀j,(0:Nat).testBit j=false:=fun j=>Nat.zero_testBit j
  have hinv':gJ nt l F0 w0 B F (oQ slots keys l.length (oC K L)) (fun j=>(0:Nat).testBit j=true) a w.drew:=by
   refine F5 ⟨hinv.base,hinv.defers,hinv.size,hinv.ents,fun e he x hx=>?_,fun e he=>?_,hinv.mY⟩ fun j hj=>by rw[hz] at hj;cases hj
   ·have:=hinv.keys e he x hx;omega
   ·rcases hinv.srcs e he with h|h
    ·exact .inl h
    ·omega
  refine Lc (F0:=F0) (w0:=w0) (Q:=nrm Q) hΓ hed hed2.2 hQp (Be hp.1) (zj hp.2) (fun i o hio=>if hil:i<l.length then hobs i o hio hil else hlen i o hio hil) hlv (fun B' F' a' w' S hi=>hn a' w' (sF hi hk hl))
   l.length l.length _ 0 _ (Array.replicate l.length false) B F a w.drew hA List.mem_cons_self (by simp) (fun j hj=>?_) (fun j hj=>by rw[hz] at hj;cases hj) ?_ (Nat.le_refl _) hinv'
  ·rw[hz];simp only[Array.getD_eq_getD_getElem?,Array.getElem?_replicate];split<;>rfl
  ·unfold left
   rw[List.filter_eq_self.2]
   ·simp
   ·intro j hj;simp only[Array.getD_eq_getD_getElem?,Array.getElem?_replicate];split<;>rfl
end
end Go.Proofs.YtefojkdckfidcaaGreatDoor.RX
namespace Go.Proofs.YtefojkdckfidcaaGreatDoor.RX
open Go.RowKit
section
variable {P:Program}
end
end Go.Proofs.YtefojkdckfidcaaGreatDoor.RX
namespace Go.Proofs.YtefojkdckfidcaaGreatDoor.RX
open Go Go.Proofs Go.RowKit
variable {P:Program} {nt:Nat} {F0:Fz} {w0:Pt P} {K:List (Nat×D)} {L:aA}
theorem To.fin{fn:Func}{R:Ending->World->Prop}(h:To nt F0 w0 K L .ret (bodyPost P fn R)):To nt F0 w0 K L .normal (bodyPost P fn R):=fun a w hs=>h a w hs
end Go.Proofs.YtefojkdckfidcaaGreatDoor.RX
namespace Go.Proofs.YtefojkdckfidcaaGreatDoor.RX
open Go.RowKit
theorem QG{l:List Oper}(h:l.all ndB=true):∀o∈l,o.nd:=fun o ho c hc=>by
 have:=List.all_eq_true.1 h o ho
 rw[ndB,hc] at this;cases this
section
variable (C:Nat->List D->D->Prop) (CB:Nat->List D->aA->D->aA->Prop) (Γ:Nat->Option TI) (nt:Nat) (orc:List (Nat×D)) (orb:List (Nat×CBd)) (l:List Oper)
end
section
variable {P:Program} {Γ:Nat->Option TI} {nt:Nat} {F0:Fz} {w0:Pt P} {K K':List (Nat×D)} {L L':aA} {Q:Exit->Act->World->Prop}
end
end Go.Proofs.YtefojkdckfidcaaGreatDoor.RX
namespace Go.Proofs.YtefojkdckfidcaaGreatDoor.RX
open Go.RowKit
section
variable {P:Program} {Γ:Nat->Option TI} {nt:Nat} {F0:Fz} {w0:Pt P} {K K':List (Nat×D)} {L L':aA} {Q:Exit->Act->World->Prop}
theorem Base.defs{B:Env}{F:Fz}{w:World}{M:Mem}{ro:Option Nat}{ds:List Deferred}(h:Base F0 w0 B F M w):Base F0 { w0 with rnd:=ro,defs:=ds } B F M w:=⟨h.boxes,h.new,h.inj,h.frz,h.more,h.grow,h.below,h.env⟩
mutual
theorem D.Rt{s:D->Option D}:∀(d:D),d.fB=true->D.sub s d=d
 |.own _ _,h=>by simp[D.fB] at h
 |.opt _,h=>by simp[D.fB] at h
 |.bn _,h=>by simp[D.fB] at h
 |.mp _,h=>by simp[D.fB] at h
 |.row _,h=>by simp[D.fB] at h
 |.elm _ _ _ _,h=>by simp[D.fB] at h
 |.agg ds,h=>by simp only[D.sub];rw[D.yH ds (by simpa[D.fB] using h)]
 |.tup ds,h=>by simp only[D.sub];rw[D.yH ds (by simpa[D.fB] using h)]
 |.fn f ds,h=>by simp only[D.sub];rw[D.yH ds (by simpa[D.fB] using h)]
 |.val _,_=>rfl
 |.str _,_=>rfl
 |.fL _ _ _ _ _,_=>rfl
 |.recs _ _ _,_=>rfl
 |.el _,_=>rfl
 |.aP _ _ _ _,_=>rfl
 |.tree _ _ _ _,_=>rfl
 |.arr _ _ _,_=>rfl
 |.hole,_=>rfl
 |.tY _ _ _,_=>rfl
theorem D.yH{s:D->Option D}:∀(ds:List D),D.cO ds=true->D.subs s ds=ds
 |[],_=>rfl
 |d::ds,h=>by
  have h':D.fB d=true/\D.cO ds=true:=by simpa[D.cO] using h
  simp only[D.subs]
  rw[D.Rt d h'.1,D.yH ds h'.2]
end
end
end Go.Proofs.YtefojkdckfidcaaGreatDoor.RX
namespace Go.Proofs.YtefojkdckfidcaaGreatDoor.RX
open Go.RowKit
section
variable {P:Program} {F0 F1:Fz} {w0 w1:Pt P} {B:Env} {F:Fz} {M:Mem} {w:World}
def Pt.oz(w1:Pt P)(W:World)(sh:Shp P W)(ex:List Nat)(ro:Option Nat)(ds:List Deferred):Pt P :=
 { w:=W,own:=fun b=>w1.fresh b/\b∉ex,env:=w1.env,low:=w1.low,sh:=sh,high:=fun _ h=>Pt.rW h.1,rnd:=ro,defs:=ds }
theorem Base.oz(hb:Base F1 w1 B F M w)(sh:Shp P w){ex:List Nat}{ro:Option Nat}{ds:List Deferred}(hex:∀k t c b,M k t c->bW B k=some b->b∉ex):Base F (w1.oz w sh ex ro ds) B F M w :=
 ⟨hb.boxes,fun k t c b h hk=>.inr ⟨hb.new k t c b h hk,hex k t c b h hk⟩,hb.inj,hb.frz,fun _ _ h=>.inl h,Grow.refl _ _,dZ.refl _ _ _,hb.env⟩
theorem Base.comes(hb:Base F1 w1 B F M w){sh:Shp P w}{ex:List Nat}{ro:Option Nat}{ds:List Deferred}{B':Env}{F':Fz}{M':Mem}{w':World}(h:Base F (w1.oz w sh ex ro ds) B' F' M' w'):Base F1 w1 B' F' M' w':=by
 have hsz:=hb.below.size
 have hfr:∀b,(w1.oz w sh ex ro ds).fresh b->w1.fresh b:=by
  rintro b (hb'|hb')
  ·exact .inl (Nat.le_trans hsz hb')
  ·exact hb'.1
 refine⟨h.boxes,fun k t c b hm hk=>hfr b (h.new k t c b hm hk),h.inj,h.frz,fun g k hF=>?_,hb.grow.trans h.grow,⟨h.below.os.trans hb.below.os,h.below.tape.trans hb.below.tape,h.below.output.trans hb.below.output,Nat.le_trans hsz h.below.size,fun k hk ho=>?_⟩,h.env⟩
 ·rcases h.more g k hF with h1|h1
  ·exact hb.more g k h1
  ·exact .inr (hfr g h1)
 ·refine(h.below.block k (Nat.lt_of_lt_of_le hk hsz) fun h1=>?_).trans (hb.below.block k hk ho)
  rcases h1.1 with h2|h2
  ·omega
  ·exact ho h2
def rQ:Obj->Bool
 |.loop _=>true
 |.deferred _=>true
 |_=>false
def BG:List D->Bool
 |[.tY _ _ _]=>false
 |_=>true
def jK(L:aA):Bool:=L.all fun x=>BG x.2.2
theorem ju.IY{k t:Nat}{ds:List D}(h:ju F w B k t ds)(hno:BG ds=true){b:Nat}(hb:bW B k=some b){o:Obj}(ho:w.heap[b]? = some o):rQ o=false:=by
 cases h with
 |box _ b' vs hB hr hfl hh hnf=>rw[fK hB] at hb;cases hb;rw[hh] at ho;cases ho;rfl
 |row m d enc l p n cap hB h =>
  rw[dA hB] at hb;subst hb
  obtain⟨_,_,_,xs,_,h5,_⟩:=h
  rcases h5.2 with⟨h1,_⟩|⟨g,cur,fz,hp,hh,_⟩
  ·cases h1
  ·cases hp;rw[hh] at ho;cases ho;rfl
 |map kk ag d enc l b' hB h =>
  rw[jP hB] at hb;cases hb
  obtain⟨_,_,es,clock,hh,_⟩:=h
  rw[hh] at ho;cases ho;rfl
 |obj b' o' S hB hh=>cases hno
theorem DI{L:aA}(h:jK L=true){k t:Nat}{ds:List D}(hm:aN L k t ds):BG ds=true:=List.all_eq_true.1 h _ hm
theorem Base.put{L:aA}(hb:Base F1 w1 B F (aN L) w)(hno:jK L=true){r:Nat}{o o':Obj}(ho:w.heap[r]? = some o)(hbk:rQ o=true)(hbk':rQ o'=true)(hr:w1.w.heap.size<=r) :
  Base F1 w1 B F (aN L) (w.putObj r o')/\Grow F F w (w.putObj r o'):=by
 have hg:Grow F F w (w.putObj r o'):=⟨fun _ _ h=>h,fun g k _=>by
  unfold World.cell?
  by_cases e:g=r
  ·subst e
   have hlt:g<w.heap.size:=(Array.getElem?_eq_some_iff.1 ho).1
   simp only[ho,World.putObj_heap_same hlt]
   cases o with
   |loop _=>cases o'<;>first|rfl|cases hbk'
   |deferred _=>cases o'<;>first|rfl|cases hbk'
   |_=>cases hbk
  ·simp only[World.putObj_heap_other e]⟩
 refine⟨⟨fun k t ds hm=>?_,hb.new,hb.inj,fun g k hF=>?_,hb.more,hb.grow.trans hg,⟨hb.below.os,hb.below.tape,hb.below.output,?_,fun k hk hs=>?_⟩,hb.env⟩,hg⟩
 ·have hh:=hb.boxes _ _ _ hm
  refine hh.grow hg rfl (fun _ _ _ h=>h) fun b hbl=>⟨World.putObj_heap_other fun e=>?_,fun _ h=>h⟩
  subst e
  have:=hh.IY (DI hno hm) hbl ho
  rw[hbk] at this;cases this
 ·rw[World.putObj_size];exact hb.frz g k hF
 ·rw[World.putObj_size];exact hb.below.size
 ·exact(World.putObj_heap_other (by omega)).trans (hb.below.block k hk hs)
theorem Base.yJ{L:aA}(hb:Base F1 w1 B F (aN L) w)(hno:jK L=true){ex:List Nat}(hex:∀r∈ex,∃o,w.heap[r]? = some o/\rQ o=true):∀k t c b,aN L k t c->bW B k=some b->b∉ex:=by
 intro k t c b hm hk he
 obtain⟨o,ho,hbk⟩:=hex b he
 have:=(hb.boxes _ _ _ hm).IY (DI hno hm) hk ho
 rw[hbk] at this;cases this
end
def EY{β:Type}(J:β->Fz->World->Prop):Prop:=∀s F w w',J s F w->Below w.heap.size w w'->J s (qC F w w') w'
structure Adv(P:Program)(F:Fz)(w:World)(F':Fz)(w':World):Prop where
 grow:Grow F F' w w'
 frz:∀g k,F' g k->g<w'.heap.size
 shp:Shp P w'
def SH(P:Program)(g:Nat)(ds:List D){α:Type}(encs:α->List D)(xs:List α):Prop :=
 FOK P g/\∀(l:Nat)(J:List α->Fz->World->Prop)(Jx:Fz->World->Prop),EY J->EY (fun(_:Unit)=>Jx) ->
  (∀x r F w args,J (x::r) F w->(∀g k,F g k->g<w.heap.size)->Shp P w->aB F w NB (encs x) args->YieldAt (Fr none) 0 P l args.toArray w fun e w'=>∃F',Adv P F w F' w'/\((e=.returned (.bool true)/\J r F' w')\/(e=.returned (.bool false)/\Jx F' w'))) ->
  ∀F w lb,J xs F w->(∀g k,F g k->g<w.heap.size)->Shp P w->aB F w NB ds lb ->
   CallsIn (Fr none) 0 P g (#[.func (.yield l) #[] #[]]++lb.toArray) w fun e w'=>(∃v,e=.returned v)/\∃F',J [] F' w'\/Jx F' w'
def oI{P:Program}{σ:Type}(F':Fz)(w1:Pt P)(R:σ->Prop)(S:σ->aA)(jump:Option Code)(Lx:aA):Exit->Act->World->Prop
 |.normal,_,w=>∃s B F,R s/\Base F' w1 B F (aN (S s)) w
 |.ret,_,w=>jump=some .ret/\∃B F,Base F' w1 B F (aN Lx) w
 |.exit id,_,w=>jump=some (.exit id)/\∃B F,Base F' w1 B F (aN Lx) w
 |.goto t,_,w=>jump=some (.goto t)/\∃B F,Base F' w1 B F (aN Lx) w
 |_,_,_=>False
def yN{P:Program}(nt:Nat)(F':Fz)(w1:Pt P)(K:List (Nat×D))(L:aA)(e:Exit)(a:Act)(w:World):Prop:=e=.normal/\St nt F' w1 K L a w
structure After{P:Program}(F0:Fz)(w0:Pt P)(F1:Fz)(w1:Pt P):Prop where
 back:∀B F M w,Base F1 w1 B F M w->Base F0 w0 B F M w
 mark:∃D,w1.defs={ target:=.collected D,args:=#[] }::w0.defs/\w0.w.heap.size<=D/\w1.w.heap[D]? = some (.deferred (some []))/\¬w1.own D
 rnd:w1.rnd=none
def Behind{P:Program}(nt:Nat)(F1:Fz)(w1:Pt P)(K:List (Nat×D))(L:aA)(Q:Exit->Act->World->Prop):Option Code->Prop
 |none=>To nt F1 w1 K L .normal Q
 |some j=>Wp P nt F1 w1 K L j Q
def NU(keys:List Nat):D->Bool
 |.own j _=>keys.contains j
 |d=>D.fB d
theorem yy:∀(ps:List Nat)(vs:List Value)(tm:Array Value),ps.Nodup->(∀p∈ps,p<tm.size)->ps.length=vs.length ->
  ((ps.zip vs).foldl (fun(t:Array Value) (x:Nat×Value)=>t.setIfInBounds x.1 x.2) tm).size=tm.size/\(∀i,i∉ps->((ps.zip vs).foldl (fun(t:Array Value) (x:Nat×Value)=>t.setIfInBounds x.1 x.2) tm)[i]? = tm[i]?) /\
  ∀(j p:Nat)(v:Value),ps[j]? = some p->vs[j]? = some v->((ps.zip vs).foldl (fun(t:Array Value) (x:Nat×Value)=>t.setIfInBounds x.1 x.2) tm)[p]? = some v
 |[],vs,tm,_,_,_=>⟨rfl,fun _ _=>rfl,fun j p v h _=>by simp at h⟩
 |p::ps,[],tm,_,_,h=>by simp at h
 |p::ps,v::vs,tm,hnd,hlt,hlen=>by
  obtain⟨h1,h2⟩:=List.nodup_cons.1 hnd
  obtain⟨q1,q2,q3⟩:=yy ps vs (tm.setIfInBounds p v) h2 (fun x hx=>by rw[Array.size_setIfInBounds];exact hlt x (List.mem_cons_of_mem _ hx)) (by simpa using hlen)
  rw[List.zip_cons_cons,List.foldl_cons]
  refine⟨by rw[q1,Array.size_setIfInBounds],fun i hi=>?_,fun j p' v' hj hv=>?_⟩
  ·simp only[List.mem_cons,not_or] at hi
   rw[q2 i hi.2,Array.getElem?_setIfInBounds_ne (Ne.symm hi.1)]
  ·cases j with
   |zero =>
    simp only[List.getElem?_cons_zero,Option.some.injEq] at hj hv
    subst hj;subst hv
    rw[q2 p h1]
    simp[hlt p List.mem_cons_self]
   |succ j=>exact q3 j p' v' (by simpa using hj) (by simpa using hv)
section
variable {P:Program} {Γ:Nat->Option TI} {nt:Nat} {F0:Fz} {w0:Pt P} {K K' Kb:List (Nat×D)} {L L':aA} {Q:Exit->Act->World->Prop}
theorem xf(w:World)(o o':Obj):Below w.heap.size w ((w.alloc o).alloc o') :=
 ((Below.refl _ w).alloc (Nat.le_refl _) _).alloc (by simp) _
theorem Wp.rangeFunc{α σ:Type}{t:Nat}{ps:Array Tmp}{assign body:Code}{gf:Nat}{lds:List D}{encs:α->List D}{xs:List α}(c:CBd)(R:List α->σ->Prop)(S:σ->aA)(jump:Option Code)
  (hro:w0.rnd=none) (hg:K.lookup t=some (.fn gf lds)) (hlds:D.cO lds=true) (hseq:SH P gf lds encs xs)
  (hok:yb c=true) (hLin:found c L=c.Lin.map fun x=>some (x.2.1,D.subs (dG never c.ren) x.2.2)) (hno:∀s,jK (S s)=true) (hnoL:jK c.fC=true) (hnoA:jK (lK c L)=true)
  (s0:σ) (hR0:R xs s0) (hS0:∀(F':Fz)(w1:Pt P)(a:Act)(w:World),St nt F' w1 [] c.Lin a w->St nt F' w1 [] (S s0) a w) (hps:∀x,(encs x).length=ps.toList.length) (hnd:ps.toList.Nodup) (hpt:∀p∈ps.toList,p<nt) (hne:∀x,D.cO (encs x)=true)
  (hKb:∀x∈Kb,(x.1,D.sub (dG never c.ren) x.2)∈K/\x.1∉ps.toList/\NU (c.Lin.map (·.1)) x.2=true)
  (K2:α->σ->List (Nat×D)) (L2:α->σ->aA) (hno2:∀x s,jK (L2 x s)=true)
  (hass:∀x r s,R (x::r) s->∀(F':Fz)(w1:Pt P),Wp P nt F' w1 (Kb++ps.toList.zip (encs x)) (S s) assign (yN nt F' w1 (K2 x s) (L2 x s)))
  (hbody:∀x r s,R (x::r) s->∀(F':Fz)(w1:Pt P),Wp P nt F' w1 (K2 x s) (L2 x s) body (oI F' w1 (R r) S jump c.fC))
  (hend:∀s,R [] s->jump=none/\S s=c.fC)
  (hK':∀x∈K',x∈K/\∀k,(dX c).contains k=true->D.names k x.2=false)
  (hn:∀(F1:Fz)(w1:Pt P),After F0 w0 F1 w1->Behind nt F1 w1 K' (lK c L) Q jump) :
  Wp P nt F0 w0 K L (.rangeFunc (.tmp t) ps assign body) Q:=by
 rintro a w ⟨B,F,hb,hd,hs,hK⟩
 rw[hro]
 obtain⟨w1,hw1,hb1,henv,hafter⟩:=xu hb hok hLin
 obtain⟨v,hv,hrv⟩:=hK _ (aD hg)
 obtain⟨lb,hlb,rfl⟩:∃lb,aB F w B lds lb/\v=.func (.func gf) #[] lb.toArray:=by
  cases hrv with
  |fn f ds vs h=>exact⟨vs,h,rfl⟩
 refine wpIn_rangeFunc fun fn hfn=>?_
 obtain⟨rec,hrec⟩:∃rec:LoopState->Option Code->Loop,rec=fun st pe=>{ state:=st,pending:=pe,fn,tmps:=a.tmps,params:=ps,assign,body,defers:=w.heap.size }:=⟨_,rfl⟩
 obtain⟨W1,hW1⟩:∃W1,(w.alloc (.deferred (some []))).alloc (.loop (rec .ready none))=W1:=⟨_,rfl⟩
 have hL1:W1.heap[w.heap.size+1]? = some (.loop (rec .ready none)):=by
  rw[<-hW1];have:=World.alloc_heap_new (w.alloc (.deferred (some []))) (.loop (rec .ready none));rwa[World.size_alloc] at this
 have hD1:W1.heap[w.heap.size]? = some (.deferred (some [])):=by
  rw[<-hW1];exact(Below.heap_alloc _ _ _ (by simp)).trans (World.alloc_heap_new w _)
 have hbel:Below w.heap.size w W1:=by rw[<-hW1];exact xf _ _ _
 obtain⟨hbW,hgW⟩:=hb1.callee hbel
 have hw0:w0.w.heap.size<=w.heap.size:=hb.below.size
 refine⟨w.heap.size+1,[{ target:=.collected w.heap.size,args:=#[] }],W1,{ target:=.fn (.func gf) lb.toArray,args:=#[.func (.yield (w.heap.size+1)) #[] #[]] },W1,gf,
  #[.func (.yield (w.heap.size+1)) #[] #[]]++lb.toArray,W1,?_,?_,fun _ _=>trivial,?_,fun h=>(by cases h),?_⟩
 ·rw[<-hW1,hrec];exact run_enterLoop_outer _ _ _ _ _
 ·simp only[resolve,ov hv]
  simp[go_sem]
 ·simp only[invoke];rw[mJ hseq.1]
 ·let J:List α->Fz->World->Prop:=fun r F' W=>∃s B',R r s/\Base F w1 B' F' (aN (S s)) W/\W.heap[w.heap.size+1]? = some (.loop (rec .ready none))/\W.heap[w.heap.size]? = some (.deferred (some []))
  let Jx:Fz->World->Prop:=fun F' W=>∃B' j,jump=some j/\Base F w1 B' F' (aN c.fC) W/\W.heap[w.heap.size+1]? = some (.loop (rec .done (some j)))/\W.heap[w.heap.size]? = some (.deferred (some []))
  have hlt:∀{W:World}{r:Nat}{o:Obj},W.heap[r]? = some o->r<W.heap.size:=fun h=>(Array.getElem?_eq_some_iff.1 h).1
  obtain⟨B0,Fs,hb0,_⟩:=hS0 (qC F w W1) (w1.oz W1 hbW.shp [] none a.defers) a W1 ⟨_,_,hbW.oz hbW.shp (fun _ _ _ _ _ _ h=>by cases h),rfl,hs,fun x hx=>by cases hx⟩
  have hbs:=hbW.comes hb0
  refine(hseq.2 (w.heap.size+1) J Jx (fun r F' W w' ⟨s,B',h1,h2,h3,h4⟩ h5=>⟨s,B',h1,(h2.callee h5).1,(h5.block _ (hlt h3)).trans h3,(h5.block _ (hlt h4)).trans h4⟩)
   (fun _ F' W w' ⟨B',j,h1,h2,h3,h4⟩ h5=>⟨B',j,h1,(h2.callee h5).1,(h5.block _ (hlt h3)).trans h3,(h5.block _ (hlt h4)).trans h4⟩) ?_ Fs W1 lb ⟨s0,B0,hR0,hbs,hL1,hD1⟩ hbs.frz hbs.shp ((hlb.bare hlds).grow (hgW.trans hb0.grow))).mono ?_
  ·rintro x r F' W args ⟨s,B',hR,hbJ,hl,hk⟩ hfrz hshp hargs
   have hlen:=aB.length hargs
   have hw1s:w1.w.heap.size=w.heap.size:=by rw[hw1]
   have hy:=run_yield (P:=P) (args:=args.toArray) hl (by rw[hrec];simp only[List.size_toArray];rw[hlen,hps x];simp)
   rw[hrec] at hy
   have hll:=hlt hl
   have hex:∀{W:World}{st:LoopState},W.heap[w.heap.size+1]? = some (.loop { rec .ready none with state:=st })->W.heap[w.heap.size]? = some (.deferred (some []))->∀q∈[w.heap.size,w.heap.size+1],∃o,W.heap[q]? = some o/\rQ o=true:=by
    intro W st h1 h2 q hq
    simp only[List.mem_cons,List.not_mem_nil,or_false] at hq
    rcases hq with rfl|rfl
    ·exact⟨_,h2,rfl⟩
    ·exact⟨_,h1,rfl⟩
   have hl0:W.heap[w.heap.size+1]? = some (.loop { rec .ready none with state:=.ready }):=by rw[hl,hrec]
   have hfold:=yy ps.toList args a.tmps hnd (fun p hp=>by rw[hs];exact hpt p hp) (by rw[hlen,hps x])
   have hgw:Grow F F' w W:=by have:=hbJ.grow;rwa[hw1] at this
   have hact:((ps.zip args.toArray).foldl (fun(tmps:Array Value) (x:Tmp×Value)=>tmps.setIfInBounds x.1 x.2) a.tmps)=((ps.toList.zip args).foldl (fun(t:Array Value) (x:Nat×Value)=>t.setIfInBounds x.1 x.2) a.tmps):=by
    rw[<-Array.foldl_toList,Array.toList_zip]
   have hrun0:=hass x r s hR F' (w1.oz W hbJ.shp [w.heap.size,w.heap.size+1] (some (w.heap.size+1)) []) { tmps:=(ps.toList.zip args).foldl (fun(t:Array Value) (x:Nat×Value)=>t.setIfInBounds x.1 x.2) a.tmps,defers:=[] } W ⟨B',F',hbJ.oz hbJ.shp (hbJ.yJ (hno s) (hex hl0 hk)),rfl,by rw[hfold.1];exact hs,fun y hy=>?_⟩
   rotate_left
   ·rcases List.mem_append.1 hy with hy|hy
    ·obtain⟨h1,h2,h3⟩:=hKb y hy
     obtain⟨v,q1,q2⟩:=hK _ h1
     refine⟨v,by rw[hfold.2.1 _ h2];exact q1,?_⟩
     have q3:=(Rep.pull y.2 q2).grow hgw
     cases hd':y.2 with
     |own j off =>
      rw[hd'] at q3 h3
      cases q3 with
      |own _ _ b hbj =>
       have hj:j∈c.Lin.map (·.1):=List.contains_iff_mem.1 h3
       obtain⟨z,hz,rfl⟩:=List.mem_map.1 hj
       exact .own _ _ b (hbJ.env _ _ ((henv z.1 z.2.1 z.2.2 hz).trans hbj))
     |_=>rw[hd'] at q3 h3;exact q3.bare h3
    ·obtain⟨i,hi⟩:=List.getElem?_of_mem hy
     rw[List.getElem?_zip_eq_some] at hi
     obtain⟨v,q1,q2⟩:=hargs.get i hi.2
     have hnoy:D.fB y.2=true:=by
      have:=hne x
      have hmem:y.2∈encs x:=List.mem_of_getElem? hi.2
      clear hi hy q1 q2
      revert this hmem
      generalize encs x=es
      intro this hmem
      induction es with
      |nil=>cases hmem
      |cons e es ih =>
       rw[D.cO,Bool.and_eq_true] at this
       rcases List.mem_cons.1 hmem with rfl|h
       ·exact this.1
       ·exact ih this.2 h
     exact⟨v,hfold.2.2 i _ _ hi.1 q1,q2.bare hnoy⟩
   rw[<-hact] at hrun0
   refine⟨fn,_,assign,body,hy,roundIn_of_wpIn trivial (wpIn_mono hrun0 ?_)⟩
   rintro ea a1 Wa ⟨rfl,Ba,Fa,hba,hda,hsa,hKa⟩
   have hla:Wa.heap[w.heap.size+1]? = some (.loop { rec .ready none with state:=.ready }):=(hba.below.block _ hll (fun h=>h.2 (by simp))).trans hl0
   have hka:Wa.heap[w.heap.size]? = some (.deferred (some [])):=(hba.below.block (w.heap.size) (by show w.heap.size<W.heap.size;omega) (fun h=>h.2 (by simp))).trans hk
   refine⟨_,run_beginRound hla rfl,?_⟩
   have hb1a:=hbJ.comes hba
   obtain⟨hb2,hg2a⟩:=hb1a.put (hno2 x s) (o':=.loop { rec .ready none with state:=.busy }) hla rfl rfl (by omega)
   have hg2:=hba.grow.trans hg2a
   have hl2:(Wa.putObj (w.heap.size+1) (.loop { rec .ready none with state:=.busy })).heap[w.heap.size+1]? = some (.loop { rec .ready none with state:=.busy }):=World.putObj_heap_same (hlt hla)
   have hk2:(Wa.putObj (w.heap.size+1) (.loop { rec .ready none with state:=.busy })).heap[w.heap.size]? = some (.deferred (some [])):=(World.putObj_heap_other (by omega)).trans hka
   revert hb2 hg2 hg2a hl2 hk2
   generalize Wa.putObj (w.heap.size+1) (.loop { rec .ready none with state:=.busy })=W2
   intro hb2 hg2a hg2 hl2 hk2
   have hrun:=hbody x r s hR Fa (w1.oz W2 hb2.shp [w.heap.size,w.heap.size+1] (some (w.heap.size+1)) []) a1 W2 ⟨Ba,Fa,hb2.oz hb2.shp (hb2.yJ (hno2 x s) (hex hl2 hk2)),hda,hsa,fun y hy=>let ⟨v,q1,q2⟩:=hKa y hy;⟨v,q1,q2.grow hg2a⟩⟩
   refine wpIn_mono hrun ?_
   have hsz2:w.heap.size+1<W2.heap.size:=hlt hl2
   have fin:∀(jm:Option Code)(Lx:aA)(B'':Env)(F'':Fz)(w':World),jK Lx=true->Base Fa (w1.oz W2 hb2.shp [w.heap.size,w.heap.size+1] (some (w.heap.size+1)) []) B'' F'' (aN Lx) w' ->
     ∃w4,(Instr.endRound (w.heap.size+1) jm).run P w'=.ok (.bool jm.isNone) w4/\Adv P F' W F'' w4/\Base F w1 B'' F'' (aN Lx) w4/\w4.heap[w.heap.size+1]? = some (.loop (rec (if jm.isNone then .ready else .done) jm))/\w4.heap[w.heap.size]? = some (.deferred (some [])):=by
    intro jm Lx B'' F'' w' hnx hb3
    have hl3:w'.heap[w.heap.size+1]? = some (.loop { rec .ready none with state:=.busy }):=(hb3.below.block _ hsz2 (fun h=>h.2 (by simp))).trans hl2
    have hk3:w'.heap[w.heap.size]? = some (.deferred (some [])):=(hb3.below.block (w.heap.size) (by show w.heap.size<W2.heap.size;omega) (fun h=>h.2 (by simp))).trans hk2
    have hrun:=run_endRound (P:=P) jm hl3
    have hb4:=hb2.comes hb3
    obtain⟨hb5,hg5⟩:=hb4.put hnx (o':=.loop { ({ rec .ready none with state:=.busy }:Loop) with state:=if jm.isNone then .ready else .done,pending:=jm }) hl3 rfl rfl (by omega)
    refine⟨_,hrun,⟨(hg2.trans hb3.grow).trans hg5,hb5.frz,hb5.shp⟩,hb5,?_,(World.putObj_heap_other (by omega)).trans hk3⟩
    rw[World.putObj_heap_same (hlt hl3),hrec]
   rintro e a3 w3 hp
   cases e with
   |normal =>
    obtain⟨s',B'',F'',hR',hb3⟩:=hp
    obtain⟨w4,h1,h2,h3,h4,h5⟩:=fin none _ B'' F'' w3 (hno s') hb3
    exact⟨_,w4,h1,F'',h2,.inl ⟨rfl,s',B'',hR',h3,h4,h5⟩⟩
   |ret =>
    obtain⟨hj,B'',F'',hb3⟩:=hp
    obtain⟨w4,h1,h2,h3,h4,h5⟩:=fin (some .ret) _ B'' F'' w3 hnoL hb3
    exact⟨_,w4,h1,F'',h2,.inr ⟨rfl,B'',_,hj,h3,h4,h5⟩⟩
   |exit id =>
    obtain⟨hj,B'',F'',hb3⟩:=hp
    obtain⟨w4,h1,h2,h3,h4,h5⟩:=fin (some (.exit id)) _ B'' F'' w3 hnoL hb3
    exact⟨_,w4,h1,F'',h2,.inr ⟨rfl,B'',_,hj,h3,h4,h5⟩⟩
   |goto t =>
    obtain⟨hj,B'',F'',hb3⟩:=hp
    obtain⟨w4,h1,h2,h3,h4,h5⟩:=fin (some (.goto t)) _ B'' F'' w3 hnoL hb3
    exact⟨_,w4,h1,F'',h2,.inr ⟨rfl,B'',_,hj,h3,h4,h5⟩⟩
   |panic ch=>exact hp.elim
   |outgrown=>exact hp.elim
  ·
   have out:∀(B':Env)(F':Fz)(W:World)(lp:Loop),Base F w1 B' F' (aN c.fC) W->W.heap[w.heap.size+1]? = some (.loop lp)->lp.state≠.busy->W.heap[w.heap.size]? = some (.deferred (some [])) ->
     ∃w4 w1m,(Instr.endLoop (w.heap.size+1)).run P W=.ok lp.pending w4/\After F0 w0 F' w1m/\St nt F' w1m K' (lK c L) { a with defers:=[{ target:=.collected w.heap.size,args:=#[] }]++a.defers } w4:=by
    intro B' F' W lp hbx hl hst hk
    have hw1s:w1.w.heap.size=w.heap.size:=by rw[hw1]
    obtain⟨hb4,hg4⟩:=hbx.put hnoL (o':=.loop { lp with state:=.exhausted }) hl rfl rfl (by omega)
    have hk4:(W.putObj (w.heap.size+1) (.loop { lp with state:=.exhausted })).heap[w.heap.size]? = some (.deferred (some [])):=(World.putObj_heap_other (by omega)).trans hk
    obtain⟨B2,hb5,hg5,hold,_,_⟩:=hafter F' B' _ hb4
    have hb6:=hb5.oz hb5.shp (ro:=none) (ds:={ target:=.collected w.heap.size,args:=#[] }::w0.defs) (hb5.yJ hnoA (ex:=[w.heap.size]) fun q hq=>by
     rw[List.mem_singleton.1 hq];exact⟨_,hk4,rfl⟩)
    refine⟨_,_,run_endLoop hl hst,⟨fun B F M w h=>hb5.comes h,⟨w.heap.size,rfl,hw0,hk4,fun h=>h.2 (by simp)⟩,rfl⟩,B2,F',hb6,by rw[hd];rfl,hs,fun x hx=>?_⟩
    obtain⟨h1,h2⟩:=hK' x hx
    obtain⟨v,q1,q2⟩:=hK x h1
    refine⟨v,q1,(q2.grow hg5).nX fun k hk=>hold k ?_⟩
    cases hcc:(dX c).contains k with
    |false=>rfl
    |true=>rw[h2 k hcc] at hk;cases hk
   rintro e W ⟨⟨v,rfl⟩,F',⟨s,B',hR,hbx,hl,hk⟩|⟨B',j,hj,hbx,hl,hk⟩⟩
   ·obtain⟨rfl,hS⟩:=hend s hR
    rw[hS] at hbx
    obtain⟨w4,w1m,h1,h2,h3⟩:=out B' F' W _ hbx hl (by rw[hrec];simp) hk
    rw[hrec] at h1
    exact⟨none,w4,h1,hn F' w1m h2 _ _ h3⟩
   ·subst hj
    obtain⟨w4,w1m,h1,h2,h3⟩:=out B' F' W _ hbx hl (by rw[hrec];simp) hk
    rw[hrec] at h1
    have hwp:Wp P nt F' w1m K' (lK c L) j Q:=hn F' w1m h2
    have:=hwp _ _ h3
    rw[h2.rnd] at this
    exact⟨some j,w4,h1,this⟩
end
end Go.Proofs.YtefojkdckfidcaaGreatDoor.RX
namespace Go.Proofs.YtefojkdckfidcaaGreatDoor.RX
open Go.RowKit
section
variable {P:Program} {Γ:Nat->Option TI} {nt:Nat} {F0 F1:Fz} {w0:Pt P} {K K':List (Nat×D)} {L L':aA} {Q:Exit->Act->World->Prop}
theorem To.round{σ:Type}{R:σ->Prop}{S:σ->aA}{jump:Option Code}{Lx:aA}(s:σ)(kl:List Nat)(hR:R s)(hl:i6 L kl=some (S s)):To nt F0 w0 K L .normal (oI F0 w0 R S jump Lx):=by
 rintro a w ⟨B,F,hb,_⟩
 exact⟨s,B,F,hR,hb.sub fun _ _ _ h=>kT hl _ h⟩
theorem AB{f : Nat}{fn : Func}{c : Code}{ds : List D}{r : D}(hf : P.funcs[f]? = some fn)(hbody : fn.body=some c)(hname : (fn.name == "runtime.NumGoroutine")=false)(hn : ds.length<=fn.ntmps)
  (h:∀(F0:Fz)(w0:World)(hsh:Shp P w0),Wp P fn.ntmps F0 (.top w0 hsh) (ds.zipIdx.map fun x=>(x.2,x.1)) [] c (bodyPostM (Fr none) 0 P fn (uu F0 w0 r))):bg P f ds r:=by
 refine⟨⟨fn,hf,hname,by rw[hbody];rfl⟩,fun F w args hsh hF hr=>?_⟩
 have hlen:=aB.length hr
 have hc:CallsIn (Fr none) 0 P f args.toArray w (fun e w'=>∃v,e=.returned v/\Rep (qC F w w') w' NB r v/\Below w.heap.size w w'):=?_
 ·exact callsIn_wide.1 hc
 refine callsIn_of_wp_marks (F:=Fr none) hf hbody trivial (h F w hsh _ w ⟨NB,F,?_,rfl,?_,fun x hx=>?_⟩)
 ·exact⟨(fun k t ds hl=>by simp[aN] at hl),(fun k t ds b hl=>by simp[aN] at hl),(fun i j b hi=>by obtain⟨t,ds,hx⟩:=hi;simp[aN] at hx),hF,fun g k h=>.inl h,Grow.refl _ _,dZ.refl _ _ _,fun k b h=>by cases h⟩
 ·simp;omega
 ·obtain⟨y,hy,rfl⟩:=List.mem_map.1 hx
  obtain⟨d,i⟩:=y
  have hd:ds[i]? = some d:=by
   have:=List.mem_zipIdx_iff_getElem?.1 hy
   simpa using this
  obtain⟨v,hv,hrep⟩:=hr.get i hd
  refine⟨v,?_,hrep⟩
  have hi:i<args.length:=(List.getElem?_eq_some_iff.1 hv).1
  simp only
  rw[Array.getElem?_append_left (by simpa using hi)]
  simpa using hv
theorem To.Aq(hΓ:ΓOK P Γ){fn:Func}{r:D}{wt:World}{hsh:Shp P wt}{w1:Pt P}(hA:After F0 (.top wt hsh) F1 w1)(hno:jK L=true)(h:wh Γ K L fn.results.toList=some r) :
  To nt F1 w1 K L .ret (bodyPostM (Fr none) 0 P fn (uu F0 wt r)):=by
 rintro a w ⟨B,F,hb,hd,hs,hK⟩
 obtain⟨D,hdefs,hD0,hDh,hDo⟩:=hA.mark
 have hlt:D<w1.w.heap.size:=(Array.getElem?_eq_some_iff.1 hDh).1
 have hDw:w.heap[D]? = some (.deferred (some [])):=(hb.below.block D hlt hDo).trans hDh
 have hb0:=hA.back _ _ _ _ hb
 obtain⟨hb1,hg1⟩:=hb0.put hno (o':=.deferred none) hDw rfl rfl hD0
 obtain⟨_,v,h5,h6⟩:=To.done (nt:=nt) (F0:=F0) (K:=K) (L:=L) hΓ (hsh:=hsh) h { a with defers:=[] } (w.putObj D (.deferred none)) ⟨B,F,hb1,rfl,hs,fun x hx=>let ⟨v,q1,q2⟩:=hK x hx;⟨v,q1,q2.grow hg1⟩⟩
 show LeavesInM (Fr none) 0 P fn a.tmps (uu F0 wt r) a.defers .returning w
 rw[hd,hdefs]
 exact⟨by simp,.inl ⟨D,_,rfl,run_takeDeferred hDw,v,h5,h6⟩⟩
theorem To.wY(hΓ:ΓOK P Γ){fn:Func}{r:D}{wt:World}{hsh:Shp P wt}(h:wh Γ K L fn.results.toList=some r):To nt F0 (.top wt hsh) K L .ret (bodyPostM (Fr none) 0 P fn (uu F0 wt r)):=by
 rintro a w hst
 obtain⟨hd,v,h5,h6⟩:=To.done (nt:=nt) (F0:=F0) (K:=K) (L:=L) hΓ (hsh:=hsh) h a w hst
 show LeavesInM (Fr none) 0 P fn a.tmps (uu F0 wt r) a.defers .returning w
 rw[hd]
 exact⟨v,h5,h6⟩
theorem EY.Ag{β:Type}{J:β->Fz->World->Prop}(h:EY J)(b:β):EY (fun(_:Unit)=>J b):=fun _ F w w'=>h b F w w'
end
end Go.Proofs.YtefojkdckfidcaaGreatDoor.RX
namespace Go.Proofs.YtefojkdckfidcaaGreatDoor.RX
open Go.RowKit
section
variable {ro:Option Nat} {P:Program} {ops:Array Oper} {Q:Exit->Act->World->Prop}
theorem KO{F:Fence}{n:Nat}{o:Oper}{a:Act}{w:World}{K K':Act->World->Prop}{Q Q':Exit->Act->World->Prop}(hQ:∀e a w,e≠.normal->¬Q e a w)(h:∀a w,K a w->K' a w)(hh:o.wpIn F n P a w K Q):o.wpIn F n P a w K' Q':=by
 unfold Oper.wpIn at *
 refine⟨hh.1,?_⟩
 have hh:=hh.2
 generalize (o.semAt F.round a.eval).run P w=r at *
 have hl:¬LetsOut Q:=fun⟨a,w,h⟩=>hQ _ a w (by simp) h
 cases r with
 |ok x w' =>
  cases x<;>simp only[Oper.uponIn] at hh ⊢ <;>
   first
    |exact h _ _ hh
    |exact⟨hh.1,CallsIn.mono hh.2 (fun e w'' he=>by cases e<;>first|exact h _ _ he|exact(hQ _ _ _ (by simp) he).elim|exact(hl he).elim)⟩
    |exact⟨hh.1,RowsIn.mono hh.2 (fun _ _ he=>h _ _ he)⟩
    |exact⟨hh.1,RoundIn.mono hh.2 (fun e w'' he=>by cases e<;>first|exact h _ _ he|exact(hQ _ _ _ (by simp) he).elim|exact(hl he).elim)⟩
 |halt x w'=>cases x<;>simp only[Oper.uponIn] at hh ⊢<;>first|exact hh|exact(hQ _ _ _ (by simp) hh).elim
def Jm(ro:Option Nat)(P:Program)(ops:Array Oper)(Q:Exit->Act->World->Prop)(rest:List Oper):Exit->Act->World->Prop
 |.normal,a,w=>wpListIn (Fr ro) 0 P ops Q rest a w
 |_,_,_=>False
theorem N7{rest:List Oper}(e:Exit)(a:Act)(w:World)(h:e≠.normal):¬Jm ro P ops Q rest e a w:=by cases e<;>first|exact absurd rfl h|exact id
theorem uF{rest:List Oper}:∀{l:List Oper}{a:Act}{w:World},(∀o∈l,o.nd)->wpList P ops (Jm ro P ops Q rest) l a w->wpListIn (Fr ro) 0 P ops Q (l++rest) a w
 |[],a,w,_,h=>by
  unfold wpList at h
  exact h
 |o::l,a,w,hn,h=>by
  have hout:¬LetsOut (Jm ro P ops Q rest):=fun⟨_,_,h⟩=>h
  unfold wpList at h
  rw[List.cons_append]
  unfold wpListIn
  split at h
  ·rename_i hw
   rw[if_pos hw]
   rcases h with h|h
   ·exact KO N7 (fun a w h=>uF (fun o ho=>hn o (List.mem_cons_of_mem _ ho)) h) (B6 (ro:=ro) hout (hn o List.mem_cons_self) h)
   ·exact absurd h.2 hout
  ·rename_i hw
   rw[if_neg hw]
   exact⟨fun _ _=>trivial,uF (fun o ho=>hn o (List.mem_cons_of_mem _ ho)) h⟩
end
section
variable {P:Program} {Γ:Nat->Option TI} {nt:Nat} {F0:Fz} {K:List (Nat×D)} {Q:Exit->Act->World->Prop}
end
end Go.Proofs.YtefojkdckfidcaaGreatDoor.RX
namespace Go.Proofs.YtefojkdckfidcaaGreatDoor.RX
open Go.RowKit
def cRB:Code->Code|.rangeFunc _ _ _ b=>b|c=>c
section
variable {P:Program} {Γ:Nat->Option TI} {nt:Nat} {F0:Fz} {w0:Pt P} {K:List (Nat×D)} {L:aA} {Q:Exit->Act->World->Prop}
theorem St.restart{F1:Fz}{w1:Pt P}{L L':aA}(k k':Nat)(hlt:k'<1000000)(hf:kB k' [] L=true)(hL':Jp k k' L=L')(a:Act)(w:World)(h:St nt F1 w1 [] L a w):St nt F1 w1 [] L' a w :=
 St.rename (K:=[]) (K':=[]) k k' hlt hf rfl hL' a w h
theorem St.reL{F1:Fz}{w1:Pt P}{L L':aA}(kl:List Nat)(h:i6 L kl=some L')(a:Act)(w:World)(hs:St nt F1 w1 [] L a w):St nt F1 w1 [] L' a w:=by
 obtain⟨B,F,hb,h2,h3,_⟩:=hs
 exact⟨B,F,hb.sub fun _ _ _ hm=>kT h _ hm,h2,h3,fun x hx=>by cases hx⟩
def _root_.Go.Proofs.YtefojkdckfidcaaGreatDoor.RX.Pt.out(w1:Pt P):Pt P:={ w1 with rnd:=none }
end
end Go.Proofs.YtefojkdckfidcaaGreatDoor.RX
namespace Go.Proofs.YtefojkdckfidcaaGreatDoor.RX
open Go.RowKit
structure jf(P:Program)(F:Fz)(U:Nat->Prop)(w:World)(F':Fz)(U':Nat->Prop)(w':World):Prop where
 below:dZ U w.heap.size w w'
 grow:Grow F F' w w'
 more:∀g k,F' g k->F g k\/w.heap.size<=g\/U g
 frz:∀g k,F' g k->g<w'.heap.size
 off:∀g k,F' g k->¬U' g
 own:∀b,U' b->U b\/w.heap.size<=b
 lt:∀b,U' b->b<w'.heap.size
 shp:Shp P w'
def jb(P:Program){β:Type}(J:β->Fz->(Nat->Prop)->World->Prop):Prop:=∀s F U w F' U' w',J s F U w->jf P F U w F' U' w'->J s F' U' w'
structure Jt(P:Program)(F:Fz)(U:Nat->Prop)(w:World)(F':Fz)(w':World):Prop where
 adv:Adv P F w F' w'
 size:w.heap.size<=w'.heap.size
 kept:∀b,U b->w'.heap[b]? = w.heap[b]?
 off:∀g k,F' g k->¬U g
def sD(P:Program)(l:Nat){α:Type}(encs:α->List D)(J:List α->Fz->(Nat->Prop)->World->Prop)(Jx:Fz->(Nat->Prop)->World->Prop):Prop :=
 ∀ro x r F U w args,J (x::r) F U w->(∀g k,F g k->g<w.heap.size/\¬U g)->(∀b,U b->b<w.heap.size)->Shp P w->aB F w NB (encs x) args ->
  YieldAt (Fr ro) 0 P l args.toArray w fun e w'=>∃F',Jt P F U w F' w'/\((e=.returned (.bool true)/\J r F' U w')\/(e=.returned (.bool false)/\Jx F' U w'))
def wE(P:Program)(g:Nat)(ds:List D){α:Type}(encs:α->List D)(xs:List α):Prop :=
 FOK P g/\∀(l:Nat)(J:List α->Fz->(Nat->Prop)->World->Prop)(Jx:Fz->(Nat->Prop)->World->Prop),jb P J->jb P (fun(_:Unit)=>Jx)->sD P l encs J Jx ->
  ∀F w lb,J xs F (fun _=>False) w->(∀g k,F g k->g<w.heap.size)->Shp P w->aB F w NB ds lb ->
   CallsIn (Fr none) 0 P g (#[.func (.yield l) #[] #[]]++lb.toArray) w fun e w'=>(∃v,e=.returned v)/\∃F' U',J [] F' U' w'\/Jx F' U' w'
section
variable {P:Program} {F0 F1:Fz} {w0 w1:Pt P} {B:Env} {F:Fz} {M:Mem} {w:World}
def Pt.qP(w1:Pt P)(W:World)(sh:Shp P W)(ex:Nat->Prop)(ro:Option Nat)(ds:List Deferred):Pt P :=
 { w:=W,own:=fun b=>w1.fresh b/\¬ex b,env:=w1.env,low:=w1.low,sh:=sh,high:=fun _ h=>Pt.rW h.1,rnd:=ro,defs:=ds }
theorem Base.qP(hb:Base F1 w1 B F M w)(sh:Shp P w){ex:Nat->Prop}{ro:Option Nat}{ds:List Deferred}(hex:∀k t c b,M k t c->bW B k=some b->¬ex b):Base F (w1.qP w sh ex ro ds) B F M w :=
 ⟨hb.boxes,fun k t c b h hk=>.inr ⟨hb.new k t c b h hk,hex k t c b h hk⟩,hb.inj,hb.frz,fun _ _ h=>.inl h,Grow.refl _ _,dZ.refl _ _ _,hb.env⟩
theorem Base.MS(hb:Base F1 w1 B F M w){sh:Shp P w}{ex:Nat->Prop}{ro:Option Nat}{ds:List Deferred}{B':Env}{F':Fz}{M':Mem}{w':World}(h:Base F (w1.qP w sh ex ro ds) B' F' M' w'):Base F1 w1 B' F' M' w':=by
 have hsz:=hb.below.size
 have hfr:∀b,(w1.qP w sh ex ro ds).fresh b->w1.fresh b:=by
  rintro b (hb'|hb')
  ·exact .inl (Nat.le_trans hsz hb')
  ·exact hb'.1
 refine⟨h.boxes,fun k t c b hm hk=>hfr b (h.new k t c b hm hk),h.inj,h.frz,fun g k hF=>?_,hb.grow.trans h.grow,⟨h.below.os.trans hb.below.os,h.below.tape.trans hb.below.tape,h.below.output.trans hb.below.output,Nat.le_trans hsz h.below.size,fun k hk ho=>?_⟩,h.env⟩
 ·rcases h.more g k hF with h1|h1
  ·exact hb.more g k h1
  ·exact .inr (hfr g h1)
 ·refine(h.below.block k (Nat.lt_of_lt_of_le hk hsz) fun h1=>?_).trans (hb.below.block k hk ho)
  rcases h1.1 with h2|h2
  ·omega
  ·exact ho h2
theorem uj{W:World}{sh:Shp P W}{ex:Nat->Prop}{ro:Option Nat}{ds:List Deferred}(hlt:∀b,ex b->b<W.heap.size){b:Nat}(h:(w1.qP W sh ex ro ds).fresh b):¬ex b:=fun he=>by
 rcases h with h|h
 ·have:=hlt b he;exact absurd h (by show ¬W.heap.size<=b;omega)
 ·exact h.2 he
theorem Base.Ox{L:aA}{U U':Nat->Prop}{F':Fz}{w':World}(hb:Base F1 w1 B F (aN L) w)(hU:∀b,U b->w1.w.heap.size<=b)(hd:∀k t c b,aN L k t c->bW B k=some b->¬U b)(h:jf P F U w F' U' w'):Base F1 w1 B F' (aN L) w':=by
 refine⟨fun k t ds hm=>?_,hb.new,hb.inj,h.frz,fun g k hF=>?_,hb.grow.trans h.grow,hb.below.trans ⟨h.below.os,h.below.tape,h.below.output,h.below.size,fun k hk _=>?_⟩,hb.env⟩
 ·have hh:=hb.boxes _ _ _ hm
  refine hh.grow h.grow rfl (fun _ _ _ h=>h) fun b hbk=>?_
  have hlt:=hh.lt hbk
  have hu:=hd _ _ _ b hm hbk
  refine⟨h.below.block b hlt hu,fun j hj=>?_⟩
  rcases h.more b j hj with h1|h1|h1
  ·exact h1
  ·omega
  ·exact absurd h1 hu
 ·rcases h.more g k hF with h1|h1|h1
  ·exact hb.more g k h1
  ·exact .inr (.inl (Nat.le_trans hb.below.size h1))
  ·exact .inr (.inl (hU g h1))
 ·exact h.below.block k (Nat.lt_of_lt_of_le hk hb.below.size) fun hu=>by have:=hU k hu;omega
end
section
variable {P:Program} {Γ:Nat->Option TI} {nt:Nat} {F0:Fz} {w0:Pt P} {K K' Kb:List (Nat×D)} {L L':aA} {Q:Exit->Act->World->Prop}
theorem Wp.J8{α σ:Type}{t:Nat}{ps:Array Tmp}{assign body:Code}{gf:Nat}{lds:List D}{encs:α->List D}{xs:List α}(c:CBd)(R:List α->σ->Prop)(S:σ->aA)(jump:Option Code)
  (hro:w0.rnd=none) (hg:K.lookup t=some (.fn gf lds)) (hlds:D.cO lds=true) (hseq:wE P gf lds encs xs)
  (hok:yb c=true) (hLin:found c L=c.Lin.map fun x=>some (x.2.1,D.subs (dG never c.ren) x.2.2)) (hno:∀s,jK (S s)=true) (hnoL:jK c.fC=true) (hnoA:jK (lK c L)=true)
  (s0:σ) (hR0:R xs s0) (hS0:∀(F':Fz)(w1:Pt P)(a:Act)(w:World),St nt F' w1 [] c.Lin a w->St nt F' w1 [] (S s0) a w) (hps:∀x,(encs x).length=ps.toList.length) (hnd:ps.toList.Nodup) (hpt:∀p∈ps.toList,p<nt) (hne:∀x,D.cO (encs x)=true)
  (hKb:∀x∈Kb,(x.1,D.sub (dG never c.ren) x.2)∈K/\x.1∉ps.toList/\NU (c.Lin.map (·.1)) x.2=true)
  (K2:α->σ->List (Nat×D)) (L2:α->σ->aA) (hno2:∀x s,jK (L2 x s)=true)
  (hass:∀x r s,R (x::r) s->∀(F':Fz)(w1:Pt P),Wp P nt F' w1 (Kb++ps.toList.zip (encs x)) (S s) assign (yN nt F' w1 (K2 x s) (L2 x s)))
  (hbody:∀x r s,R (x::r) s->∀(F':Fz)(w1:Pt P),Wp P nt F' w1 (K2 x s) (L2 x s) body (oI F' w1 (R r) S jump c.fC))
  (hend:∀s,R [] s->jump=none/\S s=c.fC)
  (hK':∀x∈K',x∈K/\∀k,(dX c).contains k=true->D.names k x.2=false)
  (hn:∀(F1:Fz)(w1:Pt P),After F0 w0 F1 w1->Behind nt F1 w1 K' (lK c L) Q jump) :
  Wp P nt F0 w0 K L (.rangeFunc (.tmp t) ps assign body) Q:=by
 rintro a w ⟨B,F,hb,hd,hs,hK⟩
 rw[hro]
 obtain⟨w1,hw1,hb1,henv,hafter⟩:=xu hb hok hLin
 obtain⟨v,hv,hrv⟩:=hK _ (aD hg)
 obtain⟨lb,hlb,rfl⟩:∃lb,aB F w B lds lb/\v=.func (.func gf) #[] lb.toArray:=by
  cases hrv with
  |fn f ds vs h=>exact⟨vs,h,rfl⟩
 refine wpIn_rangeFunc fun fn hfn=>?_
 obtain⟨rec,hrec⟩:∃rec:LoopState->Option Code->Loop,rec=fun st pe=>{ state:=st,pending:=pe,fn,tmps:=a.tmps,params:=ps,assign,body,defers:=w.heap.size }:=⟨_,rfl⟩
 obtain⟨W1,hW1⟩:∃W1,(w.alloc (.deferred (some []))).alloc (.loop (rec .ready none))=W1:=⟨_,rfl⟩
 have hL1:W1.heap[w.heap.size+1]? = some (.loop (rec .ready none)):=by
  rw[<-hW1];have:=World.alloc_heap_new (w.alloc (.deferred (some []))) (.loop (rec .ready none));rwa[World.size_alloc] at this
 have hD1:W1.heap[w.heap.size]? = some (.deferred (some [])):=by
  rw[<-hW1];exact(Below.heap_alloc _ _ _ (by simp)).trans (World.alloc_heap_new w _)
 have hbel:Below w.heap.size w W1:=by rw[<-hW1];exact xf _ _ _
 obtain⟨hbW,hgW⟩:=hb1.callee hbel
 have hw0:w0.w.heap.size<=w.heap.size:=hb.below.size
 refine⟨w.heap.size+1,[{ target:=.collected w.heap.size,args:=#[] }],W1,{ target:=.fn (.func gf) lb.toArray,args:=#[.func (.yield (w.heap.size+1)) #[] #[]] },W1,gf,
  #[.func (.yield (w.heap.size+1)) #[] #[]]++lb.toArray,W1,?_,?_,fun _ _=>trivial,?_,fun h=>(by cases h),?_⟩
 ·rw[<-hW1,hrec];exact run_enterLoop_outer _ _ _ _ _
 ·simp only[resolve,ov hv]
  simp[go_sem]
 ·simp only[invoke];rw[mJ hseq.1]
 ·let N0:(Nat->Prop)->Prop:=fun U=>∀b,U b->w.heap.size+2<=b
  let Dj:Env->aA->(Nat->Prop)->Prop:=fun B' L U=>∀k t c b,aN L k t c->bW B' k=some b->¬U b
  let J:List α->Fz->(Nat->Prop)->World->Prop:=fun r F' U W=>N0 U/\∃s B',R r s/\Base F w1 B' F' (aN (S s)) W/\Dj B' (S s) U/\W.heap[w.heap.size+1]? = some (.loop (rec .ready none))/\W.heap[w.heap.size]? = some (.deferred (some []))
  let Jx:Fz->(Nat->Prop)->World->Prop:=fun F' U W=>N0 U/\∃B' j,jump=some j/\Base F w1 B' F' (aN c.fC) W/\Dj B' c.fC U/\W.heap[w.heap.size+1]? = some (.loop (rec .done (some j)))/\W.heap[w.heap.size]? = some (.deferred (some []))
  have hw1s:w1.w.heap.size=w.heap.size:=by rw[hw1]
  have hlt:∀{W:World}{r:Nat}{o:Obj},W.heap[r]? = some o->r<W.heap.size:=fun h=>(Array.getElem?_eq_some_iff.1 h).1
  obtain⟨B0,Fs,hb0,_⟩:=hS0 (qC F w W1) (w1.oz W1 hbW.shp [] none a.defers) a W1 ⟨_,_,hbW.oz hbW.shp (fun _ _ _ _ _ _ h=>by cases h),rfl,hs,fun x hx=>by cases hx⟩
  have hbs:=hbW.comes hb0
  have stN:∀{U U':Nat->Prop}{F' F'':Fz}{W W':World},N0 U->w.heap.size+1<W.heap.size->jf P F' U W F'' U' W'->N0 U':=fun hU hsz ht b hb'=>by
   rcases ht.own b hb' with h|h
   ·exact hU b h
   ·omega
  have stD:∀{U U':Nat->Prop}{F' F'':Fz}{W W':World}{B':Env}{Lx:aA},Base F w1 B' F' (aN Lx) W->Dj B' Lx U->jf P F' U W F'' U' W'->Dj B' Lx U':=fun hbx hd ht k t c b hm hk hu=>by
   rcases ht.own b hu with h|h
   ·exact hd k t c b hm hk h
   ·have:=(hbx.boxes _ _ _ hm).lt hk;omega
  have hU1:∀{U:Nat->Prop},N0 U->∀b,U b->w1.w.heap.size<=b:=fun hU b hb'=>by have:=hU b hb';omega
  refine(hseq.2 (w.heap.size+1) J Jx (fun r F' U W F'' U' w' ⟨hN0,s,B',h1,h2,hdj,h3,h4⟩ h5=>⟨stN hN0 (hlt h3) h5,s,B',h1,h2.Ox (hU1 hN0) hdj h5,stD h2 hdj h5,(h5.below.block _ (hlt h3) (fun hu=>by have:=hN0 _ hu;omega)).trans h3,(h5.below.block _ (hlt h4) (fun hu=>by have:=hN0 _ hu;omega)).trans h4⟩)
   (fun _ F' U W F'' U' w' ⟨hN0,B',j,h1,h2,hdj,h3,h4⟩ h5=>⟨stN hN0 (hlt h3) h5,B',j,h1,h2.Ox (hU1 hN0) hdj h5,stD h2 hdj h5,(h5.below.block _ (hlt h3) (fun hu=>by have:=hN0 _ hu;omega)).trans h3,(h5.below.block _ (hlt h4) (fun hu=>by have:=hN0 _ hu;omega)).trans h4⟩) ?_ Fs W1 lb ⟨fun _ h=>h.elim,s0,B0,hR0,hbs,fun _ _ _ _ _ _ h=>h,hL1,hD1⟩ hbs.frz hbs.shp ((hlb.bare hlds).grow (hgW.trans hb0.grow))).mono ?_
  ·rintro ro x r F' U W args ⟨hN0,s,B',hR,hbJ,hdj,hl,hk⟩ hfrz hUlt hshp hargs
   have hlen:=aB.length hargs
   have hy:=run_yield (P:=P) (args:=args.toArray) hl (by rw[hrec];simp only[List.size_toArray];rw[hlen,hps x];simp)
   rw[hrec] at hy
   have hll:=hlt hl
   let ex:Nat->Prop:=fun b=>b=w.heap.size\/b=w.heap.size+1\/U b
   have hexlt:∀{W':World},W.heap.size<=W'.heap.size->∀b,ex b->b<W'.heap.size:=fun hle b he=>by
    rcases he with h|h|h
    ·omega
    ·omega
    ·have:=hUlt b h;omega
   have hex:∀{W:World}{st:LoopState},W.heap[w.heap.size+1]? = some (.loop { rec .ready none with state:=st })->W.heap[w.heap.size]? = some (.deferred (some []))->∀q∈[w.heap.size,w.heap.size+1],∃o,W.heap[q]? = some o/\rQ o=true:=by
    intro W st h1 h2 q hq
    simp only[List.mem_cons,List.not_mem_nil,or_false] at hq
    rcases hq with rfl|rfl
    ·exact⟨_,h2,rfl⟩
    ·exact⟨_,h1,rfl⟩
   have hl0:W.heap[w.heap.size+1]? = some (.loop { rec .ready none with state:=.ready }):=by rw[hl,hrec]
   have off2:∀{B'':Env}{F'':Fz}{Lx:aA}{W':World}{st:LoopState},Base F w1 B'' F'' (aN Lx) W'->jK Lx=true->W'.heap[w.heap.size+1]? = some (.loop { rec .ready none with state:=st })->W'.heap[w.heap.size]? = some (.deferred (some []))->Dj B'' Lx U->∀k t c b,aN Lx k t c->bW B'' k=some b->¬ex b:=fun hbx hnx h1 h2 hdx k t c b hm hk he=>by
    rcases he with h|h|h
    ·exact hbx.yJ hnx (ex:=[w.heap.size,w.heap.size+1]) (hex h1 h2) k t c b hm hk (by simp[h])
    ·exact hbx.yJ hnx (ex:=[w.heap.size,w.heap.size+1]) (hex h1 h2) k t c b hm hk (by simp[h])
    ·exact hdx k t c b hm hk h
   have hfold:=yy ps.toList args a.tmps hnd (fun p hp=>by rw[hs];exact hpt p hp) (by rw[hlen,hps x])
   have hgw:Grow F F' w W:=by have:=hbJ.grow;rwa[hw1] at this
   have hact:((ps.zip args.toArray).foldl (fun(tmps:Array Value) (x:Tmp×Value)=>tmps.setIfInBounds x.1 x.2) a.tmps)=((ps.toList.zip args).foldl (fun(t:Array Value) (x:Nat×Value)=>t.setIfInBounds x.1 x.2) a.tmps):=by
    rw[<-Array.foldl_toList,Array.toList_zip]
   have hrun0:=hass x r s hR F' (w1.qP W hbJ.shp ex (some (w.heap.size+1)) []) { tmps:=(ps.toList.zip args).foldl (fun(t:Array Value) (x:Nat×Value)=>t.setIfInBounds x.1 x.2) a.tmps,defers:=[] } W ⟨B',F',hbJ.qP hbJ.shp (off2 hbJ (hno s) hl0 hk hdj),rfl,by rw[hfold.1];exact hs,fun y hy=>?_⟩
   rotate_left
   ·rcases List.mem_append.1 hy with hy|hy
    ·obtain⟨h1,h2,h3⟩:=hKb y hy
     obtain⟨v,q1,q2⟩:=hK _ h1
     refine⟨v,by rw[hfold.2.1 _ h2];exact q1,?_⟩
     have q3:=(Rep.pull y.2 q2).grow hgw
     cases hd':y.2 with
     |own j off =>
      rw[hd'] at q3 h3
      cases q3 with
      |own _ _ b hbj =>
       have hj:j∈c.Lin.map (·.1):=List.contains_iff_mem.1 h3
       obtain⟨z,hz,rfl⟩:=List.mem_map.1 hj
       exact .own _ _ b (hbJ.env _ _ ((henv z.1 z.2.1 z.2.2 hz).trans hbj))
     |_=>rw[hd'] at q3 h3;exact q3.bare h3
    ·obtain⟨i,hi⟩:=List.getElem?_of_mem hy
     rw[List.getElem?_zip_eq_some] at hi
     obtain⟨v,q1,q2⟩:=hargs.get i hi.2
     have hnoy:D.fB y.2=true:=by
      have:=hne x
      have hmem:y.2∈encs x:=List.mem_of_getElem? hi.2
      clear hi hy q1 q2
      revert this hmem
      generalize encs x=es
      intro this hmem
      induction es with
      |nil=>cases hmem
      |cons e es ih =>
       rw[D.cO,Bool.and_eq_true] at this
       rcases List.mem_cons.1 hmem with rfl|h
       ·exact this.1
       ·exact ih this.2 h
     exact⟨v,hfold.2.2 i _ _ hi.1 q1,q2.bare hnoy⟩
   rw[<-hact] at hrun0
   refine⟨fn,_,assign,body,hy,roundIn_of_wpIn trivial (wpIn_mono hrun0 ?_)⟩
   rintro ea a1 Wa ⟨rfl,Ba,Fa,hba,hda,hsa,hKa⟩
   have hla:Wa.heap[w.heap.size+1]? = some (.loop { rec .ready none with state:=.ready }):=(hba.below.block _ hll (fun h=>h.2 (.inr (.inl rfl)))).trans hl0
   have hka:Wa.heap[w.heap.size]? = some (.deferred (some [])):=(hba.below.block (w.heap.size) (by show w.heap.size<W.heap.size;omega) (fun h=>h.2 (.inl rfl))).trans hk
   have hUa:∀b,U b->Wa.heap[b]? = W.heap[b]?:=fun b hu=>hba.below.block b (hUlt b hu) (fun h=>h.2 (.inr (.inr hu)))
   have hsza:W.heap.size<=Wa.heap.size:=hba.below.size
   have hdja:Dj Ba (L2 x s) U:=fun k t c b hm hk hu=>uj (hexlt (Nat.le_refl _)) (hba.new k t c b hm hk) (.inr (.inr hu))
   have hoffa:∀g k,Fa g k->¬U g:=fun g k hF hu=>by
    rcases hba.more g k hF with h|h
    ·exact(hfrz g k h).2 hu
    ·exact uj (hexlt (Nat.le_refl _)) h (.inr (.inr hu))
   refine⟨_,run_beginRound hla rfl,?_⟩
   have hb1a:=hbJ.MS hba
   obtain⟨hb2,hg2a⟩:=hb1a.put (hno2 x s) (o':=.loop { rec .ready none with state:=.busy }) hla rfl rfl (by omega)
   have hg2:=hba.grow.trans hg2a
   have hl2:(Wa.putObj (w.heap.size+1) (.loop { rec .ready none with state:=.busy })).heap[w.heap.size+1]? = some (.loop { rec .ready none with state:=.busy }):=World.putObj_heap_same (hlt hla)
   have hk2:(Wa.putObj (w.heap.size+1) (.loop { rec .ready none with state:=.busy })).heap[w.heap.size]? = some (.deferred (some [])):=(World.putObj_heap_other (by omega)).trans hka
   have hU2:∀b,U b->(Wa.putObj (w.heap.size+1) (.loop { rec .ready none with state:=.busy })).heap[b]? = W.heap[b]?:=fun b hu=>(World.putObj_heap_other (by have:=hN0 b hu;omega)).trans (hUa b hu)
   have hsz2':W.heap.size<=(Wa.putObj (w.heap.size+1) (.loop { rec .ready none with state:=.busy })).heap.size:=by rw[World.putObj_size];exact hsza
   revert hb2 hg2 hg2a hl2 hk2 hU2 hsz2'
   generalize Wa.putObj (w.heap.size+1) (.loop { rec .ready none with state:=.busy })=W2
   intro hb2 hg2a hg2 hl2 hk2 hU2 hsz2'
   have hrun:=hbody x r s hR Fa (w1.qP W2 hb2.shp ex (some (w.heap.size+1)) []) a1 W2 ⟨Ba,Fa,hb2.qP hb2.shp (off2 hb2 (hno2 x s) hl2 hk2 hdja),hda,hsa,fun y hy=>let ⟨v,q1,q2⟩:=hKa y hy;⟨v,q1,q2.grow hg2a⟩⟩
   refine wpIn_mono hrun ?_
   have hsz2:w.heap.size+1<W2.heap.size:=hlt hl2
   have fin:∀(jm:Option Code)(Lx:aA)(B'':Env)(F'':Fz)(w':World),jK Lx=true->Base Fa (w1.qP W2 hb2.shp ex (some (w.heap.size+1)) []) B'' F'' (aN Lx) w' ->
     ∃w4,(Instr.endRound (w.heap.size+1) jm).run P w'=.ok (.bool jm.isNone) w4/\Jt P F' U W F'' w4/\Base F w1 B'' F'' (aN Lx) w4/\Dj B'' Lx U/\w4.heap[w.heap.size+1]? = some (.loop (rec (if jm.isNone then .ready else .done) jm))/\w4.heap[w.heap.size]? = some (.deferred (some [])):=by
    intro jm Lx B'' F'' w' hnx hb3
    have hl3:w'.heap[w.heap.size+1]? = some (.loop { rec .ready none with state:=.busy }):=(hb3.below.block _ hsz2 (fun h=>h.2 (.inr (.inl rfl)))).trans hl2
    have hk3:w'.heap[w.heap.size]? = some (.deferred (some [])):=(hb3.below.block (w.heap.size) (by show w.heap.size<W2.heap.size;omega) (fun h=>h.2 (.inl rfl))).trans hk2
    have hrun:=run_endRound (P:=P) jm hl3
    have hb4:=hb2.MS hb3
    obtain⟨hb5,hg5⟩:=hb4.put hnx (o':=.loop { ({ rec .ready none with state:=.busy }:Loop) with state:=if jm.isNone then .ready else .done,pending:=jm }) hl3 rfl rfl (by omega)
    refine⟨_,hrun,⟨⟨(hg2.trans hb3.grow).trans hg5,hb5.frz,hb5.shp⟩,?_,fun b hu=>?_,fun g k hF hu=>?_⟩,hb5,fun k t c b hm hk hu=>uj (hexlt hsz2') (hb3.new k t c b hm hk) (.inr (.inr hu)),?_,(World.putObj_heap_other (by omega)).trans hk3⟩
    ·rw[World.putObj_size];exact Nat.le_trans hsz2' hb3.below.size
    ·refine(World.putObj_heap_other (by have:=hN0 b hu;omega)).trans ((hb3.below.block b ?_ (fun h=>h.2 (.inr (.inr hu)))).trans (hU2 b hu))
     show b<W2.heap.size
     have:=hUlt b hu;omega
    ·rcases hb3.more g k hF with h|h
     ·exact hoffa g k h hu
     ·exact uj (hexlt hsz2') h (.inr (.inr hu))
    rw[World.putObj_heap_same (hlt hl3),hrec]
   rintro e a3 w3 hp
   cases e with
   |normal =>
    obtain⟨s',B'',F'',hR',hb3⟩:=hp
    obtain⟨w4,h1,h2,h3,hd3,h4,h5⟩:=fin none _ B'' F'' w3 (hno s') hb3
    exact⟨_,w4,h1,F'',h2,.inl ⟨rfl,hN0,s',B'',hR',h3,hd3,h4,h5⟩⟩
   |ret =>
    obtain⟨hj,B'',F'',hb3⟩:=hp
    obtain⟨w4,h1,h2,h3,hd3,h4,h5⟩:=fin (some .ret) _ B'' F'' w3 hnoL hb3
    exact⟨_,w4,h1,F'',h2,.inr ⟨rfl,hN0,B'',_,hj,h3,hd3,h4,h5⟩⟩
   |exit id =>
    obtain⟨hj,B'',F'',hb3⟩:=hp
    obtain⟨w4,h1,h2,h3,hd3,h4,h5⟩:=fin (some (.exit id)) _ B'' F'' w3 hnoL hb3
    exact⟨_,w4,h1,F'',h2,.inr ⟨rfl,hN0,B'',_,hj,h3,hd3,h4,h5⟩⟩
   |goto t =>
    obtain⟨hj,B'',F'',hb3⟩:=hp
    obtain⟨w4,h1,h2,h3,hd3,h4,h5⟩:=fin (some (.goto t)) _ B'' F'' w3 hnoL hb3
    exact⟨_,w4,h1,F'',h2,.inr ⟨rfl,hN0,B'',_,hj,h3,hd3,h4,h5⟩⟩
   |panic ch=>exact hp.elim
   |outgrown=>exact hp.elim
  ·
   have out:∀(B':Env)(F':Fz)(W:World)(lp:Loop),Base F w1 B' F' (aN c.fC) W->W.heap[w.heap.size+1]? = some (.loop lp)->lp.state≠.busy->W.heap[w.heap.size]? = some (.deferred (some [])) ->
     ∃w4 w1m,(Instr.endLoop (w.heap.size+1)).run P W=.ok lp.pending w4/\After F0 w0 F' w1m/\St nt F' w1m K' (lK c L) { a with defers:=[{ target:=.collected w.heap.size,args:=#[] }]++a.defers } w4:=by
    intro B' F' W lp hbx hl hst hk
    have hw1s:w1.w.heap.size=w.heap.size:=by rw[hw1]
    obtain⟨hb4,hg4⟩:=hbx.put hnoL (o':=.loop { lp with state:=.exhausted }) hl rfl rfl (by omega)
    have hk4:(W.putObj (w.heap.size+1) (.loop { lp with state:=.exhausted })).heap[w.heap.size]? = some (.deferred (some [])):=(World.putObj_heap_other (by omega)).trans hk
    obtain⟨B2,hb5,hg5,hold,_,_⟩:=hafter F' B' _ hb4
    have hb6:=hb5.oz hb5.shp (ro:=none) (ds:={ target:=.collected w.heap.size,args:=#[] }::w0.defs) (hb5.yJ hnoA (ex:=[w.heap.size]) fun q hq=>by
     rw[List.mem_singleton.1 hq];exact⟨_,hk4,rfl⟩)
    refine⟨_,_,run_endLoop hl hst,⟨fun B F M w h=>hb5.comes h,⟨w.heap.size,rfl,hw0,hk4,fun h=>h.2 (by simp)⟩,rfl⟩,B2,F',hb6,by rw[hd];rfl,hs,fun x hx=>?_⟩
    obtain⟨h1,h2⟩:=hK' x hx
    obtain⟨v,q1,q2⟩:=hK x h1
    refine⟨v,q1,(q2.grow hg5).nX fun k hk=>hold k ?_⟩
    cases hcc:(dX c).contains k with
    |false=>rfl
    |true=>rw[h2 k hcc] at hk;cases hk
   rintro e W ⟨⟨v,rfl⟩,F',U',⟨_,s,B',hR,hbx,_,hl,hk⟩|⟨_,B',j,hj,hbx,_,hl,hk⟩⟩
   ·obtain⟨rfl,hS⟩:=hend s hR
    rw[hS] at hbx
    obtain⟨w4,w1m,h1,h2,h3⟩:=out B' F' W _ hbx hl (by rw[hrec];simp) hk
    rw[hrec] at h1
    exact⟨none,w4,h1,hn F' w1m h2 _ _ h3⟩
   ·subst hj
    obtain⟨w4,w1m,h1,h2,h3⟩:=out B' F' W _ hbx hl (by rw[hrec];simp) hk
    rw[hrec] at h1
    have hwp:Wp P nt F' w1m K' (lK c L) j Q:=hn F' w1m h2
    have:=hwp _ _ h3
    rw[h2.rnd] at this
    exact⟨some j,w4,h1,this⟩
end
section
variable {P:Program} {Γ:Nat->Option TI} {nt:Nat} {F0:Fz} {w0:Pt P} {K:List (Nat×D)} {L:aA} {Q:Exit->Act->World->Prop}
theorem Wp.FM{α σ:Type}{t:Nat}{ps:Array Tmp}{assign body:Code}{gf:Nat}{lds:List D}{encs:α->List D}{xs:List α}(c:CBd)(R:List α->σ->Prop)(S:σ->aA)(jump:Option Code)(kb k1:List Nat)(Kb K':List (Nat×D))(L':aA)(s0:σ)(K2:α->σ->List (Nat×D))(L2:α->σ->aA)
  (hro:w0.rnd=none) (hg:K.lookup t=some (.fn gf lds)) (hlds:D.cO lds=true) (hseq:wE P gf lds encs xs)
  (hok:yb c=true) (hLin:found c L=c.Lin.map fun x=>some (x.2.1,D.subs (dG never c.ren) x.2.2)) (hno:∀s,jK (S s)=true) (hnoL:jK c.fC=true) (hA:lK c L=L') (hnoA:jK L'=true)
  (hR0:R xs s0) (hS0:∀(F':Fz)(w1:Pt P)(a:Act)(w:World),St nt F' w1 [] c.Lin a w->St nt F' w1 [] (S s0) a w) (hps:∀x,(encs x).length=ps.toList.length) (hnd:ps.toList.Nodup) (hpt:∀p∈ps.toList,p<nt) (hne:∀x,D.cO (encs x)=true)
  (hKb:lD K kb=some (Kb.map fun x=>(x.1,D.sub (dG never c.ren) x.2))) (hKb2:(Kb.all fun x=>!(ps.toList.contains x.1)&&NU (c.Lin.map (·.1)) x.2)=true)
  (hno2:∀x s,jK (L2 x s)=true)
  (hend:∀s,R [] s->jump=none/\S s=c.fC)
  (hK':lD K k1=some K') (hK2:(K'.all fun x=>(dX c).all fun k=>!(D.names k x.2))=true)
  (hass:∀x r s,R (x::r) s->∀(F':Fz)(w1:Pt P),Wp P nt F' w1 (Kb++ps.toList.zip (encs x)) (S s) assign (yN nt F' w1 (K2 x s) (L2 x s)))
  (hbody:∀x r s,R (x::r) s->∀(F':Fz)(w1:Pt P),Wp P nt F' w1 (K2 x s) (L2 x s) body (oI F' w1 (R r) S jump c.fC))
  (hn:∀(F1:Fz)(w1:Pt P),After F0 w0 F1 w1.out->Behind nt F1 w1.out K' L' Q jump) :
  Wp P nt F0 w0 K L (.rangeFunc (.tmp t) ps assign body) Q:=by
 subst hA
 refine Wp.J8 (Kb:=Kb) (K':=K') c R S jump hro hg hlds hseq hok hLin hno hnoL hnoA s0 hR0 hS0 hps hnd hpt hne (fun x hx=>⟨mX hKb _ (List.mem_map.2 ⟨x,hx,rfl⟩),?_⟩) K2 L2 hno2 hass hbody hend (fun x hx=>⟨mX hK' x hx,fun k hk=>?_⟩) (fun F1 w1 hA=>?_)
 ·have h:=List.all_eq_true.1 hKb2 x hx
  simp only[Bool.and_eq_true,Bool.not_eq_true'] at h
  exact⟨fun hm=>(by rw[List.contains_iff_mem.2 hm] at h;cases h.1),h.2⟩
 ·have h:=List.all_eq_true.1 (List.all_eq_true.1 hK2 x hx) k (List.contains_iff_mem.1 hk)
  simpa using h
 ·have e:w1.out=w1:=by
   have h1:=hA.rnd
   cases w1
   simp only at h1
   subst h1
   rfl
  have h2:=hn F1 w1 (by rw[e];exact hA)
  rwa[e] at h2
end
end Go.Proofs.YtefojkdckfidcaaGreatDoor.RX
namespace Go.Proofs.YtefojkdckfidcaaGreatDoor.RX
open Go.RowKit
def zE:List D->Bool
 |[.aP _ _ _ _]=>false
 |[.fL _ _ _ _ _]=>false
 |[.tY _ _ _]=>false
 |_=>true
def vI(L:aA):Bool:=L.all fun x=>zE x.2.2
def OwnB(B:Env)(L:aA)(b:Nat):Prop:=∃k t ds,aN L k t ds/\bW B k=some b
section
variable {P:Program} {F0 F1:Fz} {w0 w1:Pt P} {B:Env} {F:Fz} {M:Mem} {w:World} {L:aA}
theorem jb.Ag{β:Type}{J:β->Fz->(Nat->Prop)->World->Prop}(h:jb P J)(b:β):jb P (fun(_:Unit)=>J b):=fun _=>h b
theorem ju.Ss{k t:Nat}{ds:List D}(h:ju F w B k t ds)(hb:zE ds=true){b:Nat}(hk:bW B k=some b):∀j,¬F b j:=by
 cases h with
 |box _ b' vs hB hr hfl hh hnf=>rw[fK hB] at hk;cases hk;exact hnf
 |row m d enc l p n cap hB h=>cases hb
 |map kk ag d enc l b' hB h=>cases hb
 |obj b' o' S hB hh=>cases hb
theorem Fp(h:vI L=true){k t:Nat}{ds:List D}(hm:aN L k t ds):zE ds=true:=List.all_eq_true.1 h _ hm
def Pt.mid(w0:Pt P)(W:World)(sh:Shp P W)(O:Nat->Prop)(hO:∀b,O b->P.low<=b):Pt P :=
 { w:=W,own:=O,env:=w0.env,low:=w0.low,sh:=sh,high:=hO,rnd:=w0.rnd,defs:=w0.defs }
theorem Base.kE(hb:Base F0 w0 B F (aN L) w):∀b,OwnB B L b->P.low<=b:=fun b ⟨k,t,ds,hm,hk⟩=>Pt.rW (hb.new k t ds b hm hk)
theorem Base.mid(hb:Base F0 w0 B F (aN L) w):Base F (w0.mid w hb.shp (OwnB B L) hb.kE) B F (aN L) w :=
 ⟨hb.boxes,fun k t ds b hm hk=>.inr ⟨k,t,ds,hm,hk⟩,hb.inj,hb.frz,fun _ _ h=>.inl h,Grow.refl _ _,dZ.refl _ _ _,hb.env⟩
def ug(D:Nat):Deferred:={ target:=.collected D,args:=#[] }
structure AtI(I:Fz->(Nat->Prop)->World->Prop)(X:Nat->Prop)(Fx:Fz)(W:World)(F0:Fz)(w0:Pt P):Prop where
 inv:I F0 (fun b=>w0.own b\/X b) w0.w
 lt:∀b,w0.own b\/X b->b<w0.w.heap.size
 dis:∀b,X b->¬w0.own b
 frz:∀g k,F0 g k->g<w0.w.heap.size/\¬(w0.own g\/X g)
 marks:∃ms:List Nat,w0.defs=ms.map ug/\ms.Nodup/\∀D∈ms,X D/\W.heap[D]? = some (.deferred (some []))
 high:∀b,X b->P.low<=b
 kept:∀b,X b->w0.w.heap[b]? = W.heap[b]?
 size:W.heap.size<=w0.w.heap.size
 ref:Grow Fx F0 W w0.w
variable {I:Fz->(Nat->Prop)->World->Prop} {X:Nat->Prop} {Fx:Fz} {W:World}
theorem AtI.mid(h:AtI I X Fx W F0 w0)(hs:jb P (fun(_:Unit)=>I))(hb:Base F0 w0 B F (aN L) w)(hbox:vI L=true):AtI I X Fx W F (w0.mid w hb.shp (OwnB B L) hb.kE):=by
 have hsz:=hb.below.size
 have hoff:∀g k,F g k->¬(OwnB B L g\/X g):=fun g k hF hu=>by
  rcases hu with⟨k',t,ds,hm,hk⟩|hu
  ·exact(hb.boxes _ _ _ hm).Ss (Fp hbox hm) hk _ hF
  ·rcases hb.more g k hF with h1|h1|h1
   ·exact(h.frz g k h1).2 (.inr hu)
   ·have:=h.lt g (.inr hu);omega
   ·exact h.dis g hu h1
 have hlt:∀b,OwnB B L b\/X b->b<w.heap.size:=fun b hu=>by
  rcases hu with⟨k',t,ds,hm,hk⟩|hu
  ·exact(hb.boxes _ _ _ hm).lt hk
  ·have:=h.lt b (.inr hu);omega
 have hkept:∀b,X b->w.heap[b]? = w0.w.heap[b]?:=fun b hx=>hb.below.block b (h.lt b (.inr hx)) (h.dis b hx)
 refine⟨hs () _ _ _ _ _ _ h.inv ⟨⟨hb.below.os,hb.below.tape,hb.below.output,hsz,fun k hk hu=>hb.below.block k hk fun ho=>hu (.inl ho)⟩,hb.grow,fun g k hF=>?_,hb.frz,hoff,fun b hu=>?_,hlt,hb.shp⟩,hlt,fun b hx ⟨k,t,ds,hm,hk⟩=>?_,fun g k hF=>⟨hb.frz g k hF,hoff g k hF⟩,h.marks,h.high,fun b hx=>(hkept b hx).trans (h.kept b hx),Nat.le_trans h.size hsz,h.ref.trans hb.grow⟩
 ·rcases hb.more g k hF with h1|h1|h1
  ·exact .inl h1
  ·exact .inr (.inl h1)
  ·exact .inr (.inr (.inl h1))
 ·rcases hu with⟨k',t,ds,hm,hk⟩|hu
  ·rcases hb.new _ _ _ b hm hk with h1|h1
   ·exact .inr h1
   ·exact .inl (.inl h1)
  ·exact .inl (.inr hu)
 ·rcases hb.new _ _ _ b hm hk with h1|h1
  ·have:=h.lt b (.inr hx);omega
  ·exact h.dis b hx h1
theorem AtI.given{I2:Fz->(Nat->Prop)->World->Prop}(h:AtI I X Fx W F w1){F2:Fz}{w2:World}(hg:Jt P F (fun b=>w1.own b\/X b) w1.w F2 w2)(h2:I2 F2 (fun b=>w1.own b\/X b) w2):AtI I2 X Fx W F2 (w1.mid w2 hg.adv.shp w1.own w1.high) :=
 ⟨h2,fun b hu=>Nat.lt_of_lt_of_le (h.lt b hu) hg.size,h.dis,fun g k hF=>⟨hg.adv.frz g k hF,hg.off g k hF⟩,h.marks,h.high,fun b hx=>(hg.kept b (.inr hx)).trans (h.kept b hx),Nat.le_trans h.size hg.size,h.ref.trans hg.adv.grow⟩
end
def Ni(C:Nat->List D->D->Prop)(CB:Nat->List D->aA->D->aA->Prop)(Γ:Nat->Option TI)(nt:Nat)(orc:List (Nat×D))(orb:List (Nat×CBd))(l:List Oper)(fz:List (Nat×List Nat))(i:Nat)(K:List (Nat×D))(L:aA)(kk kl:List Nat)(b:Bool):Option (Value×List D×List (Nat×D)×aA×List Prop) :=
 if l.all ndB then
  match l[i]?,mr C CB Γ nt orc orb l fz (l.take i) 0 (oC K L) with
  |some o,some s =>
   (match o.op,o.dst,jF l s.K o.guard with
   |.call c,some td,some g =>
    (match c.callee,getAll (getOp s.K g) c.args.toList with
    |.value x,some ds =>
     (match getOp s.K g x,mr C CB Γ nt orc orb l fz (l.drop (i+1)) (i+1) { K:=iQ ⟨td,i+1,g,.val (.bool b)⟩ s.K,L:=s.L,tab:=fE i (.val (.bool b)) s.tab,obl:=s.obl } with
     |some (.val v),some s3=>if td<nt/\D.cO ds=true/\holds s.tab g=true/\vI s.L=true then(match qy s3.K kk,i6 s3.L kl with|some K',some L'=>some (v,ds,K',L',s3.obl)|_,_=>none) else none
     |_,_=>none)
    |_,_=>none)
   |_,_,_=>none)
  |_,_=>none
 else none
section
variable {P:Program} {Γ:Nat->Option TI} {nt:Nat} {F0:Fz} {w0:Pt P} {K:List (Nat×D)} {L:aA} {Q:Exit->Act->World->Prop}
theorem DG{C:Nat->List D->D->Prop}{CB:Nat->List D->aA->D->aA->Prop}{orc:List (Nat×D)}{orb:List (Nat×CBd)}{l:List Oper}{fz:List (Nat×List Nat)}{i:Nat}{kk kl:List Nat}{b:Bool}{v:Value}{r:List D×List (Nat×D)×aA×List Prop}
  (h:Ni C CB Γ nt orc orb l fz i K L kk kl b=some (v,r)):l.all ndB=true/\∃o s c td g x s3,l[i]? = some o/\mr C CB Γ nt orc orb l fz (l.take i) 0 (oC K L)=some s/\o.op=.call c/\o.dst=some td/\jF l s.K o.guard=some g/\c.callee=.value x/\getAll (getOp s.K g) c.args.toList=some r.1 /\
   getOp s.K g x=some (.val v)/\mr C CB Γ nt orc orb l fz (l.drop (i+1)) (i+1) { K:=iQ ⟨td,i+1,g,.val (.bool b)⟩ s.K,L:=s.L,tab:=fE i (.val (.bool b)) s.tab,obl:=s.obl }=some s3/\td<nt/\D.cO r.1=true/\qy s3.K kk=some r.2.1/\i6 s3.L kl=some r.2.2.1/\holds s.tab g=true/\vI s.L=true/\r.2.2.2=s3.obl:=by
 unfold Ni at h
 split at h
 rotate_left
 ·cases h
 rename_i hnd
 split at h
 rotate_left
 ·cases h
 rename_i o s ho hs
 split at h
 rotate_left
 ·cases h
 rename_i c td g h1 h2 h3
 split at h
 rotate_left
 ·cases h
 rename_i x ds h4 h5
 split at h
 rotate_left
 ·cases h
 rename_i v' s3 h6 h7
 split at h
 rotate_left
 ·cases h
 rename_i hc
 split at h
 rotate_left
 ·cases h
 rename_i K' L' hk hl
 obtain⟨hc1,hc2,hc3,hc4⟩:=hc
 cases h
 exact⟨hnd,o,s,c,td,g,x,s3,ho,hs,h1,h2,h3,h4,h5,h6,h7,hc1,hc2,hk,hl,hc3,hc4,rfl⟩
theorem Wp.Bq(hΓ:ΓOK P Γ){id:Nat}{l:List Oper}(i l0:Nat)(fz:List (Nat×List Nat))(orc:List (Nat×D))(orb:List (Nat×CBd))(kk kl:List Nat){α:Type}{encs:α->List D}{J:List α->Fz->(Nat->Prop)->World->Prop}{Jx:Fz->(Nat->Prop)->World->Prop}(hs:jb P J)(hY:sD P l0 encs J Jx)(x:α)(r:List α){X:Nat->Prop}{Fx:Fz}{W:World}
  (hat:AtI (J (x::r)) X Fx W F0 w0) (K2:Bool->List (Nat×D)) (L2:Bool->aA) (ob:Bool->List Prop)
  (h:∀b,Ni (CX P) (aZ P) Γ nt orc orb l fz i K L kk kl b=some (.func (.yield l0) #[] #[],encs x,K2 b,L2 b,ob b)) (hob:∀b,au (ob b))
  (hn:∀(b:Bool)(F1:Fz)(w1:Pt P),w1.rnd=w0.rnd->w1.env=w0.env->(if b=true then AtI (J r) X Fx W F1 w1 else AtI Jx X Fx W F1 w1)->To nt F1 w1 (K2 b) (L2 b) .normal Q) :
  Wp P nt F0 w0 K L (.region id l.toArray false) Q:=by
 rintro a w ⟨B,F,hb,hd,hsz,hK⟩
 obtain⟨hnd,o,s,c,td,g,xv,s3,ho,hs',hop,hdst,hg,hcal,hds,hx,hs3,htd,hno,hkk,hkl,hgt,hbl,hobl⟩:=DG (h true)
 obtain⟨_,o',s',c',td',g',x',s4,ho',hs'',hop',hdst',hg',_,_,_,hs4,_,_,hkk4,hkl4,_,_,hobl4⟩:=DG (h false)
 rw[ho] at ho';cases ho'
 rw[hs'] at hs'';cases hs''
 rw[hdst] at hdst';cases hdst'
 rw[hg] at hg';cases hg'
 simp only at hds hno hkk hkk4 hkl hkl4 hobl hobl4
 refine XC.nrm (wpIn_region_lit ?_)
 have hil:i<l.length:=(List.getElem?_eq_some_iff.1 ho).1
 have hsplit:l=l.take i++(o::l.drop (i+1)):=by
  have h1:l.drop i=o::l.drop (i+1):=by
   rw[List.drop_eq_getElem_cons hil]
   congr 1
   rw[List.getElem?_eq_getElem hil] at ho
   exact Option.some.inj ho
  rw[<-h1,List.take_append_drop]
 have hndl:=QG hnd
 have hobs:∀p∈s.obl,p:=fun p hp=>au.mem (hob true) p (by rw[hobl];exact uA _ _ hs3 p hp)
 have key:wpListIn (Fr w0.rnd) 0 P l.toArray (nrm Q) (l.take i++(o::l.drop (i+1))) a w:=by
  refine uF (fun o ho=>hndl o (List.mem_of_mem_take ho)) ?_
  have h0:=sL (Q:=Jm w0.rnd P l.toArray (nrm Q) (o::l.drop (i+1))) hΓ [] (l.take i) 0 (fun j hj=>?_) hs' hobs (uz hb hd hsz hK) fun B' F' a' w' hi=>wpList_nil ?_
  ·rwa[List.append_nil] at h0
  ·have hj':j<i:=by rw[List.length_take] at hj;omega
   rw[Nat.zero_add,List.getElem?_take,if_pos hj']
  ·have hlt:0+(l.take i).length=i:=by rw[List.length_take];omega
   rw[hlt] at hi
   show wpListIn (Fr w0.rnd) 0 P l.toArray (nrm Q) (o::l.drop (i+1)) a' w'
   unfold wpListIn
   obtain⟨hw,hgS⟩:=FN hi hg (o:=o) rfl
   have hod:((l[i]?).bind (·.dst))=some td:=by rw[ho];exact hdst
   have htab:∀(b:Bool)(j:Nat),j≠i->tv (fE i (.val (.bool b)) s.tab) j=tv s.tab j:=fun b j hj=>yA hj
   have hself:∀(b b':Bool),D.val (.bool b)=.val (.bool b')->tv (fE i (.val (.bool b)) s.tab) i=b':=fun b b' e=>by cases e;simp[fE,tv]
   rw[if_pos (hw.trans hgt)]
   have hatm:=hat.mid (hs.Ag (x::r)) hi.base hbl
   have hget:=cu (g:=g) hi.ents hgt
   have hargs:=fO.all hget _ _ hds
   obtain⟨fnr,tmps,assign,body,hrun,hround⟩:=hY w0.rnd x r F' _ w' _ hatm.inv hatm.frz hatm.lt hi.base.shp (hargs.bare hno)
   have hv0:a'.eval xv=.func (.yield l0) #[] #[]:=by
    have:=hget xv _ hx
    generalize a'.eval xv=v at this ⊢
    cases this;rfl
   have e1:(o.semAt (Fr w0.rnd).round a'.eval).run P w'=.ok (.round l0 fnr tmps assign body) w':=by
    rw[Oper.semAt_eq _ _ _ (fun c' hc'=>by rw[hop] at hc';cases hc')]
    have hag:(c.args.map a'.eval)=(c.args.toList.map a'.eval).toArray:=by rw[<-Array.toList_map,Array.toArray_toList]
    unfold execOp
    simp only[hop,resolve,hcal,Deferred.ofValue,hv0,Sem.run_bind,Sem.run_pure,Result.andThen_ok,invoke]
    rw[hag,Array.empty_append]
    exact hrun
   unfold Oper.wpIn
   refine⟨fun _ _=>trivial,?_⟩
   rw[e1]
   refine⟨fun h=>(by cases h),RoundIn.mono hround fun e w2 he=>?_⟩
   obtain⟨F2,hgiv,he⟩:=he
   obtain⟨b,rfl,hat2⟩:∃b:Bool,e=.returned (.bool b)/\(if b=true then AtI (J r) X Fx W F2 ((w0.mid w' hi.base.shp (OwnB B' s.L) hi.base.kE).mid w2 hgiv.adv.shp (OwnB B' s.L) hi.base.kE) else AtI Jx X Fx W F2 ((w0.mid w' hi.base.shp (OwnB B' s.L) hi.base.kE).mid w2 hgiv.adv.shp (OwnB B' s.L) hi.base.kE)):=by
    rcases he with⟨h1,h2⟩|⟨h1,h2⟩
    ·exact⟨true,h1,by rw[if_pos rfl];exact hatm.given hgiv h2⟩
    ·exact⟨false,h1,by rw[if_neg (by decide)];exact hatm.given hgiv h2⟩
   show wpListIn (Fr w0.rnd) 0 P l.toArray (nrm Q) (l.drop (i+1)) (a'.put o.dst (.bool b)) w2
   rw[hdst]
   have hbase:Base F2 ((w0.mid w' hi.base.shp (OwnB B' s.L) hi.base.kE).mid w2 hgiv.adv.shp (OwnB B' s.L) hi.base.kE) B' F2 (aN s.L) w2:=by
    refine⟨fun k t ds hm=>?_,fun k t ds b hm hk=>.inr ⟨k,t,ds,hm,hk⟩,hi.base.inj,hgiv.adv.frz,fun _ _ h=>.inl h,Grow.refl _ _,dZ.refl _ _ _,hi.base.env⟩
    refine(hi.base.boxes _ _ _ hm).grow hgiv.adv.grow rfl (fun _ _ _ h=>h) fun b hbk=>⟨hgiv.kept b (.inl ⟨k,t,ds,hm,hbk⟩),fun j hj=>absurd (.inl ⟨k,t,ds,hm,hbk⟩) (hgiv.off b j hj)⟩
   have hi2:gJ nt l F2 ((w0.mid w' hi.base.shp (OwnB B' s.L) hi.base.kE).mid w2 hgiv.adv.shp (OwnB B' s.L) hi.base.kE) B' F2 s (fun j=>j<i) a' w2 :=
    ⟨hbase,hi.defers,hi.size,fun e he=>let ⟨q1,q2⟩:=hi.ents e he;⟨fun hh=>let ⟨v,r1,r2⟩:=q1 hh;⟨v,r1,r2.grow hgiv.adv.grow⟩,q2⟩,hi.keys,hi.srcs,hi.mY⟩
   have hi3:=il (i:=i) (S':=fun j=>j<i+1) hi2 (by simp) (fun j hj=>Nat.lt_succ_of_lt hj) (Nat.lt_succ_self i) (fun e he=>⟨he,hi2.ents e he⟩) hbase (t:=td) (g:=g) (d:=.val (.bool b)) (v:=.bool b) (tab':=fE i (.val (.bool b)) s.tab) (ob:=s.obl) htd hgS (htab b) (hself b) hod ⟨fun _=>.val _ rfl,fun hh=>by rw[show holds s.tab g=true from hgt] at hh;cases hh⟩
   cases b with
   |true=>exact vp yK (fun o ho=>hndl o (List.mem_of_mem_drop ho)) (qI hΓ (l.drop (i+1)) (i+1) (fun j=>by rw[List.getElem?_drop]) hs3 (by rw[<-hobl];exact au.mem (hob true)) hi3 fun B'' F'' a'' w'' hi4=>hn true F2 ((w0.mid w' hi.base.shp (OwnB B' s.L) hi.base.kE).mid w2 hgiv.adv.shp (OwnB B' s.L) hi.base.kE) rfl rfl hat2 a'' w'' (sF hi4 hkk hkl))
   |false=>exact vp yK (fun o ho=>hndl o (List.mem_of_mem_drop ho)) (qI hΓ (l.drop (i+1)) (i+1) (fun j=>by rw[List.getElem?_drop]) hs4 (by rw[<-hobl4];exact au.mem (hob false)) hi3 fun B'' F'' a'' w'' hi4=>hn false F2 ((w0.mid w' hi.base.shp (OwnB B' s.L) hi.base.kE).mid w2 hgiv.adv.shp (OwnB B' s.L) hi.base.kE) rfl rfl hat2 a'' w'' (sF hi4 hkk4 hkl4))
 rw[<-hsplit] at key
 exact key
theorem To.oU{F1:Fz}{w1:Pt P}{ro:Option Nat}{y:Code}(hr:w1.rnd=ro)(h:Wp P nt F1 w1 K L y Q):To nt F1 w1 K L .normal (Exit.then (fun a w=>XC ro P y Q a w) Q):=by
 subst hr;exact h
theorem To.Qs{F1:Fz}{w1:Pt P}{ro:Option Nat}{c:Code}(hr:w1.rnd=ro)(h:WL P nt F1 w1 K L c Q):To nt F1 w1 K L .normal (Exit.then (fun a w=>Lp ro P c Q a w) Q):=by
 subst hr;exact h
end
end Go.Proofs.YtefojkdckfidcaaGreatDoor.RX
