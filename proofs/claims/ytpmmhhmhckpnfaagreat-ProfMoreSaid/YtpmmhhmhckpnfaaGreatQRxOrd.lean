import Derived.Test.YtpmmhhmhckpnfaaGreatQRxAnyB
import Derived.ChangeKeysEq
import Derived.Sort.OwnSorted
import Derived.Shelf.Vars
import Derived.Shelf.Slices.CompactS
import Derived.Shelf.Spec.SlicesGrow
import Derived.Sort.KeysCollected
import Derived.CallsIn
import Derived.Recover
import Derived.RangeFuncSeq
import Derived.WalkSmall
import Derived.Lib.Bytealg
import Derived.Lib.IndexMore
import Derived.Lib.SplitLaws
import Derived.Lib.Join
import Derived.Lib.Repeat
import Derived.Lib.Replace
import Derived.Lib.TrimByte
import Derived.Lib.RowBridge
import Derived.Shelf.Small.Bits
import Derived.Shelf.Strconv.Itoa0
import Derived.Shelf.Sort.Plain
import Derived.Shelf.Slices.Turned
import Derived.Ground.Names2Prog
import Derived.Shelf.Slices.Clone
import Derived.Shelf.Slices.Cells
import Derived.Shelf.Slices.In.SortNone
import Derived.Ground.SlgnProg
import Derived.Shelf.SlicesE.Clone
import Derived.Test.YtpmmhhmhckpnfaaGreatProg
set_option linter.all false
namespace Go.Proofs.YtpmmhhmhckpnfaaGreat.RX
open Go.RowKit
def rdy(ops:List Oper)(m i:Nat):Bool:=!(m.testBit i)&&(match ops[i]? with|some o=>(onL o).all fun j=>m.testBit j|none=>false)
def Qc(o:Oper):Bool:=match o.op,o.guard,o.dst with|.move _,none,some _=>true|_,_,_=>false
def SA(ops:List Oper)(m i:Nat):Bool :=
 match ops[i]? with
 |some oi=>(List.range ops.length).all fun j=>j==i||m.testBit j||match ops[j]? with|some oj=>(onL oj).contains i||oi.apart ops.toArray oj|none=>true
 |none=>false
def ye(ops:List Oper)(m:Nat):Option Nat:=(List.range ops.length).find? fun i=>(match ops[i]? with|some o=>Qc o|none=>false)&&(rdy ops m i&&SA ops m i)
def sC(slots keys:List Nat)(n:Nat)(s:ES):ES :=
 { K:=slots.filterMap (mr s.K),L:=keys.filterMap fun k=>(s.L.lookup k).map fun x=>(k,x),tab:=(List.range n).filterMap fun j=>(s.tab.lookup j).map fun b=>(j,b),obl:=[] }
structure OA where
 lv:List (Nat×ES)
 ps:List (ES×ES)
 ob:List (Nat×List Prop)
 os:List (List Prop×List Prop)
def zO(m:Nat)(s:ES)(A:OA):OA:=match A.lv.lookup m with|some s'=>{ A with ps:=(s,s')::A.ps }|none=>{ A with lv:=A.lv++[(m,s)] }
def Iq(i:Nat)(o:List Prop)(A:OA):OA:=match A.ob.lookup i with|some o'=>{ A with os:=(o,o')::A.os }|none=>{ A with ob:=A.ob++[(i,o)] }
section
variable (C:Nat->List D->D->Prop) (CB:Nat->List D->aG->D->aG->Prop) (Γ:Nat->Option TI) (nt:Nat) (orc:List (Nat×D)) (orb:List (Nat×CBd)) (ops:List Oper) (fz:List (Nat×List Nat)) (slots keys:List Nat)
def Oq(i:Nat)(s:ES):Option ES:=match ops[i]? with|some o=>u5 C CB Γ nt orc orb ops i o (ni fz i { s with obl:=[] })|none=>none
def uh(m:Nat)(s:ES):List Nat->OA->Option OA
 |[],A=>some A
 |i::is,A =>
  match rdy ops m i with
  |true=>match Oq C CB Γ nt orc orb ops fz i s with|some s'=>uh m s is (Iq i s'.obl (zO (m ||| 1 <<< i) (sC slots keys ops.length s') A))|none=>none
  |false=>uh m s is A
def expand:List (Nat×ES)->OA->Option OA
 |[],A=>some A
 |x::rest,A=>match uh C CB Γ nt orc orb ops fz slots keys x.1 x.2 (match ye ops x.1 with|some i=>[i]|none=>List.range ops.length) A with|some A'=>expand rest A'|none=>none
def levels:Nat->OA->Option OA
 |0,A=>some A
 |r+1,A=>match expand C CB Γ nt orc orb ops fz slots keys A.lv { A with lv:=[] } with|some A'=>levels r A'|none=>none
def Ns(K:List (Nat×D))(L:aG):OA:={ lv:=[(0,sC slots keys ops.length (rM K L))],ps:=[],ob:=[],os:=[] }
def SB(n:Nat)(ob:List (Nat×List Prop)):List Prop:=(List.range n).flatMap fun i=>(ob.lookup i).getD []
def ndB(o:Oper):Bool:=match o.op with|.defer _=>false|_=>true
def Fq(K:List (Nat×D))(L:aG):Option OA :=
 if yj ops&&Region.noSelect ops.toArray&&ops.all ndB then levels C CB Γ nt orc orb ops fz slots keys ops.length (Ns ops slots keys K L) else none
def PP(kk kl:List Nat):Option OA->Option (List (Nat×D)×aG×List Prop)
 |some A=>match A.lv with|[(_,s)]=>(match vH s.K kk,jX s.L kl with|some K',some L'=>some (K',L',SB ops.length A.ob)|_,_=>none)|_=>none
 |none=>none
end
def Ut:Option OA->List ES×List (List Prop)
 |some A=>(A.ps.map (·.1),A.os.map (·.1))
 |none=>([],[])
def UG:Option OA->List ES×List (List Prop)
 |some A=>(A.ps.map (·.2),A.os.map (·.2))
 |none=>([],[])
theorem GG{α:Type 1}:∀{l:List (α×α)},l.map (·.1)=l.map (·.2)->∀p∈l,p.1=p.2
 |[],_,p,hp=>by simp at hp
 |q::l,h,p,hp=>by
  simp only[List.map_cons,List.cons.injEq] at h
  rcases List.mem_cons.1 hp with rfl|hp
  ·exact h.1
  ·exact GG h.2 p hp
theorem Dz{α:Type}:∀{l:List (α×α)},l.map (·.1)=l.map (·.2)->∀p∈l,p.1=p.2
 |[],_,p,hp=>by simp at hp
 |q::l,h,p,hp=>by
  simp only[List.map_cons,List.cons.injEq] at h
  rcases List.mem_cons.1 hp with rfl|hp
  ·exact h.1
  ·exact Dz h.2 p hp
theorem E9{β:Type 1}:∀{l:List (Nat×β)}{m:Nat}{s:β}{r:List (Nat×β)},l.lookup m=some s->(l++r).lookup m=some s
 |[],m,s,r,h=>by simp at h
 |(k,x)::l,m,s,r,h=>by
  rw[List.cons_append,List.lookup_cons]
  rw[List.lookup_cons] at h
  split
  ·rename_i he;rw[he] at h;exact h
  ·rename_i he;rw[he] at h;exact E9 h
theorem DC{β:Type 1}:∀{l:List (Nat×β)}{m:Nat}{s:β},l.lookup m=none->(l++[(m,s)]).lookup m=some s
 |[],m,s,_=>by simp
 |(k,x)::l,m,s,h=>by
  rw[List.cons_append,List.lookup_cons]
  rw[List.lookup_cons] at h
  split
  ·rename_i he;rw[he] at h;cases h
  ·rename_i he;rw[he] at h;exact DC h
theorem DF{β:Type}:∀{l:List (Nat×β)}{m:Nat}{s:β}{r:List (Nat×β)},l.lookup m=some s->(l++r).lookup m=some s
 |[],m,s,r,h=>by simp at h
 |(k,x)::l,m,s,r,h=>by
  rw[List.cons_append,List.lookup_cons]
  rw[List.lookup_cons] at h
  split
  ·rename_i he;rw[he] at h;exact h
  ·rename_i he;rw[he] at h;exact DF h
theorem zI{β:Type}:∀{l:List (Nat×β)}{m:Nat}{s:β},l.lookup m=none->(l++[(m,s)]).lookup m=some s
 |[],m,s,_=>by simp
 |(k,x)::l,m,s,h=>by
  rw[List.cons_append,List.lookup_cons]
  rw[List.lookup_cons] at h
  split
  ·rename_i he;rw[he] at h;cases h
  ·rename_i he;rw[he] at h;exact zI h
structure sQ(A A':OA):Prop where
 lv:∀m s,A.lv.lookup m=some s->A'.lv.lookup m=some s
 ob:∀i o,A.ob.lookup i=some o->A'.ob.lookup i=some o
 ps:∀p∈A.ps,p∈A'.ps
 os:∀p∈A.os,p∈A'.os
theorem sQ.refl(A:OA):sQ A A:=⟨fun _ _ h=>h,fun _ _ h=>h,fun _ h=>h,fun _ h=>h⟩
theorem sQ.trans{A B C:OA}(h:sQ A B)(h':sQ B C):sQ A C:=⟨fun m s x=>h'.lv m s (h.lv m s x),fun i o x=>h'.ob i o (h.ob i o x),fun p x=>h'.ps p (h.ps p x),fun p x=>h'.os p (h.os p x)⟩
theorem P7(m:Nat)(s:ES)(A:OA):sQ A (zO m s A):=by
 unfold zO
 split
 ·exact⟨fun _ _ h=>h,fun _ _ h=>h,fun _ h=>List.mem_cons_of_mem _ h,fun _ h=>h⟩
 ·exact⟨fun _ _ h=>E9 h,fun _ _ h=>h,fun _ h=>h,fun _ h=>h⟩
theorem PU(i:Nat)(o:List Prop)(A:OA):sQ A (Iq i o A):=by
 unfold Iq
 split
 ·exact⟨fun _ _ h=>h,fun _ _ h=>h,fun _ h=>h,fun _ h=>List.mem_cons_of_mem _ h⟩
 ·exact⟨fun _ _ h=>h,fun _ _ h=>DF h,fun _ h=>h,fun _ h=>h⟩
theorem Rm(m:Nat)(s:ES)(A:OA){A':OA}(h:sQ (zO m s A) A')(hp:∀p∈A'.ps,p.1=p.2):A'.lv.lookup m=some s:=by
 unfold zO at h
 split at h
 ·rename_i s' hs
  have:=hp _ (h.ps _ List.mem_cons_self)
  simp only at this
  rw[this];exact h.lv m s' hs
 ·rename_i hs
  exact h.lv m s (DC hs)
theorem QS(i:Nat)(o:List Prop)(A:OA){A':OA}(h:sQ (Iq i o A) A')(hp:∀p∈A'.os,p.1=p.2):A'.ob.lookup i=some o:=by
 unfold Iq at h
 split at h
 ·rename_i o' ho
  have:=hp _ (h.os _ List.mem_cons_self)
  simp only at this
  rw[this];exact h.ob i o' ho
 ·rename_i ho
  exact h.ob i o (zI ho)
section
variable {C:Nat->List D->D->Prop} {CB:Nat->List D->aG->D->aG->Prop} {P:Program} {F0:Fz} {w0:Pt P} {B:Env} {F:Fz} {w:World} {a:Act} {Q:Exit->Act->World->Prop} {Γ:Nat->Option TI} {nt:Nat} {ops:List Oper} {orc:List (Nat×D)} {orb:List (Nat×CBd)} {fz:List (Nat×List Nat)} {slots keys:List Nat}
def Next(C:Nat->List D->D->Prop)(CB:Nat->List D->aG->D->aG->Prop)(Γ:Nat->Option TI)(nt:Nat)(orc:List (Nat×D))(orb:List (Nat×CBd))(ops:List Oper)(fz:List (Nat×List Nat))(slots keys:List Nat)(m:Nat)(s:ES)(i:Nat)(lv:List (Nat×ES))(ob:List (Nat×List Prop)):Prop :=
 ∃s',Oq C CB Γ nt orc orb ops fz i s=some s'/\lv.lookup (m ||| 1 <<< i)=some (sC slots keys ops.length s')/\ob.lookup i=some s'.obl
theorem yL{m:Nat}{s:ES}:∀{is:List Nat}{A A':OA},uh C CB Γ nt orc orb ops fz slots keys m s is A=some A' ->
  sQ A A'/\∀A'',sQ A' A''->(∀p∈A''.ps,p.1=p.2)->(∀p∈A''.os,p.1=p.2)->∀i∈is,rdy ops m i=true->Next C CB Γ nt orc orb ops fz slots keys m s i A''.lv A''.ob
 |[],A,A',h=>by cases h;exact⟨.refl _,fun _ _ _ _ i hi=>by simp at hi⟩
 |i::is,A,A',h=>by
  unfold uh at h
  split at h
  ·rename_i hr
   split at h
   ·rename_i s' hs
    obtain⟨h1,h2⟩:=yL h
    have hm1:=P7 (m ||| 1 <<< i) (sC slots keys ops.length s') A
    have hm2:=PU i s'.obl (zO (m ||| 1 <<< i) (sC slots keys ops.length s') A)
    refine⟨hm1.trans (hm2.trans h1),fun A'' hA hp ho j hj hrj=>?_⟩
    rcases List.mem_cons.1 hj with rfl|hj
    ·exact⟨s',hs,Rm _ _ A (hm2.trans (h1.trans hA)) hp,QS _ _ _ (h1.trans hA) ho⟩
    ·exact h2 A'' hA hp ho j hj hrj
   ·cases h
  ·rename_i hr
   obtain⟨h1,h2⟩:=yL h
   refine⟨h1,fun A'' hA hp ho j hj hrj=>?_⟩
   rcases List.mem_cons.1 hj with rfl|hj
   ·rw[hr] at hrj;cases hrj
   ·exact h2 A'' hA hp ho j hj hrj
theorem AL:∀{lv:List (Nat×ES)}{A A':OA},expand C CB Γ nt orc orb ops fz slots keys lv A=some A' ->
  sQ A A'/\∀A'',sQ A' A''->(∀p∈A''.ps,p.1=p.2)->(∀p∈A''.os,p.1=p.2)->∀x∈lv,∀i,i<ops.length->rdy ops x.1 i=true->(ye ops x.1=none\/ye ops x.1=some i)->Next C CB Γ nt orc orb ops fz slots keys x.1 x.2 i A''.lv A''.ob
 |[],A,A',h=>by cases h;exact⟨.refl _,fun _ _ _ _ x hx=>by simp at hx⟩
 |x::lv,A,A',h=>by
  unfold expand at h
  split at h
  ·rename_i A1 hA1
   obtain⟨h1,h2⟩:=yL hA1
   obtain⟨h3,h4⟩:=AL h
   refine⟨h1.trans h3,fun A'' hA hp ho y hy i hi hr ht=>?_⟩
   rcases List.mem_cons.1 hy with rfl|hy
   ·refine h2 A'' (h3.trans hA) hp ho i ?_ hr
    rcases ht with ht|ht
    ·rw[ht];exact List.mem_range.2 hi
    ·rw[ht];exact List.mem_singleton.2 rfl
   ·exact h4 A'' hA hp ho y hy i hi hr ht
  ·cases h
structure UL(A A':OA):Prop where
 ob:∀i o,A.ob.lookup i=some o->A'.ob.lookup i=some o
 ps:∀p∈A.ps,p∈A'.ps
 os:∀p∈A.os,p∈A'.os
theorem Dm:∀{r:Nat}{A A':OA},levels C CB Γ nt orc orb ops fz slots keys r A=some A'->UL A A'
 |0,A,A',h=>by cases h;exact⟨fun _ _ h=>h,fun _ h=>h,fun _ h=>h⟩
 |r+1,A,A',h=>by
  unfold levels at h
  split at h
  ·rename_i A1 hA1
   have h1:=(AL hA1).1
   have h2:=Dm h
   exact⟨fun i o x=>h2.ob i o (h1.ob i o x),fun p x=>h2.ps p (h1.ps p x),fun p x=>h2.os p (h1.os p x)⟩
  ·cases h
theorem zu(f:Nat->Option Bool)(j:Nat):∀l:List Nat,(l.filterMap fun j=>(f j).map fun b=>(j,b)).lookup j=if j∈l then f j else none
 |[]=>by simp
 |k::l=>by
  rw[List.filterMap_cons]
  cases hf:f k with
  |none =>
   simp only[Option.map_none]
   rw[zu f j l]
   by_cases hjk:j=k
   ·subst hjk
    rw[hf];simp
   ·simp[hjk]
  |some b =>
   simp only[Option.map_some,List.lookup_cons]
   by_cases hjk:j=k
   ·subst hjk;simp[hf]
   ·have:(j==k)=false:=by simpa using hjk
    rw[this]
    simp only
    rw[zu f j l]
    simp[hjk]
theorem ND{tab:List (Nat×Bool)}{n j:Nat}(h:j<n):tv ((List.range n).filterMap fun j=>(tab.lookup j).map fun b=>(j,b)) j=tv tab j:=by
 unfold tv
 rw[zu (fun j=>tab.lookup j),if_pos (List.mem_range.2 h)]
theorem JW{s:ES}{S:Nat->Prop}(hi:iD nt ops F0 w0 B F s S a w){n:Nat}(hn:∀j,S j->j<n):iD nt ops F0 w0 B F (sC slots keys n s) S a w:=by
 have hmem:∀e∈(sC slots keys n s).K,e∈s.K:=by
  intro e he
  obtain⟨t,_,h⟩:=List.mem_filterMap.1 he
  exact(nF h).1
 refine⟨hi.base.sub fun k t ds h=>?_,hi.defers,hi.size,fun e he=>(hi.ents e (hmem e he)).tab fun x hx=>ND (hn _ (hi.keys e (hmem e he) x hx)),fun e he=>hi.keys e (hmem e he),fun e he=>hi.srcs e (hmem e he),fun e he j hj=>?_⟩
 ·obtain⟨k',_,hk⟩:=List.mem_filterMap.1 h
  cases hl:s.L.lookup k' with
  |none=>rw[hl] at hk;cases hk
  |some x =>
   rw[hl] at hk
   cases hk
   exact aF hl
 ·obtain⟨h1,h2⟩:=hi.pq e (hmem e he) j hj
  refine⟨h1,fun b hb=>?_⟩
  have hsj:S j:=by
   have:=hi.srcs e (hmem e he)
   rw[hj] at this
   simpa using this
  rw[<-h2 b hb]
  exact ND (hn j hsj)
theorem Ti{s:ES}{S:Nat->Prop}(hi:iD nt ops F0 w0 B F s S a w)(o:List Prop):iD nt ops F0 w0 B F { s with obl:=o } S a w:=⟨hi.base,hi.defers,hi.size,hi.ents,hi.keys,hi.srcs,hi.pq⟩
theorem DD:∀{l:List Nat}{i:Nat}{p p':Nat->Bool},l.Nodup->i∈l->p i=true->p' i=false->(∀j,j≠i->p' j=p j)->(l.filter p').length+1=(l.filter p).length
 |[],i,p,p',_,h,_,_,_=>by simp at h
 |x::l,i,p,p',hn,h,h1,h2,h3=>by
  have hn':=List.nodup_cons.1 hn
  by_cases hx:x=i
  ·subst hx
   have he:l.filter p'=l.filter p:=List.filter_congr fun j hj=>h3 j fun e=>hn'.1 (e▸hj)
   rw[List.filter_cons,List.filter_cons,h1,h2,he]
   simp
  ·have ih:=DD hn'.2 ((List.mem_cons.1 h).resolve_left fun e=>hx e.symm) h1 h2 h3
   rw[List.filter_cons,List.filter_cons,h3 x hx]
   split
   ·rw[List.length_cons,List.length_cons];omega
   ·exact ih
theorem left_eq{n i:Nat}{listed:Array Bool}(hi:i<n)(hsz:listed.size=n)(h:listed.getD i false=false):left n (listed.setIfInBounds i true)+1=left n listed:=by
 unfold left
 refine DD List.nodup_range (List.mem_range.2 hi) (by rw[h];rfl) ?_ fun j hj=>?_
 ·simp[Array.getD_eq_getD_getElem?,hsz,hi]
 ·rw[getD_set_ne false (fun e=>hj e.symm)]
theorem NS:∀{l:List (Nat×ES)}{m:Nat}{s:ES},l.lookup m=some s->(m,s)∈l:=fun h=>aF h
theorem Qa(hΓ:ΓOK P Γ)(he:yj ops=true)(hsel:Region.noSelect ops.toArray=true)(hQp:∀c a w,¬Q (.panic c) a w){Af:OA}(hps:∀p∈Af.ps,p.1=p.2)(hos:∀p∈Af.os,p.1=p.2)(hob:∀i o,Af.ob.lookup i=some o->∀p∈o,p)
  {mf:Nat} {sf:ES} (hf:Af.lv=[(mf,sf)]) (hQ:∀B F a w (S:Nat->Prop),iD nt ops F0 w0 B F sf S a w->Q .normal a w) :
  ∀(r fuel:Nat)(A:OA)(m:Nat)(s:ES)(listed:Array Bool)(B:Env)(F:Fz)(a:Act)(w:World),levels (CX P) (dh P) Γ nt orc orb ops fz slots keys r A=some Af->(m,s)∈A.lv->listed.size=ops.length ->
   (∀j,j<ops.length->listed.getD j false=m.testBit j)->(∀j,m.testBit j=true->j<ops.length)->left ops.length listed=r->r<=fuel->iD nt ops F0 w0 B F s (fun j=>m.testBit j=true) a w->wpAny P .any ops.toArray Q fuel listed a w:=by
 have hnone:∀(listed:Array Bool),listed.size=ops.length->left ops.length listed=0->∀j,j<ops.length->listed.getD j false=true:=by
  intro listed hsz hl j hj
  cases hc:listed.getD j false with
  |true=>rfl
  |false =>
   have:j∈(List.range ops.length).filter fun j=>!(listed.getD j false):=List.mem_filter.2 ⟨List.mem_range.2 hj,by rw[hc];rfl⟩
   unfold left at hl
   rw[List.length_eq_zero_iff.1 hl] at this
   simp at this
 have hready0:∀(listed:Array Bool),listed.size=ops.length->(∀j,j<ops.length->listed.getD j false=true)->Region.ready .any ops.toArray listed=[]:=by
  intro listed hsz hall
  apply List.eq_nil_iff_forall_not_mem.2
  intro j hj
  obtain⟨h1,o,h2,_⟩:=mem_ready.1 hj
  rw[List.getElem?_toArray] at h2
  have hlt:=(List.getElem?_eq_some_iff.1 h2).1
  have h3:=hall j hlt
  have hj':j<listed.size:=by omega
  simp only[Array.getD_eq_getD_getElem?,Array.getElem?_eq_getElem hj',Option.getD_some] at h1 h3
  rw[h3] at h1;cases h1
 intro r
 induction r with
 |zero =>
  intro fuel A m s listed B F a w hl hm hsz hbit hlt hleft hfuel hi
  cases hl
  rw[hf] at hm
  cases List.mem_singleton.1 hm
  have hr:=hready0 listed hsz (hnone listed hsz hleft)
  have hq:=hQ B F a w _ hi
  cases fuel with
  |zero=>exact⟨hr,hq⟩
  |succ fuel=>exact⟨fun _=>hq,fun i hi=>by rw[hr] at hi;simp at hi⟩
 |succ r ih =>
  intro fuel A m s listed B F a w hl hm hsz hbit hlt hleft hfuel hi
  unfold levels at hl
  split at hl
  rotate_left
  ·cases hl
  rename_i A1 hA1
  obtain⟨_,hex⟩:=AL hA1
  have hmp:=Dm hl
  obtain⟨fuel,rfl⟩:∃f,fuel=f+1:=⟨fuel-1,by omega⟩
  have hstep:∀i o,i<ops.length->ops[i]? = some o->rdy ops m i=true->(ye ops m=none\/ye ops m=some i) ->
    if Region.wanted o (yielded ops.toArray a.tmps)=true then o.wp P a w (wpAny P .any ops.toArray Q fuel (listed.setIfInBounds i true)) Q else wpAny P .any ops.toArray Q fuel (listed.setIfInBounds i true) (a.put o.dst undef) w:=by
   intro i o hil h2 hrdy htake
   have hni:m.testBit i=false:=by
    unfold rdy at hrdy
    rw[Bool.and_eq_true] at hrdy
    simpa using hrdy.1
   have hfalse:listed.getD i false=false:=by rw[hbit i hil];exact hni
   have hA1p:∀p∈A1.ps,p.1=p.2:=fun p hp=>hps p (hmp.ps p hp)
   have hA1o:∀p∈A1.os,p.1=p.2:=fun p hp=>hos p (hmp.os p hp)
   obtain⟨s',hs',hlv,hobl⟩:=hex A1 (.refl _) hA1p hA1o (m,s) hm i hil hrdy htake
   simp only at hs' hlv hobl
   unfold Oq at hs'
   rw[h2] at hs'
   simp only at hs'
   obtain⟨F1,hi1⟩:=(Ti hi []).ni fz (i:=i)
   have hobs:∀p∈s'.obl,p:=hob i _ (hmp.ob i _ hobl)
   have hbit':∀j,(m ||| 1 <<< i).testBit j=(m.testBit j||decide (i=j)):=by
    intro j
    rw[Nat.testBit_or,Nat.one_shiftLeft,Nat.testBit_two_pow]
   have hst:=F5 (Q:=Q) (S:=fun j=>m.testBit j=true) (S':=fun j=>(m ||| 1 <<< i).testBit j=true) hΓ hi1 (by rw[hni];simp) (fun j hj=>by rw[hbit',hj];rfl) (by rw[hbit'];simp) h2 hs' hobs
    (K:=wpAny P .any ops.toArray Q fuel (listed.setIfInBounds i true)) (fun B' F' a' w' hi'=>by
     refine ih fuel A1 (m ||| 1 <<< i) (sC slots keys ops.length s') _ B' F' a' w' hl (NS hlv) (by simp[hsz]) (fun j hj=>?_) (fun j hj=>?_) ?_ (by omega) (JW hi' fun j hj=>?_)
     ·rw[hbit']
      by_cases hji:j=i
      ·subst hji
       have hj':j<listed.size:=by omega
       simp[Array.getD_eq_getD_getElem?,hj']
      ·rw[getD_set_ne false (fun e=>hji e.symm),hbit j hj]
       have:decide (i=j)=false:=by simpa using fun e=>hji e.symm
       rw[this,Bool.or_false]
     ·rw[hbit'] at hj
      rw[Bool.or_eq_true] at hj
      rcases hj with h|h
      ·exact hlt j h
      ·have:=of_decide_eq_true h;omega
     ·have:=left_eq hil hsz hfalse;omega
     ·rw[hbit'] at hj
      rw[Bool.or_eq_true] at hj
      rcases hj with h|h
      ·exact hlt j h
      ·have:=of_decide_eq_true h;omega)
   exact hst
  cases htk:ye ops m with
  |some i =>
   have hfi:=List.find?_some htk
   have hil:i<ops.length:=List.mem_range.1 (List.mem_of_find?_eq_some htk)
   obtain⟨o,h2⟩:∃o,ops[i]? = some o:=⟨_,List.getElem?_eq_getElem hil⟩
   rw[h2] at hfi
   simp only[Bool.and_eq_true] at hfi
   obtain⟨hmv,hrdy,hfree⟩:=hfi
   have hst:=hstep i o hil h2 hrdy (.inr htk)
   obtain⟨x,hopx,hg⟩:∃x,o.op=.move x/\o.guard=none:=by
    unfold Qc at hmv
    split at hmv
    ·rename_i x _ h3 h4 h5;exact⟨x,h3,h4⟩
    ·cases hmv
   have hw:Region.wanted o (yielded ops.toArray a.tmps)=true:=by simp[Region.wanted,hg]
   have hrun:∀w,(execOp a.eval o).run P w=.ok (.value (a.eval x)) w:=by
    intro w
    unfold execOp
    simp only[hopx,Sem.run_pure]
   rw[if_pos hw] at hst
   unfold Oper.wp at hst
   rw[hrun] at hst
   have hdef:∀j,j<ops.length->listed.getD j true=m.testBit j:=by
    intro j hj
    have hj':j<listed.size:=by omega
    rw[<-hbit j hj]
    simp only[Array.getD_eq_getD_getElem?,Array.getElem?_eq_getElem hj',Option.getD_some]
   have hni:m.testBit i=false:=by
    unfold rdy at hrdy
    rw[Bool.and_eq_true] at hrdy
    simpa using hrdy.1
   refine wpAny_take (oi:=o) (i:=i) (v:=a.eval x) (by rw[List.getElem?_toArray];exact h2) hsel ?_ ?_ (fun c a w h=>absurd h (hQp c _ _)) (.inl ⟨hw,hrun⟩) hst
   ·unfold Region.free
    rw[List.getElem?_toArray,h2]
    simp only[List.all_eq_true,List.mem_range]
    intro j hj
    have hj:j<ops.length:=by simpa using hj
    unfold SA at hfree
    rw[h2] at hfree
    have h5:=List.all_eq_true.1 hfree j (List.mem_range.2 hj)
    rw[hdef j hj,List.getElem?_toArray]
    simp only[Bool.or_eq_true] at h5 ⊢
    rcases h5 with h5|h5
    ·exact .inl h5
    ·refine .inr ?_
     cases hoj:ops[j]? with
     |none=>rfl
     |some oj =>
      rw[hoj] at h5
      simp only[Bool.or_eq_true] at h5 ⊢
      rcases h5 with h5|h5
      ·refine .inl ?_
       rw[List.contains_iff_mem] at h5
       unfold onL at h5
       obtain⟨e,he1,he2⟩:=List.mem_filterMap.1 h5
       split at he2
       ·rename_i hb
        cases he2
        refine Array.any_eq_true'.2 ⟨e,by simpa using he1,by simp[hb]⟩
       ·cases he2
      ·exact .inr h5
   ·rw[List.contains_iff_mem,mem_ready]
    refine⟨by rw[hdef i hil];exact hni,o,by rw[List.getElem?_toArray];exact h2,fun e he1 hb=>?_⟩
    have hz:(o,i)∈ops.zipIdx:=List.mem_zipIdx_iff_getElem?.2 h2
    have hon:e.on∈onL o:=by
     unfold onL
     exact List.mem_filterMap.2 ⟨e,by simpa using he1,by rw[if_pos hb]⟩
    have hji:e.on<i:=of_decide_eq_true (List.all_eq_true.1 (List.all_eq_true.1 he _ hz) _ hon)
    unfold rdy at hrdy
    rw[h2,Bool.and_eq_true] at hrdy
    have:=List.all_eq_true.1 hrdy.2 _ hon
    rw[hbit e.on (by omega)]
    exact this
  |none =>
  refine⟨fun hr=>?_,fun i him=>?_⟩
  ·exfalso
   have hall:=Gy he hr hsz
   have:left ops.length listed=0:=by
    unfold left
    rw[List.length_eq_zero_iff,List.filter_eq_nil_iff]
    intro j hj
    rw[hall j (List.mem_range.1 hj)];simp
   omega
  ·obtain⟨h1,o,h2,h3⟩:=mem_ready.1 him
   rw[List.getElem?_toArray] at h2
   have hil:=(List.getElem?_eq_some_iff.1 h2).1
   have hfalse:listed.getD i false=false:=by
    have hj':i<listed.size:=by omega
    simp only[Array.getD_eq_getD_getElem?,Array.getElem?_eq_getElem hj',Option.getD_some] at h1 ⊢
    exact h1
   have hni:m.testBit i=false:=by rw[<-hbit i hil];exact hfalse
   have hrdy:rdy ops m i=true:=by
    unfold rdy
    rw[hni,h2]
    simp only[Bool.not_false,Bool.true_and]
    rw[List.all_eq_true]
    intro j hj
    have hz:(o,i)∈ops.zipIdx:=List.mem_zipIdx_iff_getElem?.2 h2
    have hji:j<i:=of_decide_eq_true (List.all_eq_true.1 (List.all_eq_true.1 he _ hz) j hj)
    unfold onL at hj
    obtain⟨e,he1,he2⟩:=List.mem_filterMap.1 hj
    split at he2
    ·rename_i hb
     cases he2
     have:=h3 e (by simpa using he1) hb
     rw[hbit e.on (by omega)] at this;exact this
    ·cases he2
   have hst:=hstep i o hil h2 hrdy (.inl htk)
   unfold wpOp
   rw[List.getElem?_toArray,h2]
   simp only
   split
   ·rename_i hw
    rw[if_pos hw] at hst;exact .inl hst
   ·rename_i hw
    rw[if_neg hw] at hst;exact hst
theorem Wp.Hq(hm:P.follows .mixedOrders=true)(hΓ:ΓOK P Γ){id:Nat}{l:List Oper}{K K':List (Nat×D)}{L L':aG}(fz:List (Nat×List Nat))(orc:List (Nat×D))(orb:List (Nat×CBd))(slots keys kk kl:List Nat){ob:List Prop}
  (h:PP l kk kl (Fq (CX P) (dh P) Γ nt orc orb l fz slots keys K L)=some (K',L',ob)) (hp:Ut (Fq (CX P) (dh P) Γ nt orc orb l fz slots keys K L)=UG (Fq (CX P) (dh P) Γ nt orc orb l fz slots keys K L)) (hob:ai ob) (hn:To nt F0 w0 K' L' .normal Q) :
  Wp P nt F0 w0 K L (.region id l.toArray true) Q:=by
 have hn:To nt F0 w0 K' L' .normal (nrm Q):=hn
 rintro a w ⟨B,F,hb,hd,hs,hK⟩
 have hQp:∀c a w,¬nrm Q (.panic c) a w:=fun _ _ _ h=>h
 cases hA:Fq (CX P) (dh P) Γ nt orc orb l fz slots keys K L with
 |none=>rw[hA] at h;cases h
 |some Af =>
  rw[hA] at h hp
  unfold Fq at hA
  split at hA
  rotate_left
  ·cases hA
  rename_i hed2
  rw[Bool.and_eq_true,Bool.and_eq_true] at hed2
  obtain⟨hed2,hnd⟩:=hed2
  have hed:=hed2.1
  unfold PP at h
  simp only at h
  split at h
  rotate_left
  ·cases h
  rename_i mf sf hlv
  split at h
  rotate_left
  ·cases h
  rename_i K1 L1 hk hl
  cases h
  simp only[Ut,UG,Prod.mk.injEq] at hp
  refine za hm (fun o ho c hc=>by have:=List.all_eq_true.1 hnd o (by simpa using ho);rw[ndB,hc] at this;cases this) ?_
  have hw:({ w with drawn:=w.drawn+1 }:World)=w.drew:=rfl
  rw[hw]
  have hobs:∀i o,Af.ob.lookup i=some o->i<l.length->∀p∈o,p:=by
   intro i o hio hil p hpo
   refine ai.mem hob p ?_
   unfold SB
   exact List.mem_flatMap.2 ⟨i,List.mem_range.2 hil,by rw[hio];exact hpo⟩
  have hlen:∀i o,Af.ob.lookup i=some o->¬i<l.length->∀p∈o,p:=by
   intro i o hio hil
   exfalso
   have hkeys:∀(r:Nat)(A A':OA),levels (CX P) (dh P) Γ nt orc orb l fz slots keys r A=some A'->(∀x∈A.ob,x.1<l.length)->∀x∈A'.ob,x.1<l.length:=by
    have h1:∀(m:Nat)(s:ES)(is:List Nat)(A A':OA),uh (CX P) (dh P) Γ nt orc orb l fz slots keys m s is A=some A'->(∀i∈is,i<l.length)->(∀x∈A.ob,x.1<l.length)->∀x∈A'.ob,x.1<l.length:=by
     intro m s is
     induction is with
     |nil=>intro A A' h _ hx;cases h;exact hx
     |cons i is ih =>
      intro A A' h his hx
      unfold uh at h
      split at h
      ·split at h
       ·refine ih _ _ h (fun j hj=>his j (List.mem_cons_of_mem _ hj)) fun x hxx=>?_
        unfold Iq at hxx
        have hS:∀(m:Nat)(s:ES)(A:OA),(zO m s A).ob=A.ob:=by intro m s A;unfold zO;split<;>rfl
        split at hxx
        ·simp only[hS] at hxx;exact hx x hxx
        ·simp only[hS] at hxx
         rcases List.mem_append.1 hxx with h|h
         ·exact hx x h
         ·rw[List.mem_singleton.1 h];exact his i List.mem_cons_self
       ·cases h
      ·exact ih _ _ h (fun j hj=>his j (List.mem_cons_of_mem _ hj)) hx
    have h2:∀(lv:List (Nat×ES))(A A':OA),expand (CX P) (dh P) Γ nt orc orb l fz slots keys lv A=some A'->(∀x∈A.ob,x.1<l.length)->∀x∈A'.ob,x.1<l.length:=by
     intro lv
     induction lv with
     |nil=>intro A A' h hx;cases h;exact hx
     |cons y lv ih =>
      intro A A' h hx
      unfold expand at h
      split at h
      ·rename_i A1 hA1
       exact ih _ _ h (h1 _ _ _ _ _ hA1 (fun i hi=>by
        split at hi
        ·rename_i j hj
         rw[List.mem_singleton.1 hi]
         exact List.mem_range.1 (List.mem_of_find?_eq_some hj)
        ·exact List.mem_range.1 hi) hx)
      ·cases h
    intro r
    induction r with
    |zero=>intro A A' h hx;cases h;exact hx
    |succ r ih =>
     intro A A' h hx
     unfold levels at h
     split at h
     ·rename_i A1 hA1
      exact ih _ _ h (h2 _ _ _ hA1 hx)
     ·cases h
   have hmem:∀(q:List (Nat×List Prop))(i:Nat)(o:List Prop),q.lookup i=some o->(i,o)∈q:=by
    intro q i o hq
    induction q with
    |nil=>simp at hq
    |cons x q ih =>
     obtain⟨k,y⟩:=x
     rw[List.lookup_cons] at hq
     split at hq
     ·rename_i he
      have:i=k:=by simpa using he
      cases hq;rw[this];exact List.mem_cons_self
     ·exact List.mem_cons_of_mem _ (ih hq)
   exact hil (hkeys _ _ _ hA (by simp[Ns]) _ (hmem _ _ _ hio))
  have hsz:l.toArray.size=l.length:=by simp
  rw[hsz]
  have hK':∀x∈K,∃v,a.tmps[x.1]? = some v/\Rep F w.drew B x.2 v:=fun x hx=>by
   obtain⟨v,h3,h4⟩:=hK x hx
   have hgr:Grow F F w w.drew:=⟨fun _ _ h=>h,fun _ _ _=>rfl⟩
   exact⟨v,h3,h4.grow hgr⟩
  have hinv:=xn (ops:=l) hb.draw hd hs hK'
  have hz:∀j,(0:Nat).testBit j=false:=fun j=>Nat.zero_testBit j
  have hinv':iD nt l F0 w0 B F (sC slots keys l.length (rM K L)) (fun j=>(0:Nat).testBit j=true) a w.drew:=by
   refine JW ⟨hinv.base,hinv.defers,hinv.size,hinv.ents,fun e he x hx=>?_,fun e he=>?_,hinv.pq⟩ fun j hj=>by rw[hz] at hj;cases hj
   ·have:=hinv.keys e he x hx;omega
   ·rcases hinv.srcs e he with h|h
    ·exact .inl h
    ·omega
  refine Qa (F0:=F0) (w0:=w0) (Q:=nrm Q) hΓ hed hed2.2 hQp (GG hp.1) (Dz hp.2) (fun i o hio=>if hil:i<l.length then hobs i o hio hil else hlen i o hio hil) hlv (fun B' F' a' w' S hi=>hn a' w' (vP hi hk hl))
   l.length l.length _ 0 _ (Array.replicate l.length false) B F a w.drew hA List.mem_cons_self (by simp) (fun j hj=>?_) (fun j hj=>by rw[hz] at hj;cases hj) ?_ (Nat.le_refl _) hinv'
  ·rw[hz];simp only[Array.getD_eq_getD_getElem?,Array.getElem?_replicate];split<;>rfl
  ·unfold left
   rw[List.filter_eq_self.2]
   ·simp
   ·intro j hj;simp only[Array.getD_eq_getD_getElem?,Array.getElem?_replicate];split<;>rfl
end
end Go.Proofs.YtpmmhhmhckpnfaaGreat.RX
namespace Go.Proofs.YtpmmhhmhckpnfaaGreat.RX
open Go.RowKit
section
variable {P:Program}
end
end Go.Proofs.YtpmmhhmhckpnfaaGreat.RX
namespace Go.Proofs.YtpmmhhmhckpnfaaGreat.RX
open Go Go.Proofs Go.RowKit
variable {P:Program} {nt:Nat} {F0:Fz} {w0:Pt P} {K:List (Nat×D)} {L:aG}
theorem To.fin{fn:Func}{R:Ending->World->Prop}(h:To nt F0 w0 K L .ret (bodyPost P fn R)):To nt F0 w0 K L .normal (bodyPost P fn R):=fun a w hs=>h a w hs
end Go.Proofs.YtpmmhhmhckpnfaaGreat.RX
namespace Go.Proofs.YtpmmhhmhckpnfaaGreat.RX
open Go.RowKit Go.Sort
def encS:Bs->List D:=fun x=>[.str x]
def kT(l:Ls):Ls:=l.mergeSort fun x y=>decide (x<=y)
section
variable {P:Program} {F:Fz} {w1:Pt P} {B:Env}
theorem zL{w:World}:∀{l:Ls}{xs:List Value},aD F w NB (l.flatMap encS) xs->xs=l.map encStr
 |[],_,h=>by cases h;rfl
 |x::l,_,h=>by
  simp only[List.flatMap_cons,encS,List.singleton_append] at h
  cases h with
  |cons _ v _ vs hv hs =>
   cases hv
   rw[zL hs];rfl
theorem D7{w:World}{B:Env}:∀l:Ls,aD F w B (l.flatMap encS) (l.map encStr)
 |[]=>.nil
 |x::l=>by
  simp only[List.flatMap_cons,encS,List.singleton_append,List.map_cons]
  exact .cons _ _ _ _ (.str x) (D7 l)
theorem Rep.head{F:Fz}{w:World}{B:Env}{α:Type}{d:α}{enc:α->List D}{l l1:List α}{p:Option Nat}{n cap:Nat}(h:Rep F w B (.recs d enc l) (kh p n cap))(hp:l1 <+: l)(hn:n=l.length):Rep F w B (.recs d enc l1) (.slice (p.map fun b=>⟨b,0,none⟩) l1.length cap):=by
 generalize hv:kh p n cap=v at h
 unfold kh at hv
 cases h with
 |cq _ _ q =>
  have:l1=[]:=List.prefix_nil.1 hp
  subst this
  injection hv with e1 e2 e3
  rw[e1,e3]
  exact .cq d enc _
 |recs _ _ _ g off cap size vs hz h1 h2 h3 hc =>
  have hle:=hp.length_le
  obtain⟨ys,rfl⟩:=hp
  injection hv with e1 e2 e3
  rw[e1,e3]
  refine .recs d enc l1 g off cap size vs hz (fun i hi=>h1 i (by omega)) (fun i hi=>?_) (fun i j hi hj=>h3 i j (by omega) hj) (by omega)
  have:=h2 i (by omega)
  rwa[List.getElem?_append_left hi] at this
theorem Base.turned{k t g n cap:Nat}{α:Type}{d:α}{enc:α->List D}{l l':List α}{w':World}(hb:Base F w1 B F (aU [(k,t,[.aX false d enc l])]) w1.w)
  (hB:B k=some (.row (some g) n cap)) (hgr:w1.w.grownBy w' (some g)) (hown:∃xs,aD F w' NB (l'.flatMap enc) xs/\jf w' t (enc d).length (some g) n cap xs) (hl:l'.length=l.length) :
  Base F w1 B F (aU [(k,t,[.aX false d enc l'])]) w':=by
 have hm:aU [(k,t,[D.aX false d enc l])] k t [.aX false d enc l]:=List.mem_cons_self
 obtain⟨p,n0,cap0,hB0,hn0,hpos,hge,xs,hxs,hown0,hfz⟩:=hb.lu hm
 rw[hB] at hB0;cases hB0
 have hnf:∀j,¬F g j:=fun j hj=>by have:=(hfz g rfl j).1 hj;simp at this
 have hfr:=hb.new _ _ _ g hm (gQ hB)
 have hone:∀j t' ds,aU [(k,t,[D.aX false d enc l'])] j t' ds->j=k/\t'=t/\ds=[.aX false d enc l']:=by
  intro j t' ds h
  have:=List.mem_singleton.1 h
  cases this;exact⟨rfl,rfl,rfl⟩
 refine⟨fun j t' ds h=>?_,fun j t' ds b h hbk=>?_,fun i j b hi hj _ _=>?_,fun g' j hF=>Nat.lt_of_lt_of_le (hb.frz g' j hF) hgr.size,hb.more,⟨fun _ _ h=>h,fun g' j hF=>?_⟩,⟨hgr.os,hgr.tape,hgr.output,hgr.size,fun j hj hno=>?_⟩,hb.env⟩
 ·obtain⟨rfl,rfl,rfl⟩:=hone _ _ _ h
  obtain⟨xs',h1,h2⟩:=hown
  exact .row false d enc l' (some g) n cap hB ⟨by rw[hl];exact hn0,hpos,hge,xs',h1,h2,hfz⟩
 ·obtain⟨rfl,rfl,rfl⟩:=hone _ _ _ h
  exact hb.new _ _ _ b hm hbk
 ·obtain⟨_,_,h1⟩:=hi
  obtain⟨_,_,h2⟩:=hj
  rw[(hone _ _ _ h1).1,(hone _ _ _ h2).1]
 ·have hne:g'≠g:=fun e=>by subst e;exact hnf j hF
  exact World.cell?_of_block (hgr.block g' (hb.frz g' j hF) (fun e=>hne (Option.some.inj e)))
 ·refine hgr.block j hj fun e=>?_
  cases e
  rcases hfr with h|h
  ·exact absurd hj (Nat.not_lt.2 h)
  ·exact hno h
theorem Nr{w:World}{args:List Value}{k:Nat}(hr:aD F w B [.row k] args):∃p n cap v,B k=some (.row p n cap)/\qV v p n cap/\args=[v]:=by
 cases hr with
 |cons _ v _ vs h hs =>
  cases hs
  cases h with
  |row _ p n cap h=>exact⟨p,n,cap,_,h,.inl rfl,rfl⟩
  |dQ _ q h=>exact⟨none,0,0,_,h,.inr ⟨rfl,rfl,rfl,q,rfl⟩,rfl⟩
theorem Gl{v:Value}(h:qV v none 0 0):∃q,v=.slice q 0 0:=by
 rcases h with rfl|⟨_,_,_,q,rfl⟩
 ·exact⟨none,rfl⟩
 ·exact⟨q,rfl⟩
theorem Gq{v:Value}{g n cap:Nat}(h:qV v (some g) n cap):v=.slice (some ⟨g,0,none⟩) n cap:=by
 rcases h with rfl|⟨h,_⟩
 ·rfl
 ·cases h
theorem Fg{w:World}{g t n cap:Nat}{l:Ls}(hown:jf w t 1 (some g) n cap (l.map encStr)):Holds encStr w g 0 l.toArray/\g<w.heap.size/\n=l.length/\n<=cap/\cap<=maxLen /\
  ∃cur fz,w.heap[g]? = some (.cells cur t fz)/\cur.size=cap/\cur.toList.take n=l.map encStr/\∀j,j<cur.size->¬(fz.1<=j/\j<fz.2):=by
 obtain⟨hlen,hc⟩:=hown
 rcases hc with⟨h,_⟩|⟨g',cur,fz,hp,hh,hfz,hnc,hcm,hsz,htk⟩
 ·cases h
 ·cases hp
  simp only[List.length_map,Nat.mul_one] at hlen htk hsz
  refine⟨fun j hj=>?_,(Array.getElem?_eq_some_iff.1 hh).1,hlen.symm,hnc,hcm,cur,fz,hh,hsz,htk,hfz⟩
  have hj':j<l.length:=by simpa using hj
  have hjc:j<cur.size:=by omega
  have h1:(l.map encStr)[j]? = some cur[j]:=by
   rw[<-htk,List.getElem?_take,if_pos (by omega),Array.getElem?_toList,Array.getElem?_eq_getElem hjc]
  rw[List.getElem?_map,List.getElem?_eq_getElem hj',Option.map_some,Option.some.injEq] at h1
  refine⟨?_,?_⟩
  ·simp only[World.cell?,hh,Nat.zero_add]
   rw[Array.getElem?_eq_getElem hjc,<-h1]
   simp[hj']
  ·have:=hfz j hjc
   simp only[World.frozen?,hh,Nat.zero_add]
   rw[Bool.and_eq_false_iff]
   by_cases hc:fz.1<=j
   ·right;simp;omega
   ·left;simpa using hc
theorem GN{w:World}{g t cap n q:Nat}{os:Array Obj}{cur:Array Value}{fz:Nat×Nat}(ts:Ls)(hh:w.heap[g]? = some (.cells cur t fz))(hn:n=ts.length)(hnc:n<=cap)(hcm:cap<=maxLen)(hsz:cur.size=cap)(hfz:∀j,j<cur.size->¬(fz.1<=j/\j<fz.2)) :
  jf (grow (putRow encStr (Sort.ahead w q) g 0 ts.toArray) os) t 1 (some g) n cap (ts.map encStr):=by
 have h1:=heap_sorted (n:=q) (os:=os) ts.toArray hh
 refine⟨by simp[hn],.inr ⟨g,_,fz,rfl,h1,?_,hnc,hcm,?_,?_⟩⟩
 ·intro j hj
  exact hfz j (by simpa[putCells] using hj)
 ·simpa[putCells] using hsz
 ·rw[Nat.mul_one,hn]
  exact take_putCells cur ts (by omega)
theorem M4{f et:Nat}{l:Ls}(hf:FOK P f)
  (hc:∀(blk off cap:Nat)(ss:Ls)(w:World),Holds encStr w blk off ss.toArray->blk<w.heap.size->ss.length<4611686018427387904 ->
   Calls P f #[.slice (some ⟨blk,off,none⟩) ss.length cap] w fun e w'=>e=.returned (.tuple #[])/\∃n os,w'=grow (putRow encStr (Sort.ahead w n) blk off (ss.mergeSort fun x y=>decide (x<=y)).toArray) os)
  (hn:∀(p:Option Addr)(cap:Nat)(w:World),Calls P f #[.slice p 0 cap] w fun e w'=>e=.returned (.tuple #[])/\w'=w)
  (hl:decide (l.length*17<=limit)=true):dh P f [.row LIM] [(LIM,et,[.aX false (α:=Bs) [] encS l])] (.tup []) [(LIM,et,[.aX false (α:=Bs) [] encS (kT l)])]:=by
 refine⟨hf,fun F w1 B args hb hr=>?_⟩
 have hlim:l.length*17<=140737488355328:=of_decide_eq_true hl
 obtain⟨p,n,cap,v,hB,hv,rfl⟩:=Nr hr
 obtain⟨p',n',cap',hB',hn0,hpos,hge,xs,hxs,hown,hfz⟩:=hb.lu (M:=aU [(LIM,et,[D.aX false (α:=Bs) [] encS l])]) List.mem_cons_self
 rw[hB] at hB';cases hB'
 have hx:=zL hxs
 subst hx
 cases p with
 |none =>
  have h0:l=[]/\n=0/\cap=0:=by
   rcases hown.2 with⟨_,h1,h2⟩|⟨_,_,_,h,_⟩
   ·exact⟨List.eq_nil_of_length_eq_zero (by omega),h1,h2⟩
   ·cases h
  obtain⟨rfl,rfl,rfl⟩:=h0
  obtain⟨q,rfl⟩:=Gl hv
  refine(hn q 0 w1.w).mono ?_
  rintro e w' ⟨rfl,rfl⟩
  exact⟨_,F,B,rfl,.tup [] [] .nil,by simpa[kT] using hb⟩
 |some g =>
  obtain⟨hH,hg,rfl,hnc,hcm,cur,fz,hh,hsz,htk,hfz'⟩:=Fg hown
  obtain rfl:=Gq hv
  refine(hc g 0 cap l w1.w hH hg (by omega)).mono ?_
  rintro e w' ⟨rfl,q,os,rfl⟩
  have hlen:(kT l).length=l.length:=by simp[kT]
  exact⟨_,F,B,rfl,.tup [] [] .nil,hb.turned hB (grownBy_sorted _) ⟨_,D7 (kT l),GN (kT l) hh hlen.symm hnc hcm hsz hfz'⟩ hlen⟩
theorem H6{f et:Nat}{l:Ls}(hf:FOK P f)
  (hc:∀(blk off cap:Nat)(zs:Ls)(w:World),Holds encStr w blk off zs.toArray->zs.length<=9223372036854775807->zs.length<=cap ->
   Calls P f #[.slice (some ⟨blk,off,none⟩) zs.length cap] w fun e w'=>e=.returned (.slice (some ⟨blk,off,none⟩) (Lib.compact zs).length cap)/\∃q,w'=putRow encStr (Sort.ahead w q) blk off (Lib.compact zs++List.replicate (zs.length-(Lib.compact zs).length) []).toArray)
  (hn:∀(a:Option Addr)(cap:Nat)(w:World),Calls P f #[.slice a 0 cap] w fun e w'=>e=.returned (.slice a 0 cap)/\w'=w)
  (hle:(Lib.compact l).length<=l.length)
  (hl:decide (l.length*17<=limit)=true):dh P f [.row LIM] [(LIM,et,[.aX false (α:=Bs) [] encS l])] (.recs (α:=Bs) [] encS (Lib.compact l)) []:=by
 refine⟨hf,fun F w1 B args hb hr=>?_⟩
 have hlim:l.length*17<=140737488355328:=of_decide_eq_true hl
 obtain⟨p,n,cap,v,hB,hv,rfl⟩:=Nr hr
 have hm:aU [(LIM,et,[D.aX false (α:=Bs) [] encS l])] LIM et [.aX false (α:=Bs) [] encS l]:=List.mem_cons_self
 obtain⟨p',n',cap',hB',hn0,hpos,hge,xs,hxs,hown,hfz⟩:=hb.lu hm
 rw[hB] at hB';cases hB'
 have hx:=zL hxs
 subst hx
 cases p with
 |none =>
  have h0:l=[]/\n=0/\cap=0:=by
   rcases hown.2 with⟨_,h1,h2⟩|⟨_,_,_,h,_⟩
   ·exact⟨List.eq_nil_of_length_eq_zero (by omega),h1,h2⟩
   ·cases h
  obtain⟨rfl,rfl,rfl⟩:=h0
  obtain⟨q,rfl⟩:=Gl hv
  refine(hn q 0 w1.w).mono ?_
  rintro e w' ⟨rfl,rfl⟩
  exact⟨_,F,B,rfl,.cq _ _ q,hb.sub fun _ _ _ h=>by simp[aU] at h⟩
 |some g =>
  obtain⟨hH,hg,rfl,hnc,hcm,cur,fz,hh,hsz,htk,hfz'⟩:=Fg hown
  obtain rfl:=Gq hv
  refine(hc g 0 cap l w1.w hH (by omega) hnc).mono ?_
  rintro e w' ⟨rfl,q,rfl⟩
  let ts:=Lib.compact l++List.replicate (l.length-(Lib.compact l).length) []
  have hlen:ts.length=l.length:=by simp[ts];omega
  have hb2:Base F w1 B F (aU [(LIM,et,[.aX false (α:=Bs) [] encS ts])]) (grow (putRow encStr (Sort.ahead w1.w q) g 0 ts.toArray) #[]) :=
   hb.turned hB (grownBy_sorted _) ⟨_,D7 ts,GN ts hh hlen.symm hnc hcm hsz hfz'⟩ hlen
  rw[grow_empty] at hb2
  obtain⟨F',hb3,hg3⟩:=hb2.zH (k:=LIM) (t:=et) (m:=false) List.mem_cons_self
  obtain⟨p3,n3,cap3,hB3,hrow3⟩:=hb3.lu (.inl ⟨rfl,rfl,rfl⟩)
  rw[hB] at hB3;cases hB3
  have hrep:=hrow3.recs (B:=B)
  exact⟨_,F',B,rfl,hrep.head (List.prefix_append _ _) hlen.symm,hb3.sub fun _ _ _ h=>by simp[aU] at h⟩
theorem MZ{f et:Nat}{x:Int}{i:TypeInfo}{z:Value}{α:Type}{d:α}{enc:α->List D}(hf:FOK P f)(hg:aM (.recs d enc []))
  (hsz:i.size=(enc d).length) (hzs:z.cells.size=i.size)
  (h1:∀(w:World),Calls P f #[.slice none 0 0,.int .i64 (0:Nat)] w fun e w'=>e=.returned (.slice none 0 0)/\w'=w)
  (h2:∀(n:Nat)(w:World),0<n->n*i.bytes<=140737488355328->n<=4611686018427387904->Calls P f #[.slice none 0 0,.int .i64 n] w fun e w' =>
   e=.returned (.slice (some ⟨w.heap.size,0,none⟩) 0 (grownCap w n 0 et))/\w'=w.drew.alloc (.cells (#[]++Builtin.zeroCells z.cells n++Builtin.zeroCells z.cells (grownCap w n 0 et-n)) et))
  (hl:decide (0<=x/\x*(i.bytes+1:Nat)<=(limit:Int))=true):dh P f [.val (.slice none 0 0),.val (.int .i64 x)] [] (.row 1) [(1,et,[.aX false d enc []])]:=by
 refine⟨hf,fun F w1 B args hb hr=>?_⟩
 have hlim:0<=x/\x*(i.bytes+1:Nat)<=((140737488355328:Nat):Int):=of_decide_eq_true hl
 obtain⟨n,rfl⟩:=Int.eq_ofNat_of_zero_le hlim.1
 have hn1:n*(i.bytes+1)<=140737488355328:=by exact_mod_cast hlim.2
 have hargs:args=[.slice none 0 0,.int .i64 n]:=by
  cases hr with
  |cons _ v _ vs h hs =>
   cases h
   cases hs with
   |cons _ v _ vs h hs=>cases h;cases hs;rfl
 subst hargs
 have hM:∀(B':Env)(k t':Nat)(ds:List D),aU [] k t' ds->aU [] k t' ds/\k≠1/\B' k=B k/\∀(F:Fz)(w:World)(vs:List Value),aD F w B ds vs->aD F w B' ds vs:=fun B' k t' ds h=>by simp[aU] at h
 have hsub:∀k t' ds,aU [(1,et,[D.aX false d enc []])] k t' ds->pF 1 et [.aX false d enc []] (aU []) k t' ds:=by
  intro k t' ds h
  cases List.mem_singleton.1 h
  exact .inl ⟨rfl,rfl,rfl⟩
 by_cases h0:n=0
 ·subst h0
  refine(h1 w1.w).mono ?_
  rintro e w' ⟨rfl,rfl⟩
  have hb2:=hb.row (t:=1) (e:=et) (m:=false) (d:=d) (enc:=enc) (l:=[]) (p:=none) (p0:=none) (n:=0) (cap:=0) (pre:=0) (xs:=[]) (w':=w1.w) rfl .nil hg
   ⟨by simp,.inl ⟨rfl,rfl,rfl⟩⟩ (.inl ⟨rfl,⟨rfl,rfl,rfl,Nat.le_refl _,fun _ _ _=>rfl⟩,fun b h=>by cases h⟩) (by simp) (fun b h=>by cases h) (B':=setB B 1 (.row none 0 0)) (fl _ _ _) (fun k hk=>bQ _ _ _ _ (by have:LIM=1000000:=rfl;omega)) (M':=aU []) (hM _) (fun b h=>by cases h)
  exact⟨_,_,_,rfl,.row 1 none 0 0 (fl _ _ _),hb2.1.sub hsub⟩
 ·have hnb:n*i.bytes<=140737488355328:=Nat.le_trans (Nat.mul_le_mul_left _ (Nat.le_succ _)) hn1
  have hnn:n<=140737488355328:=Nat.le_trans (Nat.le_mul_of_pos_right _ (Nat.succ_pos _)) hn1
  refine(h2 n w1.w (by omega) hnb (by omega)).mono ?_
  rintro e w' ⟨rfl,rfl⟩
  have hge:=grownCap_ge w1.w n 0 et
  have hcm:grownCap w1.w n 0 et<=maxLen:=grownCap_le_maxLen w1.w n 0 et (by simp only[maxLen];omega)
  have hb2:=hb.row (t:=1) (e:=et) (m:=false) (d:=d) (enc:=enc) (l:=[]) (p:=some w1.w.heap.size) (p0:=none) (n:=0) (cap:=grownCap w1.w n 0 et) (pre:=0) (xs:=[]) (w':=w1.w.drew.alloc (.cells (#[]++Builtin.zeroCells z.cells n++Builtin.zeroCells z.cells (grownCap w1.w n 0 et-n)) et)) rfl .nil hg
   ⟨by simp,.inr ⟨w1.w.heap.size,_,_,rfl,heap_alloc_new w1.w.drew _,by simp,Nat.zero_le _,hcm,by
    simp only[Array.size_append,size_zeroCells,hzs,hsz]
    simp only[List.size_toArray,List.length_nil,Nat.zero_add,<-Nat.add_mul]
    congr 1
    omega,by simp⟩⟩
   (.inr ⟨rfl,⟨rfl,rfl,rfl,by simp,fun k hk _=>heap_alloc_old w1.w.drew _ (by simpa using hk)⟩⟩) (by simp) (fun b h=>by cases h) (B':=setB B 1 (.row (some w1.w.heap.size) 0 (grownCap w1.w n 0 et))) (fl _ _ _) (fun k hk=>bQ _ _ _ _ (by have:LIM=1000000:=rfl;omega)) (M':=aU []) (hM _) (fun b h=>by cases h)
  exact⟨_,_,_,rfl,.row 1 _ 0 _ (fl _ _ _),hb2.1.sub hsub⟩
def KQ(P:Program)(t size bytes:Nat):Bool:=match P.info? t with|some i=>(match i.zero with|some z=>z.cells.size==i.size&&i.size==size&&i.bytes==bytes|none=>false)|none=>false
theorem MW{t size bytes:Nat}(h:KQ P t size bytes=true):∃i z,P.info? t=some i/\i.zero=some z/\z.cells.size=i.size/\i.size=size/\i.bytes=bytes:=by
 unfold KQ at h
 split at h
 ·rename_i i hi
  split at h
  ·rename_i z hz
   simp only[Bool.and_eq_true,beq_iff_eq] at h
   exact⟨i,z,hi,hz,h.1.1,h.1.2,h.2⟩
  ·cases h
 ·cases h
theorem Aj{f et size bytes:Nat}{x:Int}{α:Type}{d:α}{enc:α->List D}(hf:FOK P f)(hg:aM (.recs d enc []))(hi:KQ P et size bytes=true)(hsz:size=(enc d).length)
  (h1:∀(w:World),Calls P f #[.slice none 0 0,.int .i64 (0:Nat)] w fun e w'=>e=.returned (.slice none 0 0)/\w'=w)
  (h2:∀(i:TypeInfo)(z:Value),P.info? et=some i->i.zero=some z->0<i.size->∀(n:Nat)(w:World),0<n->n*i.bytes<=140737488355328->n<=4611686018427387904->Calls P f #[.slice none 0 0,.int .i64 n] w fun e w' =>
   e=.returned (.slice (some ⟨w.heap.size,0,none⟩) 0 (grownCap w n 0 et))/\w'=w.drew.alloc (.cells (#[]++Builtin.zeroCells z.cells n++Builtin.zeroCells z.cells (grownCap w n 0 et-n)) et))
  (hl:decide (0<=x/\x*((bytes+1:Nat):Int)<=(limit:Int))=true):dh P f [.val (.slice none 0 0),.val (.int .i64 x)] [] (.row 1) [(1,et,[.aX false d enc []])]:=by
 obtain⟨i,z,e1,e2,e3,e4,e5⟩:=MW hi
 subst e5
 exact MZ hf hg (e4.trans hsz) e3 h1 (h2 i z e1 e2 (by rw[e4,hsz];exact hg.1)) hl
end
end Go.Proofs.YtpmmhhmhckpnfaaGreat.RX
namespace Go.Proofs.YtpmmhhmhckpnfaaGreat.RX
open Go.RowKit Go.Sort Go.Maps
open Go.WideElems (Fit rd rg)
open Go.ChangeShapes Go.WideShapes
section
variable {P:Program}
end
end Go.Proofs.YtpmmhhmhckpnfaaGreat.RX
namespace Go.Proofs.YtpmmhhmhckpnfaaGreat.RX
open Go.RowKit
theorem TY{l:List Oper}(h:l.all ndB=true):∀o∈l,o.nd:=fun o ho c hc=>by
 have:=List.all_eq_true.1 h o ho
 rw[ndB,hc] at this;cases this
section
variable (C:Nat->List D->D->Prop) (CB:Nat->List D->aG->D->aG->Prop) (Γ:Nat->Option TI) (nt:Nat) (orc:List (Nat×D)) (orb:List (Nat×CBd)) (l:List Oper)
end
section
variable {P:Program} {Γ:Nat->Option TI} {nt:Nat} {F0:Fz} {w0:Pt P} {K K':List (Nat×D)} {L L':aG} {Q:Exit->Act->World->Prop}
end
end Go.Proofs.YtpmmhhmhckpnfaaGreat.RX
namespace Go.Proofs.YtpmmhhmhckpnfaaGreat.RX
open Go.RowKit
section
variable {P:Program} {Γ:Nat->Option TI} {nt:Nat} {F0:Fz} {w0:Pt P} {K K':List (Nat×D)} {L L':aG} {Q:Exit->Act->World->Prop}
theorem Base.defs{B:Env}{F:Fz}{w:World}{M:Mem}{ro:Option Nat}{ds:List Deferred}(h:Base F0 w0 B F M w):Base F0 { w0 with rnd:=ro,defs:=ds } B F M w:=⟨h.boxes,h.new,h.inj,h.frz,h.more,h.grow,h.below,h.env⟩
mutual
theorem D.Ue{s:D->Option D}:∀(d:D),d.fK=true->D.sub s d=d
 |.own _ _,h=>by simp[D.fK] at h
 |.opt _,h=>by simp[D.fK] at h
 |.dR _,h=>by simp[D.fK] at h
 |.mp _,h=>by simp[D.fK] at h
 |.row _,h=>by simp[D.fK] at h
 |.elm _ _ _ _,h=>by simp[D.fK] at h
 |.agg ds,h=>by simp only[D.sub];rw[D.BI ds (by simpa[D.fK] using h)]
 |.tup ds,h=>by simp only[D.sub];rw[D.BI ds (by simpa[D.fK] using h)]
 |.fn f ds,h=>by simp only[D.sub];rw[D.BI ds (by simpa[D.fK] using h)]
 |.val _,_=>rfl
 |.str _,_=>rfl
 |.ia _ _ _ _ _,_=>rfl
 |.recs _ _ _,_=>rfl
 |.el _,_=>rfl
 |.aX _ _ _ _,_=>rfl
 |.tree _ _ _ _,_=>rfl
 |.arr _ _ _,_=>rfl
 |.hole,_=>rfl
 |.xr _ _ _,_=>rfl
theorem D.BI{s:D->Option D}:∀(ds:List D),D.di ds=true->D.subs s ds=ds
 |[],_=>rfl
 |d::ds,h=>by
  have h':D.fK d=true/\D.di ds=true:=by simpa[D.di] using h
  simp only[D.subs]
  rw[D.Ue d h'.1,D.BI ds h'.2]
end
end
end Go.Proofs.YtpmmhhmhckpnfaaGreat.RX
namespace Go.Proofs.YtpmmhhmhckpnfaaGreat.RX
open Go.RowKit
section
variable {P:Program} {F0 F1:Fz} {w0 w1:Pt P} {B:Env} {F:Fz} {M:Mem} {w:World}
def Pt.vf(w1:Pt P)(W:World)(sh:Shp P W)(ex:List Nat)(ro:Option Nat)(ds:List Deferred):Pt P :=
 { w:=W,own:=fun b=>w1.fresh b/\b∉ex,env:=w1.env,low:=w1.low,sh:=sh,high:=fun _ h=>Pt.FD h.1,rnd:=ro,defs:=ds }
theorem Base.vf(hb:Base F1 w1 B F M w)(sh:Shp P w){ex:List Nat}{ro:Option Nat}{ds:List Deferred}(hex:∀k t c b,M k t c->cZ B k=some b->b∉ex):Base F (w1.vf w sh ex ro ds) B F M w :=
 ⟨hb.boxes,fun k t c b h hk=>.inr ⟨hb.new k t c b h hk,hex k t c b h hk⟩,hb.inj,hb.frz,fun _ _ h=>.inl h,Grow.refl _ _,iT.refl _ _ _,hb.env⟩
theorem Base.comes(hb:Base F1 w1 B F M w){sh:Shp P w}{ex:List Nat}{ro:Option Nat}{ds:List Deferred}{B':Env}{F':Fz}{M':Mem}{w':World}(h:Base F (w1.vf w sh ex ro ds) B' F' M' w'):Base F1 w1 B' F' M' w':=by
 have hsz:=hb.below.size
 have hfr:∀b,(w1.vf w sh ex ro ds).fresh b->w1.fresh b:=by
  rintro b (hb'|hb')
  ·exact .inl (Nat.le_trans hsz hb')
  ·exact hb'.1
 refine⟨h.boxes,fun k t c b hm hk=>hfr b (h.new k t c b hm hk),h.inj,h.frz,fun g k hF=>?_,hb.grow.trans h.grow,⟨h.below.os.trans hb.below.os,h.below.tape.trans hb.below.tape,h.below.output.trans hb.below.output,Nat.le_trans hsz h.below.size,fun k hk ho=>?_⟩,h.env⟩
 ·rcases h.more g k hF with h1|h1
  ·exact hb.more g k h1
  ·exact .inr (hfr g h1)
 ·refine(h.below.block k (Nat.lt_of_lt_of_le hk hsz) fun h1=>?_).trans (hb.below.block k hk ho)
  rcases h1.1 with h2|h2
  ·omega
  ·exact ho h2
def K7:Obj->Bool
 |.loop _=>true
 |.deferred _=>true
 |_=>false
def Lt:List D->Bool
 |[.xr _ _ _]=>false
 |_=>true
def qa(L:aG):Bool:=L.all fun x=>Lt x.2.2
theorem oG.SC{k t:Nat}{ds:List D}(h:oG F w B k t ds)(hno:Lt ds=true){b:Nat}(hb:cZ B k=some b){o:Obj}(ho:w.heap[b]? = some o):K7 o=false:=by
 cases h with
 |box _ b' vs hB hr hfl hh hnf=>rw[kJ hB] at hb;cases hb;rw[hh] at ho;cases ho;rfl
 |row m d enc l p n cap hB h =>
  rw[gQ hB] at hb;subst hb
  obtain⟨_,_,_,xs,_,h5,_⟩:=h
  rcases h5.2 with⟨h1,_⟩|⟨g,cur,fz,hp,hh,_⟩
  ·cases h1
  ·cases hp;rw[hh] at ho;cases ho;rfl
 |map kk ag d enc l b' hB h =>
  rw[kN hB] at hb;cases hb
  obtain⟨_,_,es,clock,hh,_⟩:=h
  rw[hh] at ho;cases ho;rfl
 |obj b' o' S hB hh=>cases hno
theorem Jf{L:aG}(h:qa L=true){k t:Nat}{ds:List D}(hm:aU L k t ds):Lt ds=true:=List.all_eq_true.1 h _ hm
theorem Base.put{L:aG}(hb:Base F1 w1 B F (aU L) w)(hno:qa L=true){r:Nat}{o o':Obj}(ho:w.heap[r]? = some o)(hbk:K7 o=true)(hbk':K7 o'=true)(hr:w1.w.heap.size<=r) :
  Base F1 w1 B F (aU L) (w.putObj r o')/\Grow F F w (w.putObj r o'):=by
 have hg:Grow F F w (w.putObj r o'):=⟨fun _ _ h=>h,fun g k _=>by
  unfold World.cell?
  by_cases e:g=r
  ·subst e
   have hlt:g<w.heap.size:=(Array.getElem?_eq_some_iff.1 ho).1
   simp only[ho,World.putObj_heap_same hlt]
   cases o with
   |loop _=>cases o'<;>first|rfl|cases hbk'
   |deferred _=>cases o'<;>first|rfl|cases hbk'
   |_=>cases hbk
  ·simp only[World.putObj_heap_other e]⟩
 refine⟨⟨fun k t ds hm=>?_,hb.new,hb.inj,fun g k hF=>?_,hb.more,hb.grow.trans hg,⟨hb.below.os,hb.below.tape,hb.below.output,?_,fun k hk hs=>?_⟩,hb.env⟩,hg⟩
 ·have hh:=hb.boxes _ _ _ hm
  refine hh.grow hg rfl (fun _ _ _ h=>h) fun b hbl=>⟨World.putObj_heap_other fun e=>?_,fun _ h=>h⟩
  subst e
  have:=hh.SC (Jf hno hm) hbl ho
  rw[hbk] at this;cases this
 ·rw[World.putObj_size];exact hb.frz g k hF
 ·rw[World.putObj_size];exact hb.below.size
 ·exact(World.putObj_heap_other (by omega)).trans (hb.below.block k hk hs)
theorem Base.OT{L:aG}(hb:Base F1 w1 B F (aU L) w)(hno:qa L=true){ex:List Nat}(hex:∀r∈ex,∃o,w.heap[r]? = some o/\K7 o=true):∀k t c b,aU L k t c->cZ B k=some b->b∉ex:=by
 intro k t c b hm hk he
 obtain⟨o,ho,hbk⟩:=hex b he
 have:=(hb.boxes _ _ _ hm).SC (Jf hno hm) hk ho
 rw[hbk] at this;cases this
end
def tG{β:Type}(J:β->Fz->World->Prop):Prop:=∀s F w w',J s F w->Below w.heap.size w w'->J s (oJ F w w') w'
structure Adv(P:Program)(F:Fz)(w:World)(F':Fz)(w':World):Prop where
 grow:Grow F F' w w'
 frz:∀g k,F' g k->g<w'.heap.size
 shp:Shp P w'
def N5(P:Program)(g:Nat)(ds:List D){α:Type}(encs:α->List D)(xs:List α):Prop :=
 FOK P g/\∀(l:Nat)(J:List α->Fz->World->Prop)(Jx:Fz->World->Prop),tG J->tG (fun(_:Unit)=>Jx) ->
  (∀x r F w args,J (x::r) F w->(∀g k,F g k->g<w.heap.size)->Shp P w->aD F w NB (encs x) args->YieldAt (Fr none) 0 P l args.toArray w fun e w'=>∃F',Adv P F w F' w'/\((e=.returned (.bool true)/\J r F' w')\/(e=.returned (.bool false)/\Jx F' w'))) ->
  ∀F w lb,J xs F w->(∀g k,F g k->g<w.heap.size)->Shp P w->aD F w NB ds lb ->
   CallsIn (Fr none) 0 P g (#[.func (.yield l) #[] #[]]++lb.toArray) w fun e w'=>(∃v,e=.returned v)/\∃F',J [] F' w'\/Jx F' w'
def ny{P:Program}{σ:Type}(F':Fz)(w1:Pt P)(R:σ->Prop)(S:σ->aG)(jump:Option Code)(Lx:aG):Exit->Act->World->Prop
 |.normal,_,w=>∃s B F,R s/\Base F' w1 B F (aU (S s)) w
 |.ret,_,w=>jump=some .ret/\∃B F,Base F' w1 B F (aU Lx) w
 |.exit id,_,w=>jump=some (.exit id)/\∃B F,Base F' w1 B F (aU Lx) w
 |.goto t,_,w=>jump=some (.goto t)/\∃B F,Base F' w1 B F (aU Lx) w
 |_,_,_=>False
def NK{P:Program}(nt:Nat)(F':Fz)(w1:Pt P)(K:List (Nat×D))(L:aG)(e:Exit)(a:Act)(w:World):Prop:=e=.normal/\St nt F' w1 K L a w
structure After{P:Program}(F0:Fz)(w0:Pt P)(F1:Fz)(w1:Pt P):Prop where
 back:∀B F M w,Base F1 w1 B F M w->Base F0 w0 B F M w
 mark:∃D,w1.defs={ target:=.collected D,args:=#[] }::w0.defs/\w0.w.heap.size<=D/\w1.w.heap[D]? = some (.deferred (some []))/\¬w1.own D
 rnd:w1.rnd=none
def Behind{P:Program}(nt:Nat)(F1:Fz)(w1:Pt P)(K:List (Nat×D))(L:aG)(Q:Exit->Act->World->Prop):Option Code->Prop
 |none=>To nt F1 w1 K L .normal Q
 |some j=>Wp P nt F1 w1 K L j Q
def Uj(keys:List Nat):D->Bool
 |.own j _=>keys.contains j
 |d=>D.fK d
theorem Nz:∀(ps:List Nat)(vs:List Value)(tm:Array Value),ps.Nodup->(∀p∈ps,p<tm.size)->ps.length=vs.length ->
  ((ps.zip vs).foldl (fun(t:Array Value) (x:Nat×Value)=>t.setIfInBounds x.1 x.2) tm).size=tm.size/\(∀i,i∉ps->((ps.zip vs).foldl (fun(t:Array Value) (x:Nat×Value)=>t.setIfInBounds x.1 x.2) tm)[i]? = tm[i]?) /\
  ∀(j p:Nat)(v:Value),ps[j]? = some p->vs[j]? = some v->((ps.zip vs).foldl (fun(t:Array Value) (x:Nat×Value)=>t.setIfInBounds x.1 x.2) tm)[p]? = some v
 |[],vs,tm,_,_,_=>⟨rfl,fun _ _=>rfl,fun j p v h _=>by simp at h⟩
 |p::ps,[],tm,_,_,h=>by simp at h
 |p::ps,v::vs,tm,hnd,hlt,hlen=>by
  obtain⟨h1,h2⟩:=List.nodup_cons.1 hnd
  obtain⟨q1,q2,q3⟩:=Nz ps vs (tm.setIfInBounds p v) h2 (fun x hx=>by rw[Array.size_setIfInBounds];exact hlt x (List.mem_cons_of_mem _ hx)) (by simpa using hlen)
  rw[List.zip_cons_cons,List.foldl_cons]
  refine⟨by rw[q1,Array.size_setIfInBounds],fun i hi=>?_,fun j p' v' hj hv=>?_⟩
  ·simp only[List.mem_cons,not_or] at hi
   rw[q2 i hi.2,Array.getElem?_setIfInBounds_ne (Ne.symm hi.1)]
  ·cases j with
   |zero =>
    simp only[List.getElem?_cons_zero,Option.some.injEq] at hj hv
    subst hj;subst hv
    rw[q2 p h1]
    simp[hlt p List.mem_cons_self]
   |succ j=>exact q3 j p' v' (by simpa using hj) (by simpa using hv)
section
variable {P:Program} {Γ:Nat->Option TI} {nt:Nat} {F0:Fz} {w0:Pt P} {K K' Kb:List (Nat×D)} {L L':aG} {Q:Exit->Act->World->Prop}
theorem Qo(w:World)(o o':Obj):Below w.heap.size w ((w.alloc o).alloc o') :=
 ((Below.refl _ w).alloc (Nat.le_refl _) _).alloc (by simp) _
theorem Wp.rangeFunc{α σ:Type}{t:Nat}{ps:Array Tmp}{assign body:Code}{gf:Nat}{lds:List D}{encs:α->List D}{xs:List α}(c:CBd)(R:List α->σ->Prop)(S:σ->aG)(jump:Option Code)
  (hro:w0.rnd=none) (hg:K.lookup t=some (.fn gf lds)) (hlds:D.di lds=true) (hseq:N5 P gf lds encs xs)
  (hok:DV c=true) (hLin:found c L=c.Lin.map fun x=>some (x.2.1,D.subs (dB never c.ren) x.2.2)) (hno:∀s,qa (S s)=true) (hnoL:qa c.iN=true) (hnoA:qa (uX c L)=true)
  (s0:σ) (hR0:R xs s0) (hS0:∀(F':Fz)(w1:Pt P)(a:Act)(w:World),St nt F' w1 [] c.Lin a w->St nt F' w1 [] (S s0) a w) (hps:∀x,(encs x).length=ps.toList.length) (hnd:ps.toList.Nodup) (hpt:∀p∈ps.toList,p<nt) (hne:∀x,D.di (encs x)=true)
  (hKb:∀x∈Kb,(x.1,D.sub (dB never c.ren) x.2)∈K/\x.1∉ps.toList/\Uj (c.Lin.map (·.1)) x.2=true)
  (K2:α->σ->List (Nat×D)) (L2:α->σ->aG) (hno2:∀x s,qa (L2 x s)=true)
  (hass:∀x r s,R (x::r) s->∀(F':Fz)(w1:Pt P),Wp P nt F' w1 (Kb++ps.toList.zip (encs x)) (S s) assign (NK nt F' w1 (K2 x s) (L2 x s)))
  (hbody:∀x r s,R (x::r) s->∀(F':Fz)(w1:Pt P),Wp P nt F' w1 (K2 x s) (L2 x s) body (ny F' w1 (R r) S jump c.iN))
  (hend:∀s,R [] s->jump=none/\S s=c.iN)
  (hK':∀x∈K',x∈K/\∀k,(fh c).contains k=true->D.names k x.2=false)
  (hn:∀(F1:Fz)(w1:Pt P),After F0 w0 F1 w1->Behind nt F1 w1 K' (uX c L) Q jump) :
  Wp P nt F0 w0 K L (.rangeFunc (.tmp t) ps assign body) Q:=by
 rintro a w ⟨B,F,hb,hd,hs,hK⟩
 rw[hro]
 obtain⟨w1,hw1,hb1,henv,hafter⟩:=Jk hb hok hLin
 obtain⟨v,hv,hrv⟩:=hK _ (aF hg)
 obtain⟨lb,hlb,rfl⟩:∃lb,aD F w B lds lb/\v=.func (.func gf) #[] lb.toArray:=by
  cases hrv with
  |fn f ds vs h=>exact⟨vs,h,rfl⟩
 refine wpIn_rangeFunc fun fn hfn=>?_
 obtain⟨rec,hrec⟩:∃rec:LoopState->Option Code->Loop,rec=fun st pe=>{ state:=st,pending:=pe,fn,tmps:=a.tmps,params:=ps,assign,body,defers:=w.heap.size }:=⟨_,rfl⟩
 obtain⟨W1,hW1⟩:∃W1,(w.alloc (.deferred (some []))).alloc (.loop (rec .ready none))=W1:=⟨_,rfl⟩
 have hL1:W1.heap[w.heap.size+1]? = some (.loop (rec .ready none)):=by
  rw[<-hW1];have:=World.alloc_heap_new (w.alloc (.deferred (some []))) (.loop (rec .ready none));rwa[World.size_alloc] at this
 have hD1:W1.heap[w.heap.size]? = some (.deferred (some [])):=by
  rw[<-hW1];exact(Below.heap_alloc _ _ _ (by simp)).trans (World.alloc_heap_new w _)
 have hbel:Below w.heap.size w W1:=by rw[<-hW1];exact Qo _ _ _
 obtain⟨hbW,hgW⟩:=hb1.callee hbel
 have hw0:w0.w.heap.size<=w.heap.size:=hb.below.size
 refine⟨w.heap.size+1,[{ target:=.collected w.heap.size,args:=#[] }],W1,{ target:=.fn (.func gf) lb.toArray,args:=#[.func (.yield (w.heap.size+1)) #[] #[]] },W1,gf,
  #[.func (.yield (w.heap.size+1)) #[] #[]]++lb.toArray,W1,?_,?_,fun _ _=>trivial,?_,fun h=>(by cases h),?_⟩
 ·rw[<-hW1,hrec];exact run_enterLoop_outer _ _ _ _ _
 ·simp only[resolve,oY hv]
  simp[go_sem]
 ·simp only[invoke];rw[vU hseq.1]
 ·let J:List α->Fz->World->Prop:=fun r F' W=>∃s B',R r s/\Base F w1 B' F' (aU (S s)) W/\W.heap[w.heap.size+1]? = some (.loop (rec .ready none))/\W.heap[w.heap.size]? = some (.deferred (some []))
  let Jx:Fz->World->Prop:=fun F' W=>∃B' j,jump=some j/\Base F w1 B' F' (aU c.iN) W/\W.heap[w.heap.size+1]? = some (.loop (rec .done (some j)))/\W.heap[w.heap.size]? = some (.deferred (some []))
  have hlt:∀{W:World}{r:Nat}{o:Obj},W.heap[r]? = some o->r<W.heap.size:=fun h=>(Array.getElem?_eq_some_iff.1 h).1
  obtain⟨B0,Fs,hb0,_⟩:=hS0 (oJ F w W1) (w1.vf W1 hbW.shp [] none a.defers) a W1 ⟨_,_,hbW.vf hbW.shp (fun _ _ _ _ _ _ h=>by cases h),rfl,hs,fun x hx=>by cases hx⟩
  have hbs:=hbW.comes hb0
  refine(hseq.2 (w.heap.size+1) J Jx (fun r F' W w' ⟨s,B',h1,h2,h3,h4⟩ h5=>⟨s,B',h1,(h2.callee h5).1,(h5.block _ (hlt h3)).trans h3,(h5.block _ (hlt h4)).trans h4⟩)
   (fun _ F' W w' ⟨B',j,h1,h2,h3,h4⟩ h5=>⟨B',j,h1,(h2.callee h5).1,(h5.block _ (hlt h3)).trans h3,(h5.block _ (hlt h4)).trans h4⟩) ?_ Fs W1 lb ⟨s0,B0,hR0,hbs,hL1,hD1⟩ hbs.frz hbs.shp ((hlb.bare hlds).grow (hgW.trans hb0.grow))).mono ?_
  ·rintro x r F' W args ⟨s,B',hR,hbJ,hl,hk⟩ hfrz hshp hargs
   have hlen:=aD.length hargs
   have hw1s:w1.w.heap.size=w.heap.size:=by rw[hw1]
   have hy:=run_yield (P:=P) (args:=args.toArray) hl (by rw[hrec];simp only[List.size_toArray];rw[hlen,hps x];simp)
   rw[hrec] at hy
   have hll:=hlt hl
   have hex:∀{W:World}{st:LoopState},W.heap[w.heap.size+1]? = some (.loop { rec .ready none with state:=st })->W.heap[w.heap.size]? = some (.deferred (some []))->∀q∈[w.heap.size,w.heap.size+1],∃o,W.heap[q]? = some o/\K7 o=true:=by
    intro W st h1 h2 q hq
    simp only[List.mem_cons,List.not_mem_nil,or_false] at hq
    rcases hq with rfl|rfl
    ·exact⟨_,h2,rfl⟩
    ·exact⟨_,h1,rfl⟩
   have hl0:W.heap[w.heap.size+1]? = some (.loop { rec .ready none with state:=.ready }):=by rw[hl,hrec]
   have hfold:=Nz ps.toList args a.tmps hnd (fun p hp=>by rw[hs];exact hpt p hp) (by rw[hlen,hps x])
   have hgw:Grow F F' w W:=by have:=hbJ.grow;rwa[hw1] at this
   have hact:((ps.zip args.toArray).foldl (fun(tmps:Array Value) (x:Tmp×Value)=>tmps.setIfInBounds x.1 x.2) a.tmps)=((ps.toList.zip args).foldl (fun(t:Array Value) (x:Nat×Value)=>t.setIfInBounds x.1 x.2) a.tmps):=by
    rw[<-Array.foldl_toList,Array.toList_zip]
   have hrun0:=hass x r s hR F' (w1.vf W hbJ.shp [w.heap.size,w.heap.size+1] (some (w.heap.size+1)) []) { tmps:=(ps.toList.zip args).foldl (fun(t:Array Value) (x:Nat×Value)=>t.setIfInBounds x.1 x.2) a.tmps,defers:=[] } W ⟨B',F',hbJ.vf hbJ.shp (hbJ.OT (hno s) (hex hl0 hk)),rfl,by rw[hfold.1];exact hs,fun y hy=>?_⟩
   rotate_left
   ·rcases List.mem_append.1 hy with hy|hy
    ·obtain⟨h1,h2,h3⟩:=hKb y hy
     obtain⟨v,q1,q2⟩:=hK _ h1
     refine⟨v,by rw[hfold.2.1 _ h2];exact q1,?_⟩
     have q3:=(Rep.pull y.2 q2).grow hgw
     cases hd':y.2 with
     |own j off =>
      rw[hd'] at q3 h3
      cases q3 with
      |own _ _ b hbj =>
       have hj:j∈c.Lin.map (·.1):=List.contains_iff_mem.1 h3
       obtain⟨z,hz,rfl⟩:=List.mem_map.1 hj
       exact .own _ _ b (hbJ.env _ _ ((henv z.1 z.2.1 z.2.2 hz).trans hbj))
     |_=>rw[hd'] at q3 h3;exact q3.bare h3
    ·obtain⟨i,hi⟩:=List.getElem?_of_mem hy
     rw[List.getElem?_zip_eq_some] at hi
     obtain⟨v,q1,q2⟩:=hargs.get i hi.2
     have hnoy:D.fK y.2=true:=by
      have:=hne x
      have hmem:y.2∈encs x:=List.mem_of_getElem? hi.2
      clear hi hy q1 q2
      revert this hmem
      generalize encs x=es
      intro this hmem
      induction es with
      |nil=>cases hmem
      |cons e es ih =>
       rw[D.di,Bool.and_eq_true] at this
       rcases List.mem_cons.1 hmem with rfl|h
       ·exact this.1
       ·exact ih this.2 h
     exact⟨v,hfold.2.2 i _ _ hi.1 q1,q2.bare hnoy⟩
   rw[<-hact] at hrun0
   refine⟨fn,_,assign,body,hy,roundIn_of_wpIn trivial (wpIn_mono hrun0 ?_)⟩
   rintro ea a1 Wa ⟨rfl,Ba,Fa,hba,hda,hsa,hKa⟩
   have hla:Wa.heap[w.heap.size+1]? = some (.loop { rec .ready none with state:=.ready }):=(hba.below.block _ hll (fun h=>h.2 (by simp))).trans hl0
   have hka:Wa.heap[w.heap.size]? = some (.deferred (some [])):=(hba.below.block (w.heap.size) (by show w.heap.size<W.heap.size;omega) (fun h=>h.2 (by simp))).trans hk
   refine⟨_,run_beginRound hla rfl,?_⟩
   have hb1a:=hbJ.comes hba
   obtain⟨hb2,hg2a⟩:=hb1a.put (hno2 x s) (o':=.loop { rec .ready none with state:=.busy }) hla rfl rfl (by omega)
   have hg2:=hba.grow.trans hg2a
   have hl2:(Wa.putObj (w.heap.size+1) (.loop { rec .ready none with state:=.busy })).heap[w.heap.size+1]? = some (.loop { rec .ready none with state:=.busy }):=World.putObj_heap_same (hlt hla)
   have hk2:(Wa.putObj (w.heap.size+1) (.loop { rec .ready none with state:=.busy })).heap[w.heap.size]? = some (.deferred (some [])):=(World.putObj_heap_other (by omega)).trans hka
   revert hb2 hg2 hg2a hl2 hk2
   generalize Wa.putObj (w.heap.size+1) (.loop { rec .ready none with state:=.busy })=W2
   intro hb2 hg2a hg2 hl2 hk2
   have hrun:=hbody x r s hR Fa (w1.vf W2 hb2.shp [w.heap.size,w.heap.size+1] (some (w.heap.size+1)) []) a1 W2 ⟨Ba,Fa,hb2.vf hb2.shp (hb2.OT (hno2 x s) (hex hl2 hk2)),hda,hsa,fun y hy=>let ⟨v,q1,q2⟩:=hKa y hy;⟨v,q1,q2.grow hg2a⟩⟩
   refine wpIn_mono hrun ?_
   have hsz2:w.heap.size+1<W2.heap.size:=hlt hl2
   have fin:∀(jm:Option Code)(Lx:aG)(B'':Env)(F'':Fz)(w':World),qa Lx=true->Base Fa (w1.vf W2 hb2.shp [w.heap.size,w.heap.size+1] (some (w.heap.size+1)) []) B'' F'' (aU Lx) w' ->
     ∃w4,(Instr.endRound (w.heap.size+1) jm).run P w'=.ok (.bool jm.isNone) w4/\Adv P F' W F'' w4/\Base F w1 B'' F'' (aU Lx) w4/\w4.heap[w.heap.size+1]? = some (.loop (rec (if jm.isNone then .ready else .done) jm))/\w4.heap[w.heap.size]? = some (.deferred (some [])):=by
    intro jm Lx B'' F'' w' hnx hb3
    have hl3:w'.heap[w.heap.size+1]? = some (.loop { rec .ready none with state:=.busy }):=(hb3.below.block _ hsz2 (fun h=>h.2 (by simp))).trans hl2
    have hk3:w'.heap[w.heap.size]? = some (.deferred (some [])):=(hb3.below.block (w.heap.size) (by show w.heap.size<W2.heap.size;omega) (fun h=>h.2 (by simp))).trans hk2
    have hrun:=run_endRound (P:=P) jm hl3
    have hb4:=hb2.comes hb3
    obtain⟨hb5,hg5⟩:=hb4.put hnx (o':=.loop { ({ rec .ready none with state:=.busy }:Loop) with state:=if jm.isNone then .ready else .done,pending:=jm }) hl3 rfl rfl (by omega)
    refine⟨_,hrun,⟨(hg2.trans hb3.grow).trans hg5,hb5.frz,hb5.shp⟩,hb5,?_,(World.putObj_heap_other (by omega)).trans hk3⟩
    rw[World.putObj_heap_same (hlt hl3),hrec]
   rintro e a3 w3 hp
   cases e with
   |normal =>
    obtain⟨s',B'',F'',hR',hb3⟩:=hp
    obtain⟨w4,h1,h2,h3,h4,h5⟩:=fin none _ B'' F'' w3 (hno s') hb3
    exact⟨_,w4,h1,F'',h2,.inl ⟨rfl,s',B'',hR',h3,h4,h5⟩⟩
   |ret =>
    obtain⟨hj,B'',F'',hb3⟩:=hp
    obtain⟨w4,h1,h2,h3,h4,h5⟩:=fin (some .ret) _ B'' F'' w3 hnoL hb3
    exact⟨_,w4,h1,F'',h2,.inr ⟨rfl,B'',_,hj,h3,h4,h5⟩⟩
   |exit id =>
    obtain⟨hj,B'',F'',hb3⟩:=hp
    obtain⟨w4,h1,h2,h3,h4,h5⟩:=fin (some (.exit id)) _ B'' F'' w3 hnoL hb3
    exact⟨_,w4,h1,F'',h2,.inr ⟨rfl,B'',_,hj,h3,h4,h5⟩⟩
   |goto t =>
    obtain⟨hj,B'',F'',hb3⟩:=hp
    obtain⟨w4,h1,h2,h3,h4,h5⟩:=fin (some (.goto t)) _ B'' F'' w3 hnoL hb3
    exact⟨_,w4,h1,F'',h2,.inr ⟨rfl,B'',_,hj,h3,h4,h5⟩⟩
   |panic ch=>exact hp.elim
   |outgrown=>exact hp.elim
  ·
   have out:∀(B':Env)(F':Fz)(W:World)(lp:Loop),Base F w1 B' F' (aU c.iN) W->W.heap[w.heap.size+1]? = some (.loop lp)->lp.state≠.busy->W.heap[w.heap.size]? = some (.deferred (some [])) ->
     ∃w4 w1m,(Instr.endLoop (w.heap.size+1)).run P W=.ok lp.pending w4/\After F0 w0 F' w1m/\St nt F' w1m K' (uX c L) { a with defers:=[{ target:=.collected w.heap.size,args:=#[] }]++a.defers } w4:=by
    intro B' F' W lp hbx hl hst hk
    have hw1s:w1.w.heap.size=w.heap.size:=by rw[hw1]
    obtain⟨hb4,hg4⟩:=hbx.put hnoL (o':=.loop { lp with state:=.exhausted }) hl rfl rfl (by omega)
    have hk4:(W.putObj (w.heap.size+1) (.loop { lp with state:=.exhausted })).heap[w.heap.size]? = some (.deferred (some [])):=(World.putObj_heap_other (by omega)).trans hk
    obtain⟨B2,hb5,hg5,hold,_,_⟩:=hafter F' B' _ hb4
    have hb6:=hb5.vf hb5.shp (ro:=none) (ds:={ target:=.collected w.heap.size,args:=#[] }::w0.defs) (hb5.OT hnoA (ex:=[w.heap.size]) fun q hq=>by
     rw[List.mem_singleton.1 hq];exact⟨_,hk4,rfl⟩)
    refine⟨_,_,run_endLoop hl hst,⟨fun B F M w h=>hb5.comes h,⟨w.heap.size,rfl,hw0,hk4,fun h=>h.2 (by simp)⟩,rfl⟩,B2,F',hb6,by rw[hd];rfl,hs,fun x hx=>?_⟩
    obtain⟨h1,h2⟩:=hK' x hx
    obtain⟨v,q1,q2⟩:=hK x h1
    refine⟨v,q1,(q2.grow hg5).tj fun k hk=>hold k ?_⟩
    cases hcc:(fh c).contains k with
    |false=>rfl
    |true=>rw[h2 k hcc] at hk;cases hk
   rintro e W ⟨⟨v,rfl⟩,F',⟨s,B',hR,hbx,hl,hk⟩|⟨B',j,hj,hbx,hl,hk⟩⟩
   ·obtain⟨rfl,hS⟩:=hend s hR
    rw[hS] at hbx
    obtain⟨w4,w1m,h1,h2,h3⟩:=out B' F' W _ hbx hl (by rw[hrec];simp) hk
    rw[hrec] at h1
    exact⟨none,w4,h1,hn F' w1m h2 _ _ h3⟩
   ·subst hj
    obtain⟨w4,w1m,h1,h2,h3⟩:=out B' F' W _ hbx hl (by rw[hrec];simp) hk
    rw[hrec] at h1
    have hwp:Wp P nt F' w1m K' (uX c L) j Q:=hn F' w1m h2
    have:=hwp _ _ h3
    rw[h2.rnd] at this
    exact⟨some j,w4,h1,this⟩
end
end Go.Proofs.YtpmmhhmhckpnfaaGreat.RX
namespace Go.Proofs.YtpmmhhmhckpnfaaGreat.RX
open Go.RowKit
section
variable {P:Program} {Γ:Nat->Option TI} {nt:Nat} {F0 F1:Fz} {w0:Pt P} {K K':List (Nat×D)} {L L':aG} {Q:Exit->Act->World->Prop}
theorem To.round{σ:Type}{R:σ->Prop}{S:σ->aG}{jump:Option Code}{Lx:aG}(s:σ)(kl:List Nat)(hR:R s)(hl:jX L kl=some (S s)):To nt F0 w0 K L .normal (ny F0 w0 R S jump Lx):=by
 rintro a w ⟨B,F,hb,_⟩
 exact⟨s,B,F,hR,hb.sub fun _ _ _ h=>lY hl _ h⟩
theorem To.Ri{σ:Type}{R:σ->Prop}{S:σ->aG}{jump:Option Code}{Lx:aG}(kl:List Nat)(hj:jump=some .ret)(hl:jX L kl=some Lx):To nt F0 w0 K L .ret (ny F0 w0 R S jump Lx):=by
 rintro a w ⟨B,F,hb,_⟩
 exact⟨hj,B,F,hb.sub fun _ _ _ h=>lY hl _ h⟩
theorem vq{f : Nat}{fn : Func}{c : Code}{ds : List D}{r : D}(hf : P.funcs[f]? = some fn)(hbody : fn.body=some c)(hname : (fn.name == "runtime.NumGoroutine")=false)(hn : ds.length<=fn.ntmps)
  (h:∀(F0:Fz)(w0:World)(hsh:Shp P w0),Wp P fn.ntmps F0 (.top w0 hsh) (ds.zipIdx.map fun x=>(x.2,x.1)) [] c (bodyPostM (Fr none) 0 P fn (vw F0 w0 r))):aJ P f ds r:=by
 refine⟨⟨fn,hf,hname,by rw[hbody];rfl⟩,fun F w args hsh hF hr=>?_⟩
 have hlen:=aD.length hr
 have hc:CallsIn (Fr none) 0 P f args.toArray w (fun e w'=>∃v,e=.returned v/\Rep (oJ F w w') w' NB r v/\Below w.heap.size w w'):=?_
 ·exact callsIn_wide.1 hc
 refine callsIn_of_wp_marks (F:=Fr none) hf hbody trivial (h F w hsh _ w ⟨NB,F,?_,rfl,?_,fun x hx=>?_⟩)
 ·exact⟨(fun k t ds hl=>by simp[aU] at hl),(fun k t ds b hl=>by simp[aU] at hl),(fun i j b hi=>by obtain⟨t,ds,hx⟩:=hi;simp[aU] at hx),hF,fun g k h=>.inl h,Grow.refl _ _,iT.refl _ _ _,fun k b h=>by cases h⟩
 ·simp;omega
 ·obtain⟨y,hy,rfl⟩:=List.mem_map.1 hx
  obtain⟨d,i⟩:=y
  have hd:ds[i]? = some d:=by
   have:=List.mem_zipIdx_iff_getElem?.1 hy
   simpa using this
  obtain⟨v,hv,hrep⟩:=hr.get i hd
  refine⟨v,?_,hrep⟩
  have hi:i<args.length:=(List.getElem?_eq_some_iff.1 hv).1
  simp only
  rw[Array.getElem?_append_left (by simpa using hi)]
  simpa using hv
theorem To.Gf(hΓ:ΓOK P Γ){fn:Func}{r:D}{wt:World}{hsh:Shp P wt}{w1:Pt P}(hA:After F0 (.top wt hsh) F1 w1)(hno:qa L=true)(h:Bl Γ K L fn.results.toList=some r) :
  To nt F1 w1 K L .ret (bodyPostM (Fr none) 0 P fn (vw F0 wt r)):=by
 rintro a w ⟨B,F,hb,hd,hs,hK⟩
 obtain⟨D,hdefs,hD0,hDh,hDo⟩:=hA.mark
 have hlt:D<w1.w.heap.size:=(Array.getElem?_eq_some_iff.1 hDh).1
 have hDw:w.heap[D]? = some (.deferred (some [])):=(hb.below.block D hlt hDo).trans hDh
 have hb0:=hA.back _ _ _ _ hb
 obtain⟨hb1,hg1⟩:=hb0.put hno (o':=.deferred none) hDw rfl rfl hD0
 obtain⟨_,v,h5,h6⟩:=To.done (nt:=nt) (F0:=F0) (K:=K) (L:=L) hΓ (hsh:=hsh) h { a with defers:=[] } (w.putObj D (.deferred none)) ⟨B,F,hb1,rfl,hs,fun x hx=>let ⟨v,q1,q2⟩:=hK x hx;⟨v,q1,q2.grow hg1⟩⟩
 show LeavesInM (Fr none) 0 P fn a.tmps (vw F0 wt r) a.defers .returning w
 rw[hd,hdefs]
 exact⟨by simp,.inl ⟨D,_,rfl,run_takeDeferred hDw,v,h5,h6⟩⟩
theorem To.Ax(hΓ:ΓOK P Γ){fn:Func}{r:D}{wt:World}{hsh:Shp P wt}(h:Bl Γ K L fn.results.toList=some r):To nt F0 (.top wt hsh) K L .ret (bodyPostM (Fr none) 0 P fn (vw F0 wt r)):=by
 rintro a w hst
 obtain⟨hd,v,h5,h6⟩:=To.done (nt:=nt) (F0:=F0) (K:=K) (L:=L) hΓ (hsh:=hsh) h a w hst
 show LeavesInM (Fr none) 0 P fn a.tmps (vw F0 wt r) a.defers .returning w
 rw[hd]
 exact⟨v,h5,h6⟩
def Bm(J:Fz->World->Prop)(Jx:Fz->World->Prop)(e:Ending)(w':World):Prop:=(∃v,e=.returned v)/\∃F',J F' w'\/Jx F' w'
theorem To.DY(hΓ:ΓOK P Γ){fn:Func}{r:D}{wt:World}{hsh:Shp P wt}{α:Type}{J:List α->Fz->World->Prop}{Jx:Fz->World->Prop}(hs:tG J)(hsx:tG (fun(_:Unit)=>Jx))(hJ:J [] F0 wt\/Jx F0 wt)(h:Bl Γ K L fn.results.toList=some r) :
  To nt F0 (.top wt hsh) K L .ret (bodyPostM (Fr none) 0 P fn (Bm (J []) Jx)):=by
 rintro a w hst
 obtain⟨B,F,hb,_⟩:=id hst
 obtain⟨hd,v,h5,h6⟩:=To.done (nt:=nt) (F0:=F0) (K:=K) (L:=L) hΓ (hsh:=hsh) h a w hst
 show LeavesInM (Fr none) 0 P fn a.tmps _ a.defers .returning w
 rw[hd]
 exact⟨v,h5,⟨v,rfl⟩,oJ F0 wt w,hJ.imp (fun h=>hs _ _ _ _ h hb.below.below) fun h=>hsx () _ _ _ h hb.below.below⟩
theorem To.Tq(hΓ:ΓOK P Γ){fn:Func}{r:D}{wt:World}{hsh:Shp P wt}{α:Type}{J:List α->Fz->World->Prop}{Jx:Fz->World->Prop}(hs:tG J)(hsx:tG (fun(_:Unit)=>Jx))(hJ:J [] F0 wt\/Jx F0 wt)(h:Bl Γ K L fn.results.toList=some r) :
  To nt F0 (.top wt hsh) K L .normal (bodyPostM (Fr none) 0 P fn (Bm (J []) Jx)):=fun a w hst=>To.DY (nt:=nt) (K:=K) (L:=L) hΓ (hsh:=hsh) hs hsx hJ h a w hst
theorem tG.T8{β:Type}{J:β->Fz->World->Prop}(h:tG J)(b:β):tG (fun(_:Unit)=>J b):=fun _ F w w'=>h b F w w'
theorem Tv{g : Nat}{fn : Func}{c : Code}{ds : List D}{α : Type}{encs : α->List D}{xs : List α}(hf : P.funcs[g]? = some fn)(hbody : fn.body=some c)(hname : (fn.name == "runtime.NumGoroutine")=false)(hn : ds.length+1<=fn.ntmps)
  (h:∀(l:Nat)(J:List α->Fz->World->Prop)(Jx:Fz->World->Prop),tG J->tG (fun(_:Unit)=>Jx) ->
   (∀x r F w args,J (x::r) F w->(∀g k,F g k->g<w.heap.size)->Shp P w->aD F w NB (encs x) args->YieldAt (Fr none) 0 P l args.toArray w fun e w'=>∃F',Adv P F w F' w'/\((e=.returned (.bool true)/\J r F' w')\/(e=.returned (.bool false)/\Jx F' w'))) ->
   ∀(F0:Fz)(wt:World)(hsh:Shp P wt),J xs F0 wt->(∀g k,F0 g k->g<wt.heap.size) ->
    Wp P fn.ntmps F0 (.top wt hsh) ((D.val (.func (.yield l) #[] #[])::ds).zipIdx.map fun x=>(x.2,x.1)) [] c (bodyPostM (Fr none) 0 P fn (Bm (J []) Jx))):N5 P g ds encs xs:=by
 refine⟨⟨fn,hf,hname,by rw[hbody];rfl⟩,fun l J Jx hs hsx hy F w lb hJ hF hsh hr=>?_⟩
 have hr':aD F w NB (D.val (.func (.yield l) #[] #[])::ds) (.func (.yield l) #[] #[]::lb):=.cons _ _ _ _ (.val _ rfl) hr
 have hlen:=aD.length hr'
 have hargs:#[Value.func (.yield l) #[] #[]]++lb.toArray=(Value.func (.yield l) #[] #[]::lb).toArray:=by simp
 rw[hargs]
 refine callsIn_of_wp_marks (F:=Fr none) hf hbody trivial (h l J Jx hs hsx hy F w hsh hJ hF _ w ⟨NB,F,?_,rfl,?_,fun x hx=>?_⟩)
 ·exact⟨(fun k t ds hl=>by simp[aU] at hl),(fun k t ds b hl=>by simp[aU] at hl),(fun i j b hi=>by obtain⟨t,ds,hx⟩:=hi;simp[aU] at hx),hF,fun g k h=>.inl h,Grow.refl _ _,iT.refl _ _ _,fun k b h=>by cases h⟩
 ·have h1:lb.length=ds.length:=by have:=hlen;simp only[List.length_cons] at this;omega
  simp;omega
 ·obtain⟨y,hy,rfl⟩:=List.mem_map.1 hx
  obtain⟨d,i⟩:=y
  have hd:(D.val (.func (.yield l) #[] #[])::ds)[i]? = some d:=by
   have:=List.mem_zipIdx_iff_getElem?.1 hy
   simpa using this
  obtain⟨v,hv,hrep⟩:=hr'.get i hd
  refine⟨v,?_,hrep⟩
  have hi:i<(Value.func (.yield l) #[] #[]::lb).length:=(List.getElem?_eq_some_iff.1 hv).1
  simp only
  rw[Array.getElem?_append_left (by simpa using hi)]
  simpa using hv
end
end Go.Proofs.YtpmmhhmhckpnfaaGreat.RX
namespace Go.Proofs.YtpmmhhmhckpnfaaGreat.RX
open Go.RowKit
section
variable {ro:Option Nat} {P:Program} {ops:Array Oper} {Q:Exit->Act->World->Prop}
theorem Px{F:Fence}{n:Nat}{o:Oper}{a:Act}{w:World}{K K':Act->World->Prop}{Q Q':Exit->Act->World->Prop}(hQ:∀e a w,e≠.normal->¬Q e a w)(h:∀a w,K a w->K' a w)(hh:o.wpIn F n P a w K Q):o.wpIn F n P a w K' Q':=by
 unfold Oper.wpIn at *
 refine⟨hh.1,?_⟩
 have hh:=hh.2
 generalize (o.semAt F.round a.eval).run P w=r at *
 have hl:¬LetsOut Q:=fun⟨a,w,h⟩=>hQ _ a w (by simp) h
 cases r with
 |ok x w' =>
  cases x<;>simp only[Oper.uponIn] at hh ⊢ <;>
   first
    |exact h _ _ hh
    |exact⟨hh.1,CallsIn.mono hh.2 (fun e w'' he=>by cases e<;>first|exact h _ _ he|exact(hQ _ _ _ (by simp) he).elim|exact(hl he).elim)⟩
    |exact⟨hh.1,RowsIn.mono hh.2 (fun _ _ he=>h _ _ he)⟩
    |exact⟨hh.1,RoundIn.mono hh.2 (fun e w'' he=>by cases e<;>first|exact h _ _ he|exact(hQ _ _ _ (by simp) he).elim|exact(hl he).elim)⟩
 |halt x w'=>cases x<;>simp only[Oper.uponIn] at hh ⊢<;>first|exact hh|exact(hQ _ _ _ (by simp) hh).elim
def O3(ro:Option Nat)(P:Program)(ops:Array Oper)(Q:Exit->Act->World->Prop)(rest:List Oper):Exit->Act->World->Prop
 |.normal,a,w=>wpListIn (Fr ro) 0 P ops Q rest a w
 |_,_,_=>False
theorem RD{rest:List Oper}(e:Exit)(a:Act)(w:World)(h:e≠.normal):¬O3 ro P ops Q rest e a w:=by cases e<;>first|exact absurd rfl h|exact id
theorem xB{rest:List Oper}:∀{l:List Oper}{a:Act}{w:World},(∀o∈l,o.nd)->wpList P ops (O3 ro P ops Q rest) l a w->wpListIn (Fr ro) 0 P ops Q (l++rest) a w
 |[],a,w,_,h=>by
  unfold wpList at h
  exact h
 |o::l,a,w,hn,h=>by
  have hout:¬LetsOut (O3 ro P ops Q rest):=fun⟨_,_,h⟩=>h
  unfold wpList at h
  rw[List.cons_append]
  unfold wpListIn
  split at h
  ·rename_i hw
   rw[if_pos hw]
   rcases h with h|h
   ·exact Px RD (fun a w h=>xB (fun o ho=>hn o (List.mem_cons_of_mem _ ho)) h) (G5 (ro:=ro) hout (hn o List.mem_cons_self) h)
   ·exact absurd h.2 hout
  ·rename_i hw
   rw[if_neg hw]
   exact⟨fun _ _=>trivial,xB (fun o ho=>hn o (List.mem_cons_of_mem _ ho)) h⟩
end
def evY(C:Nat->List D->D->Prop)(CB:Nat->List D->aG->D->aG->Prop)(Γ:Nat->Option TI)(nt:Nat)(orc:List (Nat×D))(orb:List (Nat×CBd))(l:List Oper)(fz:List (Nat×List Nat))(i:Nat)(K:List (Nat×D))(kk:List Nat)(b:Bool):Option (Value×List D×Bool×List (Nat×D)×List Prop) :=
 if l.all ndB then
  match l[i]?,pU C CB Γ nt orc orb l fz (l.take i) 0 (rM K []) with
  |some o,some s =>
   (match o.op,o.dst,ky l s.K o.guard with
   |.call c,some td,some g =>
    (match c.callee,getAll (getOp s.K g) c.args.toList with
    |.value x,some ds =>
     (match getOp s.K g x,pU C CB Γ nt orc orb l fz (l.drop (i+1)) (i+1) { K:=jw ⟨td,i+1,g,.val (.bool b)⟩ (s.K.filter fun e=>D.fK e.d),L:=[],tab:=fV i (.val (.bool b)) s.tab,obl:=s.obl } with
     |some (.val v),some s3=>if td<nt/\D.di ds=true then(match vH s3.K kk with|some K'=>some (v,ds,holds s.tab g,K',s3.obl)|none=>none) else none
     |_,_=>none)
    |_,_=>none)
   |_,_,_=>none)
  |_,_=>none
 else none
section
variable {P:Program} {Γ:Nat->Option TI} {nt:Nat} {F0:Fz} {K:List (Nat×D)} {Q:Exit->Act->World->Prop}
theorem Kz{C:Nat->List D->D->Prop}{CB:Nat->List D->aG->D->aG->Prop}{orc:List (Nat×D)}{orb:List (Nat×CBd)}{l:List Oper}{fz:List (Nat×List Nat)}{i:Nat}{kk:List Nat}{b:Bool}{v:Value}{r:List D×Bool×List (Nat×D)×List Prop}
  (h:evY C CB Γ nt orc orb l fz i K kk b=some (v,r)):l.all ndB=true/\∃o s c td g x s3,l[i]? = some o/\pU C CB Γ nt orc orb l fz (l.take i) 0 (rM K [])=some s/\o.op=.call c/\o.dst=some td/\ky l s.K o.guard=some g/\c.callee=.value x/\getAll (getOp s.K g) c.args.toList=some r.1 /\
   getOp s.K g x=some (.val v)/\pU C CB Γ nt orc orb l fz (l.drop (i+1)) (i+1) { K:=jw ⟨td,i+1,g,.val (.bool b)⟩ (s.K.filter fun e=>D.fK e.d),L:=[],tab:=fV i (.val (.bool b)) s.tab,obl:=s.obl }=some s3/\td<nt/\D.di r.1=true/\vH s3.K kk=some r.2.2.1/\r.2.1=holds s.tab g/\r.2.2.2=s3.obl:=by
 unfold evY at h
 split at h
 rotate_left
 ·cases h
 rename_i hnd
 split at h
 rotate_left
 ·cases h
 rename_i o s ho hs
 split at h
 rotate_left
 ·cases h
 rename_i c td g h1 h2 h3
 split at h
 rotate_left
 ·cases h
 rename_i x ds h4 h5
 split at h
 rotate_left
 ·cases h
 rename_i v' s3 h6 h7
 split at h
 rotate_left
 ·cases h
 rename_i hc
 split at h
 rotate_left
 ·cases h
 rename_i K' hk
 obtain⟨hc1,hc2⟩:=hc
 cases h
 exact⟨hnd,o,s,c,td,g,x,s3,ho,hs,h1,h2,h3,h4,h5,h6,h7,hc1,hc2,hk,rfl,rfl⟩
theorem Wp.M7(hΓ:ΓOK P Γ){wt:World}{hsh:Shp P wt}{id:Nat}{l:List Oper}(i l0:Nat)(fz:List (Nat×List Nat))(orc:List (Nat×D))(orb:List (Nat×CBd))(kk:List Nat){J1:Fz->World->Prop}(hst:tG (fun(_:Unit)=>J1)){J2 Jx:Fz->World->Prop}
  {ds:Bool->List D} {gv:Bool} {K2:Bool->List (Nat×D)} {ob:Bool->List Prop}
  (h:∀b,evY (CX P) (dh P) Γ nt orc orb l fz i K kk b=some (.func (.yield l0) #[] #[],ds b,gv,K2 b,ob b)) (hob:∀b,ai (ob b)) (hfrz:∀g k,F0 g k->g<wt.heap.size) (hJ:J1 F0 wt)
  (hy:gv=true->∀F w args,J1 F w->(∀g k,F g k->g<w.heap.size)->Shp P w->aD F w NB (ds true) args->YieldAt (Fr none) 0 P l0 args.toArray w fun e w'=>∃F',Adv P F w F' w'/\((e=.returned (.bool true)/\J2 F' w')\/(e=.returned (.bool false)/\Jx F' w')))
  (hn:gv=true->∀(b:Bool)(F1:Fz)(w1:World)(hsh1:Shp P w1),(if b=true then J2 F1 w1 else Jx F1 w1)->(∀g k,F1 g k->g<w1.heap.size)->To nt F1 (.top w1 hsh1) (K2 b) [] .normal Q)
  (hf:gv=false->To nt F0 (.top wt hsh) (K2 false) [] .normal Q) :
  Wp P nt F0 (.top wt hsh) K [] (.region id l.toArray false) Q:=by
 rintro a w ⟨B,F,hb,hd,hs,hK⟩
 obtain⟨hnd,o,s,c,td,g,x,s3,ho,hs',hop,hdst,hg,hcal,hds,hx,hs3,htd,hno,hkk,hgv,hobl⟩:=Kz (h true)
 obtain⟨_,o',s',c',td',g',x',s4,ho',hs'',hop',hdst',hg',_,_,_,hs4,_,_,hkk4,_,hobl4⟩:=Kz (h false)
 rw[ho] at ho';cases ho'
 rw[hs'] at hs'';cases hs''
 rw[hdst] at hdst';cases hdst'
 rw[hg] at hg';cases hg'
 simp only at hgv hds hno hkk hkk4 hobl hobl4
 refine XC.nrm (wpIn_region_lit ?_)
 have hil:i<l.length:=(List.getElem?_eq_some_iff.1 ho).1
 have hsplit:l=l.take i++(o::l.drop (i+1)):=by
  have h1:l.drop i=o::l.drop (i+1):=by
   rw[List.drop_eq_getElem_cons hil]
   congr 1
   rw[List.getElem?_eq_getElem hil] at ho
   exact Option.some.inj ho
  rw[<-h1,List.take_append_drop]
 have hndl:=TY hnd
 have hobs:∀p∈s.obl,p:=fun p hp=>ai.mem (hob true) p (by rw[hobl];exact Ar _ _ hs3 p hp)
 have key:wpListIn (Fr none) 0 P l.toArray (nrm Q) (l.take i++(o::l.drop (i+1))) a w:=by
  refine xB (fun o ho=>hndl o (List.mem_of_mem_take ho)) ?_
  have h0:=vZ (Q:=O3 none P l.toArray (nrm Q) (o::l.drop (i+1))) hΓ [] (l.take i) 0 (fun j hj=>?_) hs' hobs (xn hb hd hs hK) fun B' F' a' w' hi=>wpList_nil ?_
  ·rwa[List.append_nil] at h0
  ·have hj':j<i:=by rw[List.length_take] at hj;omega
   rw[Nat.zero_add,List.getElem?_take,if_pos hj']
  ·have hlt:0+(l.take i).length=i:=by rw[List.length_take];omega
   rw[hlt] at hi
   show wpListIn (Fr none) 0 P l.toArray (nrm Q) (o::l.drop (i+1)) a' w'
   unfold wpListIn
   obtain⟨hw,hgS⟩:=KH hi hg (o:=o) rfl
   have hod:((l[i]?).bind (·.dst))=some td:=by rw[ho];exact hdst
   have htab:∀(b:Bool)(j:Nat),j≠i->tv (fV i (.val (.bool b)) s.tab) j=tv s.tab j:=fun b j hj=>A8 hj
   have hself:∀(b b':Bool),D.val (.bool b)=.val (.bool b')->tv (fV i (.val (.bool b)) s.tab) i=b':=fun b b' e=>by cases e;simp[fV,tv]
   by_cases hgt:holds s.tab g=true
   ·rw[if_pos (hw.trans hgt)]
    have hgv':gv=true:=hgv.trans hgt
    have hbel:Below wt.heap.size wt w':=hi.base.below.below
    have hgrow:Grow F' (oJ F0 wt w') w' w':=⟨fun g k hF=>(hi.base.more g k hF).imp (fun h=>h) fun h=>⟨h.resolve_right (fun h=>h),hi.base.frz g k hF⟩,fun _ _ _=>rfl⟩
    have hJ':=hst () _ _ _ hJ hbel
    have hfr':∀g k,oJ F0 wt w' g k->g<w'.heap.size:=fun g k hF=>by
     rcases hF with hF|hF
     ·exact Nat.lt_of_lt_of_le (hfrz g k hF) hbel.size
     ·exact hF.2
    have hget:=bP (g:=g) hi.ents hgt
    have hargs:=gV.all hget _ _ hds
    obtain⟨fnr,tmps,assign,body,hrun,hround⟩:=hy hgv' (oJ F0 wt w') w' _ hJ' hfr' hi.base.shp ((hargs.bare hno).grow hgrow)
    have hv0:a'.eval x=.func (.yield l0) #[] #[]:=by
     have:=hget x _ hx
     generalize a'.eval x=v at this ⊢
     cases this;rfl
    have e1:(o.semAt (Fr none).round a'.eval).run P w'=.ok (.round l0 fnr tmps assign body) w':=by
     rw[Oper.semAt_eq _ _ _ (fun c' hc'=>by rw[hop] at hc';cases hc')]
     have hag:(c.args.map a'.eval)=(c.args.toList.map a'.eval).toArray:=by rw[<-Array.toList_map,Array.toArray_toList]
     unfold execOp
     simp only[hop,resolve,hcal,Deferred.ofValue,hv0,Sem.run_bind,Sem.run_pure,Result.andThen_ok,invoke]
     rw[hag,Array.empty_append]
     exact hrun
    unfold Oper.wpIn
    refine⟨fun _ _=>trivial,?_⟩
    rw[e1]
    refine⟨fun h=>(by cases h),RoundIn.mono hround fun e w2 he=>?_⟩
    obtain⟨F2,hadv,he⟩:=he
    obtain⟨b,rfl,hJb⟩:∃b:Bool,e=.returned (.bool b)/\(if b=true then J2 F2 w2 else Jx F2 w2):=by
     rcases he with⟨h1,h2⟩|⟨h1,h2⟩
     ·exact⟨true,h1,by rw[if_pos rfl];exact h2⟩
     ·exact⟨false,h1,by rw[if_neg (by decide)];exact h2⟩
    show wpListIn (Fr none) 0 P l.toArray (nrm Q) (l.drop (i+1)) (a'.put o.dst (.bool b)) w2
    rw[hdst]
    have hg2:Grow F' F2 w' w2:=hgrow.trans hadv.grow
    have hbase:Base F2 (.top w2 hadv.shp) B' F2 (aU []) w2:=⟨(fun k t ds hl=>by simp[aU] at hl),(fun k t ds b hl=>by simp[aU] at hl),(fun i j b hi=>by obtain⟨t,ds,hx⟩:=hi;simp[aU] at hx),hadv.frz,fun g k h=>.inl h,Grow.refl _ _,iT.refl _ _ _,fun k b h=>by cases h⟩
    have hi2:iD nt l F2 (.top w2 hadv.shp) B' F2 { s with K:=s.K.filter fun e=>D.fK e.d,L:=[] } (fun j=>j<i) a' w2 :=
     ⟨hbase,hi.defers,hi.size,fun e he=>by
      obtain⟨h1,h2⟩:=List.mem_filter.1 he
      obtain⟨q1,q2⟩:=hi.ents e h1
      exact⟨fun hh=>let ⟨v,r1,r2⟩:=q1 hh;⟨v,r1,r2.grow hg2⟩,q2⟩,fun e he=>hi.keys e (List.mem_filter.1 he).1,fun e he=>hi.srcs e (List.mem_filter.1 he).1,fun e he=>hi.pq e (List.mem_filter.1 he).1⟩
    have hi3:=iC (i:=i) (S':=fun j=>j<i+1) hi2 (by simp) (fun j hj=>Nat.lt_succ_of_lt hj) (Nat.lt_succ_self i) (fun e he=>⟨he,hi2.ents e he⟩) hbase (t:=td) (g:=g) (d:=.val (.bool b)) (v:=.bool b) (tab':=fV i (.val (.bool b)) s.tab) (ob:=s.obl) htd hgS (htab b) (hself b) hod ⟨fun _=>.val _ rfl,fun hh=>by rw[show holds s.tab g=true from hgt] at hh;cases hh⟩
    cases b with
    |true=>exact vQ yg (fun o ho=>hndl o (List.mem_of_mem_drop ho)) (uF hΓ (l.drop (i+1)) (i+1) (fun j=>by rw[List.getElem?_drop]) hs3 (by rw[<-hobl];exact ai.mem (hob true)) hi3 fun B'' F'' a'' w'' hi4=>hn hgv' true F2 w2 hadv.shp hJb hadv.frz a'' w'' (vP (kl:=[]) hi4 hkk rfl))
    |false=>exact vQ yg (fun o ho=>hndl o (List.mem_of_mem_drop ho)) (uF hΓ (l.drop (i+1)) (i+1) (fun j=>by rw[List.getElem?_drop]) hs4 (by rw[<-hobl4];exact ai.mem (hob false)) hi3 fun B'' F'' a'' w'' hi4=>hn hgv' false F2 w2 hadv.shp hJb hadv.frz a'' w'' (vP (kl:=[]) hi4 hkk4 rfl))
   ·have hgf:holds s.tab g=false:=by simpa using hgt
    rw[if_neg (by rw[hw,hgf];decide)]
    refine⟨fun _ _=>trivial,?_⟩
    rw[hdst]
    have hi2:iD nt l F0 (.top wt hsh) B' F' { s with K:=s.K.filter fun e=>D.fK e.d,L:=[] } (fun j=>j<i) a' w' :=
     ⟨hi.base.sub (fun _ _ _ h=>by simp[aU] at h),hi.defers,hi.size,fun e he=>hi.ents e (List.mem_filter.1 he).1,fun e he=>hi.keys e (List.mem_filter.1 he).1,fun e he=>hi.srcs e (List.mem_filter.1 he).1,fun e he=>hi.pq e (List.mem_filter.1 he).1⟩
    have hi3:=iC (i:=i) (S':=fun j=>j<i+1) hi2 (by simp) (fun j hj=>Nat.lt_succ_of_lt hj) (Nat.lt_succ_self i) (fun e he=>⟨he,hi2.ents e he⟩) hi2.base (t:=td) (g:=g) (d:=.val (.bool false)) (v:=undef) (tab':=fV i (.val (.bool false)) s.tab) (ob:=s.obl) htd hgS (htab false) (hself false) hod ⟨fun hh=>(by rw[show holds s.tab g=false from hgf] at hh;cases hh),fun _=>rfl⟩
    exact vQ yg (fun o ho=>hndl o (List.mem_of_mem_drop ho)) (uF hΓ (l.drop (i+1)) (i+1) (fun j=>by rw[List.getElem?_drop]) hs4 (by rw[<-hobl4];exact ai.mem (hob false)) hi3 fun B'' F'' a'' w'' hi4=>hf (hgv.trans hgf) a'' w'' (vP (kl:=[]) hi4 hkk4 rfl))
 rw[<-hsplit] at key
 exact key
end
end Go.Proofs.YtpmmhhmhckpnfaaGreat.RX
namespace Go.Proofs.YtpmmhhmhckpnfaaGreat.RX
open Go.RowKit
def cRB:Code->Code|.rangeFunc _ _ _ b=>b|c=>c
section
variable {P:Program} {Γ:Nat->Option TI} {nt:Nat} {F0:Fz} {w0:Pt P} {K:List (Nat×D)} {L:aG} {Q:Exit->Act->World->Prop}
theorem St.restart{F1:Fz}{w1:Pt P}{L L':aG}(k k':Nat)(hlt:k'<1000000)(hf:oZ k' [] L=true)(hL':Om k k' L=L')(a:Act)(w:World)(h:St nt F1 w1 [] L a w):St nt F1 w1 [] L' a w :=
 St.rename (K:=[]) (K':=[]) k k' hlt hf rfl hL' a w h
theorem St.reL{F1:Fz}{w1:Pt P}{L L':aG}(kl:List Nat)(h:jX L kl=some L')(a:Act)(w:World)(hs:St nt F1 w1 [] L a w):St nt F1 w1 [] L' a w:=by
 obtain⟨B,F,hb,h2,h3,_⟩:=hs
 exact⟨B,F,hb.sub fun _ _ _ hm=>lY h _ hm,h2,h3,fun x hx=>by cases hx⟩
def _root_.Go.Proofs.YtpmmhhmhckpnfaaGreat.RX.Pt.out(w1:Pt P):Pt P:={ w1 with rnd:=none }
theorem Wp.xQ{α σ:Type}{t:Nat}{ps:Array Tmp}{assign body:Code}{gf:Nat}{lds:List D}{encs:α->List D}{xs:List α}(c:CBd)(R:List α->σ->Prop)(S:σ->aG)(jump:Option Code)(kb k1:List Nat)(Kb K':List (Nat×D))(L':aG)(s0:σ)(K2:α->σ->List (Nat×D))(L2:α->σ->aG)
  (hro:w0.rnd=none) (hg:K.lookup t=some (.fn gf lds)) (hlds:D.di lds=true) (hseq:N5 P gf lds encs xs)
  (hok:DV c=true) (hLin:found c L=c.Lin.map fun x=>some (x.2.1,D.subs (dB never c.ren) x.2.2)) (hno:∀s,qa (S s)=true) (hnoL:qa c.iN=true) (hA:uX c L=L') (hnoA:qa L'=true)
  (hR0:R xs s0) (hS0:∀(F':Fz)(w1:Pt P)(a:Act)(w:World),St nt F' w1 [] c.Lin a w->St nt F' w1 [] (S s0) a w) (hps:∀x,(encs x).length=ps.toList.length) (hnd:ps.toList.Nodup) (hpt:∀p∈ps.toList,p<nt) (hne:∀x,D.di (encs x)=true)
  (hKb:qc K kb=some (Kb.map fun x=>(x.1,D.sub (dB never c.ren) x.2))) (hKb2:(Kb.all fun x=>!(ps.toList.contains x.1)&&Uj (c.Lin.map (·.1)) x.2)=true)
  (hno2:∀x s,qa (L2 x s)=true)
  (hend:∀s,R [] s->jump=none/\S s=c.iN)
  (hK':qc K k1=some K') (hK2:(K'.all fun x=>(fh c).all fun k=>!(D.names k x.2))=true)
  (hass:∀x r s,R (x::r) s->∀(F':Fz)(w1:Pt P),Wp P nt F' w1 (Kb++ps.toList.zip (encs x)) (S s) assign (NK nt F' w1 (K2 x s) (L2 x s)))
  (hbody:∀x r s,R (x::r) s->∀(F':Fz)(w1:Pt P),Wp P nt F' w1 (K2 x s) (L2 x s) body (ny F' w1 (R r) S jump c.iN))
  (hn:∀(F1:Fz)(w1:Pt P),After F0 w0 F1 w1.out->Behind nt F1 w1.out K' L' Q jump) :
  Wp P nt F0 w0 K L (.rangeFunc (.tmp t) ps assign body) Q:=by
 subst hA
 refine Wp.rangeFunc (Kb:=Kb) (K':=K') c R S jump hro hg hlds hseq hok hLin hno hnoL hnoA s0 hR0 hS0 hps hnd hpt hne (fun x hx=>⟨ve hKb _ (List.mem_map.2 ⟨x,hx,rfl⟩),?_⟩) K2 L2 hno2 hass hbody hend (fun x hx=>⟨ve hK' x hx,fun k hk=>?_⟩) (fun F1 w1 hA=>?_)
 ·have h:=List.all_eq_true.1 hKb2 x hx
  simp only[Bool.and_eq_true,Bool.not_eq_true'] at h
  exact⟨fun hm=>(by rw[List.contains_iff_mem.2 hm] at h;cases h.1),h.2⟩
 ·have h:=List.all_eq_true.1 (List.all_eq_true.1 hK2 x hx) k (List.contains_iff_mem.1 hk)
  simpa using h
 ·have e:w1.out=w1:=by
   have h1:=hA.rnd
   cases w1
   simp only at h1
   subst h1
   rfl
  have h2:=hn F1 w1 (by rw[e];exact hA)
  rwa[e] at h2
end
end Go.Proofs.YtpmmhhmhckpnfaaGreat.RX
namespace Go.Proofs.YtpmmhhmhckpnfaaGreat.RX
open Go.RowKit
section
variable {P:Program} {F:Fz} {w:World} {B:Env}
variable {f:Nat} {a b c:Bs}
end
end Go.Proofs.YtpmmhhmhckpnfaaGreat.RX
namespace Go.Proofs
open Go.Shelf
def Tryz.L6:Go.Shelf.Ren:=⟨fun|190=>58|125=>68|258=>67|128=>86|129=>87|302=>77|303=>78|304=>79|305=>80|306=>81|307=>82|308=>83|309=>84|310=>85|333=>107|329=>108|330=>109|334=>110|335=>111|336=>112|344=>128|n=>n,fun|31=>22|9=>9|3=>3|46=>80|0=>0|51=>91|53=>93|4=>4|183=>83|182=>82|131=>88|5=>5|218=>114|222=>118|228=>133|229=>134|n=>n,fun|n=>n⟩
theorem Tryz.NL:Go.Proofs.Lays.n190 Tryz.prog Tryz.L6:={
 mixed:=by kernel_rfl
 f125:=Tryz.func68.trans (congrArg some (by kernel_rfl))
 f128:=Tryz.func86.trans (congrArg some (by kernel_rfl))
 f129:=Tryz.func87.trans (congrArg some (by kernel_rfl))
 f190:=Tryz.func58.trans (congrArg some (by kernel_rfl))
 f258:=Tryz.func67.trans (congrArg some (by kernel_rfl))
 f302:=Tryz.func77.trans (congrArg some (by kernel_rfl))
 f303:=Tryz.func78.trans (congrArg some (by kernel_rfl))
 f304:=Tryz.func79.trans (congrArg some (by kernel_rfl))
 f305:=Tryz.func80.trans (congrArg some (by kernel_rfl))
 f306:=Tryz.func81.trans (congrArg some (by kernel_rfl))
 f307:=Tryz.func82.trans (congrArg some (by kernel_rfl))
 f308:=Tryz.func83.trans (congrArg some (by kernel_rfl))
 f309:=Tryz.func84.trans (congrArg some (by kernel_rfl))
 f310:=Tryz.func85.trans (congrArg some (by kernel_rfl))
 f329:=Tryz.func108.trans (congrArg some (by kernel_rfl))
 f330:=Tryz.func109.trans (congrArg some (by kernel_rfl))
 f333:=Tryz.func107.trans (congrArg some (by kernel_rfl))
 f334:=Tryz.func110.trans (congrArg some (by kernel_rfl))
 f335:=Tryz.func111.trans (congrArg some (by kernel_rfl))
 f336:=Tryz.func112.trans (congrArg some (by kernel_rfl))
 f344:=Tryz.func128.trans (congrArg some (by kernel_rfl))
 t0:=Tryz.underlying0
 a0:=Tryz.isAgg0
 z0:=Tryz.sizeOf0
 v0:=Tryz.zeroValue0
 t3:=Tryz.underlying3
 a3:=Tryz.isAgg3
 z3:=Tryz.sizeOf3
 v3:=Tryz.zeroValue3
 t4:=Tryz.underlying4
 a4:=Tryz.isAgg4
 z4:=Tryz.sizeOf4
 v4:=Tryz.zeroValue4
 t5:=Tryz.underlying5
 a5:=Tryz.isAgg5
 z5:=Tryz.sizeOf5
 v5:=Tryz.zeroValue5
 t9:=Tryz.underlying9
 a9:=Tryz.isAgg9
 z9:=Tryz.sizeOf9
 v9:=Tryz.zeroValue9
 t31:=Tryz.underlying22
 a31:=Tryz.isAgg22
 z31:=Tryz.sizeOf22
 v31:=Tryz.zeroValue22
 t46:=Tryz.underlying80
 a46:=Tryz.isAgg80
 z46:=Tryz.sizeOf80
 v46:=Tryz.zeroValue80
 t51:=Tryz.underlying91
 a51:=Tryz.isAgg91
 z51:=Tryz.sizeOf91
 v51:=Tryz.zeroValue91
 t53:=Tryz.underlying93
 a53:=Tryz.isAgg93
 z53:=Tryz.sizeOf93
 v53:=Tryz.zeroValue93
 t131:=Tryz.underlying88
 a131:=Tryz.isAgg88
 z131:=Tryz.sizeOf88
 v131:=Tryz.zeroValue88
 t182:=Tryz.underlying82
 a182:=Tryz.isAgg82
 z182:=Tryz.sizeOf82
 v182:=Tryz.zeroValue82
 t183:=Tryz.underlying83
 a183:=Tryz.isAgg83
 z183:=Tryz.sizeOf83
 v183:=Tryz.zeroValue83
 t218:=Tryz.underlying114
 a218:=Tryz.isAgg114
 z218:=Tryz.sizeOf114
 v218:=Tryz.zeroValue114
 t222:=Tryz.underlying118
 a222:=Tryz.isAgg118
 z222:=Tryz.sizeOf118
 v222:=Tryz.zeroValue118
 t228:=Tryz.underlying133
 a228:=Tryz.isAgg133
 z228:=Tryz.sizeOf133
 v228:=Tryz.zeroValue133
 t229:=Tryz.underlying134
 a229:=Tryz.isAgg134
 z229:=Tryz.sizeOf134
 v229:=Tryz.zeroValue134 }
open Go.Sort Go.RowKit in
theorem Tryz.slices_Sort_string(blk off cap:Nat)(ss:List (List UInt8))(w:World)(hH:Holds encStr w blk off ss.toArray)(hblk:blk<w.heap.size)(hsz:ss.length<4611686018427387904) :
  Calls Tryz.prog 58 #[.slice (some ⟨blk,off,none⟩) ss.length cap] w fun e w' =>
   e=.returned (.tuple #[])/\∃n os,w'=grow (putRow encStr (Sort.ahead w n) blk off (ss.mergeSort fun x y=>decide (x<=y)).toArray) os:=Any.slices_Sort_string Tryz.NL blk off cap ss w hH hblk hsz
open Go.RowKit Go.Sort in
theorem Tryz.slices_Sort_string_none(p:Option Addr)(cap:Nat)(w:World) :
  Calls Tryz.prog 58 #[.slice p 0 cap] w fun e w'=>e=.returned (.tuple #[])/\w'=w:=Any.slices_Sort_string_none Tryz.NL p cap w
def Tryz.MG:Go.Shelf.Ren:=⟨fun|194=>59|n=>n,fun|31=>22|9=>9|3=>3|4=>4|0=>0|n=>n,fun|n=>n⟩
theorem Tryz.Nc:Go.Proofs.Lays.n194 Tryz.prog Tryz.MG:={
 mixed:=by kernel_rfl
 f194:=Tryz.func59.trans (congrArg some (by kernel_rfl))
 t0:=Tryz.underlying0
 a0:=Tryz.isAgg0
 z0:=Tryz.sizeOf0
 v0:=Tryz.zeroValue0
 t3:=Tryz.underlying3
 a3:=Tryz.isAgg3
 z3:=Tryz.sizeOf3
 v3:=Tryz.zeroValue3
 t4:=Tryz.underlying4
 a4:=Tryz.isAgg4
 z4:=Tryz.sizeOf4
 v4:=Tryz.zeroValue4
 t9:=Tryz.underlying9
 a9:=Tryz.isAgg9
 z9:=Tryz.sizeOf9
 v9:=Tryz.zeroValue9
 t31:=Tryz.underlying22
 a31:=Tryz.isAgg22
 z31:=Tryz.sizeOf22
 v31:=Tryz.zeroValue22 }
open Go.RowKit Go.Lib Go.Sort in
theorem Tryz.slices_Compact_string(blk off cap:Nat)(zs:List (List UInt8))(w:World)(hH:Holds encStr w blk off zs.toArray)(hsz:zs.length<=9223372036854775807)(hcap:zs.length<=cap) :
  Calls Tryz.prog 59 #[.slice (some ⟨blk,off,none⟩) zs.length cap] w fun e w'=>e=.returned (.slice (some ⟨blk,off,none⟩) (Lib.compact zs).length cap)/\∃q,w'=putRow encStr (Sort.ahead w q) blk off (Lib.compact zs++List.replicate (zs.length-(Lib.compact zs).length) []).toArray:=Any.slices_Compact_string Tryz.Nc blk off cap zs w hH hsz hcap
open Go.RowKit Go.Lib Go.Sort in
theorem Tryz.slices_Compact_string_empty(a:Option Addr)(cap:Nat)(w:World) :
  Calls Tryz.prog 59 #[.slice a 0 cap] w fun e w'=>e=.returned (.slice a 0 cap)/\w'=w:=Any.slices_Compact_string_empty Tryz.Nc a cap w
def Tryz.LQ:Go.Shelf.Ren:=⟨fun|4=>65|n=>n,fun|22=>22|25=>9|3=>3|4=>4|9=>9|20=>20|0=>0|n=>n,fun|n=>n⟩
theorem Tryz.NG:Go.Proofs.Lays8.n4 Tryz.prog Tryz.LQ:={
 mixed:=by kernel_rfl
 f4:=⟨Tryz.f65.name,by decide,Tryz.func65.trans (congrArg some (by kernel_rfl))⟩
 t0:=Tryz.underlying0
 a0:=Tryz.isAgg0
 z0:=Tryz.sizeOf0
 v0:=Tryz.zeroValue0
 t3:=Tryz.underlying3
 a3:=Tryz.isAgg3
 z3:=Tryz.sizeOf3
 v3:=Tryz.zeroValue3
 t4:=Tryz.underlying4
 a4:=Tryz.isAgg4
 z4:=Tryz.sizeOf4
 v4:=Tryz.zeroValue4
 t9:=Tryz.underlying9
 a9:=Tryz.isAgg9
 z9:=Tryz.sizeOf9
 v9:=Tryz.zeroValue9
 t20:=Tryz.underlying20
 a20:=Tryz.isAgg20
 z20:=Tryz.sizeOf20
 v20:=Tryz.zeroValue20
 t22:=Tryz.underlying22
 a22:=Tryz.isAgg22
 z22:=Tryz.sizeOf22
 v22:=Tryz.zeroValue22 }
def Tryz.M3:Go.Shelf.Ren:=⟨fun|4=>66|n=>n,fun|22=>23|25=>25|3=>3|4=>4|9=>9|20=>20|0=>0|n=>n,fun|n=>n⟩
theorem Tryz.M8:Go.Proofs.Lays8.n4 Tryz.prog Tryz.M3:={
 mixed:=by kernel_rfl
 f4:=⟨Tryz.f66.name,by decide,Tryz.func66.trans (congrArg some (by kernel_rfl))⟩
 t0:=Tryz.underlying0
 a0:=Tryz.isAgg0
 z0:=Tryz.sizeOf0
 v0:=Tryz.zeroValue0
 t3:=Tryz.underlying3
 a3:=Tryz.isAgg3
 z3:=Tryz.sizeOf3
 v3:=Tryz.zeroValue3
 t4:=Tryz.underlying4
 a4:=Tryz.isAgg4
 z4:=Tryz.sizeOf4
 v4:=Tryz.zeroValue4
 t9:=Tryz.underlying9
 a9:=Tryz.isAgg9
 z9:=Tryz.sizeOf9
 v9:=Tryz.zeroValue9
 t20:=Tryz.underlying20
 a20:=Tryz.isAgg20
 z20:=Tryz.sizeOf20
 v20:=Tryz.zeroValue20
 t22:=Tryz.underlying23
 a22:=Tryz.isAgg23
 z22:=Tryz.sizeOf23
 v22:=Tryz.zeroValue23 }
end Go.Proofs
namespace Go.Proofs.YtpmmhhmhckpnfaaGreat.M.Sh
open Go.RowKit Go.Proofs.YtpmmhhmhckpnfaaGreat.RX
abbrev sort:=kT
theorem Us{l:List (List UInt8)}(h:decide (List.length l*17<=limit)=true):dh Tryz.prog 58 [.row 1000000] [(1000000,9,[.aX false (α:=List UInt8) [] RX.encS l])] (.tup []) [(1000000,9,[.aX false (α:=List UInt8) [] RX.encS (sort l)])]:=M4 ⟨Tryz.f58,by kernel_rfl,by kernel_rfl,by kernel_rfl⟩ Tryz.slices_Sort_string Tryz.slices_Sort_string_none h
theorem P4{l:List (List UInt8)}(h:decide (List.length l*17<=limit)=true):dh Tryz.prog 59 [.row 1000000] [(1000000,9,[.aX false (α:=List UInt8) [] RX.encS l])] (.recs (α:=List UInt8) [] RX.encS (Lib.compact l)) []:=H6 ⟨Tryz.f59,by kernel_rfl,by kernel_rfl,by kernel_rfl⟩ Tryz.slices_Compact_string Tryz.slices_Compact_string_empty (Lib.compact_length_le l) h
theorem TS{x:Int}(h:decide (0<=x/\x*17<=(limit:Int))=true):dh Tryz.prog 65 [.val (.slice none 0 0),.val (.int .i64 x)] [] (.row 1) [(1,9,[.aX false (α:=List UInt8) [] RX.encS []])]:=Aj (size:=1) (bytes:=16) ⟨Tryz.f65,by kernel_rfl,by kernel_rfl,by kernel_rfl⟩ ⟨Nat.zero_lt_one,fun _=>⟨rfl,rfl⟩⟩ (by kernel_rfl) rfl
 (fun w=>Any8.slices_Grow_room Tryz.NG none 0 0 0 w (by decide) (by decide) (by decide) (by decide))
 (fun i z hi hz hs n w h1 h2 h3=>by
  have h:=Any8.slices_Grow_grow Tryz.NG i z hi hz hs none 0 0 n [] w (Nat.le_refl _) (by omega) (by simpa using h2) (by simpa using h3) (by simp) (fun _=>rfl) (fun a h=>by cases h)
  simp only[Nat.zero_add,Nat.sub_zero] at h
  exact h) h
end Go.Proofs.YtpmmhhmhckpnfaaGreat.M.Sh
