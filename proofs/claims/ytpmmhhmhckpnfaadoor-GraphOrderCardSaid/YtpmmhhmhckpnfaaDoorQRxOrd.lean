import Derived.Test.YtpmmhhmhckpnfaaDoorQRxAnyB
import Derived.ChangeKeysEq
import Derived.Sort.OwnSorted
import Derived.Shelf.Vars
import Derived.Shelf.Slices.CompactS
import Derived.Shelf.Spec.SlicesGrow
import Derived.Sort.KeysCollected
import Derived.CallsIn
import Derived.Recover
import Derived.RangeFuncSeq
import Derived.WalkSmall
import Derived.Lib.Bytealg
import Derived.Lib.IndexMore
import Derived.Lib.SplitLaws
import Derived.Lib.Join
import Derived.Lib.Repeat
import Derived.Lib.Replace
import Derived.Lib.TrimByte
import Derived.Lib.RowBridge
import Derived.Shelf.Small.Bits
import Derived.Shelf.Small.Strs
import Derived.Shelf.Strconv.Itoa0
import Derived.Shelf.Strings.Search1
import Derived.Shelf.Strings.Search2
import Derived.Shelf.Strings.Search3
import Derived.Shelf.LaysM
import Derived.Shelf.Strings.Shaped
import Derived.Shelf.Sort.Plain
import Derived.Shelf.Unicode.Decode
import Derived.Shelf.Unicode.DecodeSlow
import Derived.Shelf.Unicode.DecodeAny
import Derived.Shelf.Slices.Turned
import Derived.Shelf.Slices.Cells
import Derived.Shelf.Slices.In.SortNone
import Derived.Test.YtpmmhhmhckpnfaaDoorProg
set_option linter.all false
namespace Go.Proofs.YtpmmhhmhckpnfaaDoor.RX
open Go.RowKit
def rdy(ops:List Oper)(m i:Nat):Bool:=!(m.testBit i)&&(match ops[i]? with|some o=>(onL o).all fun j=>m.testBit j|none=>false)
def BX(o:Oper):Bool:=match o.op,o.guard,o.dst with|.move _,none,some _=>true|_,_,_=>false
def EK(ops:List Oper)(m i:Nat):Bool :=
 match ops[i]? with
 |some oi=>(List.range ops.length).all fun j=>j==i||m.testBit j||match ops[j]? with|some oj=>(onL oj).contains i||oi.apart ops.toArray oj|none=>true
 |none=>false
def qm(ops:List Oper)(m:Nat):Option Nat:=(List.range ops.length).find? fun i=>(match ops[i]? with|some o=>BX o|none=>false)&&(rdy ops m i&&EK ops m i)
def mV(slots keys:List Nat)(n:Nat)(s:ES):ES :=
 { K:=slots.filterMap (ju s.K),L:=keys.filterMap fun k=>(s.L.lookup k).map fun x=>(k,x),tab:=(List.range n).filterMap fun j=>(s.tab.lookup j).map fun b=>(j,b),obl:=[] }
structure OA where
 lv:List (Nat×ES)
 ps:List (ES×ES)
 ob:List (Nat×List Prop)
 os:List (List Prop×List Prop)
def sM(m:Nat)(s:ES)(A:OA):OA:=match A.lv.lookup m with|some s'=>{ A with ps:=(s,s')::A.ps }|none=>{ A with lv:=A.lv++[(m,s)] }
def wK(i:Nat)(o:List Prop)(A:OA):OA:=match A.ob.lookup i with|some o'=>{ A with os:=(o,o')::A.os }|none=>{ A with ob:=A.ob++[(i,o)] }
section
variable (C:Nat->List D->D->Prop) (CB:Nat->List D->ay->D->ay->Prop) (Γ:Nat->Option TI) (nt:Nat) (orc:List (Nat×D)) (orb:List (Nat×CBd)) (ops:List Oper) (fz:List (Nat×List Nat)) (slots keys:List Nat)
def AZ(i:Nat)(s:ES):Option ES:=match ops[i]? with|some o=>oa C CB Γ nt orc orb ops i o (jA fz i { s with obl:=[] })|none=>none
def nL(m:Nat)(s:ES):List Nat->OA->Option OA
 |[],A=>some A
 |i::is,A =>
  match rdy ops m i with
  |true=>match AZ C CB Γ nt orc orb ops fz i s with|some s'=>nL m s is (wK i s'.obl (sM (m ||| 1 <<< i) (mV slots keys ops.length s') A))|none=>none
  |false=>nL m s is A
def expand:List (Nat×ES)->OA->Option OA
 |[],A=>some A
 |x::rest,A=>match nL C CB Γ nt orc orb ops fz slots keys x.1 x.2 (match qm ops x.1 with|some i=>[i]|none=>List.range ops.length) A with|some A'=>expand rest A'|none=>none
def levels:Nat->OA->Option OA
 |0,A=>some A
 |r+1,A=>match expand C CB Γ nt orc orb ops fz slots keys A.lv { A with lv:=[] } with|some A'=>levels r A'|none=>none
def Aa(K:List (Nat×D))(L:ay):OA:={ lv:=[(0,mV slots keys ops.length (ky K L))],ps:=[],ob:=[],os:=[] }
def ER(n:Nat)(ob:List (Nat×List Prop)):List Prop:=(List.range n).flatMap fun i=>(ob.lookup i).getD []
def ndB(o:Oper):Bool:=match o.op with|.defer _=>false|_=>true
def vP(K:List (Nat×D))(L:ay):Option OA :=
 if qG ops&&Region.noSelect ops.toArray&&ops.all ndB then levels C CB Γ nt orc orb ops fz slots keys ops.length (Aa ops slots keys K L) else none
def B5(kk kl:List Nat):Option OA->Option (List (Nat×D)×ay×List Prop)
 |some A=>match A.lv with|[(_,s)]=>(match nc s.K kk,iD s.L kl with|some K',some L'=>some (K',L',ER ops.length A.ob)|_,_=>none)|_=>none
 |none=>none
end
def FX:Option OA->List ES×List (List Prop)
 |some A=>(A.ps.map (·.1),A.os.map (·.1))
 |none=>([],[])
def Gw:Option OA->List ES×List (List Prop)
 |some A=>(A.ps.map (·.2),A.os.map (·.2))
 |none=>([],[])
theorem vS{α:Type 1}:∀{l:List (α×α)},l.map (·.1)=l.map (·.2)->∀p∈l,p.1=p.2
 |[],_,p,hp=>by simp at hp
 |q::l,h,p,hp=>by
  simp only[List.map_cons,List.cons.injEq] at h
  rcases List.mem_cons.1 hp with rfl|hp
  ·exact h.1
  ·exact vS h.2 p hp
theorem uu{α:Type}:∀{l:List (α×α)},l.map (·.1)=l.map (·.2)->∀p∈l,p.1=p.2
 |[],_,p,hp=>by simp at hp
 |q::l,h,p,hp=>by
  simp only[List.map_cons,List.cons.injEq] at h
  rcases List.mem_cons.1 hp with rfl|hp
  ·exact h.1
  ·exact uu h.2 p hp
theorem vF{β:Type 1}:∀{l:List (Nat×β)}{m:Nat}{s:β}{r:List (Nat×β)},l.lookup m=some s->(l++r).lookup m=some s
 |[],m,s,r,h=>by simp at h
 |(k,x)::l,m,s,r,h=>by
  rw[List.cons_append,List.lookup_cons]
  rw[List.lookup_cons] at h
  split
  ·rename_i he;rw[he] at h;exact h
  ·rename_i he;rw[he] at h;exact vF h
theorem uK{β:Type 1}:∀{l:List (Nat×β)}{m:Nat}{s:β},l.lookup m=none->(l++[(m,s)]).lookup m=some s
 |[],m,s,_=>by simp
 |(k,x)::l,m,s,h=>by
  rw[List.cons_append,List.lookup_cons]
  rw[List.lookup_cons] at h
  split
  ·rename_i he;rw[he] at h;cases h
  ·rename_i he;rw[he] at h;exact uK h
theorem uq{β:Type}:∀{l:List (Nat×β)}{m:Nat}{s:β}{r:List (Nat×β)},l.lookup m=some s->(l++r).lookup m=some s
 |[],m,s,r,h=>by simp at h
 |(k,x)::l,m,s,r,h=>by
  rw[List.cons_append,List.lookup_cons]
  rw[List.lookup_cons] at h
  split
  ·rename_i he;rw[he] at h;exact h
  ·rename_i he;rw[he] at h;exact uq h
theorem rN{β:Type}:∀{l:List (Nat×β)}{m:Nat}{s:β},l.lookup m=none->(l++[(m,s)]).lookup m=some s
 |[],m,s,_=>by simp
 |(k,x)::l,m,s,h=>by
  rw[List.cons_append,List.lookup_cons]
  rw[List.lookup_cons] at h
  split
  ·rename_i he;rw[he] at h;cases h
  ·rename_i he;rw[he] at h;exact rN h
structure mQ(A A':OA):Prop where
 lv:∀m s,A.lv.lookup m=some s->A'.lv.lookup m=some s
 ob:∀i o,A.ob.lookup i=some o->A'.ob.lookup i=some o
 ps:∀p∈A.ps,p∈A'.ps
 os:∀p∈A.os,p∈A'.os
theorem mQ.refl(A:OA):mQ A A:=⟨fun _ _ h=>h,fun _ _ h=>h,fun _ h=>h,fun _ h=>h⟩
theorem mQ.trans{A B C:OA}(h:mQ A B)(h':mQ B C):mQ A C:=⟨fun m s x=>h'.lv m s (h.lv m s x),fun i o x=>h'.ob i o (h.ob i o x),fun p x=>h'.ps p (h.ps p x),fun p x=>h'.os p (h.os p x)⟩
theorem BN(m:Nat)(s:ES)(A:OA):mQ A (sM m s A):=by
 unfold sM
 split
 ·exact⟨fun _ _ h=>h,fun _ _ h=>h,fun _ h=>List.mem_cons_of_mem _ h,fun _ h=>h⟩
 ·exact⟨fun _ _ h=>vF h,fun _ _ h=>h,fun _ h=>h,fun _ h=>h⟩
theorem Du(i:Nat)(o:List Prop)(A:OA):mQ A (wK i o A):=by
 unfold wK
 split
 ·exact⟨fun _ _ h=>h,fun _ _ h=>h,fun _ h=>h,fun _ h=>List.mem_cons_of_mem _ h⟩
 ·exact⟨fun _ _ h=>h,fun _ _ h=>uq h,fun _ h=>h,fun _ h=>h⟩
theorem Ej(m:Nat)(s:ES)(A:OA){A':OA}(h:mQ (sM m s A) A')(hp:∀p∈A'.ps,p.1=p.2):A'.lv.lookup m=some s:=by
 unfold sM at h
 split at h
 ·rename_i s' hs
  have:=hp _ (h.ps _ List.mem_cons_self)
  simp only at this
  rw[this];exact h.lv m s' hs
 ·rename_i hs
  exact h.lv m s (uK hs)
theorem DW(i:Nat)(o:List Prop)(A:OA){A':OA}(h:mQ (wK i o A) A')(hp:∀p∈A'.os,p.1=p.2):A'.ob.lookup i=some o:=by
 unfold wK at h
 split at h
 ·rename_i o' ho
  have:=hp _ (h.os _ List.mem_cons_self)
  simp only at this
  rw[this];exact h.ob i o' ho
 ·rename_i ho
  exact h.ob i o (rN ho)
section
variable {C:Nat->List D->D->Prop} {CB:Nat->List D->ay->D->ay->Prop} {P:Program} {F0:Fz} {w0:Pt P} {B:Env} {F:Fz} {w:World} {a:Act} {Q:Exit->Act->World->Prop} {Γ:Nat->Option TI} {nt:Nat} {ops:List Oper} {orc:List (Nat×D)} {orb:List (Nat×CBd)} {fz:List (Nat×List Nat)} {slots keys:List Nat}
def Next(C:Nat->List D->D->Prop)(CB:Nat->List D->ay->D->ay->Prop)(Γ:Nat->Option TI)(nt:Nat)(orc:List (Nat×D))(orb:List (Nat×CBd))(ops:List Oper)(fz:List (Nat×List Nat))(slots keys:List Nat)(m:Nat)(s:ES)(i:Nat)(lv:List (Nat×ES))(ob:List (Nat×List Prop)):Prop :=
 ∃s',AZ C CB Γ nt orc orb ops fz i s=some s'/\lv.lookup (m ||| 1 <<< i)=some (mV slots keys ops.length s')/\ob.lookup i=some s'.obl
theorem qQ{m:Nat}{s:ES}:∀{is:List Nat}{A A':OA},nL C CB Γ nt orc orb ops fz slots keys m s is A=some A' ->
  mQ A A'/\∀A'',mQ A' A''->(∀p∈A''.ps,p.1=p.2)->(∀p∈A''.os,p.1=p.2)->∀i∈is,rdy ops m i=true->Next C CB Γ nt orc orb ops fz slots keys m s i A''.lv A''.ob
 |[],A,A',h=>by cases h;exact⟨.refl _,fun _ _ _ _ i hi=>by simp at hi⟩
 |i::is,A,A',h=>by
  unfold nL at h
  split at h
  ·rename_i hr
   split at h
   ·rename_i s' hs
    obtain⟨h1,h2⟩:=qQ h
    have hm1:=BN (m ||| 1 <<< i) (mV slots keys ops.length s') A
    have hm2:=Du i s'.obl (sM (m ||| 1 <<< i) (mV slots keys ops.length s') A)
    refine⟨hm1.trans (hm2.trans h1),fun A'' hA hp ho j hj hrj=>?_⟩
    rcases List.mem_cons.1 hj with rfl|hj
    ·exact⟨s',hs,Ej _ _ A (hm2.trans (h1.trans hA)) hp,DW _ _ _ (h1.trans hA) ho⟩
    ·exact h2 A'' hA hp ho j hj hrj
   ·cases h
  ·rename_i hr
   obtain⟨h1,h2⟩:=qQ h
   refine⟨h1,fun A'' hA hp ho j hj hrj=>?_⟩
   rcases List.mem_cons.1 hj with rfl|hj
   ·rw[hr] at hrj;cases hrj
   ·exact h2 A'' hA hp ho j hj hrj
theorem rW:∀{lv:List (Nat×ES)}{A A':OA},expand C CB Γ nt orc orb ops fz slots keys lv A=some A' ->
  mQ A A'/\∀A'',mQ A' A''->(∀p∈A''.ps,p.1=p.2)->(∀p∈A''.os,p.1=p.2)->∀x∈lv,∀i,i<ops.length->rdy ops x.1 i=true->(qm ops x.1=none\/qm ops x.1=some i)->Next C CB Γ nt orc orb ops fz slots keys x.1 x.2 i A''.lv A''.ob
 |[],A,A',h=>by cases h;exact⟨.refl _,fun _ _ _ _ x hx=>by simp at hx⟩
 |x::lv,A,A',h=>by
  unfold expand at h
  split at h
  ·rename_i A1 hA1
   obtain⟨h1,h2⟩:=qQ hA1
   obtain⟨h3,h4⟩:=rW h
   refine⟨h1.trans h3,fun A'' hA hp ho y hy i hi hr ht=>?_⟩
   rcases List.mem_cons.1 hy with rfl|hy
   ·refine h2 A'' (h3.trans hA) hp ho i ?_ hr
    rcases ht with ht|ht
    ·rw[ht];exact List.mem_range.2 hi
    ·rw[ht];exact List.mem_singleton.2 rfl
   ·exact h4 A'' hA hp ho y hy i hi hr ht
  ·cases h
structure GX(A A':OA):Prop where
 ob:∀i o,A.ob.lookup i=some o->A'.ob.lookup i=some o
 ps:∀p∈A.ps,p∈A'.ps
 os:∀p∈A.os,p∈A'.os
theorem uA:∀{r:Nat}{A A':OA},levels C CB Γ nt orc orb ops fz slots keys r A=some A'->GX A A'
 |0,A,A',h=>by cases h;exact⟨fun _ _ h=>h,fun _ h=>h,fun _ h=>h⟩
 |r+1,A,A',h=>by
  unfold levels at h
  split at h
  ·rename_i A1 hA1
   have h1:=(rW hA1).1
   have h2:=uA h
   exact⟨fun i o x=>h2.ob i o (h1.ob i o x),fun p x=>h2.ps p (h1.ps p x),fun p x=>h2.os p (h1.os p x)⟩
  ·cases h
theorem sR(f:Nat->Option Bool)(j:Nat):∀l:List Nat,(l.filterMap fun j=>(f j).map fun b=>(j,b)).lookup j=if j∈l then f j else none
 |[]=>by simp
 |k::l=>by
  rw[List.filterMap_cons]
  cases hf:f k with
  |none =>
   simp only[Option.map_none]
   rw[sR f j l]
   by_cases hjk:j=k
   ·subst hjk
    rw[hf];simp
   ·simp[hjk]
  |some b =>
   simp only[Option.map_some,List.lookup_cons]
   by_cases hjk:j=k
   ·subst hjk;simp[hf]
   ·have:(j==k)=false:=by simpa using hjk
    rw[this]
    simp only
    rw[sR f j l]
    simp[hjk]
theorem Ab{tab:List (Nat×Bool)}{n j:Nat}(h:j<n):tv ((List.range n).filterMap fun j=>(tab.lookup j).map fun b=>(j,b)) j=tv tab j:=by
 unfold tv
 rw[sR (fun j=>tab.lookup j),if_pos (List.mem_range.2 h)]
theorem zd{s:ES}{S:Nat->Prop}(hi:ft nt ops F0 w0 B F s S a w){n:Nat}(hn:∀j,S j->j<n):ft nt ops F0 w0 B F (mV slots keys n s) S a w:=by
 have hmem:∀e∈(mV slots keys n s).K,e∈s.K:=by
  intro e he
  obtain⟨t,_,h⟩:=List.mem_filterMap.1 he
  exact(jV h).1
 refine⟨hi.base.sub fun k t ds h=>?_,hi.defers,hi.size,fun e he=>(hi.ents e (hmem e he)).tab fun x hx=>Ab (hn _ (hi.keys e (hmem e he) x hx)),fun e he=>hi.keys e (hmem e he),fun e he=>hi.srcs e (hmem e he),fun e he j hj=>?_⟩
 ·obtain⟨k',_,hk⟩:=List.mem_filterMap.1 h
  cases hl:s.L.lookup k' with
  |none=>rw[hl] at hk;cases hk
  |some x =>
   rw[hl] at hk
   cases hk
   exact aB hl
 ·obtain⟨h1,h2⟩:=hi.kF e (hmem e he) j hj
  refine⟨h1,fun b hb=>?_⟩
  have hsj:S j:=by
   have:=hi.srcs e (hmem e he)
   rw[hj] at this
   simpa using this
  rw[<-h2 b hb]
  exact Ab (hn j hsj)
theorem FC{s:ES}{S:Nat->Prop}(hi:ft nt ops F0 w0 B F s S a w)(o:List Prop):ft nt ops F0 w0 B F { s with obl:=o } S a w:=⟨hi.base,hi.defers,hi.size,hi.ents,hi.keys,hi.srcs,hi.kF⟩
theorem uz:∀{l:List Nat}{i:Nat}{p p':Nat->Bool},l.Nodup->i∈l->p i=true->p' i=false->(∀j,j≠i->p' j=p j)->(l.filter p').length+1=(l.filter p).length
 |[],i,p,p',_,h,_,_,_=>by simp at h
 |x::l,i,p,p',hn,h,h1,h2,h3=>by
  have hn':=List.nodup_cons.1 hn
  by_cases hx:x=i
  ·subst hx
   have he:l.filter p'=l.filter p:=List.filter_congr fun j hj=>h3 j fun e=>hn'.1 (e▸hj)
   rw[List.filter_cons,List.filter_cons,h1,h2,he]
   simp
  ·have ih:=uz hn'.2 ((List.mem_cons.1 h).resolve_left fun e=>hx e.symm) h1 h2 h3
   rw[List.filter_cons,List.filter_cons,h3 x hx]
   split
   ·rw[List.length_cons,List.length_cons];omega
   ·exact ih
theorem left_eq{n i:Nat}{listed:Array Bool}(hi:i<n)(hsz:listed.size=n)(h:listed.getD i false=false):left n (listed.setIfInBounds i true)+1=left n listed:=by
 unfold left
 refine uz List.nodup_range (List.mem_range.2 hi) (by rw[h];rfl) ?_ fun j hj=>?_
 ·simp[Array.getD_eq_getD_getElem?,hsz,hi]
 ·rw[getD_set_ne false (fun e=>hj e.symm)]
theorem Bo:∀{l:List (Nat×ES)}{m:Nat}{s:ES},l.lookup m=some s->(m,s)∈l:=fun h=>aB h
theorem Dp(hΓ:ΓOK P Γ)(he:qG ops=true)(hsel:Region.noSelect ops.toArray=true)(hQp:∀c a w,¬Q (.panic c) a w){Af:OA}(hps:∀p∈Af.ps,p.1=p.2)(hos:∀p∈Af.os,p.1=p.2)(hob:∀i o,Af.ob.lookup i=some o->∀p∈o,p)
  {mf:Nat} {sf:ES} (hf:Af.lv=[(mf,sf)]) (hQ:∀B F a w (S:Nat->Prop),ft nt ops F0 w0 B F sf S a w->Q .normal a w) :
  ∀(r fuel:Nat)(A:OA)(m:Nat)(s:ES)(listed:Array Bool)(B:Env)(F:Fz)(a:Act)(w:World),levels (CX P) (cY P) Γ nt orc orb ops fz slots keys r A=some Af->(m,s)∈A.lv->listed.size=ops.length ->
   (∀j,j<ops.length->listed.getD j false=m.testBit j)->(∀j,m.testBit j=true->j<ops.length)->left ops.length listed=r->r<=fuel->ft nt ops F0 w0 B F s (fun j=>m.testBit j=true) a w->wpAny P .any ops.toArray Q fuel listed a w:=by
 have hnone:∀(listed:Array Bool),listed.size=ops.length->left ops.length listed=0->∀j,j<ops.length->listed.getD j false=true:=by
  intro listed hsz hl j hj
  cases hc:listed.getD j false with
  |true=>rfl
  |false =>
   have:j∈(List.range ops.length).filter fun j=>!(listed.getD j false):=List.mem_filter.2 ⟨List.mem_range.2 hj,by rw[hc];rfl⟩
   unfold left at hl
   rw[List.length_eq_zero_iff.1 hl] at this
   simp at this
 have hready0:∀(listed:Array Bool),listed.size=ops.length->(∀j,j<ops.length->listed.getD j false=true)->Region.ready .any ops.toArray listed=[]:=by
  intro listed hsz hall
  apply List.eq_nil_iff_forall_not_mem.2
  intro j hj
  obtain⟨h1,o,h2,_⟩:=mem_ready.1 hj
  rw[List.getElem?_toArray] at h2
  have hlt:=(List.getElem?_eq_some_iff.1 h2).1
  have h3:=hall j hlt
  have hj':j<listed.size:=by omega
  simp only[Array.getD_eq_getD_getElem?,Array.getElem?_eq_getElem hj',Option.getD_some] at h1 h3
  rw[h3] at h1;cases h1
 intro r
 induction r with
 |zero =>
  intro fuel A m s listed B F a w hl hm hsz hbit hlt hleft hfuel hi
  cases hl
  rw[hf] at hm
  cases List.mem_singleton.1 hm
  have hr:=hready0 listed hsz (hnone listed hsz hleft)
  have hq:=hQ B F a w _ hi
  cases fuel with
  |zero=>exact⟨hr,hq⟩
  |succ fuel=>exact⟨fun _=>hq,fun i hi=>by rw[hr] at hi;simp at hi⟩
 |succ r ih =>
  intro fuel A m s listed B F a w hl hm hsz hbit hlt hleft hfuel hi
  unfold levels at hl
  split at hl
  rotate_left
  ·cases hl
  rename_i A1 hA1
  obtain⟨_,hex⟩:=rW hA1
  have hmp:=uA hl
  obtain⟨fuel,rfl⟩:∃f,fuel=f+1:=⟨fuel-1,by omega⟩
  have hstep:∀i o,i<ops.length->ops[i]? = some o->rdy ops m i=true->(qm ops m=none\/qm ops m=some i) ->
    if Region.wanted o (yielded ops.toArray a.tmps)=true then o.wp P a w (wpAny P .any ops.toArray Q fuel (listed.setIfInBounds i true)) Q else wpAny P .any ops.toArray Q fuel (listed.setIfInBounds i true) (a.put o.dst undef) w:=by
   intro i o hil h2 hrdy htake
   have hni:m.testBit i=false:=by
    unfold rdy at hrdy
    rw[Bool.and_eq_true] at hrdy
    simpa using hrdy.1
   have hfalse:listed.getD i false=false:=by rw[hbit i hil];exact hni
   have hA1p:∀p∈A1.ps,p.1=p.2:=fun p hp=>hps p (hmp.ps p hp)
   have hA1o:∀p∈A1.os,p.1=p.2:=fun p hp=>hos p (hmp.os p hp)
   obtain⟨s',hs',hlv,hobl⟩:=hex A1 (.refl _) hA1p hA1o (m,s) hm i hil hrdy htake
   simp only at hs' hlv hobl
   unfold AZ at hs'
   rw[h2] at hs'
   simp only at hs'
   obtain⟨F1,hi1⟩:=(FC hi []).jA fz (i:=i)
   have hobs:∀p∈s'.obl,p:=hob i _ (hmp.ob i _ hobl)
   have hbit':∀j,(m ||| 1 <<< i).testBit j=(m.testBit j||decide (i=j)):=by
    intro j
    rw[Nat.testBit_or,Nat.one_shiftLeft,Nat.testBit_two_pow]
   have hst:=vH (Q:=Q) (S:=fun j=>m.testBit j=true) (S':=fun j=>(m ||| 1 <<< i).testBit j=true) hΓ hi1 (by rw[hni];simp) (fun j hj=>by rw[hbit',hj];rfl) (by rw[hbit'];simp) h2 hs' hobs
    (K:=wpAny P .any ops.toArray Q fuel (listed.setIfInBounds i true)) (fun B' F' a' w' hi'=>by
     refine ih fuel A1 (m ||| 1 <<< i) (mV slots keys ops.length s') _ B' F' a' w' hl (Bo hlv) (by simp[hsz]) (fun j hj=>?_) (fun j hj=>?_) ?_ (by omega) (zd hi' fun j hj=>?_)
     ·rw[hbit']
      by_cases hji:j=i
      ·subst hji
       have hj':j<listed.size:=by omega
       simp[Array.getD_eq_getD_getElem?,hj']
      ·rw[getD_set_ne false (fun e=>hji e.symm),hbit j hj]
       have:decide (i=j)=false:=by simpa using fun e=>hji e.symm
       rw[this,Bool.or_false]
     ·rw[hbit'] at hj
      rw[Bool.or_eq_true] at hj
      rcases hj with h|h
      ·exact hlt j h
      ·have:=of_decide_eq_true h;omega
     ·have:=left_eq hil hsz hfalse;omega
     ·rw[hbit'] at hj
      rw[Bool.or_eq_true] at hj
      rcases hj with h|h
      ·exact hlt j h
      ·have:=of_decide_eq_true h;omega)
   exact hst
  cases htk:qm ops m with
  |some i =>
   have hfi:=List.find?_some htk
   have hil:i<ops.length:=List.mem_range.1 (List.mem_of_find?_eq_some htk)
   obtain⟨o,h2⟩:∃o,ops[i]? = some o:=⟨_,List.getElem?_eq_getElem hil⟩
   rw[h2] at hfi
   simp only[Bool.and_eq_true] at hfi
   obtain⟨hmv,hrdy,hfree⟩:=hfi
   have hst:=hstep i o hil h2 hrdy (.inr htk)
   obtain⟨x,hopx,hg⟩:∃x,o.op=.move x/\o.guard=none:=by
    unfold BX at hmv
    split at hmv
    ·rename_i x _ h3 h4 h5;exact⟨x,h3,h4⟩
    ·cases hmv
   have hw:Region.wanted o (yielded ops.toArray a.tmps)=true:=by simp[Region.wanted,hg]
   have hrun:∀w,(execOp a.eval o).run P w=.ok (.value (a.eval x)) w:=by
    intro w
    unfold execOp
    simp only[hopx,Sem.run_pure]
   rw[if_pos hw] at hst
   unfold Oper.wp at hst
   rw[hrun] at hst
   have hdef:∀j,j<ops.length->listed.getD j true=m.testBit j:=by
    intro j hj
    have hj':j<listed.size:=by omega
    rw[<-hbit j hj]
    simp only[Array.getD_eq_getD_getElem?,Array.getElem?_eq_getElem hj',Option.getD_some]
   have hni:m.testBit i=false:=by
    unfold rdy at hrdy
    rw[Bool.and_eq_true] at hrdy
    simpa using hrdy.1
   refine wpAny_take (oi:=o) (i:=i) (v:=a.eval x) (by rw[List.getElem?_toArray];exact h2) hsel ?_ ?_ (fun c a w h=>absurd h (hQp c _ _)) (.inl ⟨hw,hrun⟩) hst
   ·unfold Region.free
    rw[List.getElem?_toArray,h2]
    simp only[List.all_eq_true,List.mem_range]
    intro j hj
    have hj:j<ops.length:=by simpa using hj
    unfold EK at hfree
    rw[h2] at hfree
    have h5:=List.all_eq_true.1 hfree j (List.mem_range.2 hj)
    rw[hdef j hj,List.getElem?_toArray]
    simp only[Bool.or_eq_true] at h5 ⊢
    rcases h5 with h5|h5
    ·exact .inl h5
    ·refine .inr ?_
     cases hoj:ops[j]? with
     |none=>rfl
     |some oj =>
      rw[hoj] at h5
      simp only[Bool.or_eq_true] at h5 ⊢
      rcases h5 with h5|h5
      ·refine .inl ?_
       rw[List.contains_iff_mem] at h5
       unfold onL at h5
       obtain⟨e,he1,he2⟩:=List.mem_filterMap.1 h5
       split at he2
       ·rename_i hb
        cases he2
        refine Array.any_eq_true'.2 ⟨e,by simpa using he1,by simp[hb]⟩
       ·cases he2
      ·exact .inr h5
   ·rw[List.contains_iff_mem,mem_ready]
    refine⟨by rw[hdef i hil];exact hni,o,by rw[List.getElem?_toArray];exact h2,fun e he1 hb=>?_⟩
    have hz:(o,i)∈ops.zipIdx:=List.mem_zipIdx_iff_getElem?.2 h2
    have hon:e.on∈onL o:=by
     unfold onL
     exact List.mem_filterMap.2 ⟨e,by simpa using he1,by rw[if_pos hb]⟩
    have hji:e.on<i:=of_decide_eq_true (List.all_eq_true.1 (List.all_eq_true.1 he _ hz) _ hon)
    unfold rdy at hrdy
    rw[h2,Bool.and_eq_true] at hrdy
    have:=List.all_eq_true.1 hrdy.2 _ hon
    rw[hbit e.on (by omega)]
    exact this
  |none =>
  refine⟨fun hr=>?_,fun i him=>?_⟩
  ·exfalso
   have hall:=wj he hr hsz
   have:left ops.length listed=0:=by
    unfold left
    rw[List.length_eq_zero_iff,List.filter_eq_nil_iff]
    intro j hj
    rw[hall j (List.mem_range.1 hj)];simp
   omega
  ·obtain⟨h1,o,h2,h3⟩:=mem_ready.1 him
   rw[List.getElem?_toArray] at h2
   have hil:=(List.getElem?_eq_some_iff.1 h2).1
   have hfalse:listed.getD i false=false:=by
    have hj':i<listed.size:=by omega
    simp only[Array.getD_eq_getD_getElem?,Array.getElem?_eq_getElem hj',Option.getD_some] at h1 ⊢
    exact h1
   have hni:m.testBit i=false:=by rw[<-hbit i hil];exact hfalse
   have hrdy:rdy ops m i=true:=by
    unfold rdy
    rw[hni,h2]
    simp only[Bool.not_false,Bool.true_and]
    rw[List.all_eq_true]
    intro j hj
    have hz:(o,i)∈ops.zipIdx:=List.mem_zipIdx_iff_getElem?.2 h2
    have hji:j<i:=of_decide_eq_true (List.all_eq_true.1 (List.all_eq_true.1 he _ hz) j hj)
    unfold onL at hj
    obtain⟨e,he1,he2⟩:=List.mem_filterMap.1 hj
    split at he2
    ·rename_i hb
     cases he2
     have:=h3 e (by simpa using he1) hb
     rw[hbit e.on (by omega)] at this;exact this
    ·cases he2
   have hst:=hstep i o hil h2 hrdy (.inl htk)
   unfold wpOp
   rw[List.getElem?_toArray,h2]
   simp only
   split
   ·rename_i hw
    rw[if_pos hw] at hst;exact .inl hst
   ·rename_i hw
    rw[if_neg hw] at hst;exact hst
theorem Wp.EY(hm:P.follows .mixedOrders=true)(hΓ:ΓOK P Γ){id:Nat}{l:List Oper}{K K':List (Nat×D)}{L L':ay}(fz:List (Nat×List Nat))(orc:List (Nat×D))(orb:List (Nat×CBd))(slots keys kk kl:List Nat){ob:List Prop}
  (h:B5 l kk kl (vP (CX P) (cY P) Γ nt orc orb l fz slots keys K L)=some (K',L',ob)) (hp:FX (vP (CX P) (cY P) Γ nt orc orb l fz slots keys K L)=Gw (vP (CX P) (cY P) Γ nt orc orb l fz slots keys K L)) (hob:ax ob) (hn:To nt F0 w0 K' L' .normal Q) :
  Wp P nt F0 w0 K L (.region id l.toArray true) Q:=by
 have hn:To nt F0 w0 K' L' .normal (nrm Q):=hn
 rintro a w ⟨B,F,hb,hd,hs,hK⟩
 have hQp:∀c a w,¬nrm Q (.panic c) a w:=fun _ _ _ h=>h
 cases hA:vP (CX P) (cY P) Γ nt orc orb l fz slots keys K L with
 |none=>rw[hA] at h;cases h
 |some Af =>
  rw[hA] at h hp
  unfold vP at hA
  split at hA
  rotate_left
  ·cases hA
  rename_i hed2
  rw[Bool.and_eq_true,Bool.and_eq_true] at hed2
  obtain⟨hed2,hnd⟩:=hed2
  have hed:=hed2.1
  unfold B5 at h
  simp only at h
  split at h
  rotate_left
  ·cases h
  rename_i mf sf hlv
  split at h
  rotate_left
  ·cases h
  rename_i K1 L1 hk hl
  cases h
  simp only[FX,Gw,Prod.mk.injEq] at hp
  refine rF hm (fun o ho c hc=>by have:=List.all_eq_true.1 hnd o (by simpa using ho);rw[ndB,hc] at this;cases this) ?_
  have hw:({ w with drawn:=w.drawn+1 }:World)=w.drew:=rfl
  rw[hw]
  have hobs:∀i o,Af.ob.lookup i=some o->i<l.length->∀p∈o,p:=by
   intro i o hio hil p hpo
   refine ax.mem hob p ?_
   unfold ER
   exact List.mem_flatMap.2 ⟨i,List.mem_range.2 hil,by rw[hio];exact hpo⟩
  have hlen:∀i o,Af.ob.lookup i=some o->¬i<l.length->∀p∈o,p:=by
   intro i o hio hil
   exfalso
   have hkeys:∀(r:Nat)(A A':OA),levels (CX P) (cY P) Γ nt orc orb l fz slots keys r A=some A'->(∀x∈A.ob,x.1<l.length)->∀x∈A'.ob,x.1<l.length:=by
    have h1:∀(m:Nat)(s:ES)(is:List Nat)(A A':OA),nL (CX P) (cY P) Γ nt orc orb l fz slots keys m s is A=some A'->(∀i∈is,i<l.length)->(∀x∈A.ob,x.1<l.length)->∀x∈A'.ob,x.1<l.length:=by
     intro m s is
     induction is with
     |nil=>intro A A' h _ hx;cases h;exact hx
     |cons i is ih =>
      intro A A' h his hx
      unfold nL at h
      split at h
      ·split at h
       ·refine ih _ _ h (fun j hj=>his j (List.mem_cons_of_mem _ hj)) fun x hxx=>?_
        unfold wK at hxx
        have hS:∀(m:Nat)(s:ES)(A:OA),(sM m s A).ob=A.ob:=by intro m s A;unfold sM;split<;>rfl
        split at hxx
        ·simp only[hS] at hxx;exact hx x hxx
        ·simp only[hS] at hxx
         rcases List.mem_append.1 hxx with h|h
         ·exact hx x h
         ·rw[List.mem_singleton.1 h];exact his i List.mem_cons_self
       ·cases h
      ·exact ih _ _ h (fun j hj=>his j (List.mem_cons_of_mem _ hj)) hx
    have h2:∀(lv:List (Nat×ES))(A A':OA),expand (CX P) (cY P) Γ nt orc orb l fz slots keys lv A=some A'->(∀x∈A.ob,x.1<l.length)->∀x∈A'.ob,x.1<l.length:=by
     intro lv
     induction lv with
     |nil=>intro A A' h hx;cases h;exact hx
     |cons y lv ih =>
      intro A A' h hx
      unfold expand at h
      split at h
      ·rename_i A1 hA1
       exact ih _ _ h (h1 _ _ _ _ _ hA1 (fun i hi=>by
        split at hi
        ·rename_i j hj
         rw[List.mem_singleton.1 hi]
         exact List.mem_range.1 (List.mem_of_find?_eq_some hj)
        ·exact List.mem_range.1 hi) hx)
      ·cases h
    intro r
    induction r with
    |zero=>intro A A' h hx;cases h;exact hx
    |succ r ih =>
     intro A A' h hx
     unfold levels at h
     split at h
     ·rename_i A1 hA1
      exact ih _ _ h (h2 _ _ _ hA1 hx)
     ·cases h
   have hmem:∀(q:List (Nat×List Prop))(i:Nat)(o:List Prop),q.lookup i=some o->(i,o)∈q:=by
    intro q i o hq
    induction q with
    |nil=>simp at hq
    |cons x q ih =>
     obtain⟨k,y⟩:=x
     rw[List.lookup_cons] at hq
     split at hq
     ·rename_i he
      have:i=k:=by simpa using he
      cases hq;rw[this];exact List.mem_cons_self
     ·exact List.mem_cons_of_mem _ (ih hq)
   exact hil (hkeys _ _ _ hA (by simp[Aa]) _ (hmem _ _ _ hio))
  have hsz:l.toArray.size=l.length:=by simp
  rw[hsz]
  have hK':∀x∈K,∃v,a.tmps[x.1]? = some v/\Rep F w.drew B x.2 v:=fun x hx=>by
   obtain⟨v,h3,h4⟩:=hK x hx
   have hgr:Grow F F w w.drew:=⟨fun _ _ h=>h,fun _ _ _=>rfl,fun _ _ _ _ _ h=>h⟩
   exact⟨v,h3,h4.grow hgr⟩
  have hinv:=oh (ops:=l) hb.draw hd hs hK'
  have hz:∀j,(0:Nat).testBit j=false:=fun j=>Nat.zero_testBit j
  have hinv':ft nt l F0 w0 B F (mV slots keys l.length (ky K L)) (fun j=>(0:Nat).testBit j=true) a w.drew:=by
   refine zd ⟨hinv.base,hinv.defers,hinv.size,hinv.ents,fun e he x hx=>?_,fun e he=>?_,hinv.kF⟩ fun j hj=>by rw[hz] at hj;cases hj
   ·have:=hinv.keys e he x hx;omega
   ·rcases hinv.srcs e he with h|h
    ·exact .inl h
    ·omega
  refine Dp (F0:=F0) (w0:=w0) (Q:=nrm Q) hΓ hed hed2.2 hQp (vS hp.1) (uu hp.2) (fun i o hio=>if hil:i<l.length then hobs i o hio hil else hlen i o hio hil) hlv (fun B' F' a' w' S hi=>hn a' w' (mC hi hk hl))
   l.length l.length _ 0 _ (Array.replicate l.length false) B F a w.drew hA List.mem_cons_self (by simp) (fun j hj=>?_) (fun j hj=>by rw[hz] at hj;cases hj) ?_ (Nat.le_refl _) hinv'
  ·rw[hz];simp only[Array.getD_eq_getD_getElem?,Array.getElem?_replicate];split<;>rfl
  ·unfold left
   rw[List.filter_eq_self.2]
   ·simp
   ·intro j hj;simp only[Array.getD_eq_getD_getElem?,Array.getElem?_replicate];split<;>rfl
end
end Go.Proofs.YtpmmhhmhckpnfaaDoor.RX
namespace Go.Proofs.YtpmmhhmhckpnfaaDoor.RX
open Go.RowKit
section
variable {P:Program}
end
end Go.Proofs.YtpmmhhmhckpnfaaDoor.RX
namespace Go.Proofs.YtpmmhhmhckpnfaaDoor.RX
open Go Go.Proofs Go.RowKit
variable {P:Program} {nt:Nat} {F0:Fz} {w0:Pt P} {K:List (Nat×D)} {L:ay}
theorem To.fin{fn:Func}{R:Ending->World->Prop}(h:To nt F0 w0 K L .ret (bodyPost P fn R)):To nt F0 w0 K L .normal (bodyPost P fn R):=fun a w hs=>h a w hs
end Go.Proofs.YtpmmhhmhckpnfaaDoor.RX
namespace Go.Proofs.YtpmmhhmhckpnfaaDoor.RX
open Go.RowKit Go.Sort
def encS:Bs->List D:=fun x=>[.str x]
def iT(l:Ls):Ls:=l.mergeSort fun x y=>decide (x<=y)
section
variable {P:Program} {F:Fz} {w1:Pt P} {B:Env}
theorem sj{w:World}:∀{l:Ls}{xs:List Value},aA F w NB (l.flatMap encS) xs->xs=l.map encStr
 |[],_,h=>by cases h;rfl
 |x::l,_,h=>by
  simp only[List.flatMap_cons,encS,List.singleton_append] at h
  cases h with
  |cons _ v _ vs hv hs =>
   cases hv
   rw[sj hs];rfl
theorem uQ{w:World}{B:Env}:∀l:Ls,aA F w B (l.flatMap encS) (l.map encStr)
 |[]=>.nil
 |x::l=>by
  simp only[List.flatMap_cons,encS,List.singleton_append,List.map_cons]
  exact .cons _ _ _ _ (.str x) (uQ l)
theorem Rep.head{F:Fz}{w:World}{B:Env}{α:Type}{d:α}{enc:α->List D}{l l1:List α}{p:Option Nat}{n cap:Nat}(h:Rep F w B (.recs d enc l) (iI p n cap))(hp:l1 <+: l)(hn:n=l.length):Rep F w B (.recs d enc l1) (.slice (p.map fun b=>⟨b,0,none⟩) l1.length cap):=by
 generalize hv:iI p n cap=v at h
 unfold iI at hv
 cases h with
 |bV _ _ q =>
  have:l1=[]:=List.prefix_nil.1 hp
  subst this
  injection hv with e1 e2 e3
  rw[e1,e3]
  exact .bV d enc _
 |recs _ _ _ g off cap size vs hz h1 h2 h3 hc =>
  have hle:=hp.length_le
  obtain⟨ys,rfl⟩:=hp
  injection hv with e1 e2 e3
  rw[e1,e3]
  refine .recs d enc l1 g off cap size vs hz (fun i hi=>h1 i (by omega)) (fun i hi=>?_) (fun i j hi hj=>h3 i j (by omega) hj) (by omega)
  have:=h2 i (by omega)
  rwa[List.getElem?_append_left hi] at this
theorem Base.turned{k t g n cap:Nat}{α:Type}{d:α}{enc:α->List D}{l l':List α}{w':World}(hb:Base F w1 B F (aJ [(k,t,[.aR false d enc l])]) w1.w)
  (hB:B k=some (.row (some g) n cap)) (hgr:w1.w.grownBy w' (some g)) (hown:∃xs,aA F w' NB (l'.flatMap enc) xs/\gk w' t (enc d).length (some g) n cap xs) (hl:l'.length=l.length) :
  Base F w1 B F (aJ [(k,t,[.aR false d enc l'])]) w':=by
 have hm:aJ [(k,t,[D.aR false d enc l])] k t [.aR false d enc l]:=List.mem_cons_self
 obtain⟨p,n0,cap0,hB0,hn0,hpos,hge,xs,hxs,hown0,hfz⟩:=hb.jq hm
 rw[hB] at hB0;cases hB0
 have hnf:∀j,¬F g j:=fun j hj=>by have:=(hfz g rfl j).1 hj;simp at this
 have hfr:=hb.new _ _ _ g hm (dY hB)
 have hone:∀j t' ds,aJ [(k,t,[D.aR false d enc l'])] j t' ds->j=k/\t'=t/\ds=[.aR false d enc l']:=by
  intro j t' ds h
  have:=List.mem_singleton.1 h
  cases this;exact⟨rfl,rfl,rfl⟩
 refine⟨fun j t' ds h=>?_,fun j t' ds b h hbk=>?_,fun i j b hi hj _ _=>?_,fun g' j hF=>Nat.lt_of_lt_of_le (hb.frz g' j hF) hgr.size,hb.more,⟨fun _ _ h=>h,fun g' j hF=>?_,fun g' j hF=>lW (hgr.block g' (hb.frz g' j hF) fun e=>by cases e;exact hnf j hF)⟩,⟨hgr.os,hgr.tape,hgr.output,hgr.size,fun j hj hno=>?_⟩,hb.env⟩
 ·obtain⟨rfl,rfl,rfl⟩:=hone _ _ _ h
  obtain⟨xs',h1,h2⟩:=hown
  exact .row false d enc l' (some g) n cap hB ⟨by rw[hl];exact hn0,hpos,hge,xs',h1,h2,hfz⟩
 ·obtain⟨rfl,rfl,rfl⟩:=hone _ _ _ h
  exact hb.new _ _ _ b hm hbk
 ·obtain⟨_,_,h1⟩:=hi
  obtain⟨_,_,h2⟩:=hj
  rw[(hone _ _ _ h1).1,(hone _ _ _ h2).1]
 ·have hne:g'≠g:=fun e=>by subst e;exact hnf j hF
  exact World.cell?_of_block (hgr.block g' (hb.frz g' j hF) (fun e=>hne (Option.some.inj e)))
 ·refine hgr.block j hj fun e=>?_
  cases e
  rcases hfr with h|h
  ·exact absurd hj (Nat.not_lt.2 h)
  ·exact hno h
theorem zV{w:World}{args:List Value}{k:Nat}(hr:aA F w B [.row k] args):∃p n cap v,B k=some (.row p n cap)/\nQ v p n cap/\args=[v]:=by
 cases hr with
 |cons _ v _ vs h hs =>
  cases hs
  cases h with
  |row _ p n cap h=>exact⟨p,n,cap,_,h,.inl rfl,rfl⟩
  |dC _ q h=>exact⟨none,0,0,_,h,.inr ⟨rfl,rfl,rfl,q,rfl⟩,rfl⟩
theorem vV{v:Value}(h:nQ v none 0 0):∃q,v=.slice q 0 0:=by
 rcases h with rfl|⟨_,_,_,q,rfl⟩
 ·exact⟨none,rfl⟩
 ·exact⟨q,rfl⟩
theorem vT{v:Value}{g n cap:Nat}(h:nQ v (some g) n cap):v=.slice (some ⟨g,0,none⟩) n cap:=by
 rcases h with rfl|⟨h,_⟩
 ·rfl
 ·cases h
theorem vt{w:World}{g t n cap:Nat}{l:Ls}(hown:gk w t 1 (some g) n cap (l.map encStr)):Holds encStr w g 0 l.toArray/\g<w.heap.size/\n=l.length/\n<=cap/\cap<=maxLen /\
  ∃cur fz,w.heap[g]? = some (.cells cur t fz)/\cur.size=cap/\cur.toList.take n=l.map encStr/\∀j,j<cur.size->¬(fz.1<=j/\j<fz.2):=by
 obtain⟨hlen,hc⟩:=hown
 rcases hc with⟨h,_⟩|⟨g',cur,fz,hp,hh,hfz,hnc,hcm,hsz,htk⟩
 ·cases h
 ·cases hp
  simp only[List.length_map,Nat.mul_one] at hlen htk hsz
  refine⟨fun j hj=>?_,(Array.getElem?_eq_some_iff.1 hh).1,hlen.symm,hnc,hcm,cur,fz,hh,hsz,htk,hfz⟩
  have hj':j<l.length:=by simpa using hj
  have hjc:j<cur.size:=by omega
  have h1:(l.map encStr)[j]? = some cur[j]:=by
   rw[<-htk,List.getElem?_take,if_pos (by omega),Array.getElem?_toList,Array.getElem?_eq_getElem hjc]
  rw[List.getElem?_map,List.getElem?_eq_getElem hj',Option.map_some,Option.some.injEq] at h1
  refine⟨?_,?_⟩
  ·simp only[World.cell?,hh,Nat.zero_add]
   rw[Array.getElem?_eq_getElem hjc,<-h1]
   simp[hj']
  ·have:=hfz j hjc
   simp only[World.frozen?,hh,Nat.zero_add]
   rw[Bool.and_eq_false_iff]
   by_cases hc:fz.1<=j
   ·right;simp;omega
   ·left;simpa using hc
theorem wz{w:World}{g t cap n q:Nat}{os:Array Obj}{cur:Array Value}{fz:Nat×Nat}(ts:Ls)(hh:w.heap[g]? = some (.cells cur t fz))(hn:n=ts.length)(hnc:n<=cap)(hcm:cap<=maxLen)(hsz:cur.size=cap)(hfz:∀j,j<cur.size->¬(fz.1<=j/\j<fz.2)) :
  gk (grow (putRow encStr (Sort.ahead w q) g 0 ts.toArray) os) t 1 (some g) n cap (ts.map encStr):=by
 have h1:=heap_sorted (n:=q) (os:=os) ts.toArray hh
 refine⟨by simp[hn],.inr ⟨g,_,fz,rfl,h1,?_,hnc,hcm,?_,?_⟩⟩
 ·intro j hj
  exact hfz j (by simpa[putCells] using hj)
 ·simpa[putCells] using hsz
 ·rw[Nat.mul_one,hn]
  exact take_putCells cur ts (by omega)
theorem zP{f et:Nat}{l:Ls}(hf:FOK P f)
  (hc:∀(blk off cap:Nat)(ss:Ls)(w:World),Holds encStr w blk off ss.toArray->blk<w.heap.size->ss.length<4611686018427387904 ->
   Calls P f #[.slice (some ⟨blk,off,none⟩) ss.length cap] w fun e w'=>e=.returned (.tuple #[])/\∃n os,w'=grow (putRow encStr (Sort.ahead w n) blk off (ss.mergeSort fun x y=>decide (x<=y)).toArray) os)
  (hn:∀(p:Option Addr)(cap:Nat)(w:World),Calls P f #[.slice p 0 cap] w fun e w'=>e=.returned (.tuple #[])/\w'=w)
  (hl:decide (l.length*17<=limit)=true):cY P f [.row LIM] [(LIM,et,[.aR false (α:=Bs) [] encS l])] (.tup []) [(LIM,et,[.aR false (α:=Bs) [] encS (iT l)])]:=by
 refine⟨hf,fun F w1 B args hb hr=>?_⟩
 have hlim:l.length*17<=140737488355328:=of_decide_eq_true hl
 obtain⟨p,n,cap,v,hB,hv,rfl⟩:=zV hr
 obtain⟨p',n',cap',hB',hn0,hpos,hge,xs,hxs,hown,hfz⟩:=hb.jq (M:=aJ [(LIM,et,[D.aR false (α:=Bs) [] encS l])]) List.mem_cons_self
 rw[hB] at hB';cases hB'
 have hx:=sj hxs
 subst hx
 cases p with
 |none =>
  have h0:l=[]/\n=0/\cap=0:=by
   rcases hown.2 with⟨_,h1,h2⟩|⟨_,_,_,h,_⟩
   ·exact⟨List.eq_nil_of_length_eq_zero (by omega),h1,h2⟩
   ·cases h
  obtain⟨rfl,rfl,rfl⟩:=h0
  obtain⟨q,rfl⟩:=vV hv
  refine(hn q 0 w1.w).mono ?_
  rintro e w' ⟨rfl,rfl⟩
  exact⟨_,F,B,rfl,.tup [] [] .nil,by simpa[iT] using hb⟩
 |some g =>
  obtain⟨hH,hg,rfl,hnc,hcm,cur,fz,hh,hsz,htk,hfz'⟩:=vt hown
  obtain rfl:=vT hv
  refine(hc g 0 cap l w1.w hH hg (by omega)).mono ?_
  rintro e w' ⟨rfl,q,os,rfl⟩
  have hlen:(iT l).length=l.length:=by simp[iT]
  exact⟨_,F,B,rfl,.tup [] [] .nil,hb.turned hB (grownBy_sorted _) ⟨_,uQ (iT l),wz (iT l) hh hlen.symm hnc hcm hsz hfz'⟩ hlen⟩
theorem wZ{f et:Nat}{l:Ls}(hf:FOK P f)
  (hc:∀(blk off cap:Nat)(zs:Ls)(w:World),Holds encStr w blk off zs.toArray->zs.length<=9223372036854775807->zs.length<=cap ->
   Calls P f #[.slice (some ⟨blk,off,none⟩) zs.length cap] w fun e w'=>e=.returned (.slice (some ⟨blk,off,none⟩) (Lib.compact zs).length cap)/\∃q,w'=putRow encStr (Sort.ahead w q) blk off (Lib.compact zs++List.replicate (zs.length-(Lib.compact zs).length) []).toArray)
  (hn:∀(a:Option Addr)(cap:Nat)(w:World),Calls P f #[.slice a 0 cap] w fun e w'=>e=.returned (.slice a 0 cap)/\w'=w)
  (hle:(Lib.compact l).length<=l.length)
  (hl:decide (l.length*17<=limit)=true):cY P f [.row LIM] [(LIM,et,[.aR false (α:=Bs) [] encS l])] (.recs (α:=Bs) [] encS (Lib.compact l)) []:=by
 refine⟨hf,fun F w1 B args hb hr=>?_⟩
 have hlim:l.length*17<=140737488355328:=of_decide_eq_true hl
 obtain⟨p,n,cap,v,hB,hv,rfl⟩:=zV hr
 have hm:aJ [(LIM,et,[D.aR false (α:=Bs) [] encS l])] LIM et [.aR false (α:=Bs) [] encS l]:=List.mem_cons_self
 obtain⟨p',n',cap',hB',hn0,hpos,hge,xs,hxs,hown,hfz⟩:=hb.jq hm
 rw[hB] at hB';cases hB'
 have hx:=sj hxs
 subst hx
 cases p with
 |none =>
  have h0:l=[]/\n=0/\cap=0:=by
   rcases hown.2 with⟨_,h1,h2⟩|⟨_,_,_,h,_⟩
   ·exact⟨List.eq_nil_of_length_eq_zero (by omega),h1,h2⟩
   ·cases h
  obtain⟨rfl,rfl,rfl⟩:=h0
  obtain⟨q,rfl⟩:=vV hv
  refine(hn q 0 w1.w).mono ?_
  rintro e w' ⟨rfl,rfl⟩
  exact⟨_,F,B,rfl,.bV _ _ q,hb.sub fun _ _ _ h=>by simp[aJ] at h⟩
 |some g =>
  obtain⟨hH,hg,rfl,hnc,hcm,cur,fz,hh,hsz,htk,hfz'⟩:=vt hown
  obtain rfl:=vT hv
  refine(hc g 0 cap l w1.w hH (by omega) hnc).mono ?_
  rintro e w' ⟨rfl,q,rfl⟩
  let ts:=Lib.compact l++List.replicate (l.length-(Lib.compact l).length) []
  have hlen:ts.length=l.length:=by simp[ts];omega
  have hb2:Base F w1 B F (aJ [(LIM,et,[.aR false (α:=Bs) [] encS ts])]) (grow (putRow encStr (Sort.ahead w1.w q) g 0 ts.toArray) #[]) :=
   hb.turned hB (grownBy_sorted _) ⟨_,uQ ts,wz ts hh hlen.symm hnc hcm hsz hfz'⟩ hlen
  rw[grow_empty] at hb2
  obtain⟨F',hb3,hg3⟩:=hb2.rU (k:=LIM) (t:=et) (m:=false) List.mem_cons_self
  obtain⟨p3,n3,cap3,hB3,hrow3⟩:=hb3.jq (.inl ⟨rfl,rfl,rfl⟩)
  rw[hB] at hB3;cases hB3
  have hrep:=hrow3.recs (B:=B)
  exact⟨_,F',B,rfl,hrep.head (List.prefix_append _ _) hlen.symm,hb3.sub fun _ _ _ h=>by simp[aJ] at h⟩
end
end Go.Proofs.YtpmmhhmhckpnfaaDoor.RX
namespace Go.Proofs.YtpmmhhmhckpnfaaDoor.RX
open Go.RowKit Go.Sort Go.Maps
open Go.WideElems (Fit rd rg)
open Go.ChangeShapes Go.WideShapes
section
variable {P:Program}
end
end Go.Proofs.YtpmmhhmhckpnfaaDoor.RX
namespace Go.Proofs.YtpmmhhmhckpnfaaDoor.RX
open Go.RowKit
theorem B7{l:List Oper}(h:l.all ndB=true):∀o∈l,o.nd:=fun o ho c hc=>by
 have:=List.all_eq_true.1 h o ho
 rw[ndB,hc] at this;cases this
section
variable (C:Nat->List D->D->Prop) (CB:Nat->List D->ay->D->ay->Prop) (Γ:Nat->Option TI) (nt:Nat) (orc:List (Nat×D)) (orb:List (Nat×CBd)) (l:List Oper)
end
section
variable {P:Program} {Γ:Nat->Option TI} {nt:Nat} {F0:Fz} {w0:Pt P} {K K':List (Nat×D)} {L L':ay} {Q:Exit->Act->World->Prop}
end
end Go.Proofs.YtpmmhhmhckpnfaaDoor.RX
namespace Go.Proofs.YtpmmhhmhckpnfaaDoor.RX
open Go.RowKit
section
variable {P:Program} {Γ:Nat->Option TI} {nt:Nat} {F0:Fz} {w0:Pt P} {K K':List (Nat×D)} {L L':ay} {Q:Exit->Act->World->Prop}
theorem Base.defs{B:Env}{F:Fz}{w:World}{M:Mem}{ro:Option Nat}{ds:List Deferred}(h:Base F0 w0 B F M w):Base F0 { w0 with rnd:=ro,defs:=ds } B F M w:=⟨h.boxes,h.new,h.inj,h.frz,h.more,h.grow,h.below,h.env⟩
mutual
theorem D.Gl{s:D->Option D}:∀(d:D),d.dL=true->D.sub s d=d
 |.own _ _,h=>by simp[D.dL] at h
 |.opt _,h=>by simp[D.dL] at h
 |.dq _,h=>by simp[D.dL] at h
 |.mp _,h=>by simp[D.dL] at h
 |.row _,h=>by simp[D.dL] at h
 |.elm _ _ _ _,h=>by simp[D.dL] at h
 |.agg ds,h=>by simp only[D.sub];rw[D.sV ds (by simpa[D.dL] using h)]
 |.tup ds,h=>by simp only[D.sub];rw[D.sV ds (by simpa[D.dL] using h)]
 |.fn f ds,h=>by simp only[D.sub];rw[D.sV ds (by simpa[D.dL] using h)]
 |.val _,_=>rfl
 |.str _,_=>rfl
 |.dH _ _ _ _ _,_=>rfl
 |.aI _ _ _ _ _,_=>rfl
 |.recs _ _ _,_=>rfl
 |.el _,_=>rfl
 |.aR _ _ _ _,_=>rfl
 |.tree _ _ _ _,_=>rfl
 |.arr _ _ _,_=>rfl
 |.hole,_=>rfl
 |.pG _ _ _,_=>rfl
theorem D.sV{s:D->Option D}:∀(ds:List D),D.bU ds=true->D.subs s ds=ds
 |[],_=>rfl
 |d::ds,h=>by
  have h':D.dL d=true/\D.bU ds=true:=by simpa[D.bU] using h
  simp only[D.subs]
  rw[D.Gl d h'.1,D.sV ds h'.2]
end
end
end Go.Proofs.YtpmmhhmhckpnfaaDoor.RX
namespace Go.Proofs.YtpmmhhmhckpnfaaDoor.RX
open Go.RowKit
section
variable {P:Program} {F0 F1:Fz} {w0 w1:Pt P} {B:Env} {F:Fz} {M:Mem} {w:World}
def Pt.nA(w1:Pt P)(W:World)(sh:Shp P W)(ex:List Nat)(ro:Option Nat)(ds:List Deferred):Pt P :=
 { w:=W,own:=fun b=>w1.fresh b/\b∉ex,env:=w1.env,low:=w1.low,sh:=sh,high:=fun _ h=>Pt.mZ h.1,rnd:=ro,defs:=ds }
theorem Base.nA(hb:Base F1 w1 B F M w)(sh:Shp P w){ex:List Nat}{ro:Option Nat}{ds:List Deferred}(hex:∀k t c b,M k t c->bM B k=some b->b∉ex):Base F (w1.nA w sh ex ro ds) B F M w :=
 ⟨hb.boxes,fun k t c b h hk=>.inr ⟨hb.new k t c b h hk,hex k t c b h hk⟩,hb.inj,hb.frz,fun _ _ h=>.inl h,Grow.refl _ _,dP.refl _ _ _,hb.env⟩
theorem Base.comes(hb:Base F1 w1 B F M w){sh:Shp P w}{ex:List Nat}{ro:Option Nat}{ds:List Deferred}{B':Env}{F':Fz}{M':Mem}{w':World}(h:Base F (w1.nA w sh ex ro ds) B' F' M' w'):Base F1 w1 B' F' M' w':=by
 have hsz:=hb.below.size
 have hfr:∀b,(w1.nA w sh ex ro ds).fresh b->w1.fresh b:=by
  rintro b (hb'|hb')
  ·exact .inl (Nat.le_trans hsz hb')
  ·exact hb'.1
 refine⟨h.boxes,fun k t c b hm hk=>hfr b (h.new k t c b hm hk),h.inj,h.frz,fun g k hF=>?_,hb.grow.trans h.grow,⟨h.below.os.trans hb.below.os,h.below.tape.trans hb.below.tape,h.below.output.trans hb.below.output,Nat.le_trans hsz h.below.size,fun k hk ho=>?_⟩,h.env⟩
 ·rcases h.more g k hF with h1|h1
  ·exact hb.more g k h1
  ·exact .inr (hfr g h1)
 ·refine(h.below.block k (Nat.lt_of_lt_of_le hk hsz) fun h1=>?_).trans (hb.below.block k hk ho)
  rcases h1.1 with h2|h2
  ·omega
  ·exact ho h2
def qe:Obj->Bool
 |.loop _=>true
 |.deferred _=>true
 |_=>false
def y9:List D->Bool
 |[.pG _ _ _]=>false
 |_=>true
def gK(L:ay):Bool:=L.all fun x=>y9 x.2.2
theorem jM.EH{k t:Nat}{ds:List D}(h:jM F w B k t ds)(hno:y9 ds=true){b:Nat}(hb:bM B k=some b){o:Obj}(ho:w.heap[b]? = some o):qe o=false:=by
 cases h with
 |box _ b' vs hB hr hfl hh hnf=>rw[ia hB] at hb;cases hb;rw[hh] at ho;cases ho;rfl
 |row m d enc l p n cap hB h =>
  rw[dY hB] at hb;subst hb
  obtain⟨_,_,_,xs,_,h5,_⟩:=h
  rcases h5.2 with⟨h1,_⟩|⟨g,cur,fz,hp,hh,_⟩
  ·cases h1
  ·cases hp;rw[hh] at ho;cases ho;rfl
 |map kk ag d enc l b' hB h =>
  rw[gp hB] at hb;cases hb
  obtain⟨_,_,es,clock,hh,_⟩:=h
  rw[hh] at ho;cases ho;rfl
 |obj b' o' S hB hh=>cases hno
theorem xK{L:ay}(h:gK L=true){k t:Nat}{ds:List D}(hm:aJ L k t ds):y9 ds=true:=List.all_eq_true.1 h _ hm
theorem Base.put{L:ay}(hb:Base F1 w1 B F (aJ L) w)(hno:gK L=true){r:Nat}{o o':Obj}(ho:w.heap[r]? = some o)(hbk:qe o=true)(hbk':qe o'=true)(hr:w1.w.heap.size<=r) :
  Base F1 w1 B F (aJ L) (w.putObj r o')/\Grow F F w (w.putObj r o'):=by
 have hg:Grow F F w (w.putObj r o'):=⟨fun _ _ h=>h,fun g k _=>by
  unfold World.cell?
  by_cases e:g=r
  ·subst e
   have hlt:g<w.heap.size:=(Array.getElem?_eq_some_iff.1 ho).1
   simp only[ho,World.putObj_heap_same hlt]
   cases o with
   |loop _=>cases o'<;>first|rfl|cases hbk'
   |deferred _=>cases o'<;>first|rfl|cases hbk'
   |_=>cases hbk
  ·simp only[World.putObj_heap_other e],fun g k _ es c hh=>by
  have hne:g≠r:=fun e=>by subst e;rw[ho] at hh;cases hh;cases hbk
  exact(World.putObj_heap_other hne).trans hh⟩
 refine⟨⟨fun k t ds hm=>?_,hb.new,hb.inj,fun g k hF=>?_,hb.more,hb.grow.trans hg,⟨hb.below.os,hb.below.tape,hb.below.output,?_,fun k hk hs=>?_⟩,hb.env⟩,hg⟩
 ·have hh:=hb.boxes _ _ _ hm
  refine hh.grow hg rfl (fun _ _ _ h=>h) fun b hbl=>⟨World.putObj_heap_other fun e=>?_,fun _ h=>h⟩
  subst e
  have:=hh.EH (xK hno hm) hbl ho
  rw[hbk] at this;cases this
 ·rw[World.putObj_size];exact hb.frz g k hF
 ·rw[World.putObj_size];exact hb.below.size
 ·exact(World.putObj_heap_other (by omega)).trans (hb.below.block k hk hs)
theorem Base.tf{L:ay}(hb:Base F1 w1 B F (aJ L) w)(hno:gK L=true){ex:List Nat}(hex:∀r∈ex,∃o,w.heap[r]? = some o/\qe o=true):∀k t c b,aJ L k t c->bM B k=some b->b∉ex:=by
 intro k t c b hm hk he
 obtain⟨o,ho,hbk⟩:=hex b he
 have:=(hb.boxes _ _ _ hm).EH (xK hno hm) hk ho
 rw[hbk] at this;cases this
end
def mJ{β:Type}(J:β->Fz->World->Prop):Prop:=∀s F w w',J s F w->Below w.heap.size w w'->J s (je F w w') w'
structure Adv(P:Program)(F:Fz)(w:World)(F':Fz)(w':World):Prop where
 grow:Grow F F' w w'
 frz:∀g k,F' g k->g<w'.heap.size
 shp:Shp P w'
def Bn(P:Program)(g:Nat)(ds:List D){α:Type}(encs:α->List D)(xs:List α):Prop :=
 FOK P g/\∀(l:Nat)(J:List α->Fz->World->Prop)(Jx:Fz->World->Prop),mJ J->mJ (fun(_:Unit)=>Jx) ->
  (∀x r F w args,J (x::r) F w->(∀g k,F g k->g<w.heap.size)->Shp P w->aA F w NB (encs x) args->YieldAt (Fr none) 0 P l args.toArray w fun e w'=>∃F',Adv P F w F' w'/\((e=.returned (.bool true)/\J r F' w')\/(e=.returned (.bool false)/\Jx F' w'))) ->
  ∀F w lb,J xs F w->(∀g k,F g k->g<w.heap.size)->Shp P w->aA F w NB ds lb ->
   CallsIn (Fr none) 0 P g (#[.func (.yield l) #[] #[]]++lb.toArray) w fun e w'=>(∃v,e=.returned v)/\∃F',J [] F' w'\/Jx F' w'
def jO{P:Program}{σ:Type}(F':Fz)(w1:Pt P)(R:σ->Prop)(S:σ->ay)(jump:Option Code)(Lx:ay):Exit->Act->World->Prop
 |.normal,_,w=>∃s B F,R s/\Base F' w1 B F (aJ (S s)) w
 |.ret,_,w=>jump=some .ret/\∃B F,Base F' w1 B F (aJ Lx) w
 |.exit id,_,w=>jump=some (.exit id)/\∃B F,Base F' w1 B F (aJ Lx) w
 |.goto t,_,w=>jump=some (.goto t)/\∃B F,Base F' w1 B F (aJ Lx) w
 |_,_,_=>False
def tG{P:Program}(nt:Nat)(F':Fz)(w1:Pt P)(K:List (Nat×D))(L:ay)(e:Exit)(a:Act)(w:World):Prop:=e=.normal/\St nt F' w1 K L a w
structure After{P:Program}(F0:Fz)(w0:Pt P)(F1:Fz)(w1:Pt P):Prop where
 back:∀B F M w,Base F1 w1 B F M w->Base F0 w0 B F M w
 mark:∃D,w1.defs={ target:=.collected D,args:=#[] }::w0.defs/\w0.w.heap.size<=D/\w1.w.heap[D]? = some (.deferred (some []))/\¬w1.own D
 rnd:w1.rnd=none
def Behind{P:Program}(nt:Nat)(F1:Fz)(w1:Pt P)(K:List (Nat×D))(L:ay)(Q:Exit->Act->World->Prop):Option Code->Prop
 |none=>To nt F1 w1 K L .normal Q
 |some j=>Wp P nt F1 w1 K L j Q
def AL(keys:List Nat):D->Bool
 |.own j _=>keys.contains j
 |d=>D.dL d
theorem wV:∀(ps:List Nat)(vs:List Value)(tm:Array Value),ps.Nodup->(∀p∈ps,p<tm.size)->ps.length=vs.length ->
  ((ps.zip vs).foldl (fun(t:Array Value) (x:Nat×Value)=>t.setIfInBounds x.1 x.2) tm).size=tm.size/\(∀i,i∉ps->((ps.zip vs).foldl (fun(t:Array Value) (x:Nat×Value)=>t.setIfInBounds x.1 x.2) tm)[i]? = tm[i]?) /\
  ∀(j p:Nat)(v:Value),ps[j]? = some p->vs[j]? = some v->((ps.zip vs).foldl (fun(t:Array Value) (x:Nat×Value)=>t.setIfInBounds x.1 x.2) tm)[p]? = some v
 |[],vs,tm,_,_,_=>⟨rfl,fun _ _=>rfl,fun j p v h _=>by simp at h⟩
 |p::ps,[],tm,_,_,h=>by simp at h
 |p::ps,v::vs,tm,hnd,hlt,hlen=>by
  obtain⟨h1,h2⟩:=List.nodup_cons.1 hnd
  obtain⟨q1,q2,q3⟩:=wV ps vs (tm.setIfInBounds p v) h2 (fun x hx=>by rw[Array.size_setIfInBounds];exact hlt x (List.mem_cons_of_mem _ hx)) (by simpa using hlen)
  rw[List.zip_cons_cons,List.foldl_cons]
  refine⟨by rw[q1,Array.size_setIfInBounds],fun i hi=>?_,fun j p' v' hj hv=>?_⟩
  ·simp only[List.mem_cons,not_or] at hi
   rw[q2 i hi.2,Array.getElem?_setIfInBounds_ne (Ne.symm hi.1)]
  ·cases j with
   |zero =>
    simp only[List.getElem?_cons_zero,Option.some.injEq] at hj hv
    subst hj;subst hv
    rw[q2 p h1]
    simp[hlt p List.mem_cons_self]
   |succ j=>exact q3 j p' v' (by simpa using hj) (by simpa using hv)
section
variable {P:Program} {Γ:Nat->Option TI} {nt:Nat} {F0:Fz} {w0:Pt P} {K K' Kb:List (Nat×D)} {L L':ay} {Q:Exit->Act->World->Prop}
theorem yc(w:World)(o o':Obj):Below w.heap.size w ((w.alloc o).alloc o') :=
 ((Below.refl _ w).alloc (Nat.le_refl _) _).alloc (by simp) _
theorem Wp.rangeFunc{α σ:Type}{t:Nat}{ps:Array Tmp}{assign body:Code}{gf:Nat}{lds:List D}{encs:α->List D}{xs:List α}(c:CBd)(R:List α->σ->Prop)(S:σ->ay)(jump:Option Code)
  (hro:w0.rnd=none) (hg:K.lookup t=some (.fn gf lds)) (hlds:D.bU lds=true) (hseq:Bn P gf lds encs xs)
  (hok:qU c=true) (hLin:found c L=c.Lin.map fun x=>some (x.2.1,D.subs (bX never c.ren) x.2.2)) (hno:∀s,gK (S s)=true) (hnoL:gK c.dN=true) (hnoA:gK (jK c L)=true)
  (s0:σ) (hR0:R xs s0) (hS0:∀(F':Fz)(w1:Pt P)(a:Act)(w:World),St nt F' w1 [] c.Lin a w->St nt F' w1 [] (S s0) a w) (hps:∀x,(encs x).length=ps.toList.length) (hnd:ps.toList.Nodup) (hpt:∀p∈ps.toList,p<nt) (hne:∀x,D.bU (encs x)=true)
  (hKb:∀x∈Kb,(x.1,D.sub (bX never c.ren) x.2)∈K/\x.1∉ps.toList/\AL (c.Lin.map (·.1)) x.2=true)
  (K2:α->σ->List (Nat×D)) (L2:α->σ->ay) (hno2:∀x s,gK (L2 x s)=true)
  (hass:∀x r s,R (x::r) s->∀(F':Fz)(w1:Pt P),Wp P nt F' w1 (Kb++ps.toList.zip (encs x)) (S s) assign (tG nt F' w1 (K2 x s) (L2 x s)))
  (hbody:∀x r s,R (x::r) s->∀(F':Fz)(w1:Pt P),Wp P nt F' w1 (K2 x s) (L2 x s) body (jO F' w1 (R r) S jump c.dN))
  (hend:∀s,R [] s->jump=none/\S s=c.dN)
  (hK':∀x∈K',x∈K/\∀k,(dm c).contains k=true->D.names k x.2=false)
  (hn:∀(F1:Fz)(w1:Pt P),After F0 w0 F1 w1->Behind nt F1 w1 K' (jK c L) Q jump) :
  Wp P nt F0 w0 K L (.rangeFunc (.tmp t) ps assign body) Q:=by
 rintro a w ⟨B,F,hb,hd,hs,hK⟩
 rw[hro]
 obtain⟨w1,hw1,hb1,henv,hafter⟩:=rS hb hok hLin
 obtain⟨v,hv,hrv⟩:=hK _ (aB hg)
 obtain⟨lb,hlb,rfl⟩:∃lb,aA F w B lds lb/\v=.func (.func gf) #[] lb.toArray:=by
  cases hrv with
  |fn f ds vs h=>exact⟨vs,h,rfl⟩
 refine wpIn_rangeFunc fun fn hfn=>?_
 obtain⟨rec,hrec⟩:∃rec:LoopState->Option Code->Loop,rec=fun st pe=>{ state:=st,pending:=pe,fn,tmps:=a.tmps,params:=ps,assign,body,defers:=w.heap.size }:=⟨_,rfl⟩
 obtain⟨W1,hW1⟩:∃W1,(w.alloc (.deferred (some []))).alloc (.loop (rec .ready none))=W1:=⟨_,rfl⟩
 have hL1:W1.heap[w.heap.size+1]? = some (.loop (rec .ready none)):=by
  rw[<-hW1];have:=World.alloc_heap_new (w.alloc (.deferred (some []))) (.loop (rec .ready none));rwa[World.size_alloc] at this
 have hD1:W1.heap[w.heap.size]? = some (.deferred (some [])):=by
  rw[<-hW1];exact(Below.heap_alloc _ _ _ (by simp)).trans (World.alloc_heap_new w _)
 have hbel:Below w.heap.size w W1:=by rw[<-hW1];exact yc _ _ _
 obtain⟨hbW,hgW⟩:=hb1.callee hbel
 have hw0:w0.w.heap.size<=w.heap.size:=hb.below.size
 refine⟨w.heap.size+1,[{ target:=.collected w.heap.size,args:=#[] }],W1,{ target:=.fn (.func gf) lb.toArray,args:=#[.func (.yield (w.heap.size+1)) #[] #[]] },W1,gf,
  #[.func (.yield (w.heap.size+1)) #[] #[]]++lb.toArray,W1,?_,?_,fun _ _=>trivial,?_,fun h=>(by cases h),?_⟩
 ·rw[<-hW1,hrec];exact run_enterLoop_outer _ _ _ _ _
 ·simp only[resolve,nC hv]
  simp[go_sem]
 ·simp only[invoke];rw[ni hseq.1]
 ·let J:List α->Fz->World->Prop:=fun r F' W=>∃s B',R r s/\Base F w1 B' F' (aJ (S s)) W/\W.heap[w.heap.size+1]? = some (.loop (rec .ready none))/\W.heap[w.heap.size]? = some (.deferred (some []))
  let Jx:Fz->World->Prop:=fun F' W=>∃B' j,jump=some j/\Base F w1 B' F' (aJ c.dN) W/\W.heap[w.heap.size+1]? = some (.loop (rec .done (some j)))/\W.heap[w.heap.size]? = some (.deferred (some []))
  have hlt:∀{W:World}{r:Nat}{o:Obj},W.heap[r]? = some o->r<W.heap.size:=fun h=>(Array.getElem?_eq_some_iff.1 h).1
  obtain⟨B0,Fs,hb0,_⟩:=hS0 (je F w W1) (w1.nA W1 hbW.shp [] none a.defers) a W1 ⟨_,_,hbW.nA hbW.shp (fun _ _ _ _ _ _ h=>by cases h),rfl,hs,fun x hx=>by cases hx⟩
  have hbs:=hbW.comes hb0
  refine(hseq.2 (w.heap.size+1) J Jx (fun r F' W w' ⟨s,B',h1,h2,h3,h4⟩ h5=>⟨s,B',h1,(h2.callee h5).1,(h5.block _ (hlt h3)).trans h3,(h5.block _ (hlt h4)).trans h4⟩)
   (fun _ F' W w' ⟨B',j,h1,h2,h3,h4⟩ h5=>⟨B',j,h1,(h2.callee h5).1,(h5.block _ (hlt h3)).trans h3,(h5.block _ (hlt h4)).trans h4⟩) ?_ Fs W1 lb ⟨s0,B0,hR0,hbs,hL1,hD1⟩ hbs.frz hbs.shp ((hlb.bare hlds).grow (hgW.trans hb0.grow))).mono ?_
  ·rintro x r F' W args ⟨s,B',hR,hbJ,hl,hk⟩ hfrz hshp hargs
   have hlen:=aA.length hargs
   have hw1s:w1.w.heap.size=w.heap.size:=by rw[hw1]
   have hy:=run_yield (P:=P) (args:=args.toArray) hl (by rw[hrec];simp only[List.size_toArray];rw[hlen,hps x];simp)
   rw[hrec] at hy
   have hll:=hlt hl
   have hex:∀{W:World}{st:LoopState},W.heap[w.heap.size+1]? = some (.loop { rec .ready none with state:=st })->W.heap[w.heap.size]? = some (.deferred (some []))->∀q∈[w.heap.size,w.heap.size+1],∃o,W.heap[q]? = some o/\qe o=true:=by
    intro W st h1 h2 q hq
    simp only[List.mem_cons,List.not_mem_nil,or_false] at hq
    rcases hq with rfl|rfl
    ·exact⟨_,h2,rfl⟩
    ·exact⟨_,h1,rfl⟩
   have hl0:W.heap[w.heap.size+1]? = some (.loop { rec .ready none with state:=.ready }):=by rw[hl,hrec]
   have hfold:=wV ps.toList args a.tmps hnd (fun p hp=>by rw[hs];exact hpt p hp) (by rw[hlen,hps x])
   have hgw:Grow F F' w W:=by have:=hbJ.grow;rwa[hw1] at this
   have hact:((ps.zip args.toArray).foldl (fun(tmps:Array Value) (x:Tmp×Value)=>tmps.setIfInBounds x.1 x.2) a.tmps)=((ps.toList.zip args).foldl (fun(t:Array Value) (x:Nat×Value)=>t.setIfInBounds x.1 x.2) a.tmps):=by
    rw[<-Array.foldl_toList,Array.toList_zip]
   have hrun0:=hass x r s hR F' (w1.nA W hbJ.shp [w.heap.size,w.heap.size+1] (some (w.heap.size+1)) []) { tmps:=(ps.toList.zip args).foldl (fun(t:Array Value) (x:Nat×Value)=>t.setIfInBounds x.1 x.2) a.tmps,defers:=[] } W ⟨B',F',hbJ.nA hbJ.shp (hbJ.tf (hno s) (hex hl0 hk)),rfl,by rw[hfold.1];exact hs,fun y hy=>?_⟩
   rotate_left
   ·rcases List.mem_append.1 hy with hy|hy
    ·obtain⟨h1,h2,h3⟩:=hKb y hy
     obtain⟨v,q1,q2⟩:=hK _ h1
     refine⟨v,by rw[hfold.2.1 _ h2];exact q1,?_⟩
     have q3:=(Rep.pull y.2 q2).grow hgw
     cases hd':y.2 with
     |own j off =>
      rw[hd'] at q3 h3
      cases q3 with
      |own _ _ b hbj =>
       have hj:j∈c.Lin.map (·.1):=List.contains_iff_mem.1 h3
       obtain⟨z,hz,rfl⟩:=List.mem_map.1 hj
       exact .own _ _ b (hbJ.env _ _ ((henv z.1 z.2.1 z.2.2 hz).trans hbj))
     |_=>rw[hd'] at q3 h3;exact q3.bare h3
    ·obtain⟨i,hi⟩:=List.getElem?_of_mem hy
     rw[List.getElem?_zip_eq_some] at hi
     obtain⟨v,q1,q2⟩:=hargs.get i hi.2
     have hnoy:D.dL y.2=true:=by
      have:=hne x
      have hmem:y.2∈encs x:=List.mem_of_getElem? hi.2
      clear hi hy q1 q2
      revert this hmem
      generalize encs x=es
      intro this hmem
      induction es with
      |nil=>cases hmem
      |cons e es ih =>
       rw[D.bU,Bool.and_eq_true] at this
       rcases List.mem_cons.1 hmem with rfl|h
       ·exact this.1
       ·exact ih this.2 h
     exact⟨v,hfold.2.2 i _ _ hi.1 q1,q2.bare hnoy⟩
   rw[<-hact] at hrun0
   refine⟨fn,_,assign,body,hy,roundIn_of_wpIn trivial (wpIn_mono hrun0 ?_)⟩
   rintro ea a1 Wa ⟨rfl,Ba,Fa,hba,hda,hsa,hKa⟩
   have hla:Wa.heap[w.heap.size+1]? = some (.loop { rec .ready none with state:=.ready }):=(hba.below.block _ hll (fun h=>h.2 (by simp))).trans hl0
   have hka:Wa.heap[w.heap.size]? = some (.deferred (some [])):=(hba.below.block (w.heap.size) (by show w.heap.size<W.heap.size;omega) (fun h=>h.2 (by simp))).trans hk
   refine⟨_,run_beginRound hla rfl,?_⟩
   have hb1a:=hbJ.comes hba
   obtain⟨hb2,hg2a⟩:=hb1a.put (hno2 x s) (o':=.loop { rec .ready none with state:=.busy }) hla rfl rfl (by omega)
   have hg2:=hba.grow.trans hg2a
   have hl2:(Wa.putObj (w.heap.size+1) (.loop { rec .ready none with state:=.busy })).heap[w.heap.size+1]? = some (.loop { rec .ready none with state:=.busy }):=World.putObj_heap_same (hlt hla)
   have hk2:(Wa.putObj (w.heap.size+1) (.loop { rec .ready none with state:=.busy })).heap[w.heap.size]? = some (.deferred (some [])):=(World.putObj_heap_other (by omega)).trans hka
   revert hb2 hg2 hg2a hl2 hk2
   generalize Wa.putObj (w.heap.size+1) (.loop { rec .ready none with state:=.busy })=W2
   intro hb2 hg2a hg2 hl2 hk2
   have hrun:=hbody x r s hR Fa (w1.nA W2 hb2.shp [w.heap.size,w.heap.size+1] (some (w.heap.size+1)) []) a1 W2 ⟨Ba,Fa,hb2.nA hb2.shp (hb2.tf (hno2 x s) (hex hl2 hk2)),hda,hsa,fun y hy=>let ⟨v,q1,q2⟩:=hKa y hy;⟨v,q1,q2.grow hg2a⟩⟩
   refine wpIn_mono hrun ?_
   have hsz2:w.heap.size+1<W2.heap.size:=hlt hl2
   have fin:∀(jm:Option Code)(Lx:ay)(B'':Env)(F'':Fz)(w':World),gK Lx=true->Base Fa (w1.nA W2 hb2.shp [w.heap.size,w.heap.size+1] (some (w.heap.size+1)) []) B'' F'' (aJ Lx) w' ->
     ∃w4,(Instr.endRound (w.heap.size+1) jm).run P w'=.ok (.bool jm.isNone) w4/\Adv P F' W F'' w4/\Base F w1 B'' F'' (aJ Lx) w4/\w4.heap[w.heap.size+1]? = some (.loop (rec (if jm.isNone then .ready else .done) jm))/\w4.heap[w.heap.size]? = some (.deferred (some [])):=by
    intro jm Lx B'' F'' w' hnx hb3
    have hl3:w'.heap[w.heap.size+1]? = some (.loop { rec .ready none with state:=.busy }):=(hb3.below.block _ hsz2 (fun h=>h.2 (by simp))).trans hl2
    have hk3:w'.heap[w.heap.size]? = some (.deferred (some [])):=(hb3.below.block (w.heap.size) (by show w.heap.size<W2.heap.size;omega) (fun h=>h.2 (by simp))).trans hk2
    have hrun:=run_endRound (P:=P) jm hl3
    have hb4:=hb2.comes hb3
    obtain⟨hb5,hg5⟩:=hb4.put hnx (o':=.loop { ({ rec .ready none with state:=.busy }:Loop) with state:=if jm.isNone then .ready else .done,pending:=jm }) hl3 rfl rfl (by omega)
    refine⟨_,hrun,⟨(hg2.trans hb3.grow).trans hg5,hb5.frz,hb5.shp⟩,hb5,?_,(World.putObj_heap_other (by omega)).trans hk3⟩
    rw[World.putObj_heap_same (hlt hl3),hrec]
   rintro e a3 w3 hp
   cases e with
   |normal =>
    obtain⟨s',B'',F'',hR',hb3⟩:=hp
    obtain⟨w4,h1,h2,h3,h4,h5⟩:=fin none _ B'' F'' w3 (hno s') hb3
    exact⟨_,w4,h1,F'',h2,.inl ⟨rfl,s',B'',hR',h3,h4,h5⟩⟩
   |ret =>
    obtain⟨hj,B'',F'',hb3⟩:=hp
    obtain⟨w4,h1,h2,h3,h4,h5⟩:=fin (some .ret) _ B'' F'' w3 hnoL hb3
    exact⟨_,w4,h1,F'',h2,.inr ⟨rfl,B'',_,hj,h3,h4,h5⟩⟩
   |exit id =>
    obtain⟨hj,B'',F'',hb3⟩:=hp
    obtain⟨w4,h1,h2,h3,h4,h5⟩:=fin (some (.exit id)) _ B'' F'' w3 hnoL hb3
    exact⟨_,w4,h1,F'',h2,.inr ⟨rfl,B'',_,hj,h3,h4,h5⟩⟩
   |goto t =>
    obtain⟨hj,B'',F'',hb3⟩:=hp
    obtain⟨w4,h1,h2,h3,h4,h5⟩:=fin (some (.goto t)) _ B'' F'' w3 hnoL hb3
    exact⟨_,w4,h1,F'',h2,.inr ⟨rfl,B'',_,hj,h3,h4,h5⟩⟩
   |panic ch=>exact hp.elim
   |outgrown=>exact hp.elim
  ·
   have out:∀(B':Env)(F':Fz)(W:World)(lp:Loop),Base F w1 B' F' (aJ c.dN) W->W.heap[w.heap.size+1]? = some (.loop lp)->lp.state≠.busy->W.heap[w.heap.size]? = some (.deferred (some [])) ->
     ∃w4 w1m,(Instr.endLoop (w.heap.size+1)).run P W=.ok lp.pending w4/\After F0 w0 F' w1m/\St nt F' w1m K' (jK c L) { a with defers:=[{ target:=.collected w.heap.size,args:=#[] }]++a.defers } w4:=by
    intro B' F' W lp hbx hl hst hk
    have hw1s:w1.w.heap.size=w.heap.size:=by rw[hw1]
    obtain⟨hb4,hg4⟩:=hbx.put hnoL (o':=.loop { lp with state:=.exhausted }) hl rfl rfl (by omega)
    have hk4:(W.putObj (w.heap.size+1) (.loop { lp with state:=.exhausted })).heap[w.heap.size]? = some (.deferred (some [])):=(World.putObj_heap_other (by omega)).trans hk
    obtain⟨B2,hb5,hg5,hold,_,_⟩:=hafter F' B' _ hb4
    have hb6:=hb5.nA hb5.shp (ro:=none) (ds:={ target:=.collected w.heap.size,args:=#[] }::w0.defs) (hb5.tf hnoA (ex:=[w.heap.size]) fun q hq=>by
     rw[List.mem_singleton.1 hq];exact⟨_,hk4,rfl⟩)
    refine⟨_,_,run_endLoop hl hst,⟨fun B F M w h=>hb5.comes h,⟨w.heap.size,rfl,hw0,hk4,fun h=>h.2 (by simp)⟩,rfl⟩,B2,F',hb6,by rw[hd];rfl,hs,fun x hx=>?_⟩
    obtain⟨h1,h2⟩:=hK' x hx
    obtain⟨v,q1,q2⟩:=hK x h1
    refine⟨v,q1,(q2.grow hg5).lU fun k hk=>hold k ?_⟩
    cases hcc:(dm c).contains k with
    |false=>rfl
    |true=>rw[h2 k hcc] at hk;cases hk
   rintro e W ⟨⟨v,rfl⟩,F',⟨s,B',hR,hbx,hl,hk⟩|⟨B',j,hj,hbx,hl,hk⟩⟩
   ·obtain⟨rfl,hS⟩:=hend s hR
    rw[hS] at hbx
    obtain⟨w4,w1m,h1,h2,h3⟩:=out B' F' W _ hbx hl (by rw[hrec];simp) hk
    rw[hrec] at h1
    exact⟨none,w4,h1,hn F' w1m h2 _ _ h3⟩
   ·subst hj
    obtain⟨w4,w1m,h1,h2,h3⟩:=out B' F' W _ hbx hl (by rw[hrec];simp) hk
    rw[hrec] at h1
    have hwp:Wp P nt F' w1m K' (jK c L) j Q:=hn F' w1m h2
    have:=hwp _ _ h3
    rw[h2.rnd] at this
    exact⟨some j,w4,h1,this⟩
end
end Go.Proofs.YtpmmhhmhckpnfaaDoor.RX
namespace Go.Proofs.YtpmmhhmhckpnfaaDoor.RX
open Go.RowKit
section
variable {P:Program} {Γ:Nat->Option TI} {nt:Nat} {F0 F1:Fz} {w0:Pt P} {K K':List (Nat×D)} {L L':ay} {Q:Exit->Act->World->Prop}
theorem To.round{σ:Type}{R:σ->Prop}{S:σ->ay}{jump:Option Code}{Lx:ay}(s:σ)(kl:List Nat)(hR:R s)(hl:iD L kl=some (S s)):To nt F0 w0 K L .normal (jO F0 w0 R S jump Lx):=by
 rintro a w ⟨B,F,hb,_⟩
 exact⟨s,B,F,hR,hb.sub fun _ _ _ h=>jP hl _ h⟩
theorem To.Ei{σ:Type}{R:σ->Prop}{S:σ->ay}{jump:Option Code}{Lx:ay}(kl:List Nat)(hj:jump=some .ret)(hl:iD L kl=some Lx):To nt F0 w0 K L .ret (jO F0 w0 R S jump Lx):=by
 rintro a w ⟨B,F,hb,_⟩
 exact⟨hj,B,F,hb.sub fun _ _ _ h=>jP hl _ h⟩
theorem vY{f : Nat}{fn : Func}{c : Code}{ds : List D}{r : D}(hf : P.funcs[f]? = some fn)(hbody : fn.body=some c)(hname : (fn.name == "runtime.NumGoroutine")=false)(hn : ds.length<=fn.ntmps)
  (h:∀(F0:Fz)(w0:World)(hsh:Shp P w0),Wp P fn.ntmps F0 (.top w0 hsh) (ds.zipIdx.map fun x=>(x.2,x.1)) [] c (bodyPostM (Fr none) 0 P fn (pR F0 w0 r))):bq P f ds r:=by
 refine⟨⟨fn,hf,hname,by rw[hbody];rfl⟩,fun F w args hsh hF hr=>?_⟩
 have hlen:=aA.length hr
 have hc:CallsIn (Fr none) 0 P f args.toArray w (fun e w'=>∃v,e=.returned v/\Rep (je F w w') w' NB r v/\Below w.heap.size w w'):=?_
 ·exact callsIn_wide.1 hc
 refine callsIn_of_wp_marks (F:=Fr none) hf hbody trivial (h F w hsh _ w ⟨NB,F,?_,rfl,?_,fun x hx=>?_⟩)
 ·exact⟨(fun k t ds hl=>by simp[aJ] at hl),(fun k t ds b hl=>by simp[aJ] at hl),(fun i j b hi=>by obtain⟨t,ds,hx⟩:=hi;simp[aJ] at hx),hF,fun g k h=>.inl h,Grow.refl _ _,dP.refl _ _ _,fun k b h=>by cases h⟩
 ·simp;omega
 ·obtain⟨y,hy,rfl⟩:=List.mem_map.1 hx
  obtain⟨d,i⟩:=y
  have hd:ds[i]? = some d:=by
   have:=List.mem_zipIdx_iff_getElem?.1 hy
   simpa using this
  obtain⟨v,hv,hrep⟩:=hr.get i hd
  refine⟨v,?_,hrep⟩
  have hi:i<args.length:=(List.getElem?_eq_some_iff.1 hv).1
  simp only
  rw[Array.getElem?_append_left (by simpa using hi)]
  simpa using hv
theorem To.Be(hΓ:ΓOK P Γ){fn:Func}{r:D}{wt:World}{hsh:Shp P wt}{w1:Pt P}(hA:After F0 (.top wt hsh) F1 w1)(hno:gK L=true)(h:oP Γ K L fn.results.toList=some r) :
  To nt F1 w1 K L .ret (bodyPostM (Fr none) 0 P fn (pR F0 wt r)):=by
 rintro a w ⟨B,F,hb,hd,hs,hK⟩
 obtain⟨D,hdefs,hD0,hDh,hDo⟩:=hA.mark
 have hlt:D<w1.w.heap.size:=(Array.getElem?_eq_some_iff.1 hDh).1
 have hDw:w.heap[D]? = some (.deferred (some [])):=(hb.below.block D hlt hDo).trans hDh
 have hb0:=hA.back _ _ _ _ hb
 obtain⟨hb1,hg1⟩:=hb0.put hno (o':=.deferred none) hDw rfl rfl hD0
 obtain⟨_,v,h5,h6⟩:=To.done (nt:=nt) (F0:=F0) (K:=K) (L:=L) hΓ (hsh:=hsh) h { a with defers:=[] } (w.putObj D (.deferred none)) ⟨B,F,hb1,rfl,hs,fun x hx=>let ⟨v,q1,q2⟩:=hK x hx;⟨v,q1,q2.grow hg1⟩⟩
 show LeavesInM (Fr none) 0 P fn a.tmps (pR F0 wt r) a.defers .returning w
 rw[hd,hdefs]
 exact⟨by simp,.inl ⟨D,_,rfl,run_takeDeferred hDw,v,h5,h6⟩⟩
theorem To.yE(hΓ:ΓOK P Γ){fn:Func}{r:D}{wt:World}{hsh:Shp P wt}(h:oP Γ K L fn.results.toList=some r):To nt F0 (.top wt hsh) K L .ret (bodyPostM (Fr none) 0 P fn (pR F0 wt r)):=by
 rintro a w hst
 obtain⟨hd,v,h5,h6⟩:=To.done (nt:=nt) (F0:=F0) (K:=K) (L:=L) hΓ (hsh:=hsh) h a w hst
 show LeavesInM (Fr none) 0 P fn a.tmps (pR F0 wt r) a.defers .returning w
 rw[hd]
 exact⟨v,h5,h6⟩
def sZ(J:Fz->World->Prop)(Jx:Fz->World->Prop)(e:Ending)(w':World):Prop:=(∃v,e=.returned v)/\∃F',J F' w'\/Jx F' w'
theorem To.yG(hΓ:ΓOK P Γ){fn:Func}{r:D}{wt:World}{hsh:Shp P wt}{α:Type}{J:List α->Fz->World->Prop}{Jx:Fz->World->Prop}(hs:mJ J)(hsx:mJ (fun(_:Unit)=>Jx))(hJ:J [] F0 wt\/Jx F0 wt)(h:oP Γ K L fn.results.toList=some r) :
  To nt F0 (.top wt hsh) K L .ret (bodyPostM (Fr none) 0 P fn (sZ (J []) Jx)):=by
 rintro a w hst
 obtain⟨B,F,hb,_⟩:=id hst
 obtain⟨hd,v,h5,h6⟩:=To.done (nt:=nt) (F0:=F0) (K:=K) (L:=L) hΓ (hsh:=hsh) h a w hst
 show LeavesInM (Fr none) 0 P fn a.tmps _ a.defers .returning w
 rw[hd]
 exact⟨v,h5,⟨v,rfl⟩,je F0 wt w,hJ.imp (fun h=>hs _ _ _ _ h hb.below.below) fun h=>hsx () _ _ _ h hb.below.below⟩
theorem To.FN(hΓ:ΓOK P Γ){fn:Func}{r:D}{wt:World}{hsh:Shp P wt}{α:Type}{J:List α->Fz->World->Prop}{Jx:Fz->World->Prop}(hs:mJ J)(hsx:mJ (fun(_:Unit)=>Jx))(hJ:J [] F0 wt\/Jx F0 wt)(h:oP Γ K L fn.results.toList=some r) :
  To nt F0 (.top wt hsh) K L .normal (bodyPostM (Fr none) 0 P fn (sZ (J []) Jx)):=fun a w hst=>To.yG (nt:=nt) (K:=K) (L:=L) hΓ (hsh:=hsh) hs hsx hJ h a w hst
theorem mJ.wq{β:Type}{J:β->Fz->World->Prop}(h:mJ J)(b:β):mJ (fun(_:Unit)=>J b):=fun _ F w w'=>h b F w w'
theorem EZ{g : Nat}{fn : Func}{c : Code}{ds : List D}{α : Type}{encs : α->List D}{xs : List α}(hf : P.funcs[g]? = some fn)(hbody : fn.body=some c)(hname : (fn.name == "runtime.NumGoroutine")=false)(hn : ds.length+1<=fn.ntmps)
  (h:∀(l:Nat)(J:List α->Fz->World->Prop)(Jx:Fz->World->Prop),mJ J->mJ (fun(_:Unit)=>Jx) ->
   (∀x r F w args,J (x::r) F w->(∀g k,F g k->g<w.heap.size)->Shp P w->aA F w NB (encs x) args->YieldAt (Fr none) 0 P l args.toArray w fun e w'=>∃F',Adv P F w F' w'/\((e=.returned (.bool true)/\J r F' w')\/(e=.returned (.bool false)/\Jx F' w'))) ->
   ∀(F0:Fz)(wt:World)(hsh:Shp P wt),J xs F0 wt->(∀g k,F0 g k->g<wt.heap.size) ->
    Wp P fn.ntmps F0 (.top wt hsh) ((D.val (.func (.yield l) #[] #[])::ds).zipIdx.map fun x=>(x.2,x.1)) [] c (bodyPostM (Fr none) 0 P fn (sZ (J []) Jx))):Bn P g ds encs xs:=by
 refine⟨⟨fn,hf,hname,by rw[hbody];rfl⟩,fun l J Jx hs hsx hy F w lb hJ hF hsh hr=>?_⟩
 have hr':aA F w NB (D.val (.func (.yield l) #[] #[])::ds) (.func (.yield l) #[] #[]::lb):=.cons _ _ _ _ (.val _ rfl) hr
 have hlen:=aA.length hr'
 have hargs:#[Value.func (.yield l) #[] #[]]++lb.toArray=(Value.func (.yield l) #[] #[]::lb).toArray:=by simp
 rw[hargs]
 refine callsIn_of_wp_marks (F:=Fr none) hf hbody trivial (h l J Jx hs hsx hy F w hsh hJ hF _ w ⟨NB,F,?_,rfl,?_,fun x hx=>?_⟩)
 ·exact⟨(fun k t ds hl=>by simp[aJ] at hl),(fun k t ds b hl=>by simp[aJ] at hl),(fun i j b hi=>by obtain⟨t,ds,hx⟩:=hi;simp[aJ] at hx),hF,fun g k h=>.inl h,Grow.refl _ _,dP.refl _ _ _,fun k b h=>by cases h⟩
 ·have h1:lb.length=ds.length:=by have:=hlen;simp only[List.length_cons] at this;omega
  simp;omega
 ·obtain⟨y,hy,rfl⟩:=List.mem_map.1 hx
  obtain⟨d,i⟩:=y
  have hd:(D.val (.func (.yield l) #[] #[])::ds)[i]? = some d:=by
   have:=List.mem_zipIdx_iff_getElem?.1 hy
   simpa using this
  obtain⟨v,hv,hrep⟩:=hr'.get i hd
  refine⟨v,?_,hrep⟩
  have hi:i<(Value.func (.yield l) #[] #[]::lb).length:=(List.getElem?_eq_some_iff.1 hv).1
  simp only
  rw[Array.getElem?_append_left (by simpa using hi)]
  simpa using hv
end
end Go.Proofs.YtpmmhhmhckpnfaaDoor.RX
namespace Go.Proofs.YtpmmhhmhckpnfaaDoor.RX
open Go.RowKit
section
variable {ro:Option Nat} {P:Program} {ops:Array Oper} {Q:Exit->Act->World->Prop}
theorem Ce{F:Fence}{n:Nat}{o:Oper}{a:Act}{w:World}{K K':Act->World->Prop}{Q Q':Exit->Act->World->Prop}(hQ:∀e a w,e≠.normal->¬Q e a w)(h:∀a w,K a w->K' a w)(hh:o.wpIn F n P a w K Q):o.wpIn F n P a w K' Q':=by
 unfold Oper.wpIn at *
 refine⟨hh.1,?_⟩
 have hh:=hh.2
 generalize (o.semAt F.round a.eval).run P w=r at *
 have hl:¬LetsOut Q:=fun⟨a,w,h⟩=>hQ _ a w (by simp) h
 cases r with
 |ok x w' =>
  cases x<;>simp only[Oper.uponIn] at hh ⊢ <;>
   first
    |exact h _ _ hh
    |exact⟨hh.1,CallsIn.mono hh.2 (fun e w'' he=>by cases e<;>first|exact h _ _ he|exact(hQ _ _ _ (by simp) he).elim|exact(hl he).elim)⟩
    |exact⟨hh.1,RowsIn.mono hh.2 (fun _ _ he=>h _ _ he)⟩
    |exact⟨hh.1,RoundIn.mono hh.2 (fun e w'' he=>by cases e<;>first|exact h _ _ he|exact(hQ _ _ _ (by simp) he).elim|exact(hl he).elim)⟩
 |halt x w'=>cases x<;>simp only[Oper.uponIn] at hh ⊢<;>first|exact hh|exact(hQ _ _ _ (by simp) hh).elim
def za(ro:Option Nat)(P:Program)(ops:Array Oper)(Q:Exit->Act->World->Prop)(rest:List Oper):Exit->Act->World->Prop
 |.normal,a,w=>wpListIn (Fr ro) 0 P ops Q rest a w
 |_,_,_=>False
theorem D6{rest:List Oper}(e:Exit)(a:Act)(w:World)(h:e≠.normal):¬za ro P ops Q rest e a w:=by cases e<;>first|exact absurd rfl h|exact id
theorem nX{rest:List Oper}:∀{l:List Oper}{a:Act}{w:World},(∀o∈l,o.nd)->wpList P ops (za ro P ops Q rest) l a w->wpListIn (Fr ro) 0 P ops Q (l++rest) a w
 |[],a,w,_,h=>by
  unfold wpList at h
  exact h
 |o::l,a,w,hn,h=>by
  have hout:¬LetsOut (za ro P ops Q rest):=fun⟨_,_,h⟩=>h
  unfold wpList at h
  rw[List.cons_append]
  unfold wpListIn
  split at h
  ·rename_i hw
   rw[if_pos hw]
   rcases h with h|h
   ·exact Ce D6 (fun a w h=>nX (fun o ho=>hn o (List.mem_cons_of_mem _ ho)) h) (xt (ro:=ro) hout (hn o List.mem_cons_self) h)
   ·exact absurd h.2 hout
  ·rename_i hw
   rw[if_neg hw]
   exact⟨fun _ _=>trivial,nX (fun o ho=>hn o (List.mem_cons_of_mem _ ho)) h⟩
end
def evY(C:Nat->List D->D->Prop)(CB:Nat->List D->ay->D->ay->Prop)(Γ:Nat->Option TI)(nt:Nat)(orc:List (Nat×D))(orb:List (Nat×CBd))(l:List Oper)(fz:List (Nat×List Nat))(i:Nat)(K:List (Nat×D))(kk:List Nat)(b:Bool):Option (Value×List D×Bool×List (Nat×D)×List Prop) :=
 if l.all ndB then
  match l[i]?,ji C CB Γ nt orc orb l fz (l.take i) 0 (ky K []) with
  |some o,some s =>
   (match o.op,o.dst,gV l s.K o.guard with
   |.call c,some td,some g =>
    (match c.callee,getAll (getOp s.K g) c.args.toList with
    |.value x,some ds =>
     (match getOp s.K g x,ji C CB Γ nt orc orb l fz (l.drop (i+1)) (i+1) { K:=fJ ⟨td,i+1,g,.val (.bool b)⟩ (s.K.filter fun e=>D.dL e.d),L:=[],tab:=di i (.val (.bool b)) s.tab,obl:=s.obl } with
     |some (.val v),some s3=>if td<nt/\D.bU ds=true then(match nc s3.K kk with|some K'=>some (v,ds,holds s.tab g,K',s3.obl)|none=>none) else none
     |_,_=>none)
    |_,_=>none)
   |_,_,_=>none)
  |_,_=>none
 else none
section
variable {P:Program} {Γ:Nat->Option TI} {nt:Nat} {F0:Fz} {K:List (Nat×D)} {Q:Exit->Act->World->Prop}
theorem yR{C:Nat->List D->D->Prop}{CB:Nat->List D->ay->D->ay->Prop}{orc:List (Nat×D)}{orb:List (Nat×CBd)}{l:List Oper}{fz:List (Nat×List Nat)}{i:Nat}{kk:List Nat}{b:Bool}{v:Value}{r:List D×Bool×List (Nat×D)×List Prop}
  (h:evY C CB Γ nt orc orb l fz i K kk b=some (v,r)):l.all ndB=true/\∃o s c td g x s3,l[i]? = some o/\ji C CB Γ nt orc orb l fz (l.take i) 0 (ky K [])=some s/\o.op=.call c/\o.dst=some td/\gV l s.K o.guard=some g/\c.callee=.value x/\getAll (getOp s.K g) c.args.toList=some r.1 /\
   getOp s.K g x=some (.val v)/\ji C CB Γ nt orc orb l fz (l.drop (i+1)) (i+1) { K:=fJ ⟨td,i+1,g,.val (.bool b)⟩ (s.K.filter fun e=>D.dL e.d),L:=[],tab:=di i (.val (.bool b)) s.tab,obl:=s.obl }=some s3/\td<nt/\D.bU r.1=true/\nc s3.K kk=some r.2.2.1/\r.2.1=holds s.tab g/\r.2.2.2=s3.obl:=by
 unfold evY at h
 split at h
 rotate_left
 ·cases h
 rename_i hnd
 split at h
 rotate_left
 ·cases h
 rename_i o s ho hs
 split at h
 rotate_left
 ·cases h
 rename_i c td g h1 h2 h3
 split at h
 rotate_left
 ·cases h
 rename_i x ds h4 h5
 split at h
 rotate_left
 ·cases h
 rename_i v' s3 h6 h7
 split at h
 rotate_left
 ·cases h
 rename_i hc
 split at h
 rotate_left
 ·cases h
 rename_i K' hk
 obtain⟨hc1,hc2⟩:=hc
 cases h
 exact⟨hnd,o,s,c,td,g,x,s3,ho,hs,h1,h2,h3,h4,h5,h6,h7,hc1,hc2,hk,rfl,rfl⟩
theorem Wp.zL(hΓ:ΓOK P Γ){wt:World}{hsh:Shp P wt}{id:Nat}{l:List Oper}(i l0:Nat)(fz:List (Nat×List Nat))(orc:List (Nat×D))(orb:List (Nat×CBd))(kk:List Nat){J1:Fz->World->Prop}(hst:mJ (fun(_:Unit)=>J1)){J2 Jx:Fz->World->Prop}
  {ds:Bool->List D} {gv:Bool} {K2:Bool->List (Nat×D)} {ob:Bool->List Prop}
  (h:∀b,evY (CX P) (cY P) Γ nt orc orb l fz i K kk b=some (.func (.yield l0) #[] #[],ds b,gv,K2 b,ob b)) (hob:∀b,ax (ob b)) (hfrz:∀g k,F0 g k->g<wt.heap.size) (hJ:J1 F0 wt)
  (hy:gv=true->∀F w args,J1 F w->(∀g k,F g k->g<w.heap.size)->Shp P w->aA F w NB (ds true) args->YieldAt (Fr none) 0 P l0 args.toArray w fun e w'=>∃F',Adv P F w F' w'/\((e=.returned (.bool true)/\J2 F' w')\/(e=.returned (.bool false)/\Jx F' w')))
  (hn:gv=true->∀(b:Bool)(F1:Fz)(w1:World)(hsh1:Shp P w1),(if b=true then J2 F1 w1 else Jx F1 w1)->(∀g k,F1 g k->g<w1.heap.size)->To nt F1 (.top w1 hsh1) (K2 b) [] .normal Q)
  (hf:gv=false->To nt F0 (.top wt hsh) (K2 false) [] .normal Q) :
  Wp P nt F0 (.top wt hsh) K [] (.region id l.toArray false) Q:=by
 rintro a w ⟨B,F,hb,hd,hs,hK⟩
 obtain⟨hnd,o,s,c,td,g,x,s3,ho,hs',hop,hdst,hg,hcal,hds,hx,hs3,htd,hno,hkk,hgv,hobl⟩:=yR (h true)
 obtain⟨_,o',s',c',td',g',x',s4,ho',hs'',hop',hdst',hg',_,_,_,hs4,_,_,hkk4,_,hobl4⟩:=yR (h false)
 rw[ho] at ho';cases ho'
 rw[hs'] at hs'';cases hs''
 rw[hdst] at hdst';cases hdst'
 rw[hg] at hg';cases hg'
 simp only at hgv hds hno hkk hkk4 hobl hobl4
 refine XC.nrm (wpIn_region_lit ?_)
 have hil:i<l.length:=(List.getElem?_eq_some_iff.1 ho).1
 have hsplit:l=l.take i++(o::l.drop (i+1)):=by
  have h1:l.drop i=o::l.drop (i+1):=by
   rw[List.drop_eq_getElem_cons hil]
   congr 1
   rw[List.getElem?_eq_getElem hil] at ho
   exact Option.some.inj ho
  rw[<-h1,List.take_append_drop]
 have hndl:=B7 hnd
 have hobs:∀p∈s.obl,p:=fun p hp=>ax.mem (hob true) p (by rw[hobl];exact pW _ _ hs3 p hp)
 have key:wpListIn (Fr none) 0 P l.toArray (nrm Q) (l.take i++(o::l.drop (i+1))) a w:=by
  refine nX (fun o ho=>hndl o (List.mem_of_mem_take ho)) ?_
  have h0:=mP (Q:=za none P l.toArray (nrm Q) (o::l.drop (i+1))) hΓ [] (l.take i) 0 (fun j hj=>?_) hs' hobs (oh hb hd hs hK) fun B' F' a' w' hi=>wpList_nil ?_
  ·rwa[List.append_nil] at h0
  ·have hj':j<i:=by rw[List.length_take] at hj;omega
   rw[Nat.zero_add,List.getElem?_take,if_pos hj']
  ·have hlt:0+(l.take i).length=i:=by rw[List.length_take];omega
   rw[hlt] at hi
   show wpListIn (Fr none) 0 P l.toArray (nrm Q) (o::l.drop (i+1)) a' w'
   unfold wpListIn
   obtain⟨hw,hgS⟩:=uM hi hg (o:=o) rfl
   have hod:((l[i]?).bind (·.dst))=some td:=by rw[ho];exact hdst
   have htab:∀(b:Bool)(j:Nat),j≠i->tv (di i (.val (.bool b)) s.tab) j=tv s.tab j:=fun b j hj=>qB hj
   have hself:∀(b b':Bool),D.val (.bool b)=.val (.bool b')->tv (di i (.val (.bool b)) s.tab) i=b':=fun b b' e=>by cases e;simp[di,tv]
   by_cases hgt:holds s.tab g=true
   ·rw[if_pos (hw.trans hgt)]
    have hgv':gv=true:=hgv.trans hgt
    have hbel:Below wt.heap.size wt w':=hi.base.below.below
    have hgrow:Grow F' (je F0 wt w') w' w':=⟨fun g k hF=>(hi.base.more g k hF).imp (fun h=>h) fun h=>⟨h.resolve_right (fun h=>h),hi.base.frz g k hF⟩,fun _ _ _=>rfl,fun _ _ _ _ _ h=>h⟩
    have hJ':=hst () _ _ _ hJ hbel
    have hfr':∀g k,je F0 wt w' g k->g<w'.heap.size:=fun g k hF=>by
     rcases hF with hF|hF
     ·exact Nat.lt_of_lt_of_le (hfrz g k hF) hbel.size
     ·exact hF.2
    have hget:=bF (g:=g) hi.ents hgt
    have hargs:=eE.all hget _ _ hds
    obtain⟨fnr,tmps,assign,body,hrun,hround⟩:=hy hgv' (je F0 wt w') w' _ hJ' hfr' hi.base.shp ((hargs.bare hno).grow hgrow)
    have hv0:a'.eval x=.func (.yield l0) #[] #[]:=by
     have:=hget x _ hx
     generalize a'.eval x=v at this ⊢
     cases this;rfl
    have e1:(o.semAt (Fr none).round a'.eval).run P w'=.ok (.round l0 fnr tmps assign body) w':=by
     rw[Oper.semAt_eq _ _ _ (fun c' hc'=>by rw[hop] at hc';cases hc')]
     have hag:(c.args.map a'.eval)=(c.args.toList.map a'.eval).toArray:=by rw[<-Array.toList_map,Array.toArray_toList]
     unfold execOp
     simp only[hop,resolve,hcal,Deferred.ofValue,hv0,Sem.run_bind,Sem.run_pure,Result.andThen_ok,invoke]
     rw[hag,Array.empty_append]
     exact hrun
    unfold Oper.wpIn
    refine⟨fun _ _=>trivial,?_⟩
    rw[e1]
    refine⟨fun h=>(by cases h),RoundIn.mono hround fun e w2 he=>?_⟩
    obtain⟨F2,hadv,he⟩:=he
    obtain⟨b,rfl,hJb⟩:∃b:Bool,e=.returned (.bool b)/\(if b=true then J2 F2 w2 else Jx F2 w2):=by
     rcases he with⟨h1,h2⟩|⟨h1,h2⟩
     ·exact⟨true,h1,by rw[if_pos rfl];exact h2⟩
     ·exact⟨false,h1,by rw[if_neg (by decide)];exact h2⟩
    show wpListIn (Fr none) 0 P l.toArray (nrm Q) (l.drop (i+1)) (a'.put o.dst (.bool b)) w2
    rw[hdst]
    have hg2:Grow F' F2 w' w2:=hgrow.trans hadv.grow
    have hbase:Base F2 (.top w2 hadv.shp) B' F2 (aJ []) w2:=⟨(fun k t ds hl=>by simp[aJ] at hl),(fun k t ds b hl=>by simp[aJ] at hl),(fun i j b hi=>by obtain⟨t,ds,hx⟩:=hi;simp[aJ] at hx),hadv.frz,fun g k h=>.inl h,Grow.refl _ _,dP.refl _ _ _,fun k b h=>by cases h⟩
    have hi2:ft nt l F2 (.top w2 hadv.shp) B' F2 { s with K:=s.K.filter fun e=>D.dL e.d,L:=[] } (fun j=>j<i) a' w2 :=
     ⟨hbase,hi.defers,hi.size,fun e he=>by
      obtain⟨h1,h2⟩:=List.mem_filter.1 he
      obtain⟨q1,q2⟩:=hi.ents e h1
      exact⟨fun hh=>let ⟨v,r1,r2⟩:=q1 hh;⟨v,r1,r2.grow hg2⟩,q2⟩,fun e he=>hi.keys e (List.mem_filter.1 he).1,fun e he=>hi.srcs e (List.mem_filter.1 he).1,fun e he=>hi.kF e (List.mem_filter.1 he).1⟩
    have hi3:=ff (i:=i) (S':=fun j=>j<i+1) hi2 (by simp) (fun j hj=>Nat.lt_succ_of_lt hj) (Nat.lt_succ_self i) (fun e he=>⟨he,hi2.ents e he⟩) hbase (t:=td) (g:=g) (d:=.val (.bool b)) (v:=.bool b) (tab':=di i (.val (.bool b)) s.tab) (ob:=s.obl) htd hgS (htab b) (hself b) hod ⟨fun _=>.val _ rfl,fun hh=>by rw[show holds s.tab g=true from hgt] at hh;cases hh⟩
    cases b with
    |true=>exact mF nM (fun o ho=>hndl o (List.mem_of_mem_drop ho)) (kz hΓ (l.drop (i+1)) (i+1) (fun j=>by rw[List.getElem?_drop]) hs3 (by rw[<-hobl];exact ax.mem (hob true)) hi3 fun B'' F'' a'' w'' hi4=>hn hgv' true F2 w2 hadv.shp hJb hadv.frz a'' w'' (mC (kl:=[]) hi4 hkk rfl))
    |false=>exact mF nM (fun o ho=>hndl o (List.mem_of_mem_drop ho)) (kz hΓ (l.drop (i+1)) (i+1) (fun j=>by rw[List.getElem?_drop]) hs4 (by rw[<-hobl4];exact ax.mem (hob false)) hi3 fun B'' F'' a'' w'' hi4=>hn hgv' false F2 w2 hadv.shp hJb hadv.frz a'' w'' (mC (kl:=[]) hi4 hkk4 rfl))
   ·have hgf:holds s.tab g=false:=by simpa using hgt
    rw[if_neg (by rw[hw,hgf];decide)]
    refine⟨fun _ _=>trivial,?_⟩
    rw[hdst]
    have hi2:ft nt l F0 (.top wt hsh) B' F' { s with K:=s.K.filter fun e=>D.dL e.d,L:=[] } (fun j=>j<i) a' w' :=
     ⟨hi.base.sub (fun _ _ _ h=>by simp[aJ] at h),hi.defers,hi.size,fun e he=>hi.ents e (List.mem_filter.1 he).1,fun e he=>hi.keys e (List.mem_filter.1 he).1,fun e he=>hi.srcs e (List.mem_filter.1 he).1,fun e he=>hi.kF e (List.mem_filter.1 he).1⟩
    have hi3:=ff (i:=i) (S':=fun j=>j<i+1) hi2 (by simp) (fun j hj=>Nat.lt_succ_of_lt hj) (Nat.lt_succ_self i) (fun e he=>⟨he,hi2.ents e he⟩) hi2.base (t:=td) (g:=g) (d:=.val (.bool false)) (v:=undef) (tab':=di i (.val (.bool false)) s.tab) (ob:=s.obl) htd hgS (htab false) (hself false) hod ⟨fun hh=>(by rw[show holds s.tab g=false from hgf] at hh;cases hh),fun _=>rfl⟩
    exact mF nM (fun o ho=>hndl o (List.mem_of_mem_drop ho)) (kz hΓ (l.drop (i+1)) (i+1) (fun j=>by rw[List.getElem?_drop]) hs4 (by rw[<-hobl4];exact ax.mem (hob false)) hi3 fun B'' F'' a'' w'' hi4=>hf (hgv.trans hgf) a'' w'' (mC (kl:=[]) hi4 hkk4 rfl))
 rw[<-hsplit] at key
 exact key
end
end Go.Proofs.YtpmmhhmhckpnfaaDoor.RX
namespace Go.Proofs.YtpmmhhmhckpnfaaDoor.RX
open Go.RowKit
def cRB:Code->Code|.rangeFunc _ _ _ b=>b|c=>c
section
variable {P:Program} {Γ:Nat->Option TI} {nt:Nat} {F0:Fz} {w0:Pt P} {K:List (Nat×D)} {L:ay} {Q:Exit->Act->World->Prop}
def _root_.Go.Proofs.YtpmmhhmhckpnfaaDoor.RX.Pt.out(w1:Pt P):Pt P:={ w1 with rnd:=none }
theorem Wp.Fp{α σ:Type}{t:Nat}{ps:Array Tmp}{assign body:Code}{gf:Nat}{lds:List D}{encs:α->List D}{xs:List α}(c:CBd)(R:List α->σ->Prop)(S:σ->ay)(jump:Option Code)(kb k1:List Nat)(Kb K':List (Nat×D))(L':ay)(s0:σ)(K2:α->σ->List (Nat×D))(L2:α->σ->ay)
  (hro:w0.rnd=none) (hg:K.lookup t=some (.fn gf lds)) (hlds:D.bU lds=true) (hseq:Bn P gf lds encs xs)
  (hok:qU c=true) (hLin:found c L=c.Lin.map fun x=>some (x.2.1,D.subs (bX never c.ren) x.2.2)) (hno:∀s,gK (S s)=true) (hnoL:gK c.dN=true) (hA:jK c L=L') (hnoA:gK L'=true)
  (hR0:R xs s0) (hS0:∀(F':Fz)(w1:Pt P)(a:Act)(w:World),St nt F' w1 [] c.Lin a w->St nt F' w1 [] (S s0) a w) (hps:∀x,(encs x).length=ps.toList.length) (hnd:ps.toList.Nodup) (hpt:∀p∈ps.toList,p<nt) (hne:∀x,D.bU (encs x)=true)
  (hKb:jZ K kb=some (Kb.map fun x=>(x.1,D.sub (bX never c.ren) x.2))) (hKb2:(Kb.all fun x=>!(ps.toList.contains x.1)&&AL (c.Lin.map (·.1)) x.2)=true)
  (hno2:∀x s,gK (L2 x s)=true)
  (hend:∀s,R [] s->jump=none/\S s=c.dN)
  (hK':jZ K k1=some K') (hK2:(K'.all fun x=>(dm c).all fun k=>!(D.names k x.2))=true)
  (hass:∀x r s,R (x::r) s->∀(F':Fz)(w1:Pt P),Wp P nt F' w1 (Kb++ps.toList.zip (encs x)) (S s) assign (tG nt F' w1 (K2 x s) (L2 x s)))
  (hbody:∀x r s,R (x::r) s->∀(F':Fz)(w1:Pt P),Wp P nt F' w1 (K2 x s) (L2 x s) body (jO F' w1 (R r) S jump c.dN))
  (hn:∀(F1:Fz)(w1:Pt P),After F0 w0 F1 w1.out->Behind nt F1 w1.out K' L' Q jump) :
  Wp P nt F0 w0 K L (.rangeFunc (.tmp t) ps assign body) Q:=by
 subst hA
 refine Wp.rangeFunc (Kb:=Kb) (K':=K') c R S jump hro hg hlds hseq hok hLin hno hnoL hnoA s0 hR0 hS0 hps hnd hpt hne (fun x hx=>⟨kN hKb _ (List.mem_map.2 ⟨x,hx,rfl⟩),?_⟩) K2 L2 hno2 hass hbody hend (fun x hx=>⟨kN hK' x hx,fun k hk=>?_⟩) (fun F1 w1 hA=>?_)
 ·have h:=List.all_eq_true.1 hKb2 x hx
  simp only[Bool.and_eq_true,Bool.not_eq_true'] at h
  exact⟨fun hm=>(by rw[List.contains_iff_mem.2 hm] at h;cases h.1),h.2⟩
 ·have h:=List.all_eq_true.1 (List.all_eq_true.1 hK2 x hx) k (List.contains_iff_mem.1 hk)
  simpa using h
 ·have e:w1.out=w1:=by
   have h1:=hA.rnd
   cases w1
   simp only at h1
   subst h1
   rfl
  have h2:=hn F1 w1 (by rw[e];exact hA)
  rwa[e] at h2
end
end Go.Proofs.YtpmmhhmhckpnfaaDoor.RX
namespace Go.Proofs.YtpmmhhmhckpnfaaDoor.RX
open Go.RowKit
def qh(k:Nat)(m:D):D->Option D
 |.mp j=>if j=k then some m else none
 |.own j _=>if j=k then some .hole else none
 |.opt j=>if j=k then some .hole else none
 |.dq j=>if j=k then some .hole else none
 |.row j=>if j=k then some .hole else none
 |.elm j _ _ _=>if j=k then some .hole else none
 |_=>none
section
variable {P:Program} {Γ:Nat->Option TI} {nt:Nat} {F0:Fz} {w0:Pt P} {K K':List (Nat×D)} {L L':ay} {B:Env} {F:Fz} {M:Mem} {w:World}
theorem BO{k:Nat}{α:Type}{kk:Option IntKind}{ag:Bool}{d:α}{enc:α->List D}{l:List (MK×α)}:∀e r,qh k (.aI kk ag d enc l) e=some r->r.flat=true:=by
 intro e r h
 cases e<;>simp only[qh] at h<;>first|(cases h;done)|(split at h<;>cases h<;>rfl)
theorem Base.wR(hb:Base F0 w0 B F M w){k t:Nat}{kk:Option IntKind}{ag:Bool}{α:Type}{d:α}{enc:α->List D}{l:List (MK×α)}(hk:M k t [.dH kk ag d enc l]) :
  ∃F',Base F0 w0 B F' (fun j t' es=>∃es',j≠k/\M j t' es'/\es=D.subs (qh k (.aI kk ag d enc l)) es') w/\Grow F F' w w/\jR F' w B B (qh k (.aI kk ag d enc l)):=by
 obtain⟨b,hB,_,hgood,hnf,ents,clock,hh,hst,hes⟩:=hb.map' hk
 have hF:∀g j,F g j->F g j\/(g=b):=fun g j h=>.inl h
 have hgr:Grow F (fun g j=>F g j\/(g=b)) w w:=⟨hF,fun _ _ _=>rfl,fun _ _ _ _ _ h=>h⟩
 have hsub:jR (fun g j=>F g j\/(g=b)) w B B (qh k (.aI kk ag d enc l)):=by
  refine⟨fun d r v h hv=>?_,fun _ _ _=>rfl,fun _ _=>rfl,fun _ _=>rfl,fun _ _=>rfl,fun _ _ _ _ _=>rfl,fun _ _=>rfl⟩
  cases d<;>simp only[qh] at h<;>first|(cases h;done)|skip
  ·split at h
   ·cases h;cases hv;exact .hole _ rfl
   ·cases h
  ·split at h
   ·cases h;cases hv;rename_i hv;rcases hv with rfl|rfl<;>exact .hole _ rfl
   ·cases h
  ·split at h
   ·cases h;cases hv<;>exact .hole _ rfl
   ·cases h
  ·split at h
   ·rename_i hjk
    subst hjk
    cases h
    cases hv with
    |mp _ b' hB' =>
     rw[hB] at hB';cases hB'
     exact(hes.grow hgr).frozen _ (.inr rfl) hh hst
   ·cases h
  ·split at h
   ·cases h;cases hv<;>exact .hole _ rfl
   ·cases h
  ·split at h
   ·cases h;cases hv<;>exact .hole _ rfl
   ·cases h
 have hsub0:∀es us,aA F w B es us->aA (fun g j=>F g j\/(g=b)) w B (D.subs (qh k (.aI kk ag d enc l)) es) us:=fun es us h=>(h.grow hgr).sub hsub
 refine⟨fun g j=>F g j\/(g=b),?_,hgr,hsub⟩
 have hblk:∀g j,(F g j\/(g=b))->F g j\/bM B k=some g:=by
  rintro g j (h|rfl)
  ·exact .inl h
  ·exact .inr (gp hB)
 have hkk:=hk
 refine⟨fun j t' es hl=>?_,fun j t' es c hl hbk=>?_,fun i j c hi hj hBi hBj=>?_,fun g j h=>?_,fun g j h=>?_,hb.grow.trans hgr,hb.below,hb.env⟩
 ·obtain⟨es',hjk,hm,rfl⟩:=hl
  have hold:=hb.boxes _ _ _ hm
  have hkeep:∀c,bM B j=some c->w.heap[c]? = w.heap[c]?/\∀i,(F c i\/(c=b))->F c i:=by
   intro c hc
   refine⟨rfl,fun i hi=>?_⟩
   rcases hblk _ _ hi with h|h
   ·exact h
   ·exact absurd (hb.inj j k c ⟨_,_,hm⟩ ⟨_,_,hk⟩ hc h) hjk
  cases hold with
  |box _ c us hB' hr' hfl' hh' hnf'=>exact .box _ c us hB' (hsub0 _ _ hr') (kP BO hfl') hh' fun i hi=>hnf' i ((hkeep c (ia hB')).2 i hi)
  |row m d2 enc2 l2 p n cap hB' h=>rw[show D.subs (qh k (.aI kk ag d enc l)) [D.aR m d2 enc2 l2]=[.aR m d2 enc2 l2] from rfl];exact .row m d2 enc2 l2 p n cap hB' (h.grow hgr fun c hc=>hkeep c (by rw[dY hB',hc]))
  |map kk2 ag2 d2 enc2 l2 c hB' h=>exact .map kk2 ag2 d2 enc2 l2 c hB' (h.grow hgr (hkeep c (gp hB')))
  |obj c o S hB' h2 h3 h4 h5=>exact .obj c o S hB' h2 (fun i hi=>h3 i ((hkeep c (gp hB')).2 i hi)) (h5 _ _ _ _ hgr h4) h5
 ·obtain⟨es',hjk,hm,rfl⟩:=hl
  exact hb.new _ _ _ _ hm hbk
 ·obtain⟨t1,d1,_,_,h1,_⟩:=hi
  obtain⟨t2,d2,_,_,h2,_⟩:=hj
  exact hb.inj i j c ⟨_,_,h1⟩ ⟨_,_,h2⟩ hBi hBj
 ·rcases hblk _ _ h with h|h
  ·exact hb.frz _ _ h
  ·exact(hb.boxes _ _ _ hk).lt h
 ·rcases hblk _ _ h with h|h
  ·exact hb.more _ _ h
  ·exact .inr (hb.new _ _ _ _ hk h)
def G0(k:Nat)(m:D)(K:List (Nat×D)):List (Nat×D):=K.map fun x=>(x.1,D.sub (qh k m) x.2)
def G5(k:Nat)(m:D)(L:ay):ay:=(L.filter fun x=>!(x.1==k)).map fun x=>(x.1,x.2.1,D.subs (qh k m) x.2.2)
theorem St.wR(k:Nat){t:Nat}{kk:Option IntKind}{ag:Bool}{α:Type}{d:α}{enc:α->List D}{l:List (MK×α)}(hl:L.lookup k=some (t,[.dH kk ag d enc l]))(hK':G0 k (.aI kk ag d enc l) K=K')(hL':G5 k (.aI kk ag d enc l) L=L'):∀a w,St nt F0 w0 K L a w->St nt F0 w0 K' L' a w:=by
 rintro a w ⟨B,F,hb,hd,hs,hK⟩
 subst hK';subst hL'
 obtain⟨F',hb',hg,hsub⟩:=hb.wR (aB hl)
 refine⟨B,F',hb'.sub fun j t' ds hj=>?_,hd,hs,fun x hx=>?_⟩
 ·obtain⟨⟨j',t2,es⟩,hx,he⟩:=List.mem_map.1 hj
  obtain⟨h1,h2⟩:=List.mem_filter.1 hx
  cases he
  exact⟨es,by simpa using h2,h1,rfl⟩
 ·obtain⟨y,hy,rfl⟩:=List.mem_map.1 hx
  obtain⟨v,q1,q2⟩:=hK y hy
  exact⟨v,q1,(q2.grow hg).sub hsub⟩
end
end Go.Proofs.YtpmmhhmhckpnfaaDoor.RX
namespace Go.Proofs.YtpmmhhmhckpnfaaDoor.RX
open Go.RowKit
section
variable {P:Program} {F:Fz} {w:World} {B:Env}
theorem GM{a:Bs}{args:List Value}(h:aA F w B [.str a] args):args=[.string ⟨a.toArray⟩]:=by
 cases h with
 |cons _ v _ vs h1 h2=>cases h2;cases h1;rfl
theorem GI{a b:Bs}{args:List Value}(h:aA F w B [.str a,.str b] args):args=[.string ⟨a.toArray⟩,.string ⟨b.toArray⟩]:=by
 cases h with
 |cons _ v _ vs h1 h2=>cases h1;rw[GM h2]
theorem F4{a:Bs}{k:IntKind}{n:Int}{args:List Value}(h:aA F w B [.str a,.val (.int k n)] args):args=[.string ⟨a.toArray⟩,.int k n]:=by
 cases h with
 |cons _ v _ vs h1 h2 =>
  cases h1
  cases h2 with
  |cons _ v _ vs h3 h4=>cases h4;cases h3;rfl
theorem GN(l:Bs):(⟨l.toArray⟩:ByteArray).size=l.length:=List.size_toArray
theorem EL{f:Nat}{ds:List D}{r:D}(hf:FOK P f)(h:∀(F:Fz)(w:World)(args:List Value),Shp P w->aA F w NB ds args->Calls P f args.toArray w fun e w'=>∃v,e=.returned v/\(∀F' w'',Rep F' w'' NB r v)/\Below w.heap.size w w'):bq P f ds r :=
 ⟨hf,fun F w args hs _ hr=>(h F w args hs hr).mono fun _ _ ⟨v,he,hv,hb⟩=>⟨v,he,hv _ _,hb⟩⟩
theorem FB{g:Nat}(hg:g<P.low)(hs:∀w:World,w.ShapedOpen P->∃m,w.cell? ⟨g,0,none⟩=some (.int .i64 m))(h:Shp P w):∃m,w.cell? ⟨g,0,none⟩=some (.int .i64 m):=by
 obtain⟨w0,h0,_,h1⟩:=h
 obtain⟨m,hm⟩:=hs w0 h0
 exact⟨m,(World.cell?_of_block (h1 g hg)).trans hm⟩
theorem Gk{g:Nat}(h:Nat.ble g P.globals.size=true):g<P.low:=by
 have:P.low=P.globals.size+5:=by simp[Program.low,begin]
 have:=Nat.le_of_ble_eq_true h
 omega
variable {f:Nat} {a b c:Bs}
theorem B9{g:Nat}(hf:FOK P f)(hg:g<P.low)(hs:∀w:World,w.ShapedOpen P->∃m,w.cell? ⟨g,0,none⟩=some (.int .i64 m))
  (hc:∀(s sub:ByteArray)(m:Int)(w:World),s.size<4294967281->w.cell? ⟨g,0,none⟩=some (.int .i64 m)->Calls P f #[.string s,.string sub] w fun e w'=>e=.returned (.int .i64 (Lib.index s.data.toList sub.data.toList))/\w'=w)
  (ha:decide (a.length<4294967281)=true):bq P f [.str a,.str b] (.val (.int .i64 (Lib.index a b))):=by
 refine EL hf fun F w args hsh hr=>?_
 rw[GI hr]
 obtain⟨m,hm⟩:=FB hg hs hsh
 refine(hc ⟨a.toArray⟩ ⟨b.toArray⟩ m w (by rw[GN];exact of_decide_eq_true ha) hm).mono ?_
 rintro e w' ⟨rfl,rfl⟩
 exact⟨_,rfl,fun F' w''=>.val _ rfl,Below.refl _ _⟩
theorem yh{n:Int}(hf:FOK P f)(hc:∀(s:ByteArray)(c:Int)(w:World),Calls P f #[.string s,.int .u8 c] w fun e w'=>e=.returned (.int .i64 (Lib.indexByte s.data.toList c.toNat.toUInt8))/\w'=w):bq P f [.str a,.val (.int .u8 n)] (.val (.int .i64 (Lib.indexByte a n.toNat.toUInt8))):=by
 refine EL hf fun F w args _ hr=>?_
 rw[F4 hr]
 refine(hc ⟨a.toArray⟩ n w).mono ?_
 rintro e w' ⟨rfl,rfl⟩
 exact⟨_,rfl,fun F' w''=>.val _ rfl,Below.refl _ _⟩
end
end Go.Proofs.YtpmmhhmhckpnfaaDoor.RX
namespace Go.Proofs
open Go.Shelf
def Tryd.lays190_ren:Go.Shelf.Ren:=⟨fun|190=>31|125=>38|258=>37|128=>50|129=>51|302=>41|303=>42|304=>43|305=>44|306=>45|307=>46|308=>47|309=>48|310=>49|333=>55|329=>56|330=>57|334=>58|335=>59|336=>60|344=>68|n=>n,fun|31=>23|9=>9|3=>3|46=>79|0=>0|51=>91|53=>93|4=>4|183=>83|182=>82|131=>88|5=>5|218=>94|222=>98|228=>106|229=>107|n=>n,fun|n=>n⟩
theorem Tryd.lays190:Go.Proofs.Lays.n190 Tryd.prog Tryd.lays190_ren:={
 mixed:=by kernel_rfl
 f125:=Tryd.func38.trans (congrArg some (by kernel_rfl))
 f128:=Tryd.func50.trans (congrArg some (by kernel_rfl))
 f129:=Tryd.func51.trans (congrArg some (by kernel_rfl))
 f190:=Tryd.func31.trans (congrArg some (by kernel_rfl))
 f258:=Tryd.func37.trans (congrArg some (by kernel_rfl))
 f302:=Tryd.func41.trans (congrArg some (by kernel_rfl))
 f303:=Tryd.func42.trans (congrArg some (by kernel_rfl))
 f304:=Tryd.func43.trans (congrArg some (by kernel_rfl))
 f305:=Tryd.func44.trans (congrArg some (by kernel_rfl))
 f306:=Tryd.func45.trans (congrArg some (by kernel_rfl))
 f307:=Tryd.func46.trans (congrArg some (by kernel_rfl))
 f308:=Tryd.func47.trans (congrArg some (by kernel_rfl))
 f309:=Tryd.func48.trans (congrArg some (by kernel_rfl))
 f310:=Tryd.func49.trans (congrArg some (by kernel_rfl))
 f329:=Tryd.func56.trans (congrArg some (by kernel_rfl))
 f330:=Tryd.func57.trans (congrArg some (by kernel_rfl))
 f333:=Tryd.func55.trans (congrArg some (by kernel_rfl))
 f334:=Tryd.func58.trans (congrArg some (by kernel_rfl))
 f335:=Tryd.func59.trans (congrArg some (by kernel_rfl))
 f336:=Tryd.func60.trans (congrArg some (by kernel_rfl))
 f344:=Tryd.func68.trans (congrArg some (by kernel_rfl))
 t0:=Tryd.underlying0
 a0:=Tryd.isAgg0
 z0:=Tryd.sizeOf0
 v0:=Tryd.zeroValue0
 t3:=Tryd.underlying3
 a3:=Tryd.isAgg3
 z3:=Tryd.sizeOf3
 v3:=Tryd.zeroValue3
 t4:=Tryd.underlying4
 a4:=Tryd.isAgg4
 z4:=Tryd.sizeOf4
 v4:=Tryd.zeroValue4
 t5:=Tryd.underlying5
 a5:=Tryd.isAgg5
 z5:=Tryd.sizeOf5
 v5:=Tryd.zeroValue5
 t9:=Tryd.underlying9
 a9:=Tryd.isAgg9
 z9:=Tryd.sizeOf9
 v9:=Tryd.zeroValue9
 t31:=Tryd.underlying23
 a31:=Tryd.isAgg23
 z31:=Tryd.sizeOf23
 v31:=Tryd.zeroValue23
 t46:=Tryd.underlying79
 a46:=Tryd.isAgg79
 z46:=Tryd.sizeOf79
 v46:=Tryd.zeroValue79
 t51:=Tryd.underlying91
 a51:=Tryd.isAgg91
 z51:=Tryd.sizeOf91
 v51:=Tryd.zeroValue91
 t53:=Tryd.underlying93
 a53:=Tryd.isAgg93
 z53:=Tryd.sizeOf93
 v53:=Tryd.zeroValue93
 t131:=Tryd.underlying88
 a131:=Tryd.isAgg88
 z131:=Tryd.sizeOf88
 v131:=Tryd.zeroValue88
 t182:=Tryd.underlying82
 a182:=Tryd.isAgg82
 z182:=Tryd.sizeOf82
 v182:=Tryd.zeroValue82
 t183:=Tryd.underlying83
 a183:=Tryd.isAgg83
 z183:=Tryd.sizeOf83
 v183:=Tryd.zeroValue83
 t218:=Tryd.underlying94
 a218:=Tryd.isAgg94
 z218:=Tryd.sizeOf94
 v218:=Tryd.zeroValue94
 t222:=Tryd.underlying98
 a222:=Tryd.isAgg98
 z222:=Tryd.sizeOf98
 v222:=Tryd.zeroValue98
 t228:=Tryd.underlying106
 a228:=Tryd.isAgg106
 z228:=Tryd.sizeOf106
 v228:=Tryd.zeroValue106
 t229:=Tryd.underlying107
 a229:=Tryd.isAgg107
 z229:=Tryd.sizeOf107
 v229:=Tryd.zeroValue107 }
open Go.Sort Go.RowKit in
theorem Tryd.slices_Sort_string(blk off cap:Nat)(ss:List (List UInt8))(w:World)(hH:Holds encStr w blk off ss.toArray)(hblk:blk<w.heap.size)(hsz:ss.length<4611686018427387904) :
  Calls Tryd.prog 31 #[.slice (some ⟨blk,off,none⟩) ss.length cap] w fun e w' =>
   e=.returned (.tuple #[])/\∃n os,w'=grow (putRow encStr (Sort.ahead w n) blk off (ss.mergeSort fun x y=>decide (x<=y)).toArray) os:=Any.slices_Sort_string Tryd.lays190 blk off cap ss w hH hblk hsz
open Go.RowKit Go.Sort in
theorem Tryd.slices_Sort_string_none(p:Option Addr)(cap:Nat)(w:World) :
  Calls Tryd.prog 31 #[.slice p 0 cap] w fun e w'=>e=.returned (.tuple #[])/\w'=w:=Any.slices_Sort_string_none Tryd.lays190 p cap w
def Tryd.lays194_ren:Go.Shelf.Ren:=⟨fun|194=>32|n=>n,fun|31=>23|9=>9|3=>3|4=>4|0=>0|n=>n,fun|n=>n⟩
theorem Tryd.lays194:Go.Proofs.Lays.n194 Tryd.prog Tryd.lays194_ren:={
 mixed:=by kernel_rfl
 f194:=Tryd.func32.trans (congrArg some (by kernel_rfl))
 t0:=Tryd.underlying0
 a0:=Tryd.isAgg0
 z0:=Tryd.sizeOf0
 v0:=Tryd.zeroValue0
 t3:=Tryd.underlying3
 a3:=Tryd.isAgg3
 z3:=Tryd.sizeOf3
 v3:=Tryd.zeroValue3
 t4:=Tryd.underlying4
 a4:=Tryd.isAgg4
 z4:=Tryd.sizeOf4
 v4:=Tryd.zeroValue4
 t9:=Tryd.underlying9
 a9:=Tryd.isAgg9
 z9:=Tryd.sizeOf9
 v9:=Tryd.zeroValue9
 t31:=Tryd.underlying23
 a31:=Tryd.isAgg23
 z31:=Tryd.sizeOf23
 v31:=Tryd.zeroValue23 }
open Go.RowKit Go.Lib Go.Sort in
theorem Tryd.slices_Compact_string(blk off cap:Nat)(zs:List (List UInt8))(w:World)(hH:Holds encStr w blk off zs.toArray)(hsz:zs.length<=9223372036854775807)(hcap:zs.length<=cap) :
  Calls Tryd.prog 32 #[.slice (some ⟨blk,off,none⟩) zs.length cap] w fun e w'=>e=.returned (.slice (some ⟨blk,off,none⟩) (Lib.compact zs).length cap)/\∃q,w'=putRow encStr (Sort.ahead w q) blk off (Lib.compact zs++List.replicate (zs.length-(Lib.compact zs).length) []).toArray:=Any.slices_Compact_string Tryd.lays194 blk off cap zs w hH hsz hcap
open Go.RowKit Go.Lib Go.Sort in
theorem Tryd.slices_Compact_string_empty(a:Option Addr)(cap:Nat)(w:World) :
  Calls Tryd.prog 32 #[.slice a 0 cap] w fun e w'=>e=.returned (.slice a 0 cap)/\w'=w:=Any.slices_Compact_string_empty Tryd.lays194 a cap w
def Tryd.lays137_ren:Go.Shelf.Ren:=⟨fun|137=>62|217=>70|266=>75|n=>n,fun|9=>9|5=>5|3=>3|n=>n,fun|n=>n⟩
theorem Tryd.lays137:Go.Proofs.Lays.n137 Tryd.prog Tryd.lays137_ren:={
 mixed:=by kernel_rfl
 f137:=Tryd.func62.trans (congrArg some (by kernel_rfl))
 f217:=Tryd.func70.trans (congrArg some (by kernel_rfl))
 f266:=Tryd.func75.trans (congrArg some (by kernel_rfl))
 t3:=Tryd.underlying3
 a3:=Tryd.isAgg3
 z3:=Tryd.sizeOf3
 v3:=Tryd.zeroValue3
 t5:=Tryd.underlying5
 a5:=Tryd.isAgg5
 z5:=Tryd.sizeOf5
 v5:=Tryd.zeroValue5
 t9:=Tryd.underlying9
 a9:=Tryd.isAgg9
 z9:=Tryd.sizeOf9
 v9:=Tryd.zeroValue9 }
open Go.RowKit in
theorem Tryd.strings_IndexByte(s:ByteArray)(c:Int)(w:World) :
  Calls Tryd.prog 62 #[.string s,.int .u8 c] w fun e w'=>e=.returned (.int .i64 (Lib.indexByte s.data.toList c.toNat.toUInt8))/\w'=w:=Any.strings_IndexByte Tryd.lays137 s c w
def Tryd.lays143_ren:Go.Shelf.Ren:=⟨fun|143=>74|219=>77|217=>70|225=>78|224=>79|267=>80|266=>75|314=>81|n=>n,fun|9=>9|3=>3|4=>4|5=>5|46=>79|146=>118|51=>91|n=>n,fun|1=>0|n=>n⟩
theorem Tryd.lays143:Go.Proofs.Lays.n143 Tryd.prog Tryd.lays143_ren:={
 mixed:=by kernel_rfl
 f143:=Tryd.func74.trans (congrArg some (by kernel_rfl))
 f217:=Tryd.func70.trans (congrArg some (by kernel_rfl))
 f219:=Tryd.func77.trans (congrArg some (by kernel_rfl))
 f224:=Tryd.func79.trans (congrArg some (by kernel_rfl))
 f225:=Tryd.func78.trans (congrArg some (by kernel_rfl))
 f266:=Tryd.func75.trans (congrArg some (by kernel_rfl))
 f267:=Tryd.func80.trans (congrArg some (by kernel_rfl))
 f314:=Tryd.func81.trans (congrArg some (by kernel_rfl))
 t3:=Tryd.underlying3
 a3:=Tryd.isAgg3
 z3:=Tryd.sizeOf3
 v3:=Tryd.zeroValue3
 t4:=Tryd.underlying4
 a4:=Tryd.isAgg4
 z4:=Tryd.sizeOf4
 v4:=Tryd.zeroValue4
 t5:=Tryd.underlying5
 a5:=Tryd.isAgg5
 z5:=Tryd.sizeOf5
 v5:=Tryd.zeroValue5
 t9:=Tryd.underlying9
 a9:=Tryd.isAgg9
 z9:=Tryd.sizeOf9
 v9:=Tryd.zeroValue9
 t46:=Tryd.underlying79
 a46:=Tryd.isAgg79
 z46:=Tryd.sizeOf79
 v46:=Tryd.zeroValue79
 t51:=Tryd.underlying91
 a51:=Tryd.isAgg91
 z51:=Tryd.sizeOf91
 v51:=Tryd.zeroValue91
 t146:=Tryd.underlying118
 a146:=Tryd.isAgg118
 z146:=Tryd.sizeOf118
 v146:=Tryd.zeroValue118
 g1:=by kernel_rfl }
open Go.RowKit Go.Lib in
theorem Tryd.strings_Index(s sub:ByteArray)(m:Int)(w:World)(hs:s.size<4294967281)(hm:w.cell? ⟨0,0,none⟩=some (.int .i64 m)) :
  Calls Tryd.prog 74 #[.string s,.string sub] w fun e w'=>e=.returned (.int .i64 (Lib.index s.data.toList sub.data.toList))/\w'=w:=Any.strings_Index Tryd.lays143 s sub m w hs hm
def Tryd.laysM143_ren:Go.Shelf.Ren:=⟨fun|143=>74|219=>77|217=>70|225=>78|224=>79|267=>80|266=>75|314=>81|n=>n,fun|9=>9|3=>3|4=>4|5=>5|46=>79|146=>118|51=>91|n=>n,fun|1=>0|n=>n⟩
theorem Tryd.laysM143:Go.Proofs.LaysM.n143 Tryd.prog Tryd.laysM143_ren:={
 mixed:=by kernel_rfl
 f143:=Tryd.func74.trans (congrArg some (by kernel_rfl))
 f217:=Tryd.func70.trans (congrArg some (by kernel_rfl))
 f219:=Tryd.func77.trans (congrArg some (by kernel_rfl))
 f224:=Tryd.func79.trans (congrArg some (by kernel_rfl))
 f225:=Tryd.func78.trans (congrArg some (by kernel_rfl))
 f266:=Tryd.func75.trans (congrArg some (by kernel_rfl))
 f267:=Tryd.func80.trans (congrArg some (by kernel_rfl))
 f314:=Tryd.func81.trans (congrArg some (by kernel_rfl))
 t3:=Tryd.underlying3
 a3:=Tryd.isAgg3
 z3:=Tryd.sizeOf3
 v3:=Tryd.zeroValue3
 t4:=Tryd.underlying4
 a4:=Tryd.isAgg4
 z4:=Tryd.sizeOf4
 v4:=Tryd.zeroValue4
 t5:=Tryd.underlying5
 a5:=Tryd.isAgg5
 z5:=Tryd.sizeOf5
 v5:=Tryd.zeroValue5
 t9:=Tryd.underlying9
 a9:=Tryd.isAgg9
 z9:=Tryd.sizeOf9
 v9:=Tryd.zeroValue9
 t46:=Tryd.underlying79
 a46:=Tryd.isAgg79
 z46:=Tryd.sizeOf79
 v46:=Tryd.zeroValue79
 t51:=Tryd.underlying91
 a51:=Tryd.isAgg91
 z51:=Tryd.sizeOf91
 v51:=Tryd.zeroValue91
 t146:=Tryd.underlying118
 a146:=Tryd.isAgg118
 z146:=Tryd.sizeOf118
 v146:=Tryd.zeroValue118
 g1:=by kernel_rfl
 i3:=by kernel_rfl
 i4:=by kernel_rfl
 i5:=by kernel_rfl
 i9:=by kernel_rfl
 i46:=by kernel_rfl
 i51:=by kernel_rfl
 i146:=by kernel_rfl
 m1:=by kernel_rfl
 s1_3:=fun w h=>Go.Proofs.cell_of_shapedOpen_int (zero:=#[.int .i64 0]) (t:=3) h (of_decide_eq_true (by kernel_rfl)) (by kernel_rfl) rfl (by kernel_rfl) (by kernel_rfl) Tryd.underlying3 }
end Go.Proofs
namespace Go.Proofs.YtpmmhhmhckpnfaaDoor.M.Sh
open Go.RowKit Go.Proofs.YtpmmhhmhckpnfaaDoor.RX
abbrev sort:=iT
theorem Gy{l:List (List UInt8)}(h:decide (List.length l*17<=limit)=true):cY Tryd.prog 31 [.row 1000000] [(1000000,9,[.aR false (α:=List UInt8) [] RX.encS l])] (.tup []) [(1000000,9,[.aR false (α:=List UInt8) [] RX.encS (sort l)])]:=zP ⟨Tryd.f31,by kernel_rfl,by kernel_rfl,by kernel_rfl⟩ Tryd.slices_Sort_string Tryd.slices_Sort_string_none h
theorem Cj{l:List (List UInt8)}(h:decide (List.length l*17<=limit)=true):cY Tryd.prog 32 [.row 1000000] [(1000000,9,[.aR false (α:=List UInt8) [] RX.encS l])] (.recs (α:=List UInt8) [] RX.encS (Lib.compact l)) []:=wZ ⟨Tryd.f32,by kernel_rfl,by kernel_rfl,by kernel_rfl⟩ Tryd.slices_Compact_string Tryd.slices_Compact_string_empty (Lib.compact_length_le l) h
theorem zH{a:List UInt8}{n:Int}:bq Tryd.prog 62 [.str a,.val (.int .u8 n)] (.val (.int .i64 (Lib.indexByte a (Int.toNat n).toUInt8))):=yh ⟨Tryd.f62,by kernel_rfl,by kernel_rfl,by kernel_rfl⟩ Tryd.strings_IndexByte
theorem Fe{a b:List UInt8}(h:decide (List.length a<4294967281)=true):bq Tryd.prog 74 [.str a,.str b] (.val (.int .i64 (Lib.index a b))):=B9 (g:=0) ⟨Tryd.f74,by kernel_rfl,by kernel_rfl,by kernel_rfl⟩ (Gk (by kernel_rfl)) Tryd.laysM143.s1_3 Tryd.strings_Index h
end Go.Proofs.YtpmmhhmhckpnfaaDoor.M.Sh
