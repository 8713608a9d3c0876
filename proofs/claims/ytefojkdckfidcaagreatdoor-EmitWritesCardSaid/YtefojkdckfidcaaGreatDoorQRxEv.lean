import Derived.Test.YtefojkdckfidcaaGreatDoorQRxDef
import Derived.ChangeAgain
import Derived.Laws.BytesArg
import Derived.ChangeMaps5
set_option linter.all false
namespace Go.Proofs.YtefojkdckfidcaaGreatDoor.RX
open Go.RowKit
abbrev Mem:=Nat->Nat->List D->Prop
def aN(L:ax):Mem:=fun k t ds=>(k,t,ds)∈L
abbrev LIM:Nat:=1000000
def Shp(P:Program)(w:World):Prop:=∃w0:World,w0.ShapedOpen P/\P.low<=w.heap.size/\∀k,k<P.low->w.heap[k]? = w0.heap[k]?
structure Pt(P:Program) where
 w:World
 own:Nat->Prop
 env:Nat->Option Ref
 low:∀k,env k≠none->LIM<=k
 sh:Shp P w
 high:∀b,own b->P.low<=b
 rnd:Option Nat:=none
 defs:List Deferred:=[]
def Pt.cl{P:Program}(w0:Pt P):Pt P:={ w0 with rnd:=none,defs:=[] }
def Pt.top{P:Program}(w:World)(h:Shp P w):Pt P:=⟨w,fun _=>False,fun _=>none,fun _ h=>absurd rfl h,h,fun _ h=>h.elim,none,[]⟩
def Pt.fresh{P:Program}(w0:Pt P)(b:Nat):Prop:=w0.w.heap.size<=b\/w0.own b
theorem Pt.qF{P:Program}{w0:Pt P}{b:Nat}(h:w0.fresh b):P.low<=b:=by
 rcases h with h|h
 ·obtain⟨_,_,h1,_⟩:=w0.sh;omega
 ·exact w0.high b h
structure du(S:Nat->Prop)(n:Nat)(w w':World):Prop where
 os:w'.os=w.os
 tape:w'.tape=w.tape
 output:w'.output=w.output
 size:w.heap.size<=w'.heap.size
 block:∀k,k<n->¬S k->w'.heap[k]? = w.heap[k]?
inductive iF(F:Fz)(w:World)(B:Env)(k t:Nat):List D->Prop
 |box (ds:List D) (b:Nat) (vs:List Value) (hB:B k=some (.box b)) (hr:aA F w B ds vs) (hfl:ds.all D.flat=true) (hh:w.heap[b]? = some (.cells vs.toArray t (0,0))) (hnf:∀j,¬F b j):iF F w B k t ds
 |row (m:Bool) {α:Type} (d:α) (enc:α->List D) (l:List α) (p:Option Nat) (n cap:Nat) (hB:B k=some (.row p n cap)) (h:oW F w p n cap t m d enc l):iF F w B k t [.aO m d enc l]
 |map (kk:Option IntKind) (ag:Bool) {α:Type} (d:α) (enc:α->List D) (l:List (MK×α)) (b:Nat) (hB:B k=some (.map b)) (h:zq F w b kk ag enc l):iF F w B k t [.eE kk ag d enc l]
 |obj (b:Nat) (o:Obj) (S:Fz->World->Prop) (hB:B k=some (.map b)) (hh:w.heap[b]? = some o) (hnf:∀j,¬F b j) (hS:S F w) (hm:∀F F' w w',Grow F F' w w'->S F w->S F' w'):iF F w B k t [.qX b o S]
def bG(B:Env)(k:Nat):Option Nat:=(B k).bind Ref.blk
structure Base{P:Program}(F0:Fz)(w0:Pt P)(B:Env)(F:Fz)(M:Mem)(w:World):Prop where
 boxes:∀k t ds,M k t ds->iF F w B k t ds
 new:∀k t ds b,M k t ds->bG B k=some b->w0.fresh b
 inj:∀i j b,(∃t ds,M i t ds)->(∃t ds,M j t ds)->bG B i=some b->bG B j=some b->i=j
 frz:∀g k,F g k->g<w.heap.size
 more:∀g k,F g k->F0 g k\/w0.fresh g
 grow:Grow F0 F w0.w w
 below:du w0.own w0.w.heap.size w0.w w
 env:∀k b,w0.env k=some b->B k=some b
theorem du.refl(S:Nat->Prop)(n:Nat)(w:World):du S n w w:=⟨rfl,rfl,rfl,Nat.le_refl _,fun _ _ _=>rfl⟩
theorem du.trans{S:Nat->Prop}{n:Nat}{a b c:World}(h:du S n a b)(h':du S n b c):du S n a c :=
 ⟨h'.os.trans h.os,h'.tape.trans h.tape,h'.output.trans h.output,Nat.le_trans h.size h'.size,fun k hk hs=>(h'.block k hk hs).trans (h.block k hk hs)⟩
theorem du.of{S:Nat->Prop}{n:Nat}{w w':World}(h:Below n w w'):du S n w w':=⟨h.os,h.tape,h.output,h.size,fun k hk _=>h.block k hk⟩
theorem du.below{n:Nat}{w w':World}(h:du (fun _=>False) n w w'):Below n w w':=⟨h.os,h.tape,h.output,h.size,fun k hk=>h.block k hk id⟩
theorem Grow.trans{F F' F'':Fz}{w w' w'':World}(h:Grow F F' w w')(h':Grow F' F'' w' w''):Grow F F'' w w'' :=
 ⟨fun g k hF=>h'.frz g k (h.frz g k hF),fun g k hF=>(h'.cell g k (h.frz g k hF)).trans (h.cell g k hF)⟩
section
variable {P:Program} {F0:Fz} {w0:Pt P} {B:Env} {F:Fz} {M:Mem} {w:World}
theorem dZ{B:Env}{k b:Nat}(h:B k=some (.box b)):bG B k=some b:=by simp[bG,h,Ref.blk]
theorem bX{B:Env}{k n cap:Nat}{p:Option Nat}(h:B k=some (.row p n cap)):bG B k=p:=by simp[bG,h,Ref.blk]
theorem iW{B:Env}{k b:Nat}(h:B k=some (.map b)):bG B k=some b:=by simp[bG,h,Ref.blk]
theorem Base.shp(hb:Base F0 w0 B F M w):Shp P w:=by
 obtain⟨w1,h1,h2,h3⟩:=w0.sh
 refine⟨w1,h1,Nat.le_trans h2 hb.below.size,fun k hk=>?_⟩
 rw[hb.below.block k (Nat.lt_of_lt_of_le hk h2) fun h=>absurd hk (Nat.not_lt.2 (w0.high k h))]
 exact h3 k hk
theorem Base.vo(hb:Base F0 w0 B F M w){k t:Nat}{ds:List D}(hl:M k t ds){b:Nat}(hB:B k=some (.box b)) :
  ∃vs,aA F w B ds vs/\ds.all D.flat=true/\w.heap[b]? = some (.cells vs.toArray t (0,0))/\w0.fresh b/\∀j,¬F b j:=by
 have hn:=hb.new _ _ _ b hl (dZ hB)
 cases hb.boxes _ _ _ hl with
 |box _ b' vs hB' hr hfl hh hnf=>rw[hB] at hB';cases hB';exact⟨vs,hr,hfl,hh,hn,hnf⟩
 |row m d enc l p n cap hB' h=>rw[hB] at hB';cases hB'
 |map kk ag d enc l b' hB' h=>rw[hB] at hB';cases hB'
 |obj b' o S hB'=>rw[hB] at hB';cases hB'
theorem Base.map'(hb:Base F0 w0 B F M w){k t:Nat}{kk:Option IntKind}{ag:Bool}{α:Type}{d:α}{enc:α->List D}{l:List (MK×α)}(hl:M k t [.eE kk ag d enc l]):∃b,B k=some (.map b)/\w0.fresh b/\zq F w b kk ag enc l:=by
 have hh:=hb.boxes _ _ _ hl
 generalize hds:[D.eE kk ag d enc l]=ds at hh
 cases hh with
 |box _ b' vs hB' hr hfl hh hnf=>subst hds;simp[D.flat] at hfl
 |row m' d' enc' l' p n cap hB' h=>cases hds
 |map kk' ag' d' enc' l' b hB' h =>
  cases hds
  exact⟨b,hB',hb.new _ _ _ b hl (iW hB'),h⟩
 |obj b o S hB'=>cases hds
theorem Base.i7(hb:Base F0 w0 B F M w){k t:Nat}{m:Bool}{α:Type}{d:α}{enc:α->List D}{l:List α}(hl:M k t [.aO m d enc l]):∃p n cap,B k=some (.row p n cap)/\oW F w p n cap t m d enc l:=by
 have hh:=hb.boxes _ _ _ hl
 generalize hds:[D.aO m d enc l]=ds at hh
 cases hh with
 |box _ b' vs hB' hr hfl hh hnf=>subst hds;simp[D.flat] at hfl
 |row m' d' enc' l' p n cap hB' h =>
  cases hds
  exact⟨p,n,cap,hB',h⟩
 |map kk' ag' d' enc' l' b hB' h=>cases hds
 |obj b o S hB'=>cases hds
theorem iF.lt{k t:Nat}{ds:List D}(h:iF F w B k t ds){b:Nat}(hb:bG B k=some b):b<w.heap.size:=by
 cases h with
 |box _ b' vs hB hr hfl hh hnf =>
  rw[dZ hB] at hb;cases hb
  exact(Array.getElem?_eq_some_iff.1 hh).1
 |row m d enc l p n cap hB h =>
  rw[bX hB] at hb;subst hb
  obtain⟨_,_,_,xs,_,h5,_⟩:=h
  rcases h5.2 with⟨h1,_⟩|⟨g,cur,fz,hp,hh,_⟩
  ·cases h1
  ·cases hp;exact(Array.getElem?_eq_some_iff.1 hh).1
 |map kk ag d enc l b' hB h =>
  rw[iW hB] at hb;cases hb
  obtain⟨_,_,es,clock,hh,_⟩:=h
  exact(Array.getElem?_eq_some_iff.1 hh).1
 |obj b' o S hB hh =>
  rw[iW hB] at hb;cases hb
  exact(Array.getElem?_eq_some_iff.1 hh).1
theorem iF.grow{F':Fz}{w':World}{B':Env}{k t:Nat}{ds:List D}(h:iF F w B k t ds)(g:Grow F F' w w')(hB:B' k=B k)(hR:∀F w vs,aA F w B ds vs->aA F w B' ds vs)
  (hb:∀b,bG B k=some b->w'.heap[b]? = w.heap[b]?/\∀j,F' b j->F b j):iF F' w' B' k t ds:=by
 cases h with
 |box _ b vs hB0 hr hfl hh hnf =>
  obtain⟨h1,h2⟩:=hb b (dZ hB0)
  exact .box _ b vs (by rw[hB];exact hB0) ((hR _ _ _ hr).grow g) hfl (by rw[h1];exact hh) fun j hj=>hnf j (h2 j hj)
 |row m d enc l p n cap hB0 h=>exact .row m d enc l p n cap (by rw[hB];exact hB0) (h.grow g fun b hp=>hb b (by rw[bX hB0,hp]))
 |map kk ag d enc l b hB0 h=>exact .map kk ag d enc l b (by rw[hB];exact hB0) (h.grow g (hb b (iW hB0)))
 |obj b o S hB0 hh hnf hS hm =>
  obtain⟨h1,h2⟩:=hb b (iW hB0)
  exact .obj b o S (by rw[hB];exact hB0) (by rw[h1];exact hh) (fun j hj=>hnf j (h2 j hj)) (hm _ _ _ _ g hS) hm
theorem Rep.Ac(hb:Base F0 w0 B F M w){k t:Nat}{α:Type}{d:α}{enc:α->List D}{l:List α}(hl:M k t [.aO true d enc l]){v:Value}(hv:Rep F w B (.row k) v):Rep F w B (.recs d enc l) v:=by
 obtain⟨p,n,cap,hB,h⟩:=hb.i7 hl
 cases hv with
 |row _ p' n' cap' hB'=>rw[hB] at hB';cases hB';exact h.recs
 |dn _ q hB' =>
  rw[hB] at hB'
  simp only[Option.some.injEq,Ref.row.injEq] at hB'
  obtain⟨rfl,rfl,rfl⟩:=hB'
  exact h.Jw (.inr ⟨rfl,rfl,rfl,q,rfl⟩)
def RowsIn(M:Mem)(L:ax):Prop:=∀(k t:Nat)(m:Bool)(α:Type)(d:α)(enc:α->List D)(l:List α),L.lookup k=some (t,[.aO m d enc l])->M k t [.aO m d enc l]
theorem Cf(hb:Base F0 w0 B F M w){L:ax}(hL:RowsIn M L):mj F w B B (lG L):=by
 refine⟨fun d r v h hv=>?_,fun _ _ _=>rfl,fun _ _=>rfl,fun _ _=>rfl,fun _ _=>rfl,fun _ _ _ _ _=>rfl,fun _ _=>rfl⟩
 cases d<;>simp only[lG] at h<;>first|(cases h;done)|skip
 split at h
 ·rename_i k t α d enc l hl
  cases h
  exact hv.Ac hb (hL _ _ _ _ _ _ _ hl)
 ·cases h
theorem Rep.jD(hb:Base F0 w0 B F M w){L:ax}(hL:RowsIn M L){d:D}{v:Value}(h:Rep F w B d v):Rep F w B (d.shut L) v:=h.sub (Cf hb hL)
theorem aA.jD(hb:Base F0 w0 B F M w){L:ax}(hL:RowsIn M L){d:List D}{v:List Value}(h:aA F w B d v):aA F w B (D.ic L d) v:=h.sub (Cf hb hL)
end
section
variable {P:Program}
theorem aB{β:Type _}{L:List (Nat×β)}{k:Nat}{x:β}(h:L.lookup k=some x):(k,x)∈L:=by
 induction L with
 |nil=>cases h
 |cons y L ih =>
  obtain⟨k',x'⟩:=y
  simp only[List.lookup_cons] at h
  split at h
  ·rename_i he
   have:k=k':=by simpa using he
   cases h;subst this;exact List.mem_cons_self
  ·exact List.mem_cons_of_mem _ (ih h)
theorem uo{w:World}{b t:Nat}{cs:Array Value}{fz}(h:w.heap[b]? = some (.cells cs t fz))(j:Nat):w.cell? ⟨b,j,none⟩=cs[j]?:=by
 simp[World.cell?,h]
theorem aA.nj{F w B}:∀{ds vs},aA F w B ds vs->ds.all D.flat=true->∀v∈vs,v.oneCell'=true
 |_,_,.nil,_,v,hv=>by simp at hv
 |_,_,.cons d v ds vs h hs,ha,u,hu=>by
  simp only[List.all_cons,Bool.and_eq_true] at ha
  rcases List.mem_cons.1 hu with rfl|hu
  ·have:=Rep.one h ha.1
   cases u<;>first|rfl|(simp[gY] at this)
  ·exact aA.nj hs ha.2 u hu
theorem ofValues{F w B}:∀(vs:List Value),vs.all gY=true->aA F w B (vs.map ofValue) vs
 |[],_=>.nil
 |v::vs,h=>by
  simp only[List.all_cons,Bool.and_eq_true] at h
  exact .cons _ _ _ _ (Rep.ofValue v h.1) (ofValues vs h.2)
theorem Bq{α:Type}(l:List α)(n:Nat)(a:α)(h:n<l.length):(l.set n a).take (n+1)=l.take n++[a]:=by
 induction l generalizing n with
 |nil=>simp at h
 |cons x l ih =>
  cases n with
  |zero=>simp
  |succ n=>simp only[List.set_cons_succ,List.take_succ_cons,List.cons_append];rw[ih n (by simpa using h)]
theorem tP{F w B}(place:Nat->Option (Nat×Nat)):∀(ps:List (Nat×D))(qs:List (Nat×Value))(ds:List D)(vs:List Value)(r:List D),
  aA F w B ds vs->gK place ds ps=some r->(qs.map (·.1)=ps.map (·.1))->aA F w B (ps.map (·.2)) (qs.map (·.2)) ->
  ∃us,Instr.fill place vs.toArray qs=some us.toArray/\aA F w B r us
 |[],qs,ds,vs,r,h,hf,hq,_=>by
  have:qs=[]:=by simpa using hq
  subst this
  cases hf
  exact⟨vs,rfl,h⟩
 |(i,d)::ps,qs,ds,vs,r,h,hf,hq,hr=>by
  cases qs with
  |nil=>simp at hq
  |cons q qs =>
   obtain⟨i',v⟩:=q
   simp only[List.map_cons,List.cons.injEq] at hq
   obtain⟨rfl,hq⟩:=hq
   simp only[List.map_cons] at hr
   cases hr with
   |cons _ _ _ _ hdv hrest =>
    unfold gK at hf
    unfold Instr.fill
    cases hp:place i' with
    |none=>rw[hp] at hf;cases hf
    |some os =>
     obtain⟨off,size⟩:=os
     rw[hp] at hf
     simp only at hf ⊢
     split at hf
     ·rename_i hc
      obtain⟨hc1,hc2⟩:=hc
      have hcells:=hdv.cells
      have hl1:=aA.length hcells
      have hl2:=aA.length h
      have hsz:v.cells.size=d.cells.length:=by rw[<-hl1];simp
      rw[if_neg (by simp;omega)]
      obtain⟨us,hu,hur⟩:=tP place ps qs _ (bV vs off v.cells.toList) r (aA.sets hcells off h) hf hq hrest
      refine⟨us,?_,hur⟩
      rw[<-hu]
      congr 1
      have hgen:∀(l:List Value)(k:Nat)(cs:Array Value),off+k+l.length<=cs.size->(l.zipIdx k).foldl (fun cs x=>cs.setIfInBounds (off+x.2) x.1) cs=(cs.toList.take (off+k)++l++cs.toList.drop (off+k+l.length)).toArray:=by
       intro l
       induction l with
       |nil=>intro k cs _;simp
       |cons a l ih =>
        intro k cs hk
        simp only[List.zipIdx_cons,List.foldl_cons]
        rw[ih (k+1) _ (by simp at hk ⊢;omega)]
        simp only[List.length_cons] at hk
        rw[Array.toList_setIfInBounds,show off+(k+1)=off+k+1 by omega,Bq _ _ _ (by simp;omega),List.drop_set_of_lt (by omega)]
        simp[Nat.add_comm,Nat.add_left_comm,Nat.add_assoc]
      have h3:=hgen v.cells.toList 0 vs.toArray (by simp;omega)
      rw[<-Array.foldl_toList,Array.toList_zipIdx]
      rw[h3]
      simp[bV]
     ·cases hf
def FOK(P : Program)(f : Nat) : Prop:=∃fn,P.funcs[f]? = some fn/\(fn.name == "runtime.NumGoroutine")=false/\fn.body.isNone=false
structure B8(w w':World)(b:Nat):Prop where
 os:w'.os=w.os
 tape:w'.tape=w.tape
 output:w'.output=w.output
 size:w'.heap.size=w.heap.size
 block:∀i,i≠b->w'.heap[i]? = w.heap[i]?
def Ei(w w':World)(p p0:Option Nat)(pre:Nat):Prop :=
 (p=p0/\w.grownBy w' p0/\∀b,p0=some b->∀j,j<pre->w'.cell? ⟨b,j,none⟩=w.cell? ⟨b,j,none⟩)\/(p=some w.heap.size/\w.grownBy w' none)
def aX(P:Program)(F:Fz)(w:World)(B:Env)(M:Mem)(a:Act)(o:Oper):Out->Prop
 |.val d=>∃v,(execOp a.eval o).run P w=.ok (.value v) w/\Rep F w B d v
 |.box t cells=>∃vs,aA F w B cells vs/\(execOp a.eval o).run P w=.ok (.value (.pointer (some ⟨w.heap.size,0,none⟩))) (w.alloc (.cells vs.toArray t))
 |.store k off cells=>∃b t ds vs us,B k=some (.box b)/\M k t ds/\aA F w B ds vs/\w.heap[b]? = some (.cells vs.toArray t (0,0))/\aA F w B cells us/\off+cells.length<=ds.length /\
   (cells.all D.flat=true->(execOp a.eval o).run P w=.ok .skip (w.setRow b (bV vs off us).toArray))
 |.call f args=>∃vs,aA F w B args vs/\(execOp a.eval o).run P w=(callFunc f vs.toArray).run P w
 |.row e _ old spec=>∀(α:Type)(d:α)(enc:α->List D)(l:List α),spec (.recs d enc l)->aQ (.recs d enc l)->∃p n cap w' xs p0 pre v,(execOp a.eval o).run P w=.ok (.value v) w'/\pI v p n cap/\n=l.length/\aA F w NB (l.flatMap enc) xs /\
   cq w' e (enc d).length p n cap xs/\Ei w w' p p0 pre/\pre<=n*(enc d).length/\(match old with|none=>p0=none|some k=>∃n0 cap0,B k=some (.row p0 n0 cap0)/\∀b,p0=some b->∀j,F b j->j<pre)
 |.upd k n z off cells=>∃us,aA F w B cells us/\∀(t:Nat)(α:Type)(d:α)(enc:α->List D)(l:List α),M k t [.aO false d enc l]->z=(enc d).length->0<=n->n<(l.length:Int)->cells.all D.flat=true ->
   ∃b nn cap cur fz,B k=some (.row (some b) nn cap)/\w.heap[b]? = some (.cells cur t fz)/\off+cells.length<=z/\(execOp a.eval o).run P w=.ok .skip (w.setRow b (bV cur.toList (n.toNat*z+off) us).toArray)
 |.vS t _ _ d=>∃vs,aA F w NB d.cells vs/\(execOp a.eval o).run P w=.ok (.value (.pointer (some ⟨w.heap.size,0,none⟩))) (w.alloc (.cells vs.toArray t))
 |.fill k z m d=>∃us,aA F w NB d.cells us/\∀(t:Nat)(α:Type)(d0:α)(enc:α->List D)(l:List α),M k t [.aO false d0 enc l]->(enc d0).length=z->l.length=m->us.length=m*z->d.cells.all D.flat=true->0<m ->
   ∃b nn cap cur fz,B k=some (.row (some b) nn cap)/\w.heap[b]? = some (.cells cur t fz)/\(execOp a.eval o).run P w=.ok .skip (w.setRow b (bV cur.toList 0 us).toArray)
 |.turn k z m d=>∃us,aA F w NB d.cells us/\(us.length=m*z->d.cells.all D.flat=true ->
   ∃b t ds vs,B k=some (.box b)/\M k t ds/\w.heap[b]? = some (.cells vs t (0,0))/\vs.size=m*z/\(∀j,¬F b j)/\(execOp a.eval o).run P w=.ok .skip (w.setRow b us.toArray))
 |.known spec=>∀d,spec d->∃v,(execOp a.eval o).run P w=.ok (.value v) w/\Rep F w B d v
 |.pL _ _ _=>(execOp a.eval o).run P w=.ok (.value (.map (some w.heap.size))) (w.alloc (.map #[] 0))
 |.mlk k kk ag key ok ez=>∀(t:Nat)(α:Type)(d:α)(enc:α->List D)(l:List (MK×α)),M k t [.eE kk ag d enc l]->∀r,(if ok then xB ag enc l key ez r else ry ag enc l key ez r)->∃v,(execOp a.eval o).run P w=.ok (.value v) w/\Rep F w B r v
 |.uT k=>∀(t:Nat)(kk:Option IntKind)(ag:Bool)(α:Type)(d:α)(enc:α->List D)(l:List (MK×α)),M k t [.eE kk ag d enc l]->(execOp a.eval o).run P w=.ok (.value (.int .i64 l.length)) w
 |.qO k kk ag key cells=>D.bP cells=true->∀(t:Nat)(α:Type)(d:α)(enc:α->List D)(l:List (MK×α))(x:α),M k t [.eE kk ag d enc l]->bq cells (enc x) ->
   ∃b w',B k=some (.map b)/\(execOp a.eval o).run P w=.ok .skip w'/\B8 w w' b/\∃es clock,w'.heap[b]? = some (.map es clock)/\MapKept.Stamped es clock/\dK F w kk ag enc (dG l key x) es.toList
 |.mdl k kk ag key=>∀(t:Nat)(α:Type)(d:α)(enc:α->List D)(l:List (MK×α)),M k t [.eE kk ag d enc l] ->
   ∃b w',B k=some (.map b)/\(execOp a.eval o).run P w=.ok (.value (.tuple #[])) w'/\B8 w w' b/\∃es clock,w'.heap[b]? = some (.map es clock)/\MapKept.Stamped es clock/\dK F w kk ag enc (tZ l key) es.toList
 |.cpy k es cells n=>∀(t:Nat)(α:Type)(d:α)(enc:α->List D)(l xs:List α),M k t [.aO false d enc l]->(enc d).length=es->bq cells (xs.flatMap enc)->xs.length=n ->
   ∃p nn cap w',B k=some (.row p nn cap)/\(execOp a.eval o).run P w=.ok (.value (.int .i64 (Nat.min n l.length:Nat))) w' /\
    ((p=none/\w'=w)\/∃b cur fz us,p=some b/\w.heap[b]? = some (.cells cur t fz)/\aA F w NB ((xs.take l.length).flatMap enc) us/\w'=w.setRow b (bV cur.toList 0 us).toArray)
def eO(F:Fz)(w:World)(B:Env)(a:Act)(get:Operand->Option D):Prop:=∀x d,get x=some d->Rep F w B d (a.eval x)
variable {F0:Fz} {w0:Pt P} {B:Env} {F:Fz} {M:Mem} {w:World} {a:Act} {get:Operand->Option D} {Γ:Nat->Option TI}
theorem eO.all(h:eO F w B a get):∀(xs:List Operand)(ds:List D),getAll get xs=some ds->aA F w B ds (xs.map a.eval)
 |[],ds,he=>by cases he;exact .nil
 |x::xs,ds,he=>by
  unfold getAll at he
  split at he
  ·rename_i d ds' hd hds
   cases he
   exact .cons _ _ _ _ (h _ _ hd) (eO.all h xs ds' hds)
  ·cases he
theorem eO.parts(h:eO F w B a get):∀(xs:List (Nat×Operand))(ds:List (Nat×D)),ni get xs=some ds->ds.map (·.1)=xs.map (·.1)/\aA F w B (ds.map (·.2)) (xs.map fun x=>a.eval x.2)
 |[],ds,he=>by cases he;exact⟨rfl,.nil⟩
 |(i,x)::xs,ds,he=>by
  unfold ni at he
  split at he
  ·rename_i d ds' hd hds
   cases he
   have:=eO.parts h xs ds' hds
   exact⟨by simp[this.1],.cons _ _ _ _ (h _ _ hd) this.2⟩
  ·cases he
theorem I5(hΓ:ΓOK P Γ){t:Nat}{ti:TI}(ht:Γ t=some ti){o:Oper}(ho:o.op=.alloc t):aX P F w B M a o (.box t (ti.zero.map ofValue)):=by
 obtain⟨i,d,z,hi,hd,hz,hz1,hz2,hz3,hsz,hag,hk⟩:=aU (hΓ _ _ ht).1
 refine⟨ti.zero,ofValues _ hz2,?_⟩
 unfold execOp
 simp only[ho,Instr.alloc,zeroValue,Sem.run_bind,run_typeInfo w hi,Result.andThen_ok,hz,Sem.run_pure,newVar,newRow,run_newObj]
 have:z.cells=ti.zero.toArray:=by rw[<-hz1]
 rw[this]
 rfl
theorem Lm{t:Nat}{x:Operand}{d:D}(hd:Rep F w B d (a.eval x)){o:Oper}(ho:o.op=.box t x):aX P F w B M a o (.box t d.cells):=by
 refine⟨(a.eval x).cells.toList,hd.cells,?_⟩
 unfold execOp
 simp only[ho,Instr.box,Sem.run_bind,Result.andThen_ok,Sem.run_pure,newVar,newRow,run_newObj]
 rfl
theorem run_places:∀(l:List Field)(r:List (Nat×Nat×Bool)),fieldsOf P l=some r->∀w,(l.mapM (m:=Sem) fun f=>do pure (f.offset,<-sizeOf f.type)).run P w=.ok (r.map fun g=>(g.1,g.2.1)) w
 |[],r,h,w=>by cases h;rfl
 |f::fs,r,h,w=>by
  unfold fieldsOf at h
  split at h
  ·rename_i s r' hs hr
   cases h
   have ih:=run_places fs r' hr w
   rw[List.mapM_cons]
   simp only[Sem.run_bind,(dH hs).1,Result.andThen_ok,Sem.run_pure]
   rw[ih]
   rfl
  ·cases h
theorem CV(hΓ:ΓOK P Γ){t:Nat}{ti:TI}(ht:Γ t=some ti){parts:Array (Nat×Operand)}{ps:List (Nat×D)}(hg:eO F w B a get)(hp:ni get parts.toList=some ps)
  {o:Oper} (ho:o.op=.build t parts) {r:List D}
  (hr:(match ti.kind with
   |.struct fs=>gK (fun i=>(fs[i]?).map fun f=>(f.1,f.2.1)) (ti.zero.map ofValue) ps
   |.array _ es _=>gK (fun i=>some (i*es,es)) (ti.zero.map ofValue) ps
   |_=>none)=some r):aX P F w B M a o (.val (.agg r)):=by
 obtain⟨i,d,z,hi,hd,hz,hz1,hz2,hz3,hsz,hag,hk⟩:=aU (hΓ _ _ ht).1
 obtain⟨hq,hqr⟩:=hg.parts _ _ hp
 have hzc:z.cells=ti.zero.toArray:=by rw[<-hz1]
 have hrun:∀(place:Nat->Option (Nat×Nat)),gK place (ti.zero.map ofValue) ps=some r->∃us,Instr.fill place ti.zero.toArray (parts.toList.map fun x=>(x.1,a.eval x.2))=some us.toArray/\aA F w B r us:=by
  intro place hf
  exact tP place ps _ _ _ r (ofValues _ hz2) hf (by simp[hq]) (by rw[List.map_map];exact hqr)
 cases hkd:ti.kind<;>rw[hkd] at hr<;>simp only at hr<;>first|(cases hr;done)|skip
 ·rename_i fs
  rw[hkd] at hk
  obtain⟨fields,rfl,hfs⟩:=sL hk
  obtain⟨us,hu,hur⟩:=hrun _ hr
  refine⟨.agg us.toArray,?_,.agg _ _ hur⟩
  unfold execOp
  simp only[ho,Instr.build,zeroValue,Sem.run_bind,run_typeInfo w hi,Result.andThen_ok,hz,Sem.run_pure,run_underlying hd,hzc,Array.toList_map,Array.mapM_eq_mapM_toList,Sem.run_map]
  have hpl:=run_places _ _ hfs w
  rw[hpl]
  simp only[Result.andThen_ok]
  have hfun:(fun(x:Nat)=>(List.map (fun g:Nat×Nat×Bool=>(g.1,g.2.1)) fs).toArray[x]?)=fun i=>(fs[i]?).map fun f=>(f.1,f.2.1):=by
   funext i;simp
  rw[hfun,hu]
  simp
 ·rename_i n es ea
  rw[hkd] at hk
  obtain⟨e,rfl,hse⟩:=mg hk
  obtain⟨us,hu,hur⟩:=hrun _ hr
  refine⟨.agg us.toArray,?_,.agg _ _ hur⟩
  unfold execOp
  simp only[ho,Instr.build,zeroValue,Sem.run_bind,run_typeInfo w hi,Result.andThen_ok,hz,Sem.run_pure,run_underlying hd,(dH hse).1,hzc,Array.toList_map]
  rw[hu]
  simp
theorem KD(hΓ:ΓOK P Γ)(hb:Base F0 w0 B F M w){t:Nat}{ti:TI}(ht:Γ t=some ti){x:Operand}{k off:Nat}{ty:Nat}{ds:List D}{d:D}(hx:Rep F w B (.own k off) (a.eval x))
  (hl:M k ty ds) (hp:partOf ti.agg ti.size off ds=some d) {o:Oper} (ho:o.op=.load t x):aX P F w B M a o (.val d):=by
 generalize hv:a.eval x=vx at hx
 cases hx with
 |own _ _ b hB =>
  obtain⟨vs,hr,hfl,hh,hn,hnf⟩:=hb.vo hl hB
  have hlen:=aA.length hr
  have hoff:off<=vs.length:=by
   unfold partOf at hp
   split at hp
   ·split at hp
    ·omega
    ·cases hp
   ·have:=(List.getElem?_eq_some_iff.1 hp).1;omega
  obtain⟨v,hrun,hrep⟩:=og (hΓ _ _ ht).1 hr hp (b:=b) (o:=0) (fun j v hj=>by rw[uo hh];simpa using hj) hoff
  refine⟨v,?_,hrep⟩
  unfold execOp
  simp only[ho,hv,Instr.loadAt,Instr.sureAddr,Sem.run_bind,Sem.run_pure,Result.andThen_ok]
  simp only[Nat.zero_add] at hrun
  rw[hrun];rfl
theorem H5(hΓ:ΓOK P Γ){t:Nat}{ti:TI}(ht:Γ t=some ti){x:Operand}{ds:List D}{d:D}(hx:Rep F w B (.el ds) (a.eval x))
  (hp:partOf ti.agg ti.size 0 ds=some d) {o:Oper} (ho:o.op=.load t x):aX P F w B M a o (.val d):=by
 generalize hv:a.eval x=vx at hx
 cases hx with
 |el _ vs g off h h2 =>
  obtain⟨v,hrun,hrep⟩:=og (hΓ _ _ ht).1 h hp (b:=g) (o:=off) (fun j v hj=>by
   have hj':=(List.getElem?_eq_some_iff.1 hj).1
   rw[(h2 j hj').2];exact hj) (Nat.zero_le _)
  refine⟨v,?_,hrep.lift (fun _=>rfl)⟩
  unfold execOp
  simp only[ho,hv,Instr.loadAt,Instr.sureAddr,Sem.run_bind,Sem.run_pure,Result.andThen_ok]
  simp only[Nat.add_zero] at hrun
  rw[hrun];rfl
theorem I7(hΓ:ΓOK P Γ)(hb:Base F0 w0 B F M w){t:Nat}{ti:TI}(ht:Γ t=some ti){x y:Operand}{k off:Nat}{ty:Nat}{ds:List D}{d:D}(hx:Rep F w B (.own k off) (a.eval x))(hy:Rep F w B d (a.eval y))
  (hl:M k ty ds) (h1:d.cells.length=ti.size) (h2:off+ti.size<=ds.length) {o:Oper} (ho:o.op=.store t x y):aX P F w B M a o (.store k off d.cells):=by
 obtain⟨i,de,z,hi,hd,hz,hz1,hz2,hz3,hsz,hag,hk⟩:=aU (hΓ _ _ ht).1
 generalize hv:a.eval x=vx at hx
 cases hx with
 |own _ _ b hB =>
  obtain⟨vs,hr,hfl,hh,hn,hnf⟩:=hb.vo hl hB
  have hcells:=hy.cells
  have hlc:=aA.length hcells
  have hlen:=aA.length hr
  refine⟨b,ty,ds,vs,(a.eval y).cells.toList,hB,hl,hr,hh,hcells,by omega,fun hflat=>?_⟩
  have hone:∀u∈(a.eval y).cells.toList,u.oneCell'=true:=aA.nj hcells hflat
  have hl3:(a.eval y).cells.toList.length=ti.size:=by omega
  have hst:=run_storeCells_at (P:=P) b off ty (a.eval y).cells.toList 0 vs.toArray w hh (by rw[hl3];simp;omega) hone
  unfold execOp
  simp only[ho,hv,Instr.storeAt,Instr.sureAddr,Sem.run_bind,Sem.run_pure,Result.andThen_ok,storeVar,iV hi,hsz]
  have hsize:(a.eval y).cells.size=ti.size:=by rw[<-h1,<-hlc];simp
  simp only[hsize,ne_eq,not_true_eq_false,if_false,Sem.run_bind,Sem.run_pure,Result.andThen_ok]
  rw[hst]
  simp[bV]
theorem IY(hΓ:ΓOK P Γ){t:Nat}{ti:TI}(ht:Γ t=some ti){x:Operand}{f:Nat}{ds:List D}{d:D}{fs}{g}(hx:Rep F w B (.agg ds) (a.eval x))(hk:ti.kind=.struct fs)(hf:fs[f]? = some g)
  (hp:partOf g.2.2 g.2.1 g.1 ds=some d) {o:Oper} (ho:o.op=.field t x f):aX P F w B M a o (.val d):=by
 obtain⟨i,de,z,hi,hd,hz,hz1,hz2,hz3,hsz,hag,hkd⟩:=aU (hΓ _ _ ht).1
 rw[hk] at hkd
 obtain⟨fields,rfl,hfs⟩:=sL hkd
 obtain⟨fd,hfd,hoff,hfsz⟩:=rf hfs f g hf
 generalize hv:a.eval x=vx at hx
 cases hx with
 |agg _ vs h =>
  obtain⟨v,hrun,hrep⟩:=Ce hfsz (off:=fd.offset) h (by rw[hoff];exact hp) w
  refine⟨v,?_,hrep⟩
  unfold execOp
  have hfd':fields[f]? = some fd:=by simpa using hfd
  simp only[ho,hv,Instr.field,Sem.run_bind,run_underlying hd,Result.andThen_ok,hfd',asAgg,Sem.run_pure]
  rw[hrun];rfl
theorem oP{fd:Field}{s:Nat×Bool}(hs:nY P fd.type=some s)(h0:s.1≠0)(b off:Nat)(w:World):(fieldPlace ⟨b,off,none⟩ fd).run P w=.ok ⟨b,off+fd.offset,none⟩ w:=by
 unfold fieldPlace
 simp only[Sem.run_bind,(dH hs).1,Result.andThen_ok,if_neg h0,Sem.run_pure,add_eq]
theorem qT(hΓ:ΓOK P Γ){t:Nat}{ti:TI}(ht:Γ t=some ti){x:Operand}{f:Nat}{fs}{g}{d d':D}(hx:Rep F w B d (a.eval x))(hk:ti.kind=.struct fs)(hf:fs[f]? = some g)(h0:g.2.1≠0)
  (hd:(∃k off,d=.own k off/\d'=.own k (off+g.1))\/(∃ds,d=.el ds/\d'=.el (ds.drop g.1))\/(∃k n z off,d=.elm k n z off/\d'=.elm k n z (off+g.1)))
  {o:Oper} (ho:o.op=.fieldAddr t x f):aX P F w B M a o (.val d'):=by
 obtain⟨i,de,z,hi,hde,hz,hz1,hz2,hz3,hsz,hag,hkd⟩:=aU (hΓ _ _ ht).1
 rw[hk] at hkd
 obtain⟨fields,rfl,hfs⟩:=sL hkd
 obtain⟨fd,hfd,hoff,hfsz⟩:=rf hfs f g hf
 have hfd':fields[f]? = some fd:=by simpa using hfd
 generalize hv:a.eval x=vx at hx
 rcases hd with⟨k,off,rfl,rfl⟩|⟨ds,rfl,rfl⟩|⟨k,n,z,off,rfl,rfl⟩
 ·cases hx with
  |own _ _ b hB =>
   refine⟨.pointer (some ⟨b,off+g.1,none⟩),?_,.own _ _ b hB⟩
   unfold execOp
   simp only[ho,hv,Instr.fieldAt,Sem.run_bind,run_underlying hde,Result.andThen_ok,hfd',Instr.sureAddr,Sem.run_pure,oP hfsz h0,hoff]
 ·cases hx with
  |el _ vs gb off h h2 =>
   refine⟨.pointer (some ⟨gb,off+g.1,none⟩),?_,.el _ (vs.drop g.1) gb (off+g.1) (h.drop _) (fun j hj=>?_)⟩
   ·unfold execOp
    simp only[ho,hv,Instr.fieldAt,Sem.run_bind,run_underlying hde,Result.andThen_ok,hfd',Instr.sureAddr,Sem.run_pure,oP hfsz h0,hoff]
   ·have:=h2 (g.1+j) (by simp at hj;omega)
    rw[show off+g.1+j=off+(g.1+j) by omega]
    refine⟨this.1,this.2.trans ?_⟩
    simp
 ·cases hx with
  |elm _ _ _ _ b nn cap hB =>
   refine⟨.pointer (some ⟨b,n.toNat*z+off+g.1,none⟩),?_,?_⟩
   ·unfold execOp
    simp only[ho,hv,Instr.fieldAt,Sem.run_bind,run_underlying hde,Result.andThen_ok,hfd',Instr.sureAddr,Sem.run_pure,oP hfsz h0,hoff]
   ·have:=Rep.elm (F:=F) (w:=w) k n z (off+g.1) b nn cap hB
    rwa[<-Nat.add_assoc] at this
theorem Dp(hΓ:ΓOK P Γ){t:Nat}{ti:TI}(ht:Γ t=some ti){x y:Operand}{α:Type}{dz:α}{enc:α->List D}{l:List α}{k:IntKind}{n:Int}{es:Nat}{ea:Bool}
  (hx:Rep F w B (.recs dz enc l) (a.eval x)) (hy:Rep F w B (.val (.int k n)) (a.eval y)) (hk:ti.kind=.slice es ea) (hlen:(enc dz).length=es)
  (hc:0<=n/\n<(l.length:Int)) {o:Oper} (ho:o.op=.indexAddr t x y):aX P F w B M a o (.val (.el (enc (l[n.toNat]?.getD dz)))):=by
 obtain⟨i,de,z,hi,hde,hz,hz1,hz2,hz3,hsz,hag,hkd⟩:=aU (hΓ _ _ ht).1
 rw[hk] at hkd
 obtain⟨e,rfl,hse⟩:=ft hkd
 generalize hv:a.eval x=vx at hx
 generalize hu:a.eval y=vy at hy
 cases hy with
 |val _ _ =>
  cases hx with
  |bW _ _ _=>simp at hc;omega
  |recs _ _ _ g off cap size vs hsize h1 h2 h3 hcap =>
   have hn:n.toNat<l.length:=by omega
   have hes:size=es:=by rw[hsize,hlen]
   subst hes
   refine⟨.pointer (some ⟨g,off+n.toNat*size,none⟩),?_,.el _ (vs n.toNat) g (off+n.toNat*size) (h2 _ hn) (fun j hj=>?_)⟩
   ·unfold execOp
    have:(0<=n/\n<(l.length:Int)):=hc
    simp only[ho,hv,hu,Instr.indexAt,asIntOf,Sem.run_bind,run_underlying hde,Result.andThen_ok,Sem.run_pure,Sem.run_ite,if_pos this,(dH hse).1,add_eq]
   ·have:=h3 n.toNat j hn (by rw[<-h1 _ hn];exact hj)
    exact this
theorem D4(hΓ:ΓOK P Γ){t:Nat}{ti:TI}(ht:Γ t=some ti){x y:Operand}{l:Bs}{k:IntKind}{n:Int}
  (hx:Rep F w B (.str l) (a.eval x)) (hy:Rep F w B (.val (.int k n)) (a.eval y)) (hk:ti.kind=.str)
  (hc:0<=n/\n<(l.length:Int)) {o:Oper} (ho:o.op=.index t x y):aX P F w B M a o (.val (.val (.int .u8 (l[n.toNat]?.getD 0).toNat))):=by
 obtain⟨i,de,z,hi,hde,hz,hz1,hz2,hz3,hsz,hag,hkd⟩:=aU (hΓ _ _ ht).1
 rw[hk] at hkd
 obtain rfl:=kq hkd
 generalize hv:a.eval x=vx at hx
 generalize hu:a.eval y=vy at hy
 cases hy with
 |val _ _ =>
  cases hx with
  |str _ =>
   refine⟨_,?_,.val _ rfl⟩
   have hn:n.toNat<l.length:=by omega
   have hget:(⟨l.toArray⟩:ByteArray)[n.toNat]? = some l[n.toNat]:=by
    have h9:n.toNat<(⟨l.toArray⟩:ByteArray).size:=by show n.toNat<l.toArray.size;simpa using hn
    rw[getElem?_pos (⟨l.toArray⟩:ByteArray) n.toNat h9];rfl
   unfold execOp
   simp only[ho,hv,hu,Instr.index,asIntOf,Sem.run_bind,run_underlying hde,Result.andThen_ok,Sem.run_pure,if_pos hc.1,hget]
   simp[hn]
theorem DX(hΓ:ΓOK P Γ){t:Nat}{ti:TI}(ht:Γ t=some ti){x y:Operand}{k:IntKind}{n:Int}{m es:Nat}{ea:Bool}{ds:List D}{d:D}
  (hx:Rep F w B (.agg ds) (a.eval x)) (hy:Rep F w B (.val (.int k n)) (a.eval y)) (hk:ti.kind=.array m es ea) (hp:partOf ea es (n.toNat*es) ds=some d)
  (hc:0<=n/\n<(m:Int)) {o:Oper} (ho:o.op=.index t x y):aX P F w B M a o (.val d):=by
 obtain⟨i,de,z,hi,hde,hz,hz1,hz2,hz3,hsz,hag,hkd⟩:=aU (hΓ _ _ ht).1
 rw[hk] at hkd
 obtain⟨e,rfl,hse⟩:=mg hkd
 generalize hv:a.eval x=vx at hx
 generalize hu:a.eval y=vy at hy
 cases hy with
 |val _ _ =>
  cases hx with
  |agg _ vs h =>
   obtain⟨v,hrun,hrep⟩:=Ce hse (off:=n.toNat*es) h hp w
   refine⟨v,?_,hrep⟩
   unfold execOp
   simp only[ho,hv,hu,Instr.index,asIntOf,Sem.run_bind,run_underlying hde,Result.andThen_ok,Sem.run_pure,Sem.run_ite,if_pos hc,(dH hse).1]
   rw[hrun];rfl
theorem Ec(hΓ:ΓOK P Γ){t:Nat}{ti:TI}(ht:Γ t=some ti){x y:Operand}{k:IntKind}{n:Int}{m es:Nat}{ea:Bool}{key off:Nat}
  (hx:Rep F w B (.own key off) (a.eval x)) (hy:Rep F w B (.val (.int k n)) (a.eval y)) (hk:ti.kind=.array m es ea)
  (hc:0<=n/\n<(m:Int)) {o:Oper} (ho:o.op=.indexAddr t x y):aX P F w B M a o (.val (.own key (off+n.toNat*es))):=by
 obtain⟨i,de,z,hi,hde,hz,hz1,hz2,hz3,hsz,hag,hkd⟩:=aU (hΓ _ _ ht).1
 rw[hk] at hkd
 obtain⟨e,rfl,hse⟩:=mg hkd
 generalize hv:a.eval x=vx at hx
 generalize hu:a.eval y=vy at hy
 cases hy with
 |val _ _ =>
  cases hx with
  |own _ _ b hB =>
   refine⟨.pointer (some ⟨b,off+n.toNat*es,none⟩),?_,.own _ _ b hB⟩
   unfold execOp
   simp only[ho,hv,hu,Instr.indexAt,Instr.sureAddr,asIntOf,Sem.run_bind,run_underlying hde,Result.andThen_ok,Sem.run_pure,Sem.run_ite,if_pos hc,(dH hse).1,add_eq]
theorem KQ(l:Bs)(a b:Nat):(⟨l.toArray⟩:ByteArray).extract a b=⟨((l.drop a).take (b-a)).toArray⟩:=by
 apply WideShapes.bytes_inj
 rw[Lib.extract_data]
theorem uY{x:Value}{k:IntKind}{n:Int}(hx:x=.int k n){y:Nat}(h:0<=n/\n<=(y:Int))(c:BoundsCode)(w:World):(Instr.sliceBound x y c).run P w=.ok n.toNat w:=by
 subst hx
 simp only[Instr.sliceBound,asIntOf,Sem.run_bind,Sem.run_pure,Result.andThen_ok,Sem.run_ite,if_pos h]
def eH(lo:Option D):Nat:=match lo with|some (.val (.int _ n))=>n.toNat|_=>0
def cu(len:Nat)(hi:Option D):Nat:=match hi with|some (.val (.int _ n))=>n.toNat|_=>len
def oN(len:Nat)(lo hi:Option D):Prop :=
 (match hi with|none=>True|some (.val (.int _ n))=>0<=n/\n<=(len:Int)|_=>False) /\
 (match lo with|none=>True|some (.val (.int _ n))=>0<=n/\n<=(cu len hi:Int)|_=>False)
theorem qG{isSlice:Bool}{len cap:Nat}(hcap:len<=cap){lo hi:Option Operand}{dlo dhi:Option D}(hg:eO F w B a get)(hlo:omap get lo=some dlo)(hhi:omap get hi=some dhi)
  (hb:oN len dlo dhi) (w':World):(Instr.sliceBounds isSlice len cap (lo.map a.eval) (hi.map a.eval) none).run P w'=.ok (eH dlo,cu len dhi,cap) w'/\eH dlo<=cu len dhi/\cu len dhi<=len:=by
 obtain⟨hb1,hb2⟩:=hb
 have key:∀(x:Operand)(dd:Option D),omap get (some x)=some dd->∀(N:Nat),(match dd with|none=>True|some (.val (.int _ n))=>0<=n/\n<=(N:Int)|_=>False) ->
   ∃k n,dd=some (.val (.int k n))/\a.eval x=.int k n/\0<=n/\n<=(N:Int):=by
  intro x dd he N hN
  simp only[omap] at he
  cases hx:get x with
  |none=>rw[hx] at he;cases he
  |some d =>
   rw[hx] at he;cases he
   have hr:=hg _ _ hx
   split at hN
   ·rename_i h;cases h
   ·rename_i k n h
    cases h
    generalize ha:a.eval x=vx at hr
    cases hr
    exact⟨k,n,rfl,rfl,hN⟩
   ·cases hN
 cases hi with
 |none =>
  cases hhi
  cases lo with
  |none =>
   cases hlo
   refine⟨?_,Nat.zero_le _,Nat.le_refl _⟩
   simp[Instr.sliceBounds,eH,cu]
  |some x =>
   obtain⟨k,n,rfl,hx,h0,h1⟩:=key x dlo hlo _ hb2
   refine⟨?_,by simp only[eH,cu] at *;omega,Nat.le_refl _⟩
   have:=uY (P:=P) hx ⟨h0,h1⟩ .sliceB w'
   simp only[cu] at this
   simp[Instr.sliceBounds,eH,cu,this]
 |some y =>
  obtain⟨k,n,rfl,hy,h0,h1⟩:=key y dhi hhi _ hb1
  have hrun:=fun c=>uY (P:=P) (w:=w') hy (y:=cap) ⟨h0,by omega⟩ c
  cases lo with
  |none =>
   cases hlo
   refine⟨?_,Nat.zero_le _,by simp only[cu];omega⟩
   simp[Instr.sliceBounds,eH,cu,hrun]
  |some x =>
   obtain⟨k',n',rfl,hx,h0',h1'⟩:=key x dlo hlo _ hb2
   simp only[cu] at h1'
   refine⟨?_,by simp only[eH,cu];omega,by simp only[cu];omega⟩
   have:=uY (P:=P) hx (y:=n.toNat) ⟨h0',h1'⟩ .sliceB w'
   simp[Instr.sliceBounds,eH,cu,hrun,this]
theorem D7(hΓ:ΓOK P Γ){t:Nat}{ti:TI}(ht:Γ t=some ti){x:Operand}{l:Bs}{lo hi:Option Operand}{dlo dhi:Option D}
  (hg:eO F w B a get) (hx:Rep F w B (.str l) (a.eval x)) (hlo:omap get lo=some dlo) (hhi:omap get hi=some dhi) (hk:ti.kind=.str)
  (hb:oN l.length dlo dhi) {o:Oper} (ho:o.op=.slice t x lo hi none):aX P F w B M a o (.val (.str ((l.drop (eH dlo)).take (cu l.length dhi-eH dlo)))):=by
 obtain⟨i,de,z,hi',hde,hz,hz1,hz2,hz3,hsz,hag,hkd⟩:=aU (hΓ _ _ ht).1
 rw[hk] at hkd
 obtain rfl:=kq hkd
 generalize hv:a.eval x=vx at hx
 cases hx with
 |str _ =>
  refine⟨_,?_,.str _⟩
  have hs:(⟨l.toArray⟩:ByteArray).size=l.length:=by show l.toArray.size=_;simp
  have:=(qG (P:=P) (isSlice:=false) (Nat.le_refl l.length) hg hlo hhi hb w).1
  unfold execOp
  simp only[ho,hv,Instr.sliceAt,Instr.slice,Sem.run_bind,run_underlying hde,Result.andThen_ok,Option.map_none,Option.isSome_none,Bool.false_eq_true,if_false,hs,Sem.run_pure]
  rw[this]
  simp only[Result.andThen_ok,Sem.run_pure,KQ]
theorem uR(hΓ:ΓOK P Γ){t:Nat}{ti:TI}(ht:Γ t=some ti){x:Operand}{α:Type}{dz:α}{enc:α->List D}{l:List α}{lo hi:Option Operand}{dlo dhi:Option D}{es:Nat}{ea:Bool}
  (hg:eO F w B a get) (hx:Rep F w B (.recs dz enc l) (a.eval x)) (hlo:omap get lo=some dlo) (hhi:omap get hi=some dhi) (hk:ti.kind=.slice es ea) (hlen:(enc dz).length=es)
  (hb:oN l.length dlo dhi) {o:Oper} (ho:o.op=.slice t x lo hi none):aX P F w B M a o (.val (.recs dz enc ((l.drop (eH dlo)).take (cu l.length dhi-eH dlo)))):=by
 obtain⟨i,de,z,hi',hde,hz,hz1,hz2,hz3,hsz,hag,hkd⟩:=aU (hΓ _ _ ht).1
 rw[hk] at hkd
 obtain⟨e,rfl,hse⟩:=ft hkd
 generalize hv:a.eval x=vx at hx
 cases hx with
 |bW _ _ p =>
  obtain⟨h1,h2,h3⟩:=qG (P:=P) (isSlice:=true) (len:=0) (cap:=0) (Nat.le_refl 0) hg hlo hhi hb w
  simp only[List.length_nil]
  have hl0:eH dlo=0:=by omega
  have hh0:cu 0 dhi=0:=by omega
  rw[hl0,hh0] at h1 ⊢
  refine⟨.slice p 0 0,?_,.bW _ _ p⟩
  unfold execOp
  simp only[ho,hv,Instr.sliceAt,Instr.slice,Sem.run_bind,run_underlying hde,Result.andThen_ok,Option.map_none,Sem.run_pure]
  rw[h1]
  cases p<;>simp[(dH hse).1]
 |recs _ _ _ g off cap size vs hsize h1 h2 h3 hcap =>
  obtain⟨hr,hr2,hr3⟩:=qG (P:=P) (isSlice:=true) hcap hg hlo hhi hb w
  generalize hlo':eH dlo=lo' at *
  generalize hhi':cu l.length dhi=hi' at *
  have hes:size=es:=by rw[hsize,hlen]
  have hl:((l.drop lo').take (hi'-lo')).length=hi'-lo':=by simp;omega
  have hget:∀i,i<hi'-lo'->((l.drop lo').take (hi'-lo'))[i]? = l[lo'+i]?:=by
   intro i hi;rw[List.getElem?_take,if_pos hi,List.getElem?_drop]
  by_cases hc:cap=lo'
  ·refine⟨.slice (some ⟨g,off,none⟩) (hi'-lo') (cap-lo'),?_,?_⟩
   ·unfold execOp
    simp only[ho,hv,Instr.sliceAt,Instr.slice,Sem.run_bind,run_underlying hde,Result.andThen_ok,Option.map_none,Sem.run_pure]
    rw[hr]
    simp[(dH hse).1,hc]
   ·have h0:hi'-lo'=0:=by omega
    rw[h0,List.take_zero]
    exact .recs _ _ [] g off (cap-lo') size vs hsize (fun i hi=>by simp at hi) (fun i hi=>by simp at hi) (fun i j hi=>by simp at hi) (Nat.zero_le _)
  ·refine⟨.slice (some ⟨g,off+lo'*size,none⟩) (hi'-lo') (cap-lo'),?_,?_⟩
   ·unfold execOp
    simp only[ho,hv,Instr.sliceAt,Instr.slice,Sem.run_bind,run_underlying hde,Result.andThen_ok,Option.map_none,Sem.run_pure]
    rw[hr]
    simp[(dH hse).1,hc,add_eq,hes]
   ·have:=Rep.recs (F:=F) (w:=w) (B:=B) dz enc ((l.drop lo').take (hi'-lo')) g (off+lo'*size) (cap-lo') size (fun i=>vs (lo'+i)) hsize
     (fun i hi=>h1 _ (by omega)) (fun i hi=>by rw[hget i (by omega)];exact h2 _ (by omega))
     (fun i j hi hj=>by
      have:=h3 (lo'+i) j (by omega) hj
      rwa[Nat.add_mul,<-Nat.add_assoc] at this) (by omega)
    rwa[hl] at this
theorem wZ(op:BinOp)(t:Nat)(x y:Operand)(k k':IntKind)(m n:Int)(w:World):(eqGuard op t x y (.int k m) (.int k' n)).run P w=.ok () w:=by
 unfold eqGuard;split<;>rfl
theorem DL(op:BinOp)(t:Nat)(x y:Operand)(m n:ByteArray)(w:World):(eqGuard op t x y (.string m) (.string n)).run P w=.ok () w:=by
 unfold eqGuard;split<;>rfl
theorem Dw(op:BinOp)(t:Nat)(x y:Operand)(m n:Bool)(w:World):(eqGuard op t x y (.bool m) (.bool n)).run P w=.ok () w:=by
 unfold eqGuard;split<;>rfl
theorem F4{op:BinOp}{t:Nat}{k:IntKind}{m n:Int}{d:D}{cs:List Bool}(he:qc op (.val (.int k m)) (.val (.int k n))=some (d,cs))(hc:∀c∈cs,c=true)(w:World) :
  ∃v,(Go.binOp op t (.int k m) (.int k n)).run P w=.ok v w/\gY v=true/\d=.val v:=by
 simp only[qc] at he
 split at he
 ·
  simp only[uq] at he
  cases he
  have h0:¬n<0:=by have:=hc _ (List.mem_singleton.2 rfl);simpa using this
  refine⟨_,?_,rfl,rfl⟩
  simp[Go.binOp,Op.shift,h0]
 ·simp only[uq] at he
  cases he
  have h0:¬n<0:=by have:=hc _ (List.mem_singleton.2 rfl);simpa using this
  refine⟨_,?_,rfl,rfl⟩
  simp[Go.binOp,Op.shift,h0]
 ·simp only[if_true] at he
  by_cases hq:op=.quo
  ·subst hq
   simp only[zo] at he
   cases he
   have h0:¬n=0:=by have:=hc _ (List.mem_singleton.2 rfl);simpa using this
   exact⟨_,by simp[Go.binOp,Op.intDiv,h0],rfl,rfl⟩
  by_cases hr:op=.rem
  ·subst hr
   simp only[zo] at he
   cases he
   have h0:¬n=0:=by have:=hc _ (List.mem_singleton.2 rfl);simpa using this
   exact⟨_,by simp[Go.binOp,Op.intDiv,h0],rfl,rfl⟩
  cases op<;>simp only[zo] at he<;>first
   |(exact absurd rfl hq)
   |(exact absurd rfl hr)
   |(cases he;done)
   |(cases he;exact⟨_,by simp[Go.binOp,Op.intArith,Op.intBits,Op.intCmp],rfl,rfl⟩)
theorem IC{op:BinOp}{k k':IntKind}{m n:Int}{r}(he:qc op (.val (.int k m)) (.val (.int k' n))=some r):(op=.shl\/op=.shr)\/k=k':=by
 simp only[qc] at he
 split at he
 ·exact .inl (.inl rfl)
 ·exact .inl (.inr rfl)
 ·split at he
  ·exact .inr (by assumption)
  ·cases he
theorem H9{op:BinOp}{t:Nat}{k k':IntKind}{m n:Int}{d:D}{cs:List Bool}(ho:op=.shl\/op=.shr)(he:qc op (.val (.int k m)) (.val (.int k' n))=some (d,cs))(hc:∀c∈cs,c=true)(w:World) :
  ∃v,(Go.binOp op t (.int k m) (.int k' n)).run P w=.ok v w/\gY v=true/\d=.val v:=by
 rcases ho with rfl|rfl
 all_goals
  simp only[qc,uq] at he
  cases he
  have h0:¬n<0:=by have:=hc _ (List.mem_singleton.2 rfl);simpa using this
  refine⟨_,?_,rfl,rfl⟩
  simp[Go.binOp,Op.shift,h0]
theorem Fh{op:BinOp}{t:Nat}{p q:Bs}{d:D}{cs:List Bool}(he:BU op p q=some (d,cs))(hc:∀c∈cs,c=true)(w:World) :
  ∃v,(Go.binOp op t (.string ⟨p.toArray⟩) (.string ⟨q.toArray⟩)).run P w=.ok v w/\Rep F w B d v:=by
 have hp:(⟨p.toArray⟩:ByteArray).toList=p:=by rw[ByteArray.toList_eq]
 have hq:(⟨q.toArray⟩:ByteArray).toList=q:=by rw[ByteArray.toList_eq]
 cases op<;>simp only[BU] at he<;>first
  |(cases he;done)
  |(cases he;refine⟨_,?_,.val _ rfl⟩;simp only[Go.binOp,Op.stringOp,hp,hq,Sem.run_pure];done)
  |skip
 cases he
 have h0:=hc _ (List.mem_singleton.2 rfl)
 have h1:=of_decide_eq_true h0
 have hs1:(⟨p.toArray⟩:ByteArray).size=p.length:=by show p.toArray.size=_;simp
 have hs2:(⟨q.toArray⟩:ByteArray).size=q.length:=by show q.toArray.size=_;simp
 refine⟨.string ⟨(p++q).toArray⟩,?_,.str _⟩
 have hmax:IntKind.i64.max=9223372036854775807:=by decide
 have hn:¬(((p.length+q.length:Nat):Int)>IntKind.i64.max):=by rw[hmax];omega
 have happ:(⟨p.toArray⟩:ByteArray)++⟨q.toArray⟩=⟨(p++q).toArray⟩:=by
  apply WideShapes.bytes_inj
  simp
 simp only[Go.binOp,Op.stringOp,hs1,hs2,if_neg hn,Sem.run_pure,happ]
theorem Ll{op:BinOp}{t yt:Nat}{x y:Operand}{dx dy d:D}{cs:List Bool}(hx:Rep F w B dx (a.eval x))(hy:Rep F w B dy (a.eval y))(he:qc op dx dy=some (d,cs))(hc:∀c∈cs,c=true)
  {o:Oper} (ho:o.op=.binOp op t x y yt):aX P F w B M a o (.val d):=by
 generalize hv:a.eval x=vx at hx
 generalize hu:a.eval y=vy at hy
 have hex:∀v,(eqGuard op t x y vx vy).run P w=.ok () w->(Go.binOp op t vx vy).run P w=.ok v w->(execOp a.eval o).run P w=.ok (.value v) w:=by
  intro v h1 h2
  unfold execOp
  simp only[ho,hv,hu,Sem.run_bind,h1,Result.andThen_ok,h2,Sem.run_pure]
 unfold qc at he
 split at he
 ·rename_i k m k' n
  cases hx;cases hy
  have hb:qc op (.val (.int k m)) (.val (.int k' n))=some (d,cs):=by unfold qc;exact he
  rcases IC hb with h|rfl
  ·obtain⟨v,h1,h2,rfl⟩:=H9 (P:=P) (t:=t) h hb hc w
   exact⟨v,hex v (wZ _ _ _ _ _ _ _ _ _) h1,.val _ h2⟩
  ·obtain⟨v,h1,h2,rfl⟩:=F4 (P:=P) (t:=t) hb hc w
   exact⟨v,hex v (wZ _ _ _ _ _ _ _ _ _) h1,.val _ h2⟩
 ·rename_i p q
  cases hx;cases hy
  obtain⟨v,h1,h2⟩:=Fh (P:=P) (t:=t) (F:=F) (B:=B) he hc w
  exact⟨v,hex v (DL _ _ _ _ _ _ _) h1,h2⟩
 ·cases he
theorem zi(hΓ:ΓOK P Γ){op:BinOp}{t yt:Nat}{ti:TI}(ht:Γ t=some ti)(hk:ti.kind=.bool){x y:Operand}{m n:Bool}(hx:Rep F w B (.val (.bool m)) (a.eval x))(hy:Rep F w B (.val (.bool n)) (a.eval y))
  {r:Bool} (hop:(op=.eql/\r=(m==n))\/(op=.neq/\r=!(m==n))) {o:Oper} (ho:o.op=.binOp op t x y yt):aX P F w B M a o (.val (.val (.bool r))):=by
 obtain⟨i,de,z,hi,hde,hz,hz1,hz2,hz3,hsz,hag,hkd⟩:=aU (hΓ _ _ ht).1
 obtain rfl:=G0 (by rw[hkd];exact hk)
 generalize hv:a.eval x=vx at hx
 generalize hu:a.eval y=vy at hy
 cases hx;cases hy
 have heq:(Op.equal t (.bool m) (.bool n)).run P w=.ok (m==n) w:=by
  rw[Op.equal,show Op.maxDepth=9999+1 from rfl,Op.equalIn]
  simp[run_underlying hde]
 refine⟨.bool r,?_,.val _ rfl⟩
 unfold execOp
 rcases hop with⟨rfl,rfl⟩|⟨rfl,rfl⟩
 all_goals
  simp only[ho,hv,hu,Sem.run_bind,Dw,Result.andThen_ok,Go.binOp,heq,Sem.run_pure]
theorem kx(op:BinOp)(t:Nat)(x y x' y':Operand)(m n:Array Value)(w w':World)(h:(eqGuard .eql t x' y' (.agg m) (.agg n)).run P w=.ok () w')(ho:op=.eql\/op=.neq):(eqGuard op t x y (.agg m) (.agg n)).run P w=.ok () w':=by
 rcases ho with rfl|rfl<;>exact h
theorem AY(hΓ:ΓOK P Γ){op:BinOp}{t yt:Nat}{ti:TI}(ht:Γ t=some ti)(hk:ti.eqs≠[]){x y:Operand}{p q:List D}{e:Bool}(hx:Rep F w B (.agg p) (a.eval x))(hy:Rep F w B (.agg q) (a.eval y))(hc:oO ti.eqs p q=some e)
  {r:Bool} (hop:(op=.eql/\r=e)\/(op=.neq/\r=!e)) {o:Oper} (ho:o.op=.binOp op t x y yt):aX P F w B M a o (.val (.val (.bool r))):=by
 have heq:=(hΓ _ _ ht).2 hk
 generalize hv:a.eval x=vx at hx
 generalize hu:a.eval y=vy at hy
 cases hx with
 |agg _ vs h =>
  cases hy with
  |agg _ us h' =>
   obtain⟨h1,h2⟩:=heq F w w B B p q vs us e h h' hc
   refine⟨.bool r,?_,.val _ rfl⟩
   unfold execOp
   rcases hop with⟨rfl,rfl⟩|⟨rfl,rfl⟩
   ·simp only[ho,hv,hu,Sem.run_bind,kx .eql t x y _ _ _ _ _ _ h1 (.inl rfl),Result.andThen_ok,Go.binOp,h2,Sem.run_pure]
   ·simp only[ho,hv,hu,Sem.run_bind,kx .neq t x y _ _ _ _ _ _ h1 (.inr rfl),Result.andThen_ok,Go.binOp,h2,Sem.run_pure]
theorem L6{op:UnOp}{t:Nat}{x:Operand}{dx d:D}(hx:Rep F w B dx (a.eval x))(he:unD op dx=some d){o:Oper}(ho:o.op=.unOp op t x):aX P F w B M a o (.val d):=by
 generalize hv:a.eval x=vx at hx
 unfold unD at he
 split at he
 all_goals first
  |(cases he;done)
  |(cases he;cases hx;exact⟨_,by unfold execOp;simp only[ho,hv,Op.unary,Op.intArith,Op.intBits,Sem.run_bind,Sem.run_pure,Result.andThen_ok],.val _ rfl⟩)
theorem F5(hΓ:ΓOK P Γ){s t:Nat}{si ti:TI}(hs:Γ s=some si)(ht:Γ t=some ti){x:Operand}{k0 k k':IntKind}{n:Int}(hx:Rep F w B (.val (.int k0 n)) (a.eval x))(hks:si.kind=.int k')(hkt:ti.kind=.int k)
  {o:Oper} (ho:o.op=.convert s t x):aX P F w B M a o (.val (.val (.int k (k.wrap n)))):=by
 obtain⟨_,de,_,_,hde,_,_,_,_,_,_,hkd⟩:=aU (hΓ _ _ hs).1
 obtain⟨_,de',_,_,hde',_,_,_,_,_,_,hkd'⟩:=aU (hΓ _ _ ht).1
 obtain rfl:=kind_int (by rw[hkd];exact hks)
 obtain rfl:=kind_int (by rw[hkd'];exact hkt)
 generalize hv:a.eval x=vx at hx
 cases hx
 refine⟨_,?_,.val _ rfl⟩
 unfold execOp
 simp only[ho,hv,convert,Sem.run_bind,run_underlying hde,run_underlying hde',Result.andThen_ok,Conv.intToInt,Sem.run_pure]
theorem FY(hΓ:ΓOK P Γ){s t:Nat}{si ti:TI}(hs:Γ s=some si)(ht:Γ t=some ti){x:Operand}{l:Bs}(hx:Rep F w B (.str l) (a.eval x))(hks:si.kind=.str)(hkt:ti.kind=.str)
  {o:Oper} (ho:o.op=.convert s t x):aX P F w B M a o (.val (.str l)):=by
 obtain⟨_,de,_,_,hde,_,_,_,_,_,_,hkd⟩:=aU (hΓ _ _ hs).1
 obtain⟨_,de',_,_,hde',_,_,_,_,_,_,hkd'⟩:=aU (hΓ _ _ ht).1
 obtain rfl:=kq (by rw[hkd];exact hks)
 obtain rfl:=kq (by rw[hkd'];exact hkt)
 generalize hv:a.eval x=vx at hx
 cases hx
 refine⟨_,?_,.str _⟩
 unfold execOp
 simp only[ho,hv,convert,Sem.run_bind,run_underlying hde,run_underlying hde',Result.andThen_ok,Sem.run_pure]
theorem EG{x:Operand}{d:D}(hx:Rep F w B d (a.eval x)){o:Oper}(ho:o.op=.move x\/o.op=.assign x):aX P F w B M a o (.val d):=by
 refine⟨a.eval x,?_,hx⟩
 unfold execOp
 rcases ho with ho|ho<;>simp only[ho,Sem.run_pure]
theorem pH{x:Operand}{d:D}(hx:Rep F w B d (a.eval x))(hd:(∃k off,d=.own k off)\/(∃ds,d=.el ds)\/(∃f c,d=.fn f c)\/(∃k n z off,d=.elm k n z off)){o:Oper}(ho:o.op=.nilCheck x):aX P F w B M a o (.val d):=by
 refine⟨a.eval x,?_,hx⟩
 unfold execOp
 generalize hv:a.eval x=vx at hx
 rcases hd with⟨k,off,rfl⟩|⟨ds,rfl⟩|⟨f,c,rfl⟩|⟨k,n,z,off,rfl⟩<;>cases hx<;>simp only[ho,hv,Sem.run_pure]
theorem FW{x:Operand}{i:Nat}{ds:List D}{d:D}(hx:Rep F w B (.tup ds) (a.eval x))(hd:ds[i]? = some d){o:Oper}(ho:o.op=.extract x i):aX P F w B M a o (.val d):=by
 generalize hv:a.eval x=vx at hx
 cases hx with
 |tup _ vs h =>
  obtain⟨v,h1,h2⟩:=h.get i hd
  refine⟨v,?_,h2⟩
  unfold execOp
  have h1':vs.toArray[i]? = some v:=by simpa using h1
  simp only[ho,hv,Instr.extract,h1',Sem.run_bind,Sem.run_pure,Result.andThen_ok]
theorem DG{f:Nat}{first cap:Array Operand}{ds:List D}(hg:eO F w B a get)(hf:first.toList.isEmpty=true)(hc:getAll get cap.toList=some ds){o:Oper}(ho:o.op=.makeFunc (.func f) first cap):aX P F w B M a o (.val (.fn f ds)):=by
 have h:=hg.all _ _ hc
 refine⟨_,?_,.fn f _ _ h⟩
 have hf':first=#[]:=by
  apply Array.ext'
  simpa using hf
 subst hf'
 unfold execOp
 have:cap.map a.eval=(cap.toList.map a.eval).toArray:=by apply Array.ext';simp
 simp only[ho,Instr.makeFunc,Sem.run_bind,Sem.run_pure,Result.andThen_ok,this]
 simp
theorem lU{f:Nat}(hf:FOK P f)(args:Array Value)(w:World):(callFunc f args).run P w=.ok (.enter f args) w:=by
 obtain⟨fn,h1,h2,h3⟩:=hf
 unfold callFunc
 simp only[Sem.run_bind,run_program,Result.andThen_ok,h1,h2,h3,Bool.false_eq_true,if_false,Sem.run_pure]
theorem KL(hb:Base F0 w0 B F M w){L:ax}(hL:RowsIn M L){c:Call}{f:Nat}{args:List D}{cs:List Bool}(hg:eO F w B a get)(he:fO Γ L get c=some (.call f args,cs)){o:Oper}(ho:o.op=.call c):aX P F w B M a o (.call f args):=by
 unfold fO at he
 split at he
 ·rename_i f' ds' hc ha
  cases he
  have h:=hg.all _ _ ha
  refine⟨_,h.jD hb hL,?_⟩
  unfold execOp
  have hm:c.args.map a.eval=(c.args.toList.map a.eval).toArray:=by apply Array.ext';simp
  simp only[ho,resolve,hc,Act.eval,Deferred.ofValue,Sem.run_bind,Sem.run_pure,Result.andThen_ok,invoke,hm]
  simp only[List.append_toArray,List.nil_append,List.append_nil]
 ·rename_i x ds' hnf hc ha
  split at he
  ·rename_i f' caps hx
   cases he
   have h:=hg.all _ _ ha
   have hr:=hg _ _ hx
   generalize hv:a.eval x=vx at hr
   cases hr with
   |fn _ _ vs hcap =>
    refine⟨_,(h.append hcap).jD hb hL,?_⟩
    unfold execOp
    have hm:c.args.map a.eval=(c.args.toList.map a.eval).toArray:=by apply Array.ext';simp
    simp only[ho,resolve,hc,hv,Deferred.ofValue,Sem.run_bind,Sem.run_pure,Result.andThen_ok,invoke,hm]
    simp only[List.append_toArray,List.nil_append]
  ·cases he
 all_goals (first|(cases he;done)|((repeat' (first|(cases he;done)|(simp only[Option.bind,Option.map] at he)|split at he))))
theorem Hr(hΓ:ΓOK P Γ){c:Call}{t:Nat}{ti:TI}(ht:Γ t=some ti)(hk:ti.kind=.str)(hat:c.argTypes.toList=[t]){l:Bs}(hc:c.callee=.builtin .len)(hg:eO F w B a get)(ha:getAll get c.args.toList=some [.str l]){o:Oper}(ho:o.op=.call c) :
  aX P F w B M a o (.val (.val (.int .i64 l.length))):=by
 obtain⟨_,de,_,_,hde,_,_,_,_,_,_,hkd⟩:=aU (hΓ _ _ ht).1
 obtain rfl:=kq (by rw[hkd];exact hk)
 have h:=hg.all _ _ ha
 have hm:c.args.map a.eval=(c.args.toList.map a.eval).toArray:=by apply Array.ext';simp
 generalize hvs:c.args.toList.map a.eval=vs at h hm
 cases h with
 |cons _ v _ vs' hd hs =>
  cases hs
  cases hd
  have hs:(⟨l.toArray⟩:ByteArray).size=l.length:=by show l.toArray.size=_;simp
  have hat':c.argTypes=#[t]:=by apply Array.ext';simpa using hat
  refine⟨_,?_,.val _ rfl⟩
  unfold execOp
  simp only[ho,resolve,hc,hm,hat',Sem.run_bind,Sem.run_pure,Result.andThen_ok,invoke,builtin,Builtin.len_]
  simp[run_underlying hde,hs,goInt]
theorem FV(hΓ:ΓOK P Γ){c:Call}{t:Nat}{ti:TI}(ht:Γ t=some ti){es:Nat}{ea:Bool}(hk:ti.kind=.slice es ea)(hat:c.argTypes.toList=[t]){α:Type}{dz:α}{enc:α->List D}{l:List α}(hc:c.callee=.builtin .len)(hg:eO F w B a get)
  (ha:getAll get c.args.toList=some [.recs dz enc l]) {o:Oper} (ho:o.op=.call c):aX P F w B M a o (.val (.val (.int .i64 l.length))):=by
 obtain⟨_,de,_,_,hde,_,_,_,_,_,_,hkd⟩:=aU (hΓ _ _ ht).1
 obtain⟨e,rfl,hse⟩:=ft (by rw[hkd];exact hk)
 have h:=hg.all _ _ ha
 have hm:c.args.map a.eval=(c.args.toList.map a.eval).toArray:=by apply Array.ext';simp
 generalize hvs:c.args.toList.map a.eval=vs at h hm
 cases h with
 |cons _ v _ vs' hd hs =>
  cases hs
  have hat':c.argTypes=#[t]:=by apply Array.ext';simpa using hat
  cases hd
  all_goals
   refine⟨_,?_,.val _ rfl⟩
   unfold execOp
   simp only[ho,resolve,hc,hm,hat',Sem.run_bind,Sem.run_pure,Result.andThen_ok,invoke,builtin,Builtin.len_]
   simp[run_underlying hde,goInt]
theorem Lu{c:Call}{k k':IntKind}{m n:Int}(hc:c.callee=.builtin .min)(hg:eO F w B a get)(ha:getAll get c.args.toList=some [.val (.int k m),.val (.int k' n)]){o:Oper}(ho:o.op=.call c) :
  aX P F w B M a o (.val (.val (.int k (if n<m then n else m)))):=by
 have h:=hg.all _ _ ha
 have hm:c.args.map a.eval=(c.args.toList.map a.eval).toArray:=by apply Array.ext';simp
 generalize hvs:c.args.toList.map a.eval=vs at h hm
 cases h with
 |cons _ v _ vs' hd hs =>
  cases hs with
  |cons _ v' _ vs'' hd' hs' =>
   cases hs';cases hd;cases hd'
   refine⟨_,?_,.val _ rfl⟩
   unfold execOp
   simp only[ho,resolve,hc,hm,Sem.run_bind,Sem.run_pure,Result.andThen_ok,invoke,builtin,Builtin.min_,List.foldlM_cons,List.foldlM_nil,Builtin.min2]
theorem LD{c:Call}{k k':IntKind}{m n:Int}(hc:c.callee=.builtin .max)(hg:eO F w B a get)(ha:getAll get c.args.toList=some [.val (.int k m),.val (.int k' n)]){o:Oper}(ho:o.op=.call c) :
  aX P F w B M a o (.val (.val (.int k (if n>m then n else m)))):=by
 have h:=hg.all _ _ ha
 have hm:c.args.map a.eval=(c.args.toList.map a.eval).toArray:=by apply Array.ext';simp
 generalize hvs:c.args.toList.map a.eval=vs at h hm
 cases h with
 |cons _ v _ vs' hd hs =>
  cases hs with
  |cons _ v' _ vs'' hd' hs' =>
   cases hs';cases hd;cases hd'
   refine⟨_,?_,.val _ rfl⟩
   unfold execOp
   simp only[ho,resolve,hc,hm,Sem.run_bind,Sem.run_pure,Result.andThen_ok,invoke,builtin,Builtin.max_,List.foldlM_cons,List.foldlM_nil,Builtin.max2]
end
end Go.Proofs.YtefojkdckfidcaaGreatDoor.RX
namespace Go.Proofs.YtefojkdckfidcaaGreatDoor.RX
open Go.RowKit
section
variable {P:Program} {F0:Fz} {w0:Pt P} {B:Env} {F:Fz} {M:Mem} {L:ax} {w:World} {a:Act} {get:Operand->Option D} {Γ:Nat->Option TI}
theorem rU{t e es:Nat}{ti:TI}(h:rB P t=some ti)(hd:P.underlying t=some (.slice e))(hz:ti.ez.length=es)(hpos:0<es) :
  ∃i z,P.info? e=some i/\i.zero=some z/\z.cells.toList=ti.ez/\ti.ez.all gY=true/\i.bytes=ti.eb/\ti.elt=e/\i.size=es:=by
 obtain⟨h1,h2,h3,_⟩:=uV h hd
 simp only[lI] at h1 h2 h3
 cases hi:P.info? e with
 |none=>rw[hi] at h3;simp only at h3;rw[h3] at hz;simp at hz;omega
 |some i =>
  rw[hi] at h2 h3
  simp only at h2 h3
  cases hzz:i.zero with
  |none=>rw[hzz] at h3;simp only at h3;rw[h3] at hz;simp at hz;omega
  |some z =>
   rw[hzz] at h3
   simp only at h3
   split at h3
   ·rename_i hc
    simp only[Bool.and_eq_true,beq_iff_eq] at hc
    refine⟨i,z,rfl,hzz,h3.symm,by rw[h3];exact hc.1,h2.symm,h1,?_⟩
    rw[<-hz,h3];exact hc.2.symm
   ·rw[h3] at hz;simp at hz;omega
theorem vR(n:Nat)(zs:List Value)(h:zs.all gY=true):aA F w B ((List.replicate n (zs.map ofValue)).flatten) ((List.replicate n zs).flatten):=by
 induction n with
 |zero=>exact .nil
 |succ n ih =>
  simp only[List.replicate_succ,List.flatten_cons]
  exact(ofValues zs h).append ih
theorem yM(hb:Base F0 w0 B F M w)(hL:RowsIn M L):∀(ps:List (Nat×D))(vs:List Value),aA F w B (ps.map (·.2)) vs->aA F w B ((ps.map fun x=>(x.1,x.2.shut L)).map (·.2)) vs
 |[],_,h=>h
 |p::ps,_,h=>by
  simp only[List.map_cons] at h ⊢
  cases h with
  |cons _ v _ vs h hs=>exact .cons _ _ _ _ (h.jD hb hL) (yM hb hL ps vs hs)
theorem Bl(hΓ:ΓOK P Γ)(hb:Base F0 w0 B F M w)(hL:RowsIn M L){t len es:Nat}{ea:Bool}{ti:TI}{parts:Array (Nat×Operand)}{ps:List (Nat×D)}{cs:List D}(ht:Γ t=some ti)(hk:ti.kind=.slice es ea)
  (hg:eO F w B a get) (hp:ni get parts.toList=some ps) (hf:gK (fun i=>some (i*es,es)) ((List.replicate len (ti.ez.map ofValue)).flatten) (ps.map fun x=>(x.1,x.2.shut L))=some cs)
  (hno:D.bP cs=true) (hlen:len*es<=16777216) (hpos:0<es) (hez:ti.ez.length=es) {o:Oper} (ho:o.op=.buildSlice t len parts) (m:Bool):aX P F w B M a o (.row ti.elt m none (dC es cs len)):=by
 obtain⟨_,de,_,_,hde,_,_,_,_,_,_,hkd⟩:=aU (hΓ _ _ ht).1
 obtain⟨e,rfl,hse⟩:=ft (by rw[hkd];exact hk)
 obtain⟨i,z,hi,hz,hzc,hzf,hbs,hel,hsz⟩:=rU (hΓ _ _ ht).1 hde hez hpos
 have hel:ti.elt=e:=hel
 intro α d enc l hspec hgood
 obtain⟨_,d',enc',l',h1,h2,h3,h4⟩:=hspec
 cases h4
 obtain⟨hg1,hg2⟩:=hgood
 obtain⟨hq,hqr⟩:=hg.parts _ _ hp
 have hzs:z.cells.size=es:=by
  have:z.cells.toList.length=es:=by rw[hzc];exact hez
  simpa using this
 obtain⟨us,hu,hur⟩:=tP (F:=F) (w:=w) (B:=B) (fun i=>some (i*es,es)) (ps.map fun x=>(x.1,x.2.shut L)) (parts.toList.map fun x=>(x.1,a.eval x.2)) _ ((List.replicate len ti.ez).flatten) cs
  (vR len ti.ez hzf) hf (by rw[List.map_map,List.map_map];simpa[Function.comp_def] using hq.symm) (by
   have e:(parts.toList.map fun x=>(x.1,a.eval x.2)).map (·.2)=parts.toList.map fun x=>a.eval x.2:=by simp[Function.comp_def]
   rw[e]
   exact yM hb hL ps _ hqr)
 have hcl:us.length=len*es:=by
  rw[aA.length hur,h1.length,fy (fun x=>(hg2 x).1),h2,h3]
 have hcell:(madeCells z.cells (len*es)).toList=(List.replicate len ti.ez).flatten:=by rw[yS (by simpa using hzs) hpos,hzc]
 refine⟨some w.heap.size,len,len,w.alloc (.cells us.toArray ti.elt),us,none,0,_,?_,.inl rfl,h2.symm,?_,⟨by rw[h3];exact hcl,.inr ⟨_,us.toArray,(0,0),rfl,heap_alloc_new w _,by simp,Nat.le_refl _,?_,by rw[h3];simpa using hcl,?_⟩⟩,
  .inr ⟨rfl,World.grownBy_alloc w _ none⟩,Nat.zero_le _,rfl⟩
 ·unfold execOp
  have hm:(parts.map fun x=>(x.1,a.eval x.2)).toList=parts.toList.map fun x=>(x.1,a.eval x.2):=by simp
  have h24:¬(2 ^ 24<len*es):=by omega
  simp only[ho,Instr.buildSlice,Sem.run_bind,run_underlying hde,Result.andThen_ok,iV hi,hsz,Nat.not_lt.1 h24,gt_iff_lt,h24,if_false,Sem.run_pure]
  have hz0:((Array.range (len*es)).map fun i=>(if len*es=0 then #[] else z.cells)[i % (if len*es=0 then #[] else z.cells).size]!)=((List.replicate len ti.ez).flatten).toArray:=by
   apply Array.ext'
   rw[<-hcell]
   by_cases h0:len*es=0
   ·simp[h0,madeCells]
   ·simp[h0,madeCells]
  by_cases h0:len*es=0
  ·simp only[h0,if_true,Sem.run_bind,Sem.run_pure,Result.andThen_ok] at hz0 ⊢
   rw[hz0,hm,hu]
   simp only[Sem.run_bind,Sem.run_pure,Result.andThen_ok,newRow,run_newObj,hel]
   rfl
  ·simp only[h0,if_false,zeroValue,Sem.run_bind,run_typeInfo w hi,hz,Sem.run_pure,Result.andThen_ok] at hz0 ⊢
   rw[hz0,hm,hu]
   simp only[Sem.run_bind,Sem.run_pure,Result.andThen_ok,newRow,run_newObj,hel]
   rfl
 ·exact h1.rep (hur.bare hno)
 ·have:len<=len*es:=Nat.le_mul_of_pos_right _ hpos
  simp only[maxLen];omega
 ·rw[h3,List.take_of_length_le (by simp;omega)]
theorem CZ(n c:Nat)(zs:List Value)(h:n<=c):((List.replicate c zs).flatten).take (n*zs.length)=(List.replicate n zs).flatten:=by
 induction n generalizing c with
 |zero=>simp
 |succ n ih =>
  cases c with
  |zero=>omega
  |succ c =>
   simp only[List.replicate_succ,List.flatten_cons]
   rw[Nat.add_mul,Nat.one_mul,Nat.add_comm,List.take_length_add_append,ih c (by omega)]
theorem JD(hΓ:ΓOK P Γ){t es:Nat}{ea:Bool}{ti:TI}(ht:Γ t=some ti)(hk:ti.kind=.slice es ea){x y:Operand}{k k':IntKind}{n c:Int}(hx:Rep F w B (.val (.int k n)) (a.eval x))(hy:Rep F w B (.val (.int k' c)) (a.eval y))
  (hpos:0<es) (hez:ti.ez.length=es) (hc1:0<=n/\n<=c) (hc2:c*(ti.eb+1:Nat)<=(limit:Int)) {o:Oper} (ho:o.op=.makeSlice t x y) (m:Bool):aX P F w B M a o (.row ti.elt m none (yL (ti.ez.map ofValue) n.toNat)):=by
 obtain⟨_,de,_,_,hde,_,_,_,_,_,_,hkd⟩:=aU (hΓ _ _ ht).1
 obtain⟨e,rfl,hse⟩:=ft (by rw[hkd];exact hk)
 obtain⟨i,z,hi,hz,hzc,hzf,hbs,hel,hsz⟩:=rU (hΓ _ _ ht).1 hde hez hpos
 have hel:ti.elt=e:=hel
 intro α d enc l hspec hgood
 obtain⟨α',d',enc',h1,h4⟩:=hspec
 cases h4
 generalize hv:a.eval x=vx at hx
 generalize hu:a.eval y=vy at hy
 cases hx;cases hy
 have hzl:(enc d).length=es:=by rw[<-h1.length];simpa using hez
 have hc0:0<=c:=by omega
 have hbs:i.bytes=ti.eb:=hbs
 generalize hK:(c*(ti.eb+1:Nat):Int)=K at hc2
 have hb1:(i.bytes:Int)*c<=K:=by
  rw[<-hK,hbs,Int.mul_comm]
  exact Int.mul_le_mul_of_nonneg_left (by omega) hc0
 have hb2:c<=K:=by
  have:=Int.mul_le_mul_of_nonneg_left (show(1:Int)<=(ti.eb+1:Nat) by omega) hc0
  rw[hK] at this
  omega
 have hc2:K<=140737488355328:=hc2
 have hrun:=run_make (P:=P) w t e i z hde hi hz k k' n c hc1.1 hc1.2 (by omega) (by omega)
 have hcell:(madeCells z.cells (c.toNat*i.size)).toList=(List.replicate c.toNat ti.ez).flatten:=by
  rw[hsz,yS (by rw[hzc];exact hez) hpos,hzc]
 have hfl:∀q:Nat,((List.replicate q ti.ez).flatten).length=q*es:=by intro q;simp[hez]
 refine⟨some w.heap.size,n.toNat,c.toNat,w.alloc (.cells (madeCells z.cells (c.toNat*i.size)) ti.elt),(List.replicate n.toNat ti.ez).flatten,none,0,_,?_,.inl rfl,by simp,?_,⟨by rw[hzl];exact hfl _,.inr ⟨_,madeCells z.cells (c.toNat*i.size),(0,0),rfl,heap_alloc_new w _,by simp,by omega,?_,?_,?_⟩⟩,.inr ⟨rfl,World.grownBy_alloc w _ none⟩,Nat.zero_le _,rfl⟩
 ·unfold execOp
  simp only[ho,hv,hu,Sem.run_bind,hrun,Result.andThen_ok,Sem.run_pure,hel]
  rfl
 ·have:((List.replicate n.toNat d).flatMap enc)=(List.replicate n.toNat (enc d)).flatten:=by
   rw[List.flatMap_def,List.map_replicate]
  rw[this]
  have hrep:∀q:Nat,bq ((List.replicate q (ti.ez.map ofValue)).flatten) ((List.replicate q (enc d)).flatten):=by
   intro q
   induction q with
   |zero=>exact .nil
   |succ q ih=>simp only[List.replicate_succ,List.flatten_cons];exact h1.append ih
  exact(hrep _).rep (vR _ _ hzf)
 ·simp only[maxLen];omega
 ·rw[hzl,size_madeCells,hsz]
 ·rw[hcell,hzl,<-hez]
  exact CZ _ _ _ (by omega)
theorem AQ{α:Type}{d:α}{enc:α->List D}{size:Nat}:∀(l:List α)(vs:Nat->List Value),(∀i,i<l.length->(vs i).length=size)->(∀i,i<l.length->aA F w NB (enc (l[i]?.getD d)) (vs i)) ->
  ∃news,aA F w NB (l.flatMap enc) news/\news.length=l.length*size/\∀i j,i<l.length->j<size->news[i*size+j]? = (vs i)[j]?
 |[],vs,_,_=>⟨[],.nil,by simp,fun i j hi=>by simp at hi⟩
 |y::l,vs,h1,h2=>by
  obtain⟨news,h3,h4,h5⟩:=AQ (d:=d) l (fun i=>vs (i+1)) (fun i hi=>h1 (i+1) (by simp;omega)) (fun i hi=>by simpa using h2 (i+1) (by simp;omega))
  have hl0:=h1 0 (by simp)
  have hr0:aA F w NB (enc y) (vs 0):=by simpa using h2 0 (by simp)
  refine⟨vs 0++news,by simpa using hr0.append h3,by simp[hl0,h4,Nat.add_mul];omega,fun i j hi hj=>?_⟩
  cases i with
  |zero=>rw[Nat.zero_mul,Nat.zero_add,List.getElem?_append_left (by omega)]
  |succ i =>
   rw[List.getElem?_append_right (by rw[hl0,Nat.add_mul];omega),hl0,<-h5 i j (by simpa using hi) hj]
   congr 1
   rw[Nat.add_mul];omega
theorem yy(j size:Nat):j / size*size+j % size=j:=by rw[Nat.mul_comm];exact Nat.div_add_mod j size
theorem qH(hb:Base F0 w0 B F M w)(hL:RowsIn M L){es:Nat}(hpos:0<es){x:D}{v:Value}{cs:List D}{n:Nat}(hc:jE es L x=some (cs,n))(hx:Rep F w B x v) :
  ∃news,aA F w NB cs news/\news.length=n*es/\(∀w',(Builtin.lenOf v).run P w'=.ok n w')/\(∀w',(∀p,w'.cell? p=w.cell? p)->(Builtin.firstCells es n v).run P w'=.ok news.toArray w') /\
   ((∃q cap,v=.slice q n cap/\∀b,q=some b->∀j u,news[j]? = some u->w.cell? (b.add j)=some u)\/∃l,x=.str l):=by
 cases x<;>simp only[jE] at hc<;>first|(cases hc;done)|skip
 ·
  rename_i l
  split at hc
  ·rename_i h1
   cases hc
   cases hx
   have hs:(⟨l.toArray⟩:ByteArray).size=l.length:=by show l.toArray.size=_;simp
   refine⟨l.map fun b=>.int .u8 b.toNat,?_,by simp[h1],fun w'=>by simp[Builtin.lenOf,hs],fun w' _=>?_,.inr ⟨l,rfl⟩⟩
   ·clear hs
    induction l with
    |nil=>exact .nil
    |cons b l ih=>exact .cons _ _ _ _ (.val _ rfl) ih
   ·simp only[Builtin.firstCells,Sem.run_pure]
    congr 1
    apply Array.ext'
    rw[<-hs,ByteArray.extract_zero_size]
    simp
  ·cases hc
 ·
  rename_i α d enc l
  split at hc
  ·rename_i hz
   cases hc
   cases hx with
   |bW _ _ p =>
    refine⟨[],.nil,by simp,fun w'=>rfl,fun w' _=>?_,.inl ⟨p,0,rfl,fun _ _ j u hu=>by simp at hu⟩⟩
    cases p<;>simp[Builtin.firstCells,loadCells,loadCellsFrom]
   |recs _ _ _ g off cap size vs hsz h1 h2 h3 hcap =>
    obtain⟨news,h4,h5,h6⟩:=AQ l vs h1 h2
    have hse:size=es:=by rw[hsz,hz]
    subst hse
    have hcell:∀j u,news[j]? = some u->w.cell? ((⟨g,off,none⟩:Addr).add j)=some u:=by
     intro j u hu
     have hj:j<l.length*size:=by rw[<-h5];exact(List.getElem?_eq_some_iff.1 hu).1
     have hd:j / size<l.length:=(Nat.div_lt_iff_lt_mul hpos).2 hj
     have hm:j % size<size:=Nat.mod_lt _ hpos
     have h7:=h6 _ _ hd hm
     rw[yy] at h7
     rw[add_eq,<-hu,h7,<-(h3 _ _ hd hm).2]
     congr 2
     rw[Nat.add_assoc,yy]
    refine⟨news,h4,h5,fun w'=>rfl,fun w' hw=>?_,.inl ⟨_,cap,rfl,fun b hb=>by cases hb;exact hcell⟩⟩
    exact run_firstCells_some w' size l.length ⟨g,off,none⟩ l.length cap news h5 fun j u hu=>by rw[hw];exact hcell j u hu
  ·cases hc
 ·
  rename_i k
  split at hc
  ·rename_i t m α d enc l hl
   split at hc
   ·rename_i hz
    cases hc
    obtain⟨p,n,cap,hB,hrow⟩:=hb.i7 (hL _ _ _ _ _ _ _ hl)
    obtain⟨rfl,h2,h3,xs,h4,h5,h6⟩:=hrow
    cases hx with
    |row _ p' n' cap' hB' =>
     rw[hB] at hB';cases hB'
     refine⟨xs,h4,by rw[h5.1,hz],fun w'=>rfl,fun w' hw=>?_,.inl ⟨_,cap,rfl,fun b hb j u hu=>?_⟩⟩
     ·cases p with
      |none =>
       have hx0:xs=[]:=by
        rcases h5.2 with⟨_,h7,_⟩|⟨g,cur,fz,hp,_⟩
        ·exact List.eq_nil_of_length_eq_zero (by rw[h5.1,h7];simp)
        ·cases hp
       subst hx0
       simp[bf,Builtin.firstCells]
      |some b =>
       exact run_firstCells_some w' es l.length ⟨b,0,none⟩ l.length cap xs (by rw[h5.1,hz]) fun j u hu=>by rw[hw,add_eq,Nat.zero_add];exact h5.cells hu
     ·cases p with
      |none=>cases hb
      |some b' =>
       simp only[Option.map_some,Option.some.injEq] at hb
       subst hb
       rw[add_eq,Nat.zero_add];exact h5.cells hu
    |dn _ q hB' =>
     rw[hB] at hB'
     simp only[Option.some.injEq,Ref.row.injEq] at hB'
     obtain⟨rfl,hl0,rfl⟩:=hB'
     have hl:l=[]:=List.eq_nil_of_length_eq_zero hl0
     subst hl
     have hx0:xs=[]:=List.eq_nil_of_length_eq_zero (by rw[h5.1];simp)
     subst hx0
     refine⟨[],h4,by simp,fun w'=>rfl,fun w' hw=>?_,.inl ⟨q,0,rfl,fun b hb j u hu=>by simp at hu⟩⟩
     cases q<;>simp[Builtin.firstCells,loadCells,loadCellsFrom]
   ·cases hc
  ·cases hc
theorem vq{t e:Nat}{ti:TI}{k:IntKind}(h:rB P t=some ti)(hd:P.underlying t=some (.slice e))(hk:ti.ek=some k):P.underlying e=some (.int k):=by
 obtain⟨_,_,_,h4⟩:=uV h hd
 simp only[lI] at h4
 rw[hk] at h4
 split at h4
 ·rename_i k' hu;cases h4;exact hu
 ·cases h4
theorem Dl{cs:List D}{vs:List Value}(h:aA F w B cs vs)(hf:cs.all D.flat=true):∀u∈vs,u.oneCell'=true:=aA.nj h hf
theorem qN{α:Type}{enc:α->List D}(h:∀x,(enc x).all D.flat=true):∀l:List α,(l.flatMap enc).all D.flat=true
 |[]=>rfl
 |x::l=>by
  simp only[List.flatMap_cons,List.all_append,Bool.and_eq_true]
  exact⟨h x,qN h l⟩
theorem cq.kept{w w':World}{e size:Nat}{p p0:Option Nat}{n n0 cap cap0:Nat}{xs news:List Value}(h:cq w e size p0 n0 cap0 xs)(h':cq w' e size p n cap (xs++news))(hp:p=p0):∀b,p0=some b->∀j,j<n0*size->w'.cell? ⟨b,j,none⟩=w.cell? ⟨b,j,none⟩:=by
 intro b hb j hj
 subst hp;subst hb
 have hj':j<xs.length:=by rw[h.1];exact hj
 rw[h.cells (List.getElem?_eq_getElem hj'),h'.cells (by rw[List.getElem?_append_left hj'];exact List.getElem?_eq_getElem hj')]
theorem Ap(hΓ:ΓOK P Γ)(hb:Base F0 w0 B F M w)(hL:RowsIn M L){c:Call}{t t' es N:Nat}{ea:Bool}{ti ti':TI}{s x:D}{old:Option Nat}{m:Bool}{spec:D->Prop}
  (hcal:c.callee=.builtin .append) (hat:c.argTypes.toList=[t,t']) (ht:Γ t=some ti) (ht':Γ t'=some ti') (hk:ti.kind=.slice es ea) (hk':(∃es' ea',ti'.kind=.slice es' ea')\/ti'.kind=.str)
  (hg:eO F w B a get) (ha:getAll get c.args.toList=some [s,x]) (hr:appSpec es ti.elt L s x=some (old,m,N,spec)) (hc:N*(ti.eb+1)<=limit) (hez:ti.ez.length=es) (hpos:0<es) {o:Oper} (ho:o.op=.call c) :
  aX P F w B M a o (.row ti.elt m old spec):=by
 obtain⟨_,de,_,_,hde,_,_,_,_,_,_,hkd⟩:=aU (hΓ _ _ ht).1
 obtain⟨e,rfl,hse⟩:=ft (by rw[hkd];exact hk)
 obtain⟨i,z,hi,hz,hzc,hzf,hbs,hel,hsz⟩:=rU (hΓ _ _ ht).1 hde hez hpos
 have hel:ti.elt=e:=hel
 have hbs:i.bytes=ti.eb:=hbs
 have ht2:(∃e2,P.underlying t'=some (.slice e2))\/P.underlying t'=some .string:=by
  obtain⟨_,de',_,_,hde',_,_,_,_,_,_,hkd'⟩:=aU (hΓ _ _ ht').1
  rcases hk' with⟨es',ea',hk'⟩|hk'
  ·obtain⟨e2,rfl,_⟩:=ft (by rw[hkd'];exact hk')
   exact .inl ⟨e2,hde'⟩
  ·obtain rfl:=kq (by rw[hkd'];exact hk')
   exact .inr hde'
 have hzs:z.cells.size=i.size:=by
  have:z.cells.toList.length=es:=by rw[hzc];exact hez
  rw[hsz];simpa using this
 have h:=hg.all _ _ ha
 have hm:c.args.map a.eval=(c.args.toList.map a.eval).toArray:=by apply Array.ext';simp
 generalize hvs:c.args.toList.map a.eval=vs at h hm
 cases h with
 |cons _ vs1 _ vsr hs1 hrest =>
  cases hrest with
  |cons _ vx _ vsr' hx hnil =>
   cases hnil
   have hat':c.argTypes=#[t,t']:=by apply Array.ext';simpa using hat
   have hexec:∀v w',(Builtin.append_ #[t,t'] o.type #[vs1,vx]).run P w=.ok v w'->(execOp a.eval o).run P w=.ok (.value v) w':=by
    intro v w' h1
    unfold execOp
    simp only[ho,resolve,hcal,hm,hat',Sem.run_bind,Sem.run_pure,Result.andThen_ok,invoke,builtin]
    rw[h1]
    rfl
   intro α d enc l hspec hgood
   unfold appSpec at hr
   split at hr
   ·
    rename_i k cs n hcont
    split at hr
    ·rename_i tt mm α' d' enc' l' hsame hl
     split at hr
     ·rename_i hzz
      obtain⟨hzz,htt⟩:=hzz
      cases hr
      obtain⟨ys,h1,h2,h3⟩:=hspec
      cases h3
      obtain⟨p,n0,cap,hB,hrow⟩:=hb.i7 (hL _ _ _ _ _ _ _ hl)
      obtain⟨hn0,hp0,hge,xs,hrx,hown,hfz⟩:=hrow
      have hs1v:pI vs1 p n0 cap:=by
       cases hs1 with
       |row _ p' n' cap' hB'=>rw[hB] at hB';cases hB';exact .inl rfl
       |dn _ q hB' =>
        rw[hB] at hB'
        simp only[Option.some.injEq,Ref.row.injEq] at hB'
        exact .inr ⟨hB'.1,hB'.2.1,hB'.2.2,q,rfl⟩
      ·obtain⟨news,h4,h5,h6,h7,_⟩:=qH hb hL hpos hcont hx
       have hflat:cs.all D.flat=true:=h1.uk (qN (fun x=>(hge x).2) ys)
       rw[htt,hel,hzz] at hown
       obtain⟨p',cap',w',v',hrun,hv',hown',hstep⟩:=sS (P:=P) (t:=t) (t2:=t') (ty:=o.type) hs1v hde hi hz hzs (by omega) ht2 (by rw[hsz];exact hown) h6 (by rw[hsz];exact h7 w fun _=>rfl) (by rw[hsz];exact h7 w.drew fun _=>rfl)
        (by rw[hsz];exact h5) (Dl h4 hflat) (by rw[hbs,hn0];exact hc)
       rw[hsz] at hown'
       refine⟨p',n0+n,cap',w',xs++news,p,n0*es,v',hexec _ _ hrun,hv',by rw[List.length_append,hn0,h2],?_,?_,?_,?_,n0,cap,hB,fun b hbp j hj=>?_⟩
       ·rw[List.flatMap_append];exact hrx.append (h1.rep h4)
       ·rw[hel,hzz];exact hown'
       ·rcases hstep with⟨hp,hgr⟩|⟨hp,hgr⟩
        ·exact .inl ⟨hp,hgr,hown.kept hown' hp⟩
        ·exact .inr ⟨hp,hgr⟩
       ·rw[hzz];exact Nat.mul_le_mul_right _ (Nat.le_add_right _ _)
       ·have:=(hfz b hbp j).1 hj
        rw[hzz] at this;exact this.2
     ·cases hr
    ·cases hr
   ·
    rename_i cs n hcont
    cases hr
    obtain⟨_,d',enc',ys,h1,h2,hzz,h3⟩:=hspec
    cases h3
    cases hs1
    obtain⟨news,h4,h5,h6,h7,_⟩:=qH hb hL hpos hcont hx
    have hflat:cs.all D.flat=true:=h1.uk (qN (fun x=>(hgood.2 x).2) l)
    have hown:cq w e es none 0 0 []:=⟨by simp,.inl ⟨rfl,rfl,rfl⟩⟩
    obtain⟨p',cap',w',v',hrun,hv',hown',hstep⟩:=sS (P:=P) (t:=t) (t2:=t') (ty:=o.type) (v0:=.slice none 0 0) (.inl rfl) hde hi hz hzs (by omega) ht2 (by rw[hsz];exact hown) h6 (by rw[hsz];exact h7 w fun _=>rfl) (by rw[hsz];exact h7 w.drew fun _=>rfl)
     (by rw[hsz];exact h5) (Dl h4 hflat) (by rw[hbs,Nat.zero_add];exact hc)
    rw[hsz] at hown'
    refine⟨p',0+N,cap',w',[]++news,none,0,v',hexec _ _ hrun,hv',by rw[Nat.zero_add,h2],?_,?_,?_,Nat.zero_le _,rfl⟩
    ·exact h1.rep h4
    ·rw[hel,hzz];exact hown'
    ·rcases hstep with⟨hp,hgr⟩|⟨hp,hgr⟩
     ·exact .inl ⟨hp,hgr,fun b hb=>by cases hb⟩
     ·exact .inr ⟨hp,hgr⟩
   ·cases hr
theorem Ip(hΓ:ΓOK P Γ)(hb:Base F0 w0 B F M w)(hL:RowsIn M L){s t es:Nat}{ea:Bool}{si ti:TI}(hs:Γ s=some si)(ht:Γ t=some ti){x:Operand}{d:D}(hx:Rep F w B d (a.eval x))(hks:si.kind=.slice es ea)(hkt:ti.kind=.str)
  (hek:si.ek=some .u8) {cs:List D} {n:Nat} (hc:jE 1 L d=some (cs,n)) {o:Oper} (ho:o.op=.convert s t x):aX P F w B M a o (.known (wB cs)):=by
 obtain⟨_,de,_,_,hde,_,_,_,_,_,_,hkd⟩:=aU (hΓ _ _ hs).1
 obtain⟨_,de',_,_,hde',_,_,_,_,_,_,hkd'⟩:=aU (hΓ _ _ ht).1
 obtain⟨e,rfl,hse⟩:=ft (by rw[hkd];exact hks)
 obtain rfl:=kq (by rw[hkd'];exact hkt)
 have hu8:=vq (hΓ _ _ hs).1 hde hek
 rintro r ⟨l,h1,rfl⟩
 obtain⟨news,h4,h5,h6,h7,h8⟩:=qH (P:=P) hb hL (by omega) hc hx
 have hnews:news=l.map fun b=>Value.int .u8 b.toNat:=by
  rw[h1] at h4
  clear h1 h5 h6 h7 h8 hc
  induction l generalizing news with
  |nil=>cases h4;rfl
  |cons b l ih =>
   simp only[List.map_cons] at h4 ⊢
   cases h4 with
   |cons _ v _ vs h hs'=>cases h;rw[ih _ hs']
 subst hnews
 refine⟨.string ⟨l.toArray⟩,?_,.str l⟩
 unfold execOp
 generalize hv:a.eval x=v at hx h6 h7 h8
 simp only[ho,hv]
 have hconv:(convert s t v).run P w=.ok (.string ⟨l.toArray⟩) w:=by
  rcases h8 with⟨q,cap,rfl,h9⟩|⟨l',rfl⟩
  ·rw[run_convert_bytes_string w s t e q n cap hde hu8 hde']
   have h10:=h7 w fun _=>rfl
   cases q with
   |none =>
    have hl0:l=[]:=by
     have:(l.map fun b=>Value.int .u8 b.toNat).toArray=#[]:=by simpa[Builtin.firstCells] using h10.symm
     simpa using this
    subst hl0
    rfl
   |some q =>
    simp only[Builtin.firstCells,Nat.mul_one] at h10
    have hmm:(l.map fun b=>Value.int .u8 b.toNat)=(l.map fun b=>(b.toNat:Int)).map (Value.int .u8):=by simp
    rw[hmm] at h10
    rw[run_bytesToString w q n cap _ h10,foldl_push_bytes]
    have hid:(fun n:Int=>UInt8.ofNat n.toNat)∘(fun b:UInt8=>(b.toNat:Int))=id:=by funext b;simp
    congr 2
    simp[hid]
  ·cases hx
   simp only[jE,if_true,Option.some.injEq,Prod.mk.injEq] at hc
   have hll:l'=l:=by
    have h11:=hc.1.trans h1
    refine(List.map_inj_right (fun x y hxy=>?_)).1 h11
    simp only[D.val.injEq,Value.int.injEq,true_and] at hxy
    exact UInt8.toNat_inj.1 (by omega)
   subst hll
   unfold convert
   simp only[Sem.run_bind,run_underlying hde,run_underlying hde',Result.andThen_ok]
   rfl
 simp only[Sem.run_bind,hconv,Result.andThen_ok,Sem.run_pure]
theorem GZ(hΓ:ΓOK P Γ){s t es:Nat}{ea:Bool}{si ti:TI}(hs:Γ s=some si)(ht:Γ t=some ti){x:Operand}(hx:Rep F w B (.val (.slice none 0 0)) (a.eval x))(hks:si.kind=.slice es ea)(hkt:ti.kind=.str)
  (hek:si.ek=some .u8) {o:Oper} (ho:o.op=.convert s t x):aX P F w B M a o (.val (.str [])):=by
 obtain⟨_,de,_,_,hde,_,_,_,_,_,_,hkd⟩:=aU (hΓ _ _ hs).1
 obtain⟨_,de',_,_,hde',_,_,_,_,_,_,hkd'⟩:=aU (hΓ _ _ ht).1
 obtain⟨e,rfl,hse⟩:=ft (by rw[hkd];exact hks)
 obtain rfl:=kq (by rw[hkd'];exact hkt)
 have hu8:=vq (hΓ _ _ hs).1 hde hek
 generalize hv:a.eval x=v at hx
 cases hx
 refine⟨.string ⟨([]:Bs).toArray⟩,?_,.str []⟩
 unfold execOp
 simp only[ho,hv,Sem.run_bind]
 rw[run_convert_bytes_string w s t e none 0 0 hde hu8 hde']
 rfl
theorem FM(hΓ:ΓOK P Γ){s t:Nat}{ea:Bool}{si ti:TI}(hs:Γ s=some si)(ht:Γ t=some ti){x:Operand}{l:Bs}(hx:Rep F w B (.str l) (a.eval x))(hks:si.kind=.str)(hkt:ti.kind=.slice 1 ea)
  (hek:ti.ek=some .u8) (hez:ti.ez.length=1) (hlim:l.length<=limit) {o:Oper} (ho:o.op=.convert s t x) (m:Bool):aX P F w B M a o (.row ti.elt m none (dC 1 (l.map fun b=>.val (.int .u8 b.toNat)) l.length)):=by
 obtain⟨_,de,_,_,hde,_,_,_,_,_,_,hkd⟩:=aU (hΓ _ _ hs).1
 obtain⟨_,de',_,_,hde',_,_,_,_,_,_,hkd'⟩:=aU (hΓ _ _ ht).1
 obtain rfl:=kq (by rw[hkd];exact hks)
 obtain⟨e,rfl,hse⟩:=ft (by rw[hkd'];exact hkt)
 have hu8:=vq (hΓ _ _ ht).1 hde' hek
 obtain⟨i,z,hi,hz,hzc,hzf,hbs,hel,hsz⟩:=rU (hΓ _ _ ht).1 hde' hez (by omega)
 have hel:ti.elt=e:=hel
 intro α d enc q hspec hgood
 obtain⟨_,d',enc',q',h1,h2,h3,h4⟩:=hspec
 cases h4
 generalize hv:a.eval x=v at hx
 cases hx
 have hss:(⟨l.toArray⟩:ByteArray).size=l.length:=by show l.toArray.size=_;simp
 have hrun:=Lib.run_convert_string_bytes (P:=P) w s t e ⟨l.toArray⟩ hde hde' hu8
 rw[hss] at hrun
 have hge:=grownCap_ge w l.length 0 e
 have hcm:grownCap w l.length 0 e<=maxLen:=grownCap_le_maxLen w _ 0 e (by simp only[limit] at hlim;simp only[maxLen];omega)
 have hcs:(Lib.bytesCells w e ⟨l.toArray⟩).size=grownCap w l.length 0 e:=by
  simp only[Lib.bytesCells,Array.size_append,Array.size_map,Array.size_replicate,hss]
  simp
  omega
 refine⟨some w.heap.size,l.length,grownCap w l.length 0 e,Lib.bytesWorld w e ⟨l.toArray⟩,l.map fun b=>.int .u8 b.toNat,none,0,_,?_,.inl rfl,h2.symm,?_,⟨by rw[h3];simp,.inr ⟨_,_,_,rfl,by rw[hel];exact Lib.bytesWorld_at_new w e _,?_,hge,hcm,by rw[h3,hcs,Nat.mul_one],?_⟩⟩,.inr ⟨rfl,⟨rfl,rfl,rfl,?_,fun k hk _=>Lib.bytesWorld_at_old w e _ k hk⟩⟩,Nat.zero_le _,rfl⟩
 ·unfold execOp
  simp only[ho,hv,Sem.run_bind,hrun,Result.andThen_ok,Sem.run_pure]
  rfl
 ·refine h1.rep ?_
  clear hss hrun hge hcm hcs h1 h2 hlim hv
  induction l with
  |nil=>exact .nil
  |cons b l ih=>exact .cons _ _ _ _ (.val _ rfl) ih
 ·intro j hj
  simp only
  omega
 ·rw[h3,Nat.mul_one]
  simp only[Lib.bytesCells,Array.toList_append,Array.toList_map]
  rw[List.take_left' (by simp)]
 ·rw[Lib.bytesWorld_size];omega
theorem GF(hΓ:ΓOK P Γ)(hb:Base F0 w0 B F M w)(hL:RowsIn M L){c:Call}{t:Nat}{ti:TI}(ht:Γ t=some ti){es:Nat}{ea:Bool}(hk:ti.kind=.slice es ea)(hat:c.argTypes.toList=[t]){k tt:Nat}{m:Bool}{α:Type}{dz:α}{enc:α->List D}{l:List α}(hl:L.lookup k=some (tt,[.aO m dz enc l]))
  (hc:c.callee=.builtin .len) (hg:eO F w B a get) (ha:getAll get c.args.toList=some [.row k]) {o:Oper} (ho:o.op=.call c):aX P F w B M a o (.val (.val (.int .i64 l.length))):=by
 obtain⟨_,de,_,_,hde,_,_,_,_,_,_,hkd⟩:=aU (hΓ _ _ ht).1
 obtain⟨e,rfl,hse⟩:=ft (by rw[hkd];exact hk)
 obtain⟨p,n,cap,hB,hrow⟩:=hb.i7 (hL _ _ _ _ _ _ _ hl)
 have h:=hg.all _ _ ha
 have hm:c.args.map a.eval=(c.args.toList.map a.eval).toArray:=by apply Array.ext';simp
 generalize hvs:c.args.toList.map a.eval=vs at h hm
 cases h with
 |cons _ v _ vs' hd hs =>
  cases hs
  have hat':c.argTypes=#[t]:=by apply Array.ext';simpa using hat
  cases hd with
  |row _ p' n' cap' hB' =>
   rw[hB] at hB';cases hB'
   refine⟨_,?_,.val _ rfl⟩
   unfold execOp
   simp only[ho,resolve,hc,hm,hat',Sem.run_bind,Sem.run_pure,Result.andThen_ok,invoke,builtin,Builtin.len_,bf]
   simp[run_underlying hde,goInt,hrow.1]
  |dn _ q hB' =>
   rw[hB] at hB'
   simp only[Option.some.injEq,Ref.row.injEq] at hB'
   obtain⟨rfl,hl0,rfl⟩:=hB'
   have h0:=hrow.1
   have hl1:l.length=0:=by omega
   rw[hl1]
   refine⟨_,?_,.val _ rfl⟩
   unfold execOp
   simp only[ho,resolve,hc,hm,hat',Sem.run_bind,Sem.run_pure,Result.andThen_ok,invoke,builtin,Builtin.len_]
   simp[run_underlying hde,goInt]
theorem DJ(hΓ:ΓOK P Γ)(hb:Base F0 w0 B F M w)(hL:RowsIn M L){t:Nat}{ti:TI}(ht:Γ t=some ti){x y:Operand}{k tt:Nat}{m:Bool}{α:Type}{dz:α}{enc:α->List D}{l:List α}(hl:L.lookup k=some (tt,[.aO m dz enc l])){kk:IntKind}{n:Int}{es:Nat}{ea:Bool}
  (hx:Rep F w B (.row k) (a.eval x)) (hy:Rep F w B (.val (.int kk n)) (a.eval y)) (hk:ti.kind=.slice es ea) (hc:0<=n/\n<(l.length:Int)) {o:Oper} (ho:o.op=.indexAddr t x y):aX P F w B M a o (.val (.elm k n es 0)):=by
 obtain⟨i,de,z,hi,hde,hz,hz1,hz2,hz3,hsz,hag,hkd⟩:=aU (hΓ _ _ ht).1
 rw[hk] at hkd
 obtain⟨e,rfl,hse⟩:=ft hkd
 obtain⟨p,n0,cap,hB,hrow⟩:=hb.i7 (hL _ _ _ _ _ _ _ hl)
 obtain⟨hn0,_,_,xs,_,hown,_⟩:=hrow
 generalize hv:a.eval x=vx at hx
 generalize hu:a.eval y=vy at hy
 cases hy with
 |val _ _ =>
  cases hx with
  |row _ p' n' cap' hB' =>
   rw[hB] at hB';cases hB'
   rcases hown.2 with⟨_,h7,_⟩|⟨g,cur,fz,rfl,_⟩
   ·omega
   ·refine⟨.pointer (some ⟨g,n.toNat*es+0,none⟩),?_,.elm k n es 0 g n0 cap hB⟩
    unfold execOp
    have h3:0<=n/\n<(n0:Int):=by omega
    simp only[ho,hv,hu,Instr.indexAt,asIntOf,bf,Option.map_some,Sem.run_bind,run_underlying hde,Result.andThen_ok,Sem.run_pure,Sem.run_ite,if_pos h3,(dH hse).1,add_eq,Nat.zero_add,Nat.add_zero]
  |dn _ q hB' =>
   rw[hB] at hB'
   simp only[Option.some.injEq,Ref.row.injEq] at hB'
   omega
theorem cq.elem{e size g n cap:Nat}{xs:List Value}(h:cq w e size (some g) n cap xs){i j:Nat}(hi:i<n)(hj:j<size):w.cell? ⟨g,i*size+j,none⟩=((xs.drop (i*size)).take size)[j]?:=by
 have hle:i*size+size<=n*size:=by rw[<-Nat.succ_mul];exact Nat.mul_le_mul_right _ hi
 have hj2:i*size+j<xs.length:=by rw[h.1];omega
 rw[h.cells (List.getElem?_eq_getElem hj2),List.getElem?_take,if_pos hj,List.getElem?_drop,List.getElem?_eq_getElem hj2]
theorem F7(hΓ:ΓOK P Γ)(hb:Base F0 w0 B F M w)(hL:RowsIn M L){t:Nat}{ti:TI}(ht:Γ t=some ti){x:Operand}{k tt:Nat}{m:Bool}{α:Type}{dz:α}{enc:α->List D}{l:List α}(hl:L.lookup k=some (tt,[.aO m dz enc l])){n:Int}{z off:Nat}{d:D}
  (hx:Rep F w B (.elm k n z off) (a.eval x)) (hz:(enc dz).length=z) (hp:partOf ti.agg ti.size off (enc (l[n.toNat]?.getD dz))=some d) (hc:0<=n/\n<(l.length:Int)) {o:Oper} (ho:o.op=.load t x):aX P F w B M a o (.val d):=by
 obtain⟨p,n0,cap,hB,hrow⟩:=hb.i7 (hL _ _ _ _ _ _ _ hl)
 obtain⟨hn0,_,hge,xs,hxs,hown,_⟩:=hrow
 subst hz
 generalize hv:a.eval x=vx at hx
 cases hx with
 |elm _ _ _ _ g nn cap' hB' =>
  rw[hB] at hB';cases hB'
  have hn:n.toNat<l.length:=by omega
  have hr:=aA.po (fun x=>(hge x).1) l xs hxs n.toNat _ (List.getElem?_eq_getElem hn)
  rw[List.getElem?_eq_getElem hn] at hp
  have hlen:=aA.length hr
  have hel:∀j:Nat,n.toNat<n0->j<(enc dz).length->_:=fun j hi hj=>hown.elem (i:=n.toNat) (j:=j) hi hj
  rw[hn0] at hel
  obtain⟨v,hrun,hrep⟩:=og (hΓ _ _ ht).1 hr hp (b:=g) (o:=n.toNat*(enc dz).length) (fun j v hj=>by
   have hj':=(List.getElem?_eq_some_iff.1 hj).1
   have hjz:j<(enc dz).length:=by simp at hj';omega
   rw[hel j hn hjz];exact hj) (by
   unfold partOf at hp
   split at hp
   ·split at hp
    ·rename_i h9;simp only[Option.getD_some] at h9;omega
    ·cases hp
   ·have:=(List.getElem?_eq_some_iff.1 hp).1;simp only[Option.getD_some] at this;omega)
  refine⟨v,?_,hrep.lift (fun _=>rfl)⟩
  unfold execOp
  simp only[ho,hv,Instr.loadAt,Instr.sureAddr,Sem.run_bind,Sem.run_pure,Result.andThen_ok]
  rw[hrun];rfl
theorem Ea(hΓ:ΓOK P Γ)(hb:Base F0 w0 B F M w)(hL:RowsIn M L){t:Nat}{ti:TI}(ht:Γ t=some ti){x y:Operand}{k:Nat}{n:Int}{z off:Nat}{d:D}(hx:Rep F w B (.elm k n z off) (a.eval x))(hy:Rep F w B d (a.eval y))
  (h1:d.cells.length=ti.size) (h2:off+ti.size<=z) {o:Oper} (ho:o.op=.store t x y):aX P F w B M a o (.upd k n z off (D.ic L d.cells)):=by
 obtain⟨i,de,zz,hi,hd,hz,hz1,hz2,hz3,hsz,hag,hk⟩:=aU (hΓ _ _ ht).1
 have hcells:=hy.cells
 have hlc:=aA.length hcells
 refine⟨(a.eval y).cells.toList,hcells.jD hb hL,fun t' α d' enc l hm hze hn0 hn hfl=>?_⟩
 obtain⟨p,n0,cap,hB,hrow⟩:=hb.i7 hm
 obtain⟨hnl,_,hge,xs,hxs,hown,_⟩:=hrow
 have hseal:(D.ic L d.cells).length=ti.size:=by unfold D.ic;rw[xq,h1]
 generalize hv:a.eval x=vx at hx
 cases hx with
 |elm _ _ _ _ g nn cap' hB' =>
  rw[hB] at hB';cases hB'
  rcases hown.2 with⟨hp,_⟩|⟨g',cur,fz,hp,hh,hfz,hnc,hcm,hcs,htk⟩
  ·cases hp
  ·cases hp
   refine⟨g,n0,cap,cur,fz,hB,hh,by rw[hseal];exact h2,?_⟩
   have hone:∀u∈(a.eval y).cells.toList,u.oneCell'=true:=aA.nj (hcells.jD hb hL) hfl
   have hl3:(a.eval y).cells.toList.length=ti.size:=by omega
   have hle:n.toNat*z+z<=cur.size:=by
    rw[hcs,<-hze,<-Nat.succ_mul]
    exact Nat.mul_le_mul_right _ (by omega)
   have hst:=iQ (P:=P) g (n.toNat*z+off) t' fz (a.eval y).cells.toList 0 cur w hh hfz (by rw[hl3];omega) hone
   unfold execOp
   simp only[ho,hv,Instr.storeAt,Instr.sureAddr,Sem.run_bind,Sem.run_pure,Result.andThen_ok,storeVar,iV hi,hsz]
   have hsize:(a.eval y).cells.size=ti.size:=by rw[<-h1,<-hlc];simp
   simp only[hsize,ne_eq,not_true_eq_false,if_false,Sem.run_bind,Sem.run_pure,Result.andThen_ok]
   rw[hst]
   simp[bV]
end
end Go.Proofs.YtefojkdckfidcaaGreatDoor.RX
namespace Go.Proofs.YtefojkdckfidcaaGreatDoor.RX
open Go.RowKit
section
variable {P:Program} {F0:Fz} {w0:Pt P} {B:Env} {F:Fz} {M:Mem} {L:ax} {w:World} {a:Act} {get:Operand->Option D} {Γ:Nat->Option TI}
theorem HY{α:Type}{d:α}{enc:α->List D}{l:List α}{t m z:Nat}{x:Operand}(hd:Rep F w B (.arr d enc l) (a.eval x)){o:Oper}(ho:o.op=.box t x):aX P F w B M a o (.vS t z m (.arr d enc l)):=by
 generalize hv:a.eval x=vx at hd
 cases hd with
 |arr _ _ _ vs hg h =>
  refine⟨vs,h,?_⟩
  unfold execOp
  simp only[ho,hv,Instr.box,Sem.run_bind,Result.andThen_ok,Sem.run_pure,newVar,newRow,run_newObj]
  rfl
theorem ER(hΓ:ΓOK P Γ)(hb:Base F0 w0 B F M w)(hL:RowsIn M L){t:Nat}{ti:TI}(ht:Γ t=some ti){x:Operand}{k tt:Nat}{m:Bool}{α:Type}{dz:α}{enc:α->List D}{l:List α}(hl:L.lookup k=some (tt,[.aO m dz enc l])){n:Int}{z off mm es:Nat}
  (hx:Rep F w B (.elm k n z off) (a.eval x)) (h:(enc dz).length=es/\z=es/\n=0/\off=0/\ti.size=mm*es/\ti.agg=true) (hlen:l.length=mm) {o:Oper} (ho:o.op=.load t x):aX P F w B M a o (.val (.arr dz enc l)):=by
 obtain⟨i,de,zz,hi,hd,hz,hz1,hz2,hz3,hsz,hag,hk⟩:=aU (hΓ _ _ ht).1
 obtain⟨h1,rfl,rfl,rfl,h2,h3⟩:=h
 obtain⟨p,n0,cap,hB,hrow⟩:=hb.i7 (hL _ _ _ _ _ _ _ hl)
 obtain⟨hn0,hpos,hge,xs,hxs,hown,_⟩:=hrow
 generalize hv:a.eval x=vx at hx
 cases hx with
 |elm _ _ _ _ g nn cap' hB' =>
  rw[hB] at hB';cases hB'
  refine⟨.agg xs.toArray,?_,.arr _ _ _ xs ⟨hpos,hge⟩ hxs⟩
  have hxl:xs.length=ti.size:=by rw[hown.1,hn0,hlen,h1,h2]
  unfold execOp
  simp only[ho,hv,Instr.loadAt,Instr.sureAddr,loadVar,Sem.run_bind,Sem.run_pure,Result.andThen_ok,ux hd,hag,h3,if_true,iV hi,hsz]
  have:=run_loadCells_list (P:=P) w ⟨g,0,none⟩ xs (fun j v hj=>by
   rw[add_eq,Nat.zero_add];exact hown.cells hj)
  rw[hxl] at this
  simp[this]
theorem JM(hΓ:ΓOK P Γ)(hb:Base F0 w0 B F M w){t:Nat}{ti:TI}(ht:Γ t=some ti){x y:Operand}{k:Nat}{n:Int}{z off es m:Nat}{d:D}(hx:Rep F w B (.elm k n z off) (a.eval x))(hy:Rep F w B d (a.eval y))
  (h:z=es/\n=0/\off=0/\ti.size=m*es/\d.dS=true) {o:Oper} (ho:o.op=.store t x y):aX P F w B M a o (.fill k es m d):=by
 obtain⟨i,de,zz,hi,hd,hz,hz1,hz2,hz3,hsz,hag,hk⟩:=aU (hΓ _ _ ht).1
 obtain⟨rfl,rfl,rfl,h2,h3⟩:=h
 have hcells:=(hy.bare (B':=NB) h3).cells
 refine⟨(a.eval y).cells.toList,hcells,fun t' α d0 enc l hm hz0 hlm hul hfl hpos=>?_⟩
 obtain⟨p,n0,cap,hB,hrow⟩:=hb.i7 hm
 obtain⟨hnl,_,hge,xs,hxs,hown,_⟩:=hrow
 generalize hv:a.eval x=vx at hx
 cases hx with
 |elm _ _ _ _ g nn cap' hB' =>
  rw[hB] at hB';cases hB'
  rcases hown.2 with⟨hp,_⟩|⟨g',cur,fz,hp,hh,hfz,hnc,hcm,hcs,htk⟩
  ·cases hp
  ·cases hp
   refine⟨g,n0,cap,cur,fz,hB,hh,?_⟩
   have hone:∀u∈(a.eval y).cells.toList,u.oneCell'=true:=aA.nj hcells hfl
   have hle:m*z<=cur.size:=by
    rw[hcs,hz0]
    exact Nat.mul_le_mul_right _ (by omega)
   have hst:=iQ (P:=P) g 0 t' fz (a.eval y).cells.toList 0 cur w hh hfz (by rw[hul];omega) hone
   unfold execOp
   simp only[ho,hv,Instr.storeAt,Instr.sureAddr,Sem.run_bind,Sem.run_pure,Result.andThen_ok,storeVar,iV hi,hsz,Int.toNat_zero,Nat.zero_mul,Nat.add_zero]
   have hsize:(a.eval y).cells.size=ti.size:=by rw[h2,<-hul];simp
   simp only[hsize,ne_eq,not_true_eq_false,if_false,Sem.run_bind,Sem.run_pure,Result.andThen_ok]
   rw[hst]
   simp[bV]
theorem J0(hΓ:ΓOK P Γ)(hb:Base F0 w0 B F M w){t:Nat}{ti:TI}(ht:Γ t=some ti){x y:Operand}{k off ty es m:Nat}{ds:List D}{α:Type}{d:α}{enc:α->List D}{l:List α}(hx:Rep F w B (.own k off) (a.eval x))(hy:Rep F w B (.arr d enc l) (a.eval y))
  (hl:M k ty ds) (h:off=0/\ds.length=m*es/\ti.size=m*es) {o:Oper} (ho:o.op=.store t x y):aX P F w B M a o (.turn k es m (.arr d enc l)):=by
 obtain⟨i,de,z,hi,hd,hz,hz1,hz2,hz3,hsz,hag,hk⟩:=aU (hΓ _ _ ht).1
 obtain⟨rfl,h1,h2⟩:=h
 have hcells:=(hy.bare (B':=NB) rfl).cells
 refine⟨(a.eval y).cells.toList,hcells,fun hul hfl=>?_⟩
 generalize hv:a.eval x=vx at hx
 cases hx with
 |own _ _ b hB =>
  obtain⟨vs,hr,hfl0,hh,hn,hnf⟩:=hb.vo hl hB
  have hlen:=aA.length hr
  refine⟨b,ty,ds,vs.toArray,hB,hl,hh,by simp;omega,hnf,?_⟩
  have hone:∀u∈(a.eval y).cells.toList,u.oneCell'=true:=aA.nj hcells hfl
  have hst:=run_storeCells_at (P:=P) b 0 ty (a.eval y).cells.toList 0 vs.toArray w hh (by rw[hul];simp;omega) hone
  unfold execOp
  simp only[ho,hv,Instr.storeAt,Instr.sureAddr,Sem.run_bind,Sem.run_pure,Result.andThen_ok,storeVar,iV hi,hsz]
  have hsize:(a.eval y).cells.size=ti.size:=by rw[h2,<-hul];simp
  simp only[hsize,ne_eq,not_true_eq_false,if_false,Sem.run_bind,Sem.run_pure,Result.andThen_ok]
  rw[hst]
  have hd0:vs.drop (a.eval y).cells.toList.length=[]:=List.drop_eq_nil_of_le (by omega)
  simp only[List.toList_toArray,Nat.add_zero,Nat.zero_add,List.take_zero,List.nil_append,hd0,List.append_nil]
  rfl
theorem D9(hΓ:ΓOK P Γ){t:Nat}{ti:TI}(ht:Γ t=some ti){x y:Operand}{k:IntKind}{n n0:Int}{m es z:Nat}{ea:Bool}{key off:Nat}
  (hx:Rep F w B (.elm key n0 z off) (a.eval x)) (hy:Rep F w B (.val (.int k n)) (a.eval y)) (hk:ti.kind=.array m es ea) (h:n0=0/\off=0/\z=es)
  (hc:0<=n/\n<(m:Int)) {o:Oper} (ho:o.op=.indexAddr t x y):aX P F w B M a o (.val (.elm key n es 0)):=by
 obtain⟨i,de,zz,hi,hde,hz,hz1,hz2,hz3,hsz,hag,hkd⟩:=aU (hΓ _ _ ht).1
 rw[hk] at hkd
 obtain⟨e,rfl,hse⟩:=mg hkd
 obtain⟨rfl,rfl,rfl⟩:=h
 generalize hv:a.eval x=vx at hx
 generalize hu:a.eval y=vy at hy
 cases hy with
 |val _ _ =>
  cases hx with
  |elm _ _ _ _ b nn cap hB =>
   refine⟨.pointer (some ⟨b,n.toNat*z+0,none⟩),?_,.elm _ _ _ _ b nn cap hB⟩
   unfold execOp
   simp only[ho,hv,hu,Instr.indexAt,Instr.sureAddr,asIntOf,Sem.run_bind,run_underlying hde,Result.andThen_ok,Sem.run_pure,Sem.run_ite,if_pos hc,(dH hse).1,add_eq,Int.toNat_zero,Nat.zero_mul,Nat.zero_add,Nat.add_zero]
theorem Dq(hΓ:ΓOK P Γ){t:Nat}{ti:TI}(ht:Γ t=some ti){x y:Operand}{k:IntKind}{n:Int}{m es:Nat}{ea:Bool}{α:Type}{dz:α}{enc:α->List D}{l:List α}{d:D}
  (hx:Rep F w B (.arr dz enc l) (a.eval x)) (hy:Rep F w B (.val (.int k n)) (a.eval y)) (hk:ti.kind=.array m es ea) (hes:(enc dz).length=es) (hp:partOf ea es 0 (enc (l[n.toNat]?.getD dz))=some d)
  (hc:0<=n/\n<(m:Int)) (hlen:l.length=m) {o:Oper} (ho:o.op=.index t x y):aX P F w B M a o (.val d):=by
 obtain⟨i,de,zz,hi,hde,hz,hz1,hz2,hz3,hsz,hag,hkd⟩:=aU (hΓ _ _ ht).1
 rw[hk] at hkd
 obtain⟨e,rfl,hse⟩:=mg hkd
 generalize hv:a.eval x=vx at hx
 generalize hu:a.eval y=vy at hy
 cases hy with
 |val _ _ =>
  cases hx with
  |arr _ _ _ vs hg h =>
   have hn:n.toNat<l.length:=by omega
   have hr:=aA.po (fun x=>(hg.2 x).1) l vs h n.toNat _ (List.getElem?_eq_getElem hn)
   rw[List.getElem?_eq_getElem hn] at hp
   simp only[Option.getD_some] at hp
   have hvl:vs.length=l.length*(enc dz).length:=by have:=aA.length h;rw[fy (fun x=>(hg.2 x).1)] at this;omega
   have hle:n.toNat*es+es<=vs.length:=by
    rw[hvl,hes,<-Nat.succ_mul];exact Nat.mul_le_mul_right _ hn
   have key:∃v,(part e vs.toArray (n.toNat*es)).run P w=.ok v w/\Rep F w NB d v:=by
    rw[hes] at hr
    unfold part
    simp only[Sem.run_bind,(dH hse).2,Result.andThen_ok]
    unfold partOf at hp
    cases hb:ea
    ·rw[hb] at hp
     simp only[Bool.false_eq_true,if_false] at hp ⊢
     obtain⟨v,hv',hr'⟩:=hr.get 0 hp
     refine⟨v,?_,hr'⟩
     rw[List.getElem?_take] at hv'
     split at hv'
     ·rw[List.getElem?_drop,Nat.add_zero] at hv'
      simp[hv']
     ·cases hv'
    ·rw[hb] at hp
     simp only[if_true] at hp ⊢
     split at hp
     ·cases hp
      refine⟨.agg ((vs.drop (n.toNat*es)).take es).toArray,?_,?_⟩
      ·simp only[Sem.run_bind,(dH hse).1,Result.andThen_ok,Sem.run_pure]
       congr 2
       apply Array.ext'
       simp[List.extract_eq_take_drop]
      ·have h9:(enc l[n.toNat]).length=es:=by rw[(hg.2 _).1,hes]
       rw[List.drop_zero,<-h9,List.take_length]
       rw[h9]
       exact .agg _ _ hr
     ·cases hp
   obtain⟨v,hrun,hrep⟩:=key
   refine⟨v,?_,hrep.lift (fun _=>rfl)⟩
   unfold execOp
   simp only[ho,hv,hu,Instr.index,asIntOf,Sem.run_bind,run_underlying hde,Result.andThen_ok,Sem.run_pure,Sem.run_ite,if_pos hc,(dH hse).1]
   rw[hrun];rfl
theorem Ee(hΓ:ΓOK P Γ)(hb':Base F0 w0 B F M w)(hL:RowsIn M L){t:Nat}{ti:TI}(ht:Γ t=some ti){x:Operand}{k tt:Nat}{α:Type}{dz:α}{enc:α->List D}{l:List α}(hl':L.lookup k=some (tt,[.aO true dz enc l])){n:Int}{z off:Nat}{lo hi:Option Operand}{dlo dhi:Option D}{m es:Nat}{ea:Bool}
  (hg:eO F w B a get) (hx:Rep F w B (.elm k n z off) (a.eval x)) (hlo:omap get lo=some dlo) (hhi:omap get hi=some dhi) (hk:ti.kind=.array m es ea) (hh:(enc dz).length=es/\z=es/\n=0/\off=0) (hlm:l.length=m)
  (hb:oN l.length dlo dhi) {o:Oper} (ho:o.op=.slice t x lo hi none):aX P F w B M a o (.val (.recs dz enc ((l.drop (eH dlo)).take (cu l.length dhi-eH dlo)))):=by
 obtain⟨i,de,zz,hi',hde,hz,hz1,hz2,hz3,hsz,hag,hkd⟩:=aU (hΓ _ _ ht).1
 rw[hk] at hkd
 obtain⟨e,rfl,hse⟩:=mg hkd
 obtain⟨hlen,rfl,rfl,rfl⟩:=hh
 subst hlm
 obtain⟨p,n0,cap,hB,hrow⟩:=hb'.i7 (hL _ _ _ _ _ _ _ hl')
 obtain⟨h1,h2,h3⟩:=qG (P:=P) (isSlice:=false) (Nat.le_refl l.length) hg hlo hhi hb w
 generalize hv:a.eval x=vx at hx
 cases hx with
 |elm _ _ _ _ g nn cap' hB' =>
  rw[hB] at hB';cases hB'
  have hrec:=hrow.recs (B:=B)
  rw[show bf (some g) n0 cap=.slice (some ⟨g,0,none⟩) n0 cap from rfl] at hrec
  generalize hlo':eH dlo=lo' at *
  generalize hhi':cu l.length dhi=hi' at *
  have hl:((l.drop lo').take (hi'-lo')).length=hi'-lo':=by simp;omega
  have hget:∀i,i<hi'-lo'->((l.drop lo').take (hi'-lo'))[i]? = l[lo'+i]?:=by
   intro i hi;rw[List.getElem?_take,if_pos hi,List.getElem?_drop]
  by_cases hc:l.length=lo'
  ·refine⟨.slice (some ⟨g,0,none⟩) (hi'-lo') (l.length-lo'),?_,?_⟩
   ·unfold execOp
    simp only[ho,hv,Instr.sliceAt,Instr.sureAddr,Sem.run_bind,run_underlying hde,Result.andThen_ok,Option.map_none,Sem.run_pure]
    rw[h1]
    simp[(dH hse).1,hc]
   ·have h0:hi'-lo'=0:=by omega
    rw[h0,List.take_zero,show l.length-lo'=0 by omega]
    exact .bW _ _ _
  ·refine⟨.slice (some ⟨g,0+lo'*z,none⟩) (hi'-lo') (l.length-lo'),?_,?_⟩
   ·unfold execOp
    simp only[ho,hv,Instr.sliceAt,Instr.sureAddr,Sem.run_bind,run_underlying hde,Result.andThen_ok,Option.map_none,Sem.run_pure]
    rw[h1]
    simp[(dH hse).1,hc,add_eq]
   ·generalize hvv:Value.slice (some ⟨g,0,none⟩) n0 cap=vv at hrec
    cases hrec with
    |bW _ _ p=>simp only[List.length_nil] at hc h3;omega
    |recs _ _ _ g' off' cap'' size vs hsize hh1 hh2 hh3 hcap =>
     cases hvv
     have hes:size=z:=by rw[hsize,hlen]
     subst hes
     have:=Rep.recs (F:=F) (w:=w) (B:=B) dz enc ((l.drop lo').take (hi'-lo')) g (0+lo'*size) (l.length-lo') size (fun i=>vs (lo'+i)) hsize
      (fun i hi=>hh1 _ (by omega)) (fun i hi=>by rw[hget i (by omega)];exact hh2 _ (by omega))
      (fun i j hi hj=>by
       have:=hh3 (lo'+i) j (by omega) hj
       rwa[Nat.add_mul,<-Nat.add_assoc] at this) (by omega)
     rwa[hl] at this
theorem C4(hΓ:ΓOK P Γ){op:BinOp}{t yt:Nat}{ti:TI}(ht:Γ t=some ti)(hk:ti.eqs≠[]){x y:Operand}{α β:Type}{d:α}{enc:α->List D}{l:List α}{d':β}{enc':β->List D}{l':List β}(hx:Rep F w B (.arr d enc l) (a.eval x))(hy:Rep F w B (.arr d' enc' l') (a.eval y))
  {neg:Bool} (hop:(op=.eql/\neg=false)\/(op=.neq/\neg=true)) {o:Oper} (ho:o.op=.binOp op t x y yt):aX P F w B M a o (.known (Iu ti.eqs neg (l.flatMap enc) (l'.flatMap enc'))):=by
 have heq:=(hΓ _ _ ht).2 hk
 intro r hr
 obtain⟨e,hc,rfl⟩:=hr
 generalize hv:a.eval x=vx at hx
 generalize hu:a.eval y=vy at hy
 cases hx with
 |arr _ _ _ vs _ h =>
  cases hy with
  |arr _ _ _ us _ h' =>
   obtain⟨h1,h2⟩:=heq F w w NB NB _ _ vs us e h h' hc
   refine⟨.bool (xor neg e),?_,.val _ rfl⟩
   unfold execOp
   rcases hop with⟨rfl,rfl⟩|⟨rfl,rfl⟩
   ·simp only[ho,hv,hu,Sem.run_bind,kx .eql t x y _ _ _ _ _ _ h1 (.inl rfl),Result.andThen_ok,Go.binOp,h2,Sem.run_pure,Bool.false_xor]
   ·simp only[ho,hv,hu,Sem.run_bind,kx .neq t x y _ _ _ _ _ _ h1 (.inr rfl),Result.andThen_ok,Go.binOp,h2,Sem.run_pure,Bool.true_xor]
end
end Go.Proofs.YtefojkdckfidcaaGreatDoor.RX
namespace Go.Proofs.YtefojkdckfidcaaGreatDoor.RX
open Go.RowKit Go.MapKept
def zk:Option IntKind->TypeDesc
 |none=>.string
 |some k=>.int k
theorem MK.isKey{kk:Option IntKind}{x:MK}(h:x.ok kk):IsKey (zk kk) (x.val kk):=by
 cases x with
 |inl s=>simp only[MK.ok] at h;subst h;trivial
 |inr n =>
  simp only[MK.ok] at h
  cases kk with
  |none=>exact absurd rfl h
  |some k=>rfl
theorem MK.inj{kk:Option IntKind}{x y:MK}(hx:x.ok kk)(hy:y.ok kk)(h:x.val kk=y.val kk):x=y:=by
 cases x with
 |inl s =>
  cases y with
  |inl t =>
   simp only[MK.val,Value.string.injEq,ByteArray.mk.injEq] at h
   have:s=t:=by simpa using h
   rw[this]
  |inr n=>simp only[MK.ok] at hx hy;exact absurd hx hy
 |inr n =>
  cases y with
  |inl t=>simp only[MK.ok] at hx hy;exact absurd hy hx
  |inr m=>simp only[MK.val,Value.int.injEq,true_and] at h;rw[h]
section
variable {F:Fz} {w:World} {kk:Option IntKind} {ag:Bool} {α:Type} {enc:α->List D}
theorem dK.keys:∀{l:List (MK×α)}{es:List MapEntry},dK F w kk ag enc l es->∀e∈es,IsKey (zk kk) e.key
 |_,_,.nil,e,he=>by cases he
 |_,_,.cons x v l e0 es hk hx hv hr,e,he=>by
  rcases List.mem_cons.1 he with rfl|he
  ·rw[hk];exact(MK.isKey hx)
  ·exact dK.keys hr e he
theorem dK.find{x:MK}(hx:x.ok kk):∀{l:List (MK×α)}{es:List MapEntry},dK F w kk ag enc l es ->
  (bF l x=none/\(∀e∈es,e.key≠x.val kk)/\∀v e,e.key=x.val kk->rC F w ag (enc v) e.val->dK F w kk ag enc (dG l x v) (es++[e])) \/
  (∃v j e,bF l x=some v/\es[j]? = some e/\e.key=x.val kk/\rC F w ag (enc v) e.val/\∀v' e',e'.key=x.val kk->rC F w ag (enc v') e'.val->dK F w kk ag enc (dG l x v') (es.set j e'))
 |_,_,.nil=>.inl ⟨rfl,fun e he=>by simp at he,fun v e h1 h2=>.cons _ _ _ _ _ h1 hx h2 .nil⟩
 |_,_,.cons y v l e es hk hy hv hr=>by
  by_cases hxy:y=x
  ·subst hxy
   refine .inr ⟨v,0,e,by simp[bF],rfl,hk,hv,fun v' e' h1 h2=>?_⟩
   simp only[dG,if_true,List.set_cons_zero]
   exact .cons _ _ _ _ _ h1 hx h2 hr
  ·have hne:e.key≠x.val kk:=fun h=>hxy (MK.inj hy hx (hk.symm.trans h))
   rcases dK.find hx hr with⟨h1,h2,h3⟩|⟨u,j,e0,h1,h2,h3,h4,h5⟩
   ·refine .inl ⟨by simp[bF,hxy,h1],fun e' he=>?_,fun v' e' g1 g2=>?_⟩
    ·rcases List.mem_cons.1 he with rfl|he
     ·exact hne
     ·exact h2 e' he
    ·simp only[dG,hxy,if_false,List.cons_append]
     exact .cons _ _ _ _ _ hk hy hv (h3 v' e' g1 g2)
   ·refine .inr ⟨u,j+1,e0,by simp[bF,hxy,h1],by simpa using h2,h3,h4,fun v' e' g1 g2=>?_⟩
    simp only[dG,hxy,if_false,List.set_cons_succ]
    exact .cons _ _ _ _ _ hk hy hv (h5 v' e' g1 g2)
theorem xM{P:Program}{kt:TypeId}(hd:P.underlying kt=some (zk kk)){x:MK}(hx:x.ok kk){es:List MapEntry}(hes:∀e∈es,IsKey (zk kk) e.key)(hn:(es.map (·.key)).Nodup)(w':World) :
  ((∀e∈es,e.key≠x.val kk)->(Instr.findKey kt (x.val kk) es).run P w'=.ok none w')/\(∀j e,es[j]? = some e->e.key=x.val kk->(Instr.findKey kt (x.val kk) es).run P w'=.ok (some (j,e.val)) w'):=by
 rcases findNow_spec (MK.isKey hx) es 0 hes with⟨h1,h2⟩|⟨j,e,h1,h2,h3⟩
 ·refine⟨fun _=>run_findKey hd h1,fun j e he hk=>?_⟩
  exact absurd hk (h2 e (List.mem_of_getElem? he))
 ·rw[Nat.zero_add] at h1
  refine⟨fun h=>absurd h3 (h e (List.mem_of_getElem? h2)),fun j' e' he hk=>?_⟩
  have hj:j=j':=by
   have a1:(es.map (·.key))[j]? = some (x.val kk):=by rw[List.getElem?_map,h2];simp[h3]
   have a2:(es.map (·.key))[j']? = some (x.val kk):=by rw[List.getElem?_map,he];simp[hk]
   have l1:=(List.getElem?_eq_some_iff.1 a1).1
   have l2:=(List.getElem?_eq_some_iff.1 a2).1
   refine(List.getElem?_inj l1 hn).1 (a1.trans a2.symm)
  subst hj
  rw[h2] at he;cases he
  exact run_findKey hd h1
end
section
variable {P:Program} {F0:Fz} {w0:Pt P} {B:Env} {F:Fz} {M:Mem} {w:World} {a:Act} {get:Operand->Option D} {Γ:Nat->Option TI} {L:ax}
theorem qU{k:Nat}{kk:Option IntKind}(h:wE P k=some kk):P.underlying k=some (zk kk):=by
 unfold wE at h
 split at h
 ·rename_i h1;cases h;exact h1
 ·rename_i q h1;cases h;exact h1
 ·cases h
theorem uZ{kk:Option IntKind}{d:D}{x:MK}{v:Value}(h:sq kk d=some x)(hv:Rep F w B d v):v=x.val kk/\x.ok kk:=by
 unfold sq at h
 split at h
 ·rename_i s
  split at h
  ·cases h
   cases hv
   exact⟨rfl,rfl⟩
  ·cases h
 ·rename_i k n
  split at h
  ·rename_i hk
   cases h
   subst hk
   cases hv
   exact⟨rfl,fun h=>by cases h⟩
  ·cases h
 ·cases h
theorem IP{t:Nat}{kk:Option IntKind}{ag:Bool}{o:Oper}(ho:o.op=.makeMap t none):aX P F w B M a o (.pL t kk ag):=by
 show(execOp a.eval o).run P w=_
 unfold execOp
 simp only[ho,Option.map_none,Instr.makeMap,Sem.run_bind,Result.andThen_ok,Sem.run_pure,run_newObj]
 rfl
theorem Ic{t:Nat}{ti:TI}{k e:Nat}(ht:rB P t=some ti)(hd:P.underlying t=some (.map k e)){es:Nat}{ag:Bool}(hs:nY P e=some (es,ag))(hz:ti.ez.length=es)(h0:0<es) :
  ∃z,(∀w,(zeroValue e).run P w=.ok z w)/\ti.ez.all gY=true/\(ag=true->z=.agg ti.ez.toArray)/\(ag=false->ti.ez=[z]/\gY z=true):=by
 have he:=(uV ht hd).2.2.1
 unfold lI at he
 simp only at he
 generalize ti.ez=zs at he hz
 unfold nY at hs
 unfold EK at he
 split at hs
 rotate_left
 ·cases hs
 rename_i i d hi hd'
 cases hs
 rw[hi,hd'] at he
 simp only at he
 have hrun:∀z,i.zero=some z->∀w,(zeroValue e).run P w=.ok z w:=by
  intro z hzz w
  simp only[zeroValue,Sem.run_bind,run_typeInfo w hi,Result.andThen_ok,hzz,Sem.run_pure]
 split at he
 ·rename_i vs hzv
  split at he
  ·rename_i hc
   simp only[Bool.and_eq_true,beq_iff_eq] at hc
   subst he
   exact⟨_,hrun _ hzv,hc.1.2,fun _=>by simp,fun h=>by rw[hc.1.1] at h;cases h⟩
  ·subst he;simp at hz;omega
 ·rename_i v hna hzv
  split at he
  ·rename_i hc
   simp only[Bool.and_eq_true,beq_iff_eq,Bool.not_eq_true'] at hc
   subst he
   exact⟨_,hrun _ hzv,by simp[hc.1.2],fun h=>(by rw[hc.1.1] at h;cases h),fun _=>⟨rfl,hc.1.2⟩⟩
  ·subst he;simp at hz;omega
 ·subst he;simp at hz;omega
theorem rC.of{F:Fz}{w:World}{ag:Bool}{ds:List D}{v:Value}{r:D}(h:rC F w ag ds v)(hr:uy ag ds=some r)(B:Env):Rep F w B r v:=by
 obtain⟨d,h1,h2⟩:=h
 rw[hr] at h1;cases h1
 exact h2.lift fun _=>rfl
theorem Gx(hΓ:ΓOK P Γ)(hb:Base F0 w0 B F M w){t:Nat}{ti:TI}(ht:Γ t=some ti){kk:Option IntKind}{es:Nat}{ag:Bool}(hk:ti.kind=.map kk es ag){x y:Operand}{k:Nat}
  (hx:Rep F w B (.mp k) (a.eval x)) {dy:D} {key:MK} (hy:Rep F w B dy (a.eval y)) (hkey:sq kk dy=some key) (hz:ti.ez.length=es) (h0:0<es) {ok:Bool} {o:Oper} (ho:o.op=.lookup t x y ok) :
  aX P F w B M a o (.mlk k kk ag key ok (ti.ez.map ofValue)):=by
 intro tt α d enc l hl
 obtain⟨_,de,_,_,hde,_,_,_,_,_,_,hkd⟩:=aU (hΓ _ _ ht).1
 obtain⟨kt,et,rfl,hkk,hsz⟩:=tY (by rw[hkd];exact hk)
 have hkd':=qU hkk
 obtain⟨hv,hkok⟩:=uZ hkey hy
 obtain⟨b,hB,_,_,_,ents,clock,hh,hst,hes⟩:=hb.map' hl
 obtain⟨zv,hzrun,hzfl,hzt,hzf⟩:=Ic (hΓ _ _ ht).1 hde hsz hz h0
 have hxv:a.eval x=.map (some b):=by
  generalize hvx:a.eval x=vx at hx
  cases hx with
  |mp _ b' hB'=>rw[hB] at hB';cases hB';rfl
 have hfr:=xM (P:=P) hkd' hkok hes.keys hst.2.2 w
 have hlook:∀z:α,bq (ti.ez.map ofValue) (enc z)->∀r,uy ag (enc ((bF l key).getD z))=some r->∃v,Rep F w B r v/\(execOp a.eval o).run P w=.ok (.value (if ok then .tuple #[v,.bool (bF l key).isSome] else v)) w:=by
  intro z hwz r hr
  have hck:∀em,(Instr.checkKey em 10000 kt (key.val kk)).run P w=.ok () w:=fun em=>MapKept.run_checkKey hkd' (MK.isKey hkok) em 9999
  rcases hes.find hkok with⟨h1,h2,_⟩|⟨u,j,e,h1,h2,h3,h4,_⟩
  ·rw[h1] at hr ⊢
   simp only[Option.getD_none] at hr
   have hrz:=(ofValues (F:=F) (w:=w) (B:=NB) ti.ez hzfl)
   have hrz:=hwz.rep hrz
   refine⟨zv,?_,?_⟩
   ·cases ag with
    |true =>
     simp only[uy,if_true,Option.some.injEq] at hr
     subst hr
     rw[hzt rfl]
     exact(Rep.agg _ _ hrz).lift fun _=>rfl
    |false =>
     obtain⟨e1,_⟩:=hzf rfl
     rw[e1] at hrz
     generalize enc z=ds at hr hrz
     cases hrz with
     |cons d0 _ ds0 _ q qs =>
      cases qs
      simp only[uy,Bool.false_eq_true,if_false,Option.some.injEq] at hr
      subst hr
      exact q.lift fun _=>rfl
   ·unfold execOp
    simp only[ho,hxv,hv,Instr.lookup,Sem.run_bind,run_underlying hde,MapKept.run_getObj_map hh,Result.andThen_ok,Sem.run_pure,hck,hfr.1 h2,hzrun]
    cases ok<;>rfl
  ·rw[h1] at hr ⊢
   simp only[Option.getD_some] at hr
   refine⟨e.val,h4.of hr B,?_⟩
   unfold execOp
   simp only[ho,hxv,hv,Instr.lookup,Sem.run_bind,run_underlying hde,MapKept.run_getObj_map hh,Result.andThen_ok,Sem.run_pure,hck,hfr.2 j e h2 h3]
   cases ok<;>rfl
 cases ok with
 |false =>
  rintro r ⟨z,hwz,hr⟩
  obtain⟨v,g1,g2⟩:=hlook z hwz r hr
  exact⟨v,g2,g1⟩
 |true =>
  rintro r ⟨z,r',hwz,hr,rfl⟩
  obtain⟨v,g1,g2⟩:=hlook z hwz r' hr
  exact⟨_,g2,.tup _ [v,.bool _] (.cons _ _ _ _ g1 (.cons _ _ _ _ (.val _ rfl) .nil))⟩
theorem Iw{L:ax}:∀d r,lG L d=some r->r.flat=true:=by
 intro d r h
 cases d<;>simp only[lG] at h<;>first|(cases h;done)|(split at h<;>cases h<;>rfl)
theorem E2{s:D->Option D}(hs:∀d r,s d=some r->r.flat=true){z:D}{ag:Bool}{cs:List D}(h:rD z=some (ag,cs)):rD (D.sub s z)=some (ag,D.subs s cs):=by
 unfold rD at h
 split at h
 ·cases h;rfl
 ·split at h
  ·rename_i hna hf
   cases h
   have hf':=CH hs hf
   have hna':∀ds,D.sub s z≠.agg ds:=by
    intro ds e;rw[e] at hf';cases hf'
   unfold rD
   split
   ·rename_i ds e;exact absurd e (hna' ds)
   ·rw[if_pos hf'];rfl
  ·cases h
theorem JJ(hΓ:ΓOK P Γ)(hb:Base F0 w0 B F M w)(hL:RowsIn M L){t:Nat}{ti:TI}(ht:Γ t=some ti){kk:Option IntKind}{es:Nat}{ag:Bool}(hk:ti.kind=.map kk es ag){x y z:Operand}{k:Nat}
  (hx:Rep F w B (.mp k) (a.eval x)) {dy dz:D} {key:MK} (hy:Rep F w B dy (a.eval y)) (hkey:sq kk dy=some key) (hz:Rep F w B dz (a.eval z)) {cs:List D} (hc:rD dz=some (ag,cs)) {o:Oper} (ho:o.op=.mapUpdate t x y z) :
  aX P F w B M a o (.qO k kk ag key (D.ic L cs)):=by
 intro hno tt α d enc l v hl hw
 obtain⟨_,de,_,_,hde,_,_,_,_,_,_,hkd⟩:=aU (hΓ _ _ ht).1
 obtain⟨kt,et,rfl,hkk,hsz⟩:=tY (by rw[hkd];exact hk)
 have hkd':=qU hkk
 obtain⟨hv,hkok⟩:=uZ hkey hy
 obtain⟨b,hB,_,_,_,ents,clock,hh,hst,hes⟩:=hb.map' hl
 have hxv:a.eval x=.map (some b):=by
  generalize hvx:a.eval x=vx at hx
  cases hx with
  |mp _ b' hB'=>rw[hB] at hB';cases hB';rfl
 have hfr:=xM (P:=P) hkd' hkok hes.keys hst.2.2 w
 have hck:∀em,(Instr.checkKey em 10000 kt (key.val kk)).run P w=.ok () w:=fun em=>MapKept.run_checkKey hkd' (MK.isKey hkok) em 9999
 have hstay:(Instr.keyThatStays (key.val kk) (key.val kk)).run P w=.ok (key.val kk) w:=run_keyThatStays (MK.isKey hkok)
 have hel:rC F w ag (enc v) (a.eval z):=by
  have hz':=hz.jD hb hL
  have hc':=E2 (s:=lG L) Iw hc
  have hz'':Rep F w B (D.sub (lG L) dz) (a.eval z):=hz'
  generalize D.sub (lG L) dz=dd at hz'' hc'
  have hno:D.bP (D.subs (lG L) cs)=true:=hno
  have hw:bq (D.subs (lG L) cs) (enc v):=hw
  generalize D.subs (lG L) cs=cc at hc' hno hw
  generalize a.eval z=vz at hz''
  unfold rD at hc'
  split at hc'
  ·cases hc'
   cases hz'' with
   |agg _ vs h=>exact⟨_,rfl,.agg _ _ (hw.rep (h.bare hno))⟩
  ·split at hc'
   ·cases hc'
    have h1:aA F w NB [dd] [vz]:=(aA.cons _ _ _ _ hz'' .nil).bare hno
    have h2:=hw.rep h1
    generalize enc v=ds at h2
    cases h2 with
    |cons d0 _ ds0 _ q qs =>
     cases qs
     exact⟨d0,rfl,q⟩
   ·cases hc'
 refine⟨b,?_⟩
 rcases hes.find hkok with⟨h1,h2,h3⟩|⟨u,j,e,h1,h2,h3,_,h5⟩
 ·refine⟨{ w with heap:=w.heap.setIfInBounds b (.map (ents.push ⟨key.val kk,a.eval z,clock⟩) (clock+1)) },hB,?_,⟨rfl,rfl,rfl,by simp,fun i hi=>(heap_set hh).2 i hi⟩,_,_,(heap_set hh).1,stamped_push hst h2,?_⟩
  ·unfold execOp
   simp only[ho,hxv,hv,Instr.mapUpdate,Sem.run_bind,run_underlying hde,MapKept.run_getObj_map hh,Result.andThen_ok,Sem.run_pure,hck,hfr.1 h2,MapKept.run_setObj_map _ hh]
  ·rw[Array.toList_push]
   exact h3 v _ rfl hel
 ·have hj:ents[j]? = some e:=by simpa using h2
  refine⟨{ w with heap:=w.heap.setIfInBounds b (.map (ents.modify j fun e=>{ e with key:=key.val kk,val:=a.eval z }) clock) },hB,?_,⟨rfl,rfl,rfl,by simp,fun i hi=>(heap_set hh).2 i hi⟩,_,_,(heap_set hh).1,?_,?_⟩
  ·unfold execOp
   simp only[ho,hxv,hv,Instr.mapUpdate,Sem.run_bind,run_underlying hde,MapKept.run_getObj_map hh,Result.andThen_ok,Sem.run_pure,hck,hfr.2 j e h2 h3,hj,Option.map_some,Option.getD_some,h3,hstay,MapKept.run_setObj_map _ hh]
  ·exact stamped_modify hst _ _ (fun _ _=>rfl) fun e' _ he'=>by rw[hj] at he';cases he';exact h3.symm
  ·have:(ents.modify j fun e=>{ e with key:=key.val kk,val:=a.eval z }).toList=ents.toList.set j { e with key:=key.val kk,val:=a.eval z }:=by
    apply List.ext_getElem?
    intro i
    simp only[Array.getElem?_toList,Array.getElem?_modify,List.getElem?_set]
    by_cases hij:j=i
    ·subst hij
     have hlt:j<ents.toList.length:=(List.getElem?_eq_some_iff.1 h2).1
     have hlt':j<ents.size:=by simpa using hlt
     have he:=(Array.getElem?_eq_some_iff.1 hj).2
     simp[hj,hlt',he]
    ·simp[hij]
   rw[this]
   exact h5 v _ rfl hel
theorem GI(hΓ:ΓOK P Γ)(hb:Base F0 w0 B F M w){c:Call}{t:Nat}{ti:TI}(ht:Γ t=some ti){kk':Option IntKind}{es:Nat}{ag':Bool}(hk:ti.kind=.map kk' es ag')(hat:c.argTypes.toList=[t]){k:Nat}(hc:c.callee=.builtin .len)(hg:eO F w B a get)
  (ha:getAll get c.args.toList=some [.mp k]) {o:Oper} (ho:o.op=.call c):aX P F w B M a o (.uT k):=by
 intro tt kk ag α d enc l hl
 obtain⟨_,de,_,_,hde,_,_,_,_,_,_,hkd⟩:=aU (hΓ _ _ ht).1
 obtain⟨kt,et,rfl,hkk,hsz⟩:=tY (by rw[hkd];exact hk)
 obtain⟨b,hB,_,_,_,ents,clock,hh,hst,hes⟩:=hb.map' hl
 have h:=hg.all _ _ ha
 have hm:c.args.map a.eval=(c.args.toList.map a.eval).toArray:=by apply Array.ext';simp
 generalize hvs:c.args.toList.map a.eval=vs at h hm
 cases h with
 |cons _ v _ vs' hd hs =>
  cases hs
  cases hd with
  |mp _ b' hB' =>
   rw[hB] at hB';cases hB'
   have hat':c.argTypes=#[t]:=by apply Array.ext';simpa using hat
   have hsz:ents.size=l.length:=by have:=hes.length;simpa using this
   unfold execOp
   simp only[ho,resolve,hc,hm,hat',Sem.run_bind,Sem.run_pure,Result.andThen_ok,invoke,builtin,Builtin.len_]
   simp[run_underlying hde,MapKept.run_getObj_map hh,hsz,goInt]
end
end Go.Proofs.YtefojkdckfidcaaGreatDoor.RX
namespace Go.Proofs.YtefojkdckfidcaaGreatDoor.RX
open Go.RowKit Go.MapKept
section
variable {F:Fz} {w:World} {kk:Option IntKind} {ag:Bool} {α:Type} {enc:α->List D}
theorem dK.del{x:MK}(hx:x.ok kk):∀{l:List (MK×α)}{es:List MapEntry},dK F w kk ag enc l es ->
  ((∀e∈es,e.key≠x.val kk)/\dK F w kk ag enc (tZ l x) es) \/
  (∃j e,es[j]? = some e/\e.key=x.val kk/\dK F w kk ag enc (tZ l x) (es.eraseIdx j))
 |_,_,.nil=>.inl ⟨fun e he=>by simp at he,.nil⟩
 |_,_,.cons y v l e es hk hy hv hr=>by
  by_cases hxy:y=x
  ·subst hxy
   exact .inr ⟨0,e,rfl,hk,by simpa[tZ] using hr⟩
  ·have hne:e.key≠x.val kk:=fun h=>hxy (MK.inj hy hx (hk.symm.trans h))
   rcases dK.del hx hr with⟨h1,h2⟩|⟨j,e0,h1,h2,h3⟩
   ·refine .inl ⟨fun e' he=>?_,?_⟩
    ·rcases List.mem_cons.1 he with rfl|he
     ·exact hne
     ·exact h1 e' he
    ·simp only[tZ,hxy,if_false]
     exact .cons _ _ _ _ _ hk hy hv h2
   ·refine .inr ⟨j+1,e0,by simpa using h1,h2,?_⟩
    simp only[tZ,hxy,if_false,List.eraseIdx_cons_succ]
    exact .cons _ _ _ _ _ hk hy hv h3
end
section
variable {P:Program} {F0:Fz} {w0:Pt P} {B:Env} {F:Fz} {M:Mem} {w:World} {a:Act} {get:Operand->Option D} {Γ:Nat->Option TI} {L:ax}
theorem KV(hΓ:ΓOK P Γ){op:BinOp}{t yt:Nat}{ti:TI}(ht:Γ t=some ti)(hk:ti.kind=.ptr){x y:Operand}{dx dy:D}{r:Bool}(hx:Rep F w B dx (a.eval x))(hy:Rep F w B dy (a.eval y))(he:EW op dx dy=some r)
  {o:Oper} (ho:o.op=.binOp op t x y yt):aX P F w B M a o (.val (.val (.bool r))):=by
 obtain⟨i,de,z,hi,hde,hz,hz1,hz2,hz3,hsz,hag,hkd⟩:=aU (hΓ _ _ ht).1
 obtain⟨e,rfl⟩:=IQ (by rw[hkd];exact hk)
 generalize hv:a.eval x=vx at hx
 generalize hu:a.eval y=vy at hy
 have key:∀(p q:Option Addr)(b:Bool),vx=.pointer p->vy=.pointer q->(∀w,(Op.equal t (.pointer p) (.pointer q)).run P w=.ok b w)->(op=.eql/\r=b)\/(op=.neq/\r=!b)->(execOp a.eval o).run P w=.ok (.value (.bool r)) w:=by
  rintro p q b rfl rfl heq hop
  unfold execOp
  rcases hop with⟨rfl,rfl⟩|⟨rfl,rfl⟩
  all_goals
   simp only[ho,hv,hu,Sem.run_bind,eqGuard,Result.andThen_ok,Go.binOp,heq,Sem.run_pure]
   rfl
 have heq1:∀(p:Addr) w,(Op.equal t (.pointer (some p)) (.pointer none)).run P w=.ok false w:=fun p w=>by
  rw[Op.equal,show Op.maxDepth=9999+1 from rfl,Op.equalIn]
  simp[run_underlying hde]
 have heq2:∀w,(Op.equal t (.pointer none) (.pointer none)).run P w=.ok true w:=fun w=>by
  rw[Op.equal,show Op.maxDepth=9999+1 from rfl,Op.equalIn]
  simp[run_underlying hde]
 unfold EW at he
 split at he<;>first|(cases he;done)|skip
 all_goals
  cases he
  cases hx;cases hy
 ·exact⟨_,key _ _ _ rfl rfl (heq1 _) (.inl ⟨rfl,rfl⟩),.val _ rfl⟩
 ·exact⟨_,key _ _ _ rfl rfl (heq1 _) (.inr ⟨rfl,rfl⟩),.val _ rfl⟩
 ·exact⟨_,key _ _ _ rfl rfl heq2 (.inl ⟨rfl,rfl⟩),.val _ rfl⟩
 ·exact⟨_,key _ _ _ rfl rfl heq2 (.inr ⟨rfl,rfl⟩),.val _ rfl⟩
theorem G4{c:Call}{x y:D}(hg:eO F w B a get)(ha:getAll get c.args.toList=some [x,y]):∃u v,c.args.map a.eval=#[u,v]/\Rep F w B x u/\Rep F w B y v:=by
 have h:=hg.all _ _ ha
 have hm:c.args.map a.eval=(c.args.toList.map a.eval).toArray:=by apply Array.ext';simp
 generalize hvs:c.args.toList.map a.eval=vs at h hm
 cases h with
 |cons _ u _ vs' hd hs =>
  cases hs with
  |cons _ v _ vs' hd2 hs =>
   cases hs
   exact⟨u,v,hm,hd,hd2⟩
theorem Gs(hΓ:ΓOK P Γ)(hb:Base F0 w0 B F M w){c:Call}{t t2:Nat}{ti:TI}(ht:Γ t=some ti){kk:Option IntKind}{es:Nat}{ag:Bool}(hk:ti.kind=.map kk es ag)(hat:c.argTypes.toList=[t,t2]){k:Nat}{dy:D}{key:MK}
  (hc:c.callee=.builtin .delete) (hg:eO F w B a get) (ha:getAll get c.args.toList=some [.mp k,dy]) (hkey:sq kk dy=some key) {o:Oper} (ho:o.op=.call c):aX P F w B M a o (.mdl k kk ag key):=by
 intro tt α d enc l hl
 obtain⟨_,de,_,_,hde,_,_,_,_,_,_,hkd⟩:=aU (hΓ _ _ ht).1
 obtain⟨kt,et,rfl,hkk,hsz⟩:=tY (by rw[hkd];exact hk)
 have hkd':=qU hkk
 obtain⟨u,v,hm,hu,hv⟩:=G4 hg ha
 obtain⟨rfl,hkok⟩:=uZ hkey hv
 obtain⟨b,hB,_,_,_,ents,clock,hh,hst,hes⟩:=hb.map' hl
 have hxu:u=.map (some b):=by
  cases hu with
  |mp _ b' hB'=>rw[hB] at hB';cases hB';rfl
 subst hxu
 have hat':c.argTypes=#[t,t2]:=by apply Array.ext';simpa using hat
 have hfr:=xM (P:=P) hkd' hkok hes.keys hst.2.2 w
 have hck:∀em,(Instr.checkKey em 10000 kt (key.val kk)).run P w=.ok () w:=fun em=>MapKept.run_checkKey hkd' (MK.isKey hkok) em 9999
 refine⟨b,?_⟩
 rcases hes.del hkok with⟨h1,h2⟩|⟨j,e,h1,h2,h3⟩
 ·refine⟨{ w with heap:=w.heap.setIfInBounds b (.map ents clock) },hB,?_,⟨rfl,rfl,rfl,by simp,fun i hi=>(heap_set hh).2 i hi⟩,_,_,(heap_set hh).1,hst,h2⟩
  unfold execOp
  simp only[ho,resolve,hc,hm,hat',Sem.run_bind,Sem.run_pure,Result.andThen_ok,invoke,builtin,Builtin.delete_]
  simp[run_underlying hde,MapKept.run_getObj_map hh,hck,hfr.1 h1,MapKept.run_setObj_map _ hh]
 ·have hj:j<ents.size:=by
   have:=(List.getElem?_eq_some_iff.1 h1).1
   simpa using this
  refine⟨{ w with heap:=w.heap.setIfInBounds b (.map (ents.eraseIdxIfInBounds j) clock) },hB,?_,⟨rfl,rfl,rfl,by simp,fun i hi=>(heap_set hh).2 i hi⟩,_,_,(heap_set hh).1,stamped_erase hst j,?_⟩
  ·unfold execOp
   simp only[ho,resolve,hc,hm,hat',Sem.run_bind,Sem.run_pure,Result.andThen_ok,invoke,builtin,Builtin.delete_]
   simp[run_underlying hde,MapKept.run_getObj_map hh,hck,hfr.2 j e h1 h2,MapKept.run_setObj_map _ hh]
  ·have:(ents.eraseIdxIfInBounds j).toList=ents.toList.eraseIdx j:=by
    unfold Array.eraseIdxIfInBounds
    rw[dif_pos hj,Array.toList_eraseIdx]
   rw[this]
   exact h3
theorem Ar{α:Type}{enc:α->List D}{z:Nat}(hz:∀x,(enc x).length=z):∀(m:Nat)(l:List α),(l.flatMap enc).take (m*z)=(l.take m).flatMap enc
 |0,l=>by simp
 |m+1,[]=>by simp
 |m+1,x::l=>by
  rw[List.flatMap_cons,List.take_succ_cons,List.flatMap_cons,Nat.add_mul,Nat.one_mul,Nat.add_comm,List.take_append,hz,List.take_of_length_le (by rw[hz];omega),Nat.add_sub_cancel_left,Ar hz m l]
theorem AU{α:Type}{enc:α->List D}{z:Nat}(hz:∀x,(enc x).length=z):∀(m:Nat)(l:List α),(l.flatMap enc).drop (m*z)=(l.drop m).flatMap enc
 |0,l=>by simp
 |m+1,[]=>by simp
 |m+1,x::l=>by
  rw[List.flatMap_cons,List.drop_succ_cons,Nat.add_mul,Nat.one_mul,Nat.add_comm,List.drop_append,hz,List.drop_of_length_le (by rw[hz];omega),List.nil_append,Nat.add_sub_cancel_left,AU hz m l]
theorem Kz(hΓ:ΓOK P Γ)(hb:Base F0 w0 B F M w)(hL:RowsIn M L){c:Call}{t t2:Nat}{ti:TI}(ht:Γ t=some ti){es:Nat}{ea:Bool}(hk:ti.kind=.slice es ea)(hat:c.argTypes.toList=[t,t2]){k:Nat}{x:D}{cs:List D}{n:Nat}
  (hc:c.callee=.builtin .copy) (hg:eO F w B a get) (ha:getAll get c.args.toList=some [.row k,x]) (hx:jE es L x=some (cs,n)) (hns:∀l,x≠.str l) {o:Oper} (ho:o.op=.call c):aX P F w B M a o (.cpy k es cs n):=by
 intro tt α d enc l xs hl hz hw hxn
 obtain⟨_,de,_,_,hde,_,_,_,_,_,_,hkd⟩:=aU (hΓ _ _ ht).1
 obtain⟨et,rfl,hsz⟩:=ft (by rw[hkd];exact hk)
 obtain⟨hsz1,_⟩:=dH hsz
 obtain⟨u,v,hm,hu,hv⟩:=G4 hg ha
 have hat':c.argTypes=#[t,t2]:=by apply Array.ext';simpa using hat
 obtain⟨p,nn,cap,hB,hrow⟩:=hb.i7 hl
 obtain⟨hn0,hpos,hge,ys,hys,hown,hfz⟩:=hrow
 have hpos':0<es:=by omega
 obtain⟨news,hnews,hnl,hlen,hfull,hq⟩:=qH hb hL hpos' hx hv
 obtain⟨q,qcap,rfl,hcell⟩:∃q cap,v=.slice q n cap/\∀b,q=some b->∀j u,news[j]? = some u->w.cell? (b.add j)=some u:=by
  rcases hq with h|⟨l,h⟩
  ·exact h
  ·exact absurd h (hns l)
 have hlr:=hlen w
 generalize hmm:Nat.min n nn=m
 have hmn:m<=n:=by rw[<-hmm];exact Nat.min_le_left _ _
 have hmn2:m<=nn:=by rw[<-hmm];exact Nat.min_le_right _ _
 have hread:(Builtin.firstCells es m (.slice q n qcap)).run P w=.ok (news.take (m*es)).toArray w:=by
  cases q with
  |none =>
   have h0:n=0:=by
    have h1:=hfull w (fun _=>rfl)
    simp only[Builtin.firstCells,Sem.run_pure,Result.ok.injEq,and_true] at h1
    have h2:news.length=0:=by
     have:=congrArg Array.size h1
     simpa using this.symm
    rw[hnl] at h2
    rcases Nat.mul_eq_zero.1 h2 with h|h
    ·exact h
    ·omega
   subst h0
   have:m=0:=by omega
   subst this
   simp[Builtin.firstCells]
  |some b =>
   refine run_firstCells_some w es m b n qcap _ (by rw[List.length_take,hnl,Nat.min_eq_left (Nat.mul_le_mul_right _ hmn)]) fun j u hj=>hcell b rfl j u ?_
   rw[List.getElem?_take] at hj
   split at hj
   ·exact hj
   ·cases hj
 have hml:Nat.min n l.length=m:=by rw[<-hn0];exact hmm
 have hus:aA F w NB ((xs.take l.length).flatMap enc) (news.take (m*es)):=by
  have h1:=(hw.rep hnews).take (m*es)
  rw[Ar (fun y=>(hge y).1.trans hz)] at h1
  have:xs.take m=xs.take l.length:=by
   rcases Nat.le_total n l.length with h|h
   ·have:m=n:=by rw[<-hml];exact Nat.min_eq_left h
    rw[this,List.take_of_length_le (by omega),List.take_of_length_le (by omega)]
   ·have:m=l.length:=by rw[<-hml];exact Nat.min_eq_right h
    rw[this]
  rwa[this] at h1
 have hone:∀y∈news.take (m*es),y.oneCell'=true:=by
  refine aA.nj hus ?_
  rw[List.all_flatMap,List.all_eq_true]
  intro y _
  exact(hge y).2
 rw[hml]
 have hrun:∀(base:Option Addr)(cp:Nat)(w':World),u=.slice base nn cp->(∀a',base=some a'->(storeCells a' (news.take (m*es)) 0).run P w=.ok () w')->(base=none->w'=w)->(execOp a.eval o).run P w=.ok (.value (.int .i64 (m:Nat))) w':=by
  rintro base cp w' rfl h1 h2
  unfold execOp
  simp only[ho,resolve,hc,hm,hat',Sem.run_bind,Sem.run_pure,Result.andThen_ok,invoke,builtin,Builtin.copy_]
  cases base with
  |none =>
   rw[h2 rfl]
   simp[run_underlying hde,hlr,hsz1,hmm,hread,goInt]
  |some a' =>
   simp[run_underlying hde,hlr,hsz1,hmm,hread,h1 a' rfl,goInt]
 rcases hown.2 with⟨hp,hnn,hcp⟩|⟨g,cur,fz,hp,hh,hfr,hnc,hcm,hcs,htk⟩
 ·subst hp
  refine⟨none,nn,cap,w,hB,?_,.inl ⟨rfl,rfl⟩⟩
  have hm0:m=0:=by omega
  cases hu with
  |row _ p' n' cap' hB' =>
   rw[hB] at hB';cases hB'
   exact hrun none _ w rfl (fun _ h=>by cases h) fun _=>rfl
  |dn _ q' hB' =>
   rw[hB] at hB'
   simp only[Option.some.injEq,Ref.row.injEq] at hB'
   obtain⟨_,rfl,rfl⟩:=hB'
   refine hrun q' 0 w rfl (fun a' _=>?_) fun _=>rfl
   rw[hm0,Nat.zero_mul,List.take_zero]
   rfl
 ·subst hp
  refine⟨some g,nn,cap,_,hB,?_,.inr ⟨g,cur,fz,_,rfl,hh,hus,rfl⟩⟩
  cases hu with
  |row _ p' n' cap' hB' =>
   rw[hB] at hB';cases hB'
   refine hrun _ _ _ rfl (fun a' h=>?_) fun h=>by cases h
   cases h
   have hle:m*es<=cur.size:=by
    rw[hcs,hz];exact Nat.mul_le_mul_right _ (by omega)
   have hst:=iQ (P:=P) g 0 tt fz (news.take (m*es)) 0 cur w hh hfr (by rw[List.length_take];omega) hone
   rw[hst]
   simp[bV]
  |dn _ q' hB'=>rw[hB] at hB';cases hB'
theorem G8(hΓ:ΓOK P Γ)(hb:Base F0 w0 B F M w)(hR:RowsIn M L)(hg:eO F w B a get){o:Oper}{out:Out}(he:evX Γ L get o.op=some out):aX P F w B M a o out:=by
 generalize ho:o.op=op at he
 unfold evX at he
 split at he
 ·split at he
  ·rename_i ti dx dy ht hx hy
   split at he
   ·rename_i hk
    obtain⟨b,h1,rfl⟩:=Option.map_eq_some_iff.1 he
    exact KV hΓ ht hk (hg _ _ hx) (hg _ _ hy) h1 ho
   ·cases he
  ·cases he
 ·split at he
  ·rename_i hc ha hat
   split at he
   ·rename_i ti ht
    split at he
    ·rename_i hk
     obtain⟨key,h1,rfl⟩:=Option.map_eq_some_iff.1 he
     exact Gs hΓ hb ht hk hat hc hg ha h1 ho
    ·cases he
   ·cases he
  ·rename_i k x t t2 hc ha hat
   split at he
   ·rename_i ti ht
    split at he
    ·rename_i es ea hk
     split at he
     ·cases he
     ·split at he
      ·cases he
      ·rename_i hns
       obtain⟨⟨cs,n⟩,h1,rfl⟩:=Option.map_eq_some_iff.1 he
       exact Kz hΓ hb hR ht hk hat hc hg ha h1 hns ho
    ·cases he
   ·cases he
  ·cases he
 ·cases he
end
end Go.Proofs.YtefojkdckfidcaaGreatDoor.RX
