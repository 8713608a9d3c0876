import Derived.Test.YtefojkdckfidcaaGreatDoorQRxAnyD
import Derived.Test.YtefojkdckfidcaaGreatDoorQRxAnyB
import Derived.Sort.OwnSorted
import Derived.Shelf.Vars
import Derived.Shelf.Slices.CompactS
import Derived.Shelf.Spec.SlicesGrow
import Derived.WalkSmall
import Derived.Lib.Bytealg
import Derived.Lib.IndexMore
import Derived.Lib.SplitLaws
import Derived.Lib.Join
import Derived.Lib.Repeat
import Derived.Lib.Replace
import Derived.Lib.TrimByte
import Derived.Lib.RowBridge
import Derived.Shelf.Strings.Builder1
import Derived.Shelf.Strings.Trim
import Derived.Shelf.Small.Utf8
import Derived.Shelf.Small.Bits
import Derived.Shelf.Small.Strs
import Derived.Shelf.Strings.BuilderF
import Derived.Shelf.Strings.BuilderK
import Derived.Shelf.Strconv.Itoa0
import Derived.Shelf.Strings.Search1
import Derived.Shelf.Strings.Search2
import Derived.Shelf.Strings.Cut
import Derived.Shelf.LaysM
import Derived.Shelf.Strings.Shaped
import Derived.Shelf.Sort.Plain
import Derived.Shelf.Strings.Prefix
import Derived.Shelf.Unicode.Decode
import Derived.Shelf.Strings.Runes
import Derived.Shelf.Strings.IndexAny
import Derived.Shelf.Strings.AsciiSet
import Derived.Shelf.Strings.IndexAnyAll
import Derived.Shelf.Unicode.DecodeSlow
import Derived.Shelf.Unicode.DecodeAny
import Derived.Shelf.Unicode.DecodeLast
import Derived.Shelf.Strings.BuilderCap
import Derived.Shelf.Slices.Turned
import Derived.Shelf.Slices.Cells
import Derived.Shelf.Slices.In.SortNone
import Derived.Test.YtefojkdckfidcaaGreatDoorProg
set_option linter.all false
namespace Go.Proofs.YtefojkdckfidcaaGreatDoor.RX
open Go.RowKit
section
variable {P:Program} {Γ:Nat->Option TI} {nt:Nat} {F0 F1:Fz} {w0 w1:Pt P} {K K':List (Nat×D)} {L L':aA} {Q:Exit->Act->World->Prop} {B:Env} {F:Fz} {w:World}
theorem wu{r:Nat}{o o':Obj}(ho:w.heap[r]? = some o)(hbk:rQ o=true)(hbk':rQ o'=true)(F:Fz):Grow F F w (w.putObj r o'):=⟨fun _ _ h=>h,fun g k _=>by
 unfold World.cell?
 by_cases e:g=r
 ·subst e
  have hlt:g<w.heap.size:=(Array.getElem?_eq_some_iff.1 ho).1
  simp only[ho,World.putObj_heap_same hlt]
  cases o with
  |loop _=>cases o'<;>first|rfl|cases hbk'
  |deferred _=>cases o'<;>first|rfl|cases hbk'
  |_=>cases hbk
 ·simp only[World.putObj_heap_other e]⟩
theorem OX{r:Nat}{o:Obj}(hsh:Shp P w)(hr:P.low<=r):Shp P (w.putObj r o):=by
 obtain⟨w0,h1,h2,h3⟩:=hsh
 exact⟨w0,h1,by rw[World.putObj_size];exact h2,fun k hk=>(World.putObj_heap_other (by omega)).trans (h3 k hk)⟩
theorem oH{U:Nat->Prop}{r:Nat}{o o':Obj}(ho:w.heap[r]? = some o)(hbk:rQ o=true)(hbk':rQ o'=true)(hr:P.low<=r)(hU:U r)(hf:∀g k,F g k->g<w.heap.size/\¬U g)(hlt:∀b,U b->b<w.heap.size)(hsh:Shp P w):jf P F U w F U (w.putObj r o') :=
 ⟨⟨rfl,rfl,rfl,by rw[World.putObj_size];exact Nat.le_refl _,fun k _ hk=>World.putObj_heap_other fun e=>hk (e▸hU)⟩,wu ho hbk hbk' F,fun _ _ h=>.inl h,fun g k h=>by rw[World.putObj_size];exact(hf g k h).1,fun g k h=>(hf g k h).2,fun _ h=>.inl h,fun b h=>by rw[World.putObj_size];exact hlt b h,OX hsh hr⟩
def AA(J:Fz->(Nat->Prop)->World->Prop)(Jx:Fz->(Nat->Prop)->World->Prop)(e:Ending)(w':World):Prop:=(∃v,e=.returned v)/\∃F' U',J F' U' w'\/Jx F' U' w'
theorem Iu(hΓ:ΓOK P Γ){fn:Func}{r:D}(hres:wh Γ [] [] fn.results.toList=some r){tmps:Array Value}{R:Ending->World->Prop}{I:Fz->(Nat->Prop)->World->Prop}(hs:jb P (fun(_:Unit)=>I)){U:Nat->Prop}(hR:∀v w,I F U w->R (.returned v) w):∀(ms:List Nat)(w:World),ms.Nodup->(∀D∈ms,U D/\P.low<=D/\w.heap[D]? = some (.deferred (some [])))->I F U w->(∀g k,F g k->g<w.heap.size/\¬U g)->(∀b,U b->b<w.heap.size)->Shp P w ->
  LeavesInM (Fr none) 0 P fn tmps R (ms.map ug) .returning w
 |[],w,_,_,hI,hf,_,hsh=>by
  obtain⟨_,v,h5,_⟩:=To.done (P:=P) (nt:=tmps.size) (F0:=fun _ _=>False) (K:=[]) (L:=[]) hΓ (hsh:=hsh) hres { tmps:=tmps,defers:=[] } w ⟨NB,fun _ _=>False,⟨(fun k t ds hl=>by simp[aN] at hl),(fun k t ds b hl=>by simp[aN] at hl),(fun i j b hi=>by obtain⟨t,ds,hx⟩:=hi;simp[aN] at hx),fun _ _ h=>h.elim,fun g k h=>.inl h,Grow.refl _ _,dZ.refl _ _ _,fun k b h=>by cases h⟩,rfl,rfl,fun x hx=>by cases hx⟩
  exact⟨v,h5,hR v w hI⟩
 |D::ms,w,hnd,hm,hI,hf,hlt,hsh=>by
  obtain⟨n1,n2⟩:=List.nodup_cons.1 hnd
  obtain⟨hD1,hD2,hD3⟩:=hm D List.mem_cons_self
  have ht:=oH (P:=P) (o':=.deferred none) hD3 rfl rfl hD2 hD1 hf hlt hsh
  refine⟨by simp,.inl ⟨D,_,rfl,run_takeDeferred hD3,Iu hΓ hres hs hR ms _ n2 (fun E hE=>?_) (hs () _ _ _ _ _ _ hI ht) (fun g k h=>by rw[World.putObj_size];exact hf g k h) (fun b h=>by rw[World.putObj_size];exact hlt b h) ht.shp⟩⟩
  obtain⟨e1,e2,e3⟩:=hm E (List.mem_cons_of_mem _ hE)
  exact⟨e1,e2,(World.putObj_heap_other (by intro e;subst e;exact n1 hE)).trans e3⟩
theorem To.IX(hΓ:ΓOK P Γ){fn:Func}{r:D}(hres:wh Γ [] [] fn.results.toList=some r){I:Fz->(Nat->Prop)->World->Prop}(hs:jb P (fun(_:Unit)=>I)){R:Ending->World->Prop}(hR:∀F U v w,I F U w->R (.returned v) w){X:Nat->Prop}{Fx:Fz}{W:World}(hat:AtI I X Fx W F1 w1)(hbox:vI L=true):To nt F1 w1 K L .ret (bodyPostM (Fr none) 0 P fn R):=by
 rintro a w ⟨B,F,hb,hd,hs',hK⟩
 have hm:=hat.mid hs hb hbox
 obtain⟨ms,m1,m2,m3⟩:=hm.marks
 show LeavesInM (Fr none) 0 P fn a.tmps R a.defers .returning w
 rw[hd,show w1.defs=ms.map ug from m1]
 exact Iu hΓ hres hs (hR F _) ms w m2 (fun D hD=>⟨.inr (m3 D hD).1,hm.high D (m3 D hD).1,(hm.kept D (m3 D hD).1).trans (m3 D hD).2⟩) hm.inv hm.frz hm.lt hb.shp
theorem To.RB(hΓ:ΓOK P Γ){fn:Func}{r:D}(hres:wh Γ [] [] fn.results.toList=some r){I:Fz->(Nat->Prop)->World->Prop}(hs:jb P (fun(_:Unit)=>I)){R:Ending->World->Prop}(hR:∀F U v w,I F U w->R (.returned v) w){X:Nat->Prop}{Fx:Fz}{W:World}(hat:AtI I X Fx W F1 w1)(hbox:vI L=true):To nt F1 w1 K L .normal (bodyPostM (Fr none) 0 P fn R):=fun a w hst =>
 To.IX (nt:=nt) (K:=K) (L:=L) hΓ hres hs hR hat hbox a w hst
theorem O3{g : Nat}{fn : Func}{c : Code}{ds : List D}{α : Type}{encs : α->List D}{xs : List α}(hf : P.funcs[g]? = some fn)(hbody : fn.body=some c)(hname : (fn.name == "runtime.NumGoroutine")=false)(hn : ds.length+1<=fn.ntmps)
  (h:∀(l:Nat)(J:List α->Fz->(Nat->Prop)->World->Prop)(Jx:Fz->(Nat->Prop)->World->Prop),jb P J->jb P (fun(_:Unit)=>Jx)->sD P l encs J Jx ->
   ∀(F0:Fz)(wt:World)(hsh:Shp P wt),AtI (J xs) (fun _=>False) F0 wt F0 (.top wt hsh) ->
    Wp P fn.ntmps F0 (.top wt hsh) ((D.val (.func (.yield l) #[] #[])::ds).zipIdx.map fun x=>(x.2,x.1)) [] c (bodyPostM (Fr none) 0 P fn (AA (J []) Jx))):wE P g ds encs xs:=by
 refine⟨⟨fn,hf,hname,by rw[hbody];rfl⟩,fun l J Jx hs hsx hy F w lb hJ hF hsh hr=>?_⟩
 have hr':aB F w NB (D.val (.func (.yield l) #[] #[])::ds) (.func (.yield l) #[] #[]::lb):=.cons _ _ _ _ (.val _ rfl) hr
 have hlen:=aB.length hr'
 have hargs:#[Value.func (.yield l) #[] #[]]++lb.toArray=(Value.func (.yield l) #[] #[]::lb).toArray:=by simp
 rw[hargs]
 have hJ':J xs F (fun b=>(Pt.top w hsh).own b\/False) w:=by
  have e:(fun b=>(Pt.top w hsh).own b\/False)=fun _=>False:=by funext b;exact propext ⟨fun h=>h.elim id id,False.elim⟩
  rw[e];exact hJ
 refine callsIn_of_wp_marks (F:=Fr none) hf hbody trivial (h l J Jx hs hsx hy F w hsh ⟨hJ',fun b h=>(h.elim id id).elim,fun _ h=>h.elim,fun g k h=>⟨hF g k h,fun h=>h.elim id id⟩,⟨[],rfl,.nil,fun _ h=>by cases h⟩,fun _ h=>h.elim,fun _ h=>h.elim,Nat.le_refl _,Grow.refl _ _⟩ _ w ⟨NB,F,?_,rfl,?_,fun x hx=>?_⟩)
 ·exact⟨(fun k t ds hl=>by simp[aN] at hl),(fun k t ds b hl=>by simp[aN] at hl),(fun i j b hi=>by obtain⟨t,ds,hx⟩:=hi;simp[aN] at hx),hF,fun g k h=>.inl h,Grow.refl _ _,dZ.refl _ _ _,fun k b h=>by cases h⟩
 ·have h1:lb.length=ds.length:=by have:=hlen;simp only[List.length_cons] at this;omega
  simp;omega
 ·obtain⟨y,hy,rfl⟩:=List.mem_map.1 hx
  obtain⟨d,i⟩:=y
  have hd:(D.val (.func (.yield l) #[] #[])::ds)[i]? = some d:=by
   have:=List.mem_zipIdx_iff_getElem?.1 hy
   simpa using this
  obtain⟨v,hv,hrep⟩:=hr'.get i hd
  refine⟨v,?_,hrep⟩
  have hi:i<(Value.func (.yield l) #[] #[]::lb).length:=(List.getElem?_eq_some_iff.1 hv).1
  simp only
  rw[Array.getElem?_append_left (by simpa using hi)]
  simpa using hv
end
end Go.Proofs.YtefojkdckfidcaaGreatDoor.RX
namespace Go.Proofs.YtefojkdckfidcaaGreatDoor.RX
open Go.RowKit
def upD:D->D
 |.own k off=>.own (k+LIM) off
 |d=>d
def upK(x:Nat×D):Nat×D:=(x.1,upD x.2)
def Lup(L:aA):aA:=L.map fun x=>(x.1+LIM,x.2)
def Bup(B:Env):Env:=fun j=>if LIM<=j then B (j-LIM) else none
def sU(L:aA):Bool:=L.all fun x=>zE x.2.2&&D.cO x.2.2
def Nh(ks:List Nat):D->Bool
 |.own k _=>ks.contains k
 |d=>D.fB d
structure LB(env:Nat->Option Ref)(B:Env)(F:Fz)(L:aA)(w:World):Prop where
 boxes:∀k t ds,aN L k t ds->ju F w B k t ds
 inj:∀i j b,(∃t ds,aN L i t ds)->(∃t ds,aN L j t ds)->bW B i=some b->bW B j=some b->i=j
 frz:∀g k,F g k->g<w.heap.size
 env:∀k b,env k=some b->B k=some b
section
variable {P:Program} {F0 F1:Fz} {w0 w1:Pt P} {B B':Env} {F F':Fz} {w w':World} {L:aA} {env:Nat->Option Ref}
theorem Base.lb(hb:Base F0 w0 B F (aN L) w):LB w0.env B F L w:=⟨hb.boxes,hb.inj,hb.frz,hb.env⟩
theorem LB.base{p:Pt P}(h:LB p.env B F L p.w)(ho:∀b,OwnB B L b->p.own b):Base F p B F (aN L) p.w :=
 ⟨h.boxes,fun k t ds b hm hk=>.inr (ho b ⟨k,t,ds,hm,hk⟩),h.inj,h.frz,fun _ _ h=>.inl h,Grow.refl _ _,dZ.refl _ _ _,h.env⟩
theorem ju.Ov{k k' t:Nat}{ds:List D}(h:ju F w B k t ds)(hb:zE ds=true)(hn:D.cO ds=true)(hB:B' k'=B k):ju F w B' k' t ds:=by
 cases h with
 |box _ b vs hB0 hr hfl hh hnf=>exact .box _ b vs (hB.trans hB0) (hr.bare hn) hfl hh hnf
 |row m d enc l p n cap hB h=>cases hb
 |map kk ag d enc l b' hB h=>cases hb
 |obj b' o' S hB hh=>cases hb
theorem ju.some{k t:Nat}{ds:List D}(h:ju F w B k t ds)(hb:zE ds=true):∃b,B k=some (.box b):=by
 cases h with
 |box _ b vs hB0 hr hfl hh hnf=>exact⟨b,hB0⟩
 |row m d enc l p n cap hB h=>cases hb
 |map kk ag d enc l b' hB h=>cases hb
 |obj b' o' S hB hh=>cases hb
theorem oO{k t:Nat}{ds:List D}:aN (Lup L) k t ds↔∃j,k=j+LIM/\aN L j t ds:=by
 constructor
 ·intro h
  obtain⟨⟨a,b⟩,hx,e⟩:=List.mem_map.1 (show(k,t,ds)∈L.map fun x=>(x.1+LIM,x.2) from h)
  cases e
  exact⟨a,rfl,hx⟩
 ·rintro⟨j,rfl,h⟩
  exact List.mem_map.2 ⟨(j,t,ds),h,rfl⟩
theorem ID(k:Nat):Bup B (k+LIM)=B k:=by
 unfold Bup
 rw[if_pos (Nat.le_add_left _ _),Nat.add_sub_cancel]
theorem zr{k t:Nat}{ds:List D}(h:aN L k t ds):k∈L.map (·.1):=List.mem_map.2 ⟨(k,t,ds),h,rfl⟩
theorem zt{L:aA}{k:Nat}(h:k∈L.map (·.1)):∃t ds,aN L k t ds:=by
 obtain⟨x,hx,rfl⟩:=List.mem_map.1 h
 exact⟨x.2.1,x.2.2,hx⟩
theorem vV(h:sU L=true){k t:Nat}{ds:List D}(hm:aN L k t ds):zE ds=true/\D.cO ds=true:=by
 have:=List.all_eq_true.1 h _ hm
 simpa using this
theorem rV(h:sU L=true):vI L=true:=List.all_eq_true.2 fun x hx=>by
 have:=List.all_eq_true.1 h x hx
 simp only[Bool.and_eq_true] at this
 exact this.1
theorem DY(h:sU L=true):sU (Lup L)=true:=List.all_eq_true.2 fun x hx=>by
 obtain⟨y,hy,rfl⟩:=List.mem_map.1 hx
 exact List.all_eq_true.1 h y hy
def nL(B:Env)(ks:List Nat):Nat->Option Ref:=fun j=>if LIM<=j/\(j-LIM)∈ks then B (j-LIM) else none
theorem Fv(ks:List Nat):∀k,nL B ks k≠none->LIM<=k:=fun k h=>by
 unfold nL at h
 split at h
 ·rename_i hc;exact hc.1
 ·exact absurd rfl h
theorem LB.up(h:LB env B F L w)(hp:sU L=true):LB (nL B (L.map (·.1))) (Bup B) F (Lup L) w:=by
 refine⟨fun k t ds hm=>?_,fun i j b hi hj h1 h2=>?_,h.frz,fun k b hk=>?_⟩
 ·obtain⟨j,rfl,hm'⟩:=oO.1 hm
  obtain⟨h1,h2⟩:=vV hp hm'
  exact(h.boxes _ _ _ hm').Ov h1 h2 (ID j)
 ·obtain⟨t,ds,hi⟩:=hi
  obtain⟨t',ds',hj⟩:=hj
  obtain⟨i',rfl,hi'⟩:=oO.1 hi
  obtain⟨j',rfl,hj'⟩:=oO.1 hj
  unfold bW at h1 h2
  rw[ID] at h1 h2
  rw[h.inj i' j' b ⟨t,ds,hi'⟩ ⟨t',ds',hj'⟩ h1 h2]
 ·unfold nL at hk
  unfold Bup
  split at hk
  ·rename_i hc;rw[if_pos hc.1];exact hk
  ·cases hk
theorem LB.down{ks:List Nat}{B0:Env}(h:LB (nL B0 ks) B' F (Lup L) w)(hp:sU L=true)(hk:L.map (·.1)=ks)(hB0:∀k∈ks,∃b,B0 k=some b)(henv:∀k b,env k=some b->B0 k=some b):LB env B0 F L w:=by
 have pin:∀k t ds,aN L k t ds->B0 k=B' (k+LIM):=fun k t ds hm=>by
  have hkk:k∈ks:=hk▸zr hm
  obtain⟨b,hb⟩:=hB0 k hkk
  rw[hb]
  refine(h.env _ _ ?_).symm
  unfold nL
  rw[if_pos ⟨Nat.le_add_left _ _,by rw[Nat.add_sub_cancel];exact hkk⟩,Nat.add_sub_cancel];exact hb
 refine⟨fun k t ds hm=>?_,fun i j b hi hj h1 h2=>?_,h.frz,henv⟩
 ·obtain⟨h1,h2⟩:=vV hp hm
  exact(h.boxes _ _ _ (oO.2 ⟨k,rfl,hm⟩)).Ov h1 h2 (pin _ _ _ hm)
 ·obtain⟨t,ds,hi⟩:=hi
  obtain⟨t',ds',hj⟩:=hj
  unfold bW at h1 h2
  rw[pin _ _ _ hi] at h1
  rw[pin _ _ _ hj] at h2
  have:=h.inj (i+LIM) (j+LIM) b ⟨t,ds,oO.2 ⟨i,rfl,hi⟩⟩ ⟨t',ds',oO.2 ⟨j,rfl,hj⟩⟩ h1 h2
  omega
def Blk(B:Env)(ks:List Nat)(b:Nat):Prop:=∃k∈ks,bW B k=some b
theorem qp{ks:List Nat}(h:L.map (·.1)=ks):OwnB B L=Blk B ks:=by
 funext b
 refine propext ⟨fun⟨k,t,ds,hm,hk⟩=>⟨k,h▸zr hm,hk⟩,fun⟨k,hk,hb⟩=>?_⟩
 obtain⟨t,ds,hm⟩:=zt (h▸hk)
 exact⟨k,t,ds,hm,hb⟩
theorem Ks{ks:List Nat}{B0:Env}{env:Nat->Option Ref}(he:∀k b,env k=some b->B' k=some b)(hpe:env=nL B0 ks)(hk:L.map (·.1)=ks)(hB0:∀k∈ks,∃b,B0 k=some b):OwnB B' (Lup L)=Blk B0 ks:=by
 have pin:∀k∈ks,B' (k+LIM)=B0 k:=fun k hkk=>by
  obtain⟨b,hb⟩:=hB0 k hkk
  rw[hb]
  refine he _ _ ?_
  rw[hpe]
  unfold nL
  rw[if_pos ⟨Nat.le_add_left _ _,by rw[Nat.add_sub_cancel];exact hkk⟩,Nat.add_sub_cancel];exact hb
 funext b
 refine propext ⟨fun⟨k,t,ds,hm,hb⟩=>?_,fun⟨k,hkk,hb⟩=>?_⟩
 ·obtain⟨j,rfl,hm'⟩:=oO.1 hm
  have hj:j∈ks:=hk▸zr hm'
  refine⟨j,hj,?_⟩
  unfold bW at *
  rw[<-pin j hj];exact hb
 ·obtain⟨t,ds,hm⟩:=zt (hk▸hkk)
  refine⟨k+LIM,t,ds,oO.2 ⟨k,rfl,hm⟩,?_⟩
  unfold bW at *
  rw[pin k hkk];exact hb
theorem LB.turn{U U':Nat->Prop}(hb:LB env B F L w)(hd:∀b,OwnB B L b->¬U b)(h:jf P F U w F' U' w'):LB env B F' L w':=by
 refine⟨fun k t ds hm=>?_,hb.inj,h.frz,hb.env⟩
 have hh:=hb.boxes _ _ _ hm
 refine hh.grow h.grow rfl (fun _ _ _ h=>h) fun b hbk=>?_
 have hlt:=hh.lt hbk
 have hu:=hd b ⟨k,t,ds,hm,hbk⟩
 refine⟨h.below.block b hlt hu,fun j hj=>?_⟩
 rcases h.more b j hj with h1|h1|h1
 ·exact h1
 ·omega
 ·exact absurd h1 hu
theorem LB.put{r:Nat}{o o':Obj}(hb:LB env B F L w)(hbox:vI L=true)(ho:w.heap[r]? = some o)(hbk:rQ o=true)(hbk':rQ o'=true):LB env B F L (w.putObj r o'):=by
 refine⟨fun k t ds hm=>?_,hb.inj,fun g k h=>by rw[World.putObj_size];exact hb.frz g k h,hb.env⟩
 have hh:=hb.boxes _ _ _ hm
 refine hh.grow (wu ho hbk hbk' F) rfl (fun _ _ _ h=>h) fun b hbl=>⟨World.putObj_heap_other fun e=>?_,fun _ h=>h⟩
 subst e
 have hno:BG ds=true:=by
  have:=Fp hbox hm
  revert this
  clear hh hm
  match ds with
  |[]=>intro _;rfl
  |[d]=>cases d<;>intro h<;>first|rfl|cases h
  |d::_::_=>intro _;cases d<;>rfl
 have:=hh.IY hno hbl ho
 rw[hbk] at this;cases this
theorem jf.lift{U U' A A' Z:Nat->Prop}(ht:jf P F U w F' U' w')(hUA:∀b,U b->A b)(hA':∀b,A' b->Z b\/U' b)(hZA:∀b,Z b->A b)(hZ:∀b,Z b->b<w.heap.size/\¬U b)(hZF:∀g k,F g k->¬Z g):jf P F A w F' A' w':=by
 refine⟨⟨ht.below.os,ht.below.tape,ht.below.output,ht.below.size,fun k hk hn=>ht.below.block k hk fun hu=>hn (hUA k hu)⟩,ht.grow,fun g k hF=>?_,ht.frz,fun g k hF ha=>?_,fun b ha=>?_,fun b ha=>?_,ht.shp⟩
 ·rcases ht.more g k hF with h|h|h
  ·exact .inl h
  ·exact .inr (.inl h)
  ·exact .inr (.inr (hUA g h))
 ·rcases hA' g ha with h|h
  ·rcases ht.more g k hF with h1|h1|h1
   ·exact hZF g k h1 h
   ·have:=(hZ g h).1;omega
   ·exact(hZ g h).2 h1
  ·exact ht.off g k hF h
 ·rcases hA' b ha with h|h
  ·exact .inl (hZA b h)
  ·exact(ht.own b h).imp (hUA b) id
 ·rcases hA' b ha with h|h
  ·exact Nat.lt_of_lt_of_le (hZ b h).1 ht.below.size
  ·exact ht.lt b h
end
end Go.Proofs.YtefojkdckfidcaaGreatDoor.RX
namespace Go.Proofs.YtefojkdckfidcaaGreatDoor.RX
open Go.RowKit
def Q8(P:Program){σ:Type}(I:σ->Fz->(Nat->Prop)->World->Prop)(Ie:Fz->(Nat->Prop)->World->Prop)(S:σ->aA)(X:Nat->Prop)(Fx:Fz)(W:World)(env:Nat->Option Ref):Exit->Act->World->Prop
 |.normal,_,w=>∃(s:σ)(F1:Fz)(w1:Pt P)(B:Env)(F:Fz),Base F1 w1 B F (aN (Lup (S s))) w/\AtI (I s) X Fx W F1 w1/\w1.env=env
 |.ret,_,w=>∃(L:aA)(F1:Fz)(w1:Pt P)(B:Env)(F:Fz),Base F1 w1 B F (aN L) w/\vI L=true/\AtI Ie X Fx W F1 w1
 |_,_,_=>False
section
variable {P:Program} {Γ:Nat->Option TI} {nt:Nat} {F0:Fz} {w0:Pt P} {K:List (Nat×D)} {L:aA} {Q:Exit->Act->World->Prop}
theorem Wp.Jz{α σ:Type}{t:Nat}{ps:Array Tmp}{assign body:Code}{gf:Nat}{lds:List D}{encs:α->List D}{xs:List α}(ks:List Nat)(S:σ->aA)(I:List α->σ->Fz->(Nat->Prop)->World->Prop)(Ie:Fz->(Nat->Prop)->World->Prop)(Kb K':List (Nat×D))(kb k1:List Nat)(s0:σ)(K2:α->σ->List (Nat×D)){X:Nat->Prop}{Fx:Fz}{W:World}
  (hsI:∀r s,jb P (fun(_:Unit)=>I r s)) (hsE:jb P (fun(_:Unit)=>Ie)) (hro:w0.rnd=none) (hg:K.lookup t=some (.fn gf lds)) (hlds:D.cO lds=true) (hseq:wE P gf lds encs xs)
  (hat:AtI (I xs s0) X Fx W F0 w0) (hL:L=S s0) (hS:∀s,sU (S s)=true) (hSk:∀s,(S s).map (·.1)=ks)
  (hps:∀x,(encs x).length=ps.toList.length) (hnd:ps.toList.Nodup) (hpt:∀p∈ps.toList,p<nt) (hne:∀x,D.cO (encs x)=true)
  (hKb:lD K kb=some Kb) (hKb2:(Kb.all fun x=>!(ps.toList.contains x.1)&&Nh ks x.2)=true) (hK':lD K k1=some K') (hK2:(K'.all fun x=>Nh ks x.2)=true)
  (hass:∀x s (F':Fz) (w1:Pt P),Wp P nt F' w1 (Kb.map upK++ps.toList.zip (encs x)) (Lup (S s)) assign (yN nt F' w1 (K2 x s) (Lup (S s))))
  (hbody:∀x r s (F':Fz) (w1:Pt P) (X:Nat->Prop) (W:World),AtI (I (x::r) s) X F' W F' w1->Wp P nt F' w1 (K2 x s) (Lup (S s)) body (Q8 P (I r) Ie S X F' W w1.env))
  (hn:∀s F1 (w1:Pt P) X' W',w1.rnd=none->AtI (I [] s) X' F1 W' F1 w1->To nt F1 w1 K' (S s) .normal Q)
  (hx:∀F1 (w1:Pt P) X' W',w1.rnd=none->AtI Ie X' F1 W' F1 w1->Wp P nt F1 w1 [] [] .ret Q) :
  Wp P nt F0 w0 K L (.rangeFunc (.tmp t) ps assign body) Q:=by
 subst hL
 rintro a w ⟨B,F,hb,hd,hs,hK⟩
 rw[hro]
 have hat0:=hat.mid (hsI xs s0) hb (rV (hS s0))
 obtain⟨v,hv,hrv⟩:=hK _ (aD hg)
 obtain⟨lb,hlb,rfl⟩:∃lb,aB F w B lds lb/\v=.func (.func gf) #[] lb.toArray:=by
  cases hrv with
  |fn f ds vs h=>exact⟨vs,h,rfl⟩
 have hB0:∀k∈ks,∃b,B k=some b:=fun k hk=>by
  obtain⟨t,ds,hm⟩:=zt ((hSk s0).symm▸hk)
  obtain⟨b,hb'⟩:=(hb.boxes _ _ _ hm).some (vV (hS s0) hm).1
  exact⟨_,hb'⟩
 refine wpIn_rangeFunc fun fn hfn=>?_
 obtain⟨rec,hrec⟩:∃rec:LoopState->Option Code->Loop,rec=fun st pe=>{ state:=st,pending:=pe,fn,tmps:=a.tmps,params:=ps,assign,body,defers:=w.heap.size }:=⟨_,rfl⟩
 obtain⟨W1,hW1⟩:∃W1,(w.alloc (.deferred (some []))).alloc (.loop (rec .ready none))=W1:=⟨_,rfl⟩
 have hL1:W1.heap[w.heap.size+1]? = some (.loop (rec .ready none)):=by
  rw[<-hW1];have:=World.alloc_heap_new (w.alloc (.deferred (some []))) (.loop (rec .ready none));rwa[World.size_alloc] at this
 have hD1:W1.heap[w.heap.size]? = some (.deferred (some [])):=by
  rw[<-hW1];exact(Below.heap_alloc _ _ _ (by simp)).trans (World.alloc_heap_new w _)
 have hbel:Below w.heap.size w W1:=by rw[<-hW1];exact xf _ _ _
 have hlow:P.low<=w.heap.size:=by obtain⟨_,_,h,_⟩:=hb.shp;exact h
 have hlt:∀{W:World}{r:Nat}{o:Obj},W.heap[r]? = some o->r<W.heap.size:=fun h=>(Array.getElem?_eq_some_iff.1 h).1
 have hXlt:∀b,X b->b<w.heap.size:=fun b h=>hat0.lt b (.inr h)
 have hBlt:∀b,Blk B ks b->b<w.heap.size:=fun b h=>hat0.lt b (.inl (by rw[<-qp (hSk s0)] at h;exact h))
 have hBX:∀b,X b->¬Blk B ks b:=fun b h h2=>hat0.dis b h (by rw[<-qp (hSk s0)] at h2;exact h2)
 let Rc:Nat->Prop:=fun b=>b=w.heap.size\/b=w.heap.size+1\/X b
 let AS:(Nat->Prop)->Nat->Prop:=fun U b=>Blk B ks b\/(Rc b\/U b)
 let N0:(Nat->Prop)->Prop:=fun U=>∀b,U b->w.heap.size+2<=b
 let FO:Fz->Prop:=fun F'=>∀g k,F' g k->¬Blk B ks g/\¬Rc g
 let FO2:Fz->Prop:=fun F'=>∀g k,F' g k->¬Rc g
 let XK:World->Prop:=fun W=>(∀b,X b->W.heap[b]? = w.heap[b]?)/\W.heap[w.heap.size]? = some (.deferred (some []))
 let GW:Fz->World->Prop:=fun F' W=>Grow F F' w W/\(∀g k,F' g k->g<W.heap.size)/\Shp P W
 let J:List α->Fz->(Nat->Prop)->World->Prop:=fun r F' U W=>N0 U/\FO F'/\XK W/\GW F' W/\W.heap[w.heap.size+1]? = some (.loop (rec .ready none))/\∃s B',I r s F' (AS U) W/\LB (nL B ks) B' F' (Lup (S s)) W
 let Jx:Fz->(Nat->Prop)->World->Prop:=fun F' U W=>N0 U/\FO2 F'/\XK W/\GW F' W/\W.heap[w.heap.size+1]? = some (.loop (rec .done (some .ret)))/\Ie F' (fun b=>Rc b\/U b) W
 have hZ:∀{U:Nat->Prop}{W:World},N0 U->w.heap.size+1<W.heap.size->∀b,(Blk B ks b\/Rc b)->b<W.heap.size/\¬U b:=fun hU hsz b hb'=>by
  have h1:b<w.heap.size+2:=by
   rcases hb' with h|h|h|h
   ·have:=hBlt b h;omega
   ·omega
   ·omega
   ·have:=hXlt b h;omega
  exact⟨by omega,fun hu=>by have:=hU b hu;omega⟩
 have lift:∀{U U':Nat->Prop}{F' F'':Fz}{W W':World},N0 U->FO F'->w.heap.size+1<W.heap.size->jf P F' U W F'' U' W'->jf P F' (AS U) W F'' (AS U') W':=fun hU hF hsz ht =>
  ht.lift (Z:=fun b=>Blk B ks b\/Rc b) (fun b h=>.inr (.inr h)) (fun b h=>h.elim (fun h=>.inl (.inl h)) fun h=>h.elim (fun h=>.inl (.inr h)) .inr) (fun b h=>h.elim .inl fun h=>.inr (.inl h)) (hZ hU hsz) (fun g k h hz=>hz.elim (hF g k h).1 (hF g k h).2)
 have stN:∀{U U':Nat->Prop}{F' F'':Fz}{W W':World},N0 U->w.heap.size+1<W.heap.size->jf P F' U W F'' U' W'->N0 U':=fun hU hsz ht b hb'=>by
  rcases ht.own b hb' with h|h
  ·exact hU b h
  ·omega
 have stF:∀{U U':Nat->Prop}{F' F'':Fz}{W W':World},N0 U->FO F'->w.heap.size+1<W.heap.size->jf P F' U W F'' U' W'->FO F'':=fun {U U' F' F'' W W'} hU hF hsz ht g k hg=>by
  have key:∀b,(Blk B ks b\/Rc b)->¬F'' b k\/b≠g:=fun b hz=>by
   by_cases e:b=g
   ·subst e
    refine .inl fun hg=>?_
    rcases ht.more b k hg with h|h|h
    ·exact hz.elim (hF b k h).1 (hF b k h).2
    ·have:=(hZ hU hsz b hz).1;omega
    ·exact(hZ hU hsz b hz).2 h
   ·exact .inr e
  exact⟨fun h=>(key g (.inl h)).elim (fun h=>h hg) (fun h=>h rfl),fun h=>(key g (.inr h)).elim (fun h=>h hg) (fun h=>h rfl)⟩
 have lift2:∀{U U':Nat->Prop}{F' F'':Fz}{W W':World},N0 U->FO2 F'->w.heap.size+1<W.heap.size->jf P F' U W F'' U' W'->jf P F' (fun b=>Rc b\/U b) W F'' (fun b=>Rc b\/U' b) W':=fun hU hF hsz ht =>
  ht.lift (Z:=Rc) (fun b h=>.inr h) (fun b h=>h) (fun b h=>.inl h) (fun b h=>hZ hU hsz b (.inr h)) hF
 have stF2:∀{U U':Nat->Prop}{F' F'':Fz}{W W':World},N0 U->FO2 F'->w.heap.size+1<W.heap.size->jf P F' U W F'' U' W'->FO2 F'':=fun hU hF hsz ht g k hg hz=>by
  rcases ht.more g k hg with h|h|h
  ·exact hF g k h hz
  ·have:=(hZ hU hsz g (.inr hz)).1;omega
  ·exact(hZ hU hsz g (.inr hz)).2 h
 have stX:∀{U U':Nat->Prop}{F' F'':Fz}{W W':World},N0 U->XK W->w.heap.size+1<W.heap.size->jf P F' U W F'' U' W'->XK W':=fun hU hX hsz ht=>by
  refine⟨fun b hb'=>(ht.below.block b (hZ hU hsz b (.inr (.inr (.inr hb')))).1 (hZ hU hsz b (.inr (.inr (.inr hb')))).2).trans (hX.1 b hb'),(ht.below.block _ (hZ hU hsz _ (.inr (.inl rfl))).1 (hZ hU hsz _ (.inr (.inl rfl))).2).trans hX.2⟩
 have stG:∀{U U':Nat->Prop}{F' F'':Fz}{W W':World},GW F' W->jf P F' U W F'' U' W'->GW F'' W':=fun hG ht=>⟨hG.1.trans ht.grow,ht.frz,ht.shp⟩
 have stL:∀{U U':Nat->Prop}{F' F'':Fz}{W W':World}{o:Obj},N0 U->W.heap[w.heap.size+1]? = some o->jf P F' U W F'' U' W'->W'.heap[w.heap.size+1]? = some o:=fun hU h ht =>
  (ht.below.block _ (hlt h) (hZ hU (hlt h) _ (.inr (.inr (.inl rfl)))).2).trans h
 have ownS:∀(B':Env)(s:σ),(∀k b,nL B ks k=some b->B' k=some b)->OwnB B' (Lup (S s))=Blk B ks:=fun B' s he=>Ks he rfl (hSk s) hB0
 have hStJ:jb P J:=fun r F' U W F'' U' W' ⟨h1,h2,h3,hG,h4,s,B',h5,h6⟩ ht =>
  ⟨stN h1 (hlt h4) ht,stF h1 h2 (hlt h4) ht,stX h1 h3 (hlt h4) ht,stG hG ht,stL h1 h4 ht,s,B',hsI r s () _ _ _ _ _ _ h5 (lift h1 h2 (hlt h4) ht),h6.turn (fun b hb'=>(hZ h1 (hlt h4) b (.inl (by rw[<-ownS B' s h6.env];exact hb'))).2) ht⟩
 have hStX:jb P (fun(_:Unit)=>Jx):=fun _ F' U W F'' U' W' ⟨h1,h2,h3,hG,h4,h5⟩ ht =>
  ⟨stN h1 (hlt h4) ht,stF2 h1 h2 (hlt h4) ht,stX h1 h3 (hlt h4) ht,stG hG ht,stL h1 h4 ht,hsE () _ _ _ _ _ _ h5 (lift2 h1 h2 (hlt h4) ht)⟩
 have hF0:∀g k,F g k->g<w.heap.size/\¬(OwnB B (S s0) g\/X g):=hat0.frz
 have hFO0:FO F:=fun g k h=>by
  obtain⟨h1,h2⟩:=hF0 g k h
  refine⟨fun h3=>h2 (.inl (by rw[qp (hSk s0)];exact h3)),fun h3=>?_⟩
  rcases h3 with h3|h3|h3
  ·omega
  ·omega
  ·exact h2 (.inr h3)
 have hshp1:Shp P W1:=by
  obtain⟨q,q1,q2,q3⟩:=hb.shp
  exact⟨q,q1,Nat.le_trans q2 hbel.size,fun k hk=>(hbel.block k (by omega)).trans (q3 k hk)⟩
 have hgF:Grow F F w W1:=⟨fun _ _ h=>h,fun g k h=>hbel.cell (p:=⟨g,k,none⟩) (hF0 g k h).1⟩
 have hT1:jf P F (fun b=>OwnB B (S s0) b\/X b) w F (AS fun _=>False) W1 :=
  ⟨.of hbel,hgF,fun _ _ h=>.inl h,fun g k h=>Nat.lt_of_lt_of_le (hF0 g k h).1 hbel.size,fun g k h hA=>by
   rcases hA with hA|hA|hA
   ·exact(hFO0 g k h).1 hA
   ·exact(hFO0 g k h).2 hA
   ·exact hA,fun b hA=>by
   rcases hA with hA|(hA|hA|hA)|hA
   ·exact .inl (.inl (by rw[qp (hSk s0)];exact hA))
   ·exact .inr (by omega)
   ·exact .inr (by omega)
   ·exact .inl (.inr hA)
   ·exact hA.elim,fun b hA=>by
   have hsz:=hlt hL1
   rcases hA with hA|hA|hA
   ·exact(hZ (U:=fun _=>False) (fun _ h=>h.elim) hsz b (.inl hA)).1
   ·exact(hZ (U:=fun _=>False) (fun _ h=>h.elim) hsz b (.inr hA)).1
   ·exact hA.elim,hshp1⟩
 have hI1:I xs s0 F (AS fun _=>False) W1:=hsI xs s0 () _ _ _ _ _ _ hat0.inv hT1
 have hLB1:LB (nL B ks) (Bup B) F (Lup (S s0)) W1:=by
  have h1:=(hb.lb).up (hS s0)
  rw[hSk s0] at h1
  refine h1.turn (U:=fun _=>False) (U':=fun _=>False) (fun _ _ h=>h) ⟨.of hbel,hgF,fun _ _ h=>.inl h,fun g k h=>Nat.lt_of_lt_of_le (hF0 g k h).1 hbel.size,fun _ _ _ h=>h,fun _ h=>h.elim,fun _ h=>h.elim,hshp1⟩
 have hJ1:J xs F (fun _=>False) W1:=⟨fun _ h=>h.elim,hFO0,⟨fun b h=>hbel.block b (hXlt b h),hD1⟩,⟨hgF,fun g k h=>Nat.lt_of_lt_of_le (hF0 g k h).1 hbel.size,hshp1⟩,hL1,s0,Bup B,hI1,hLB1⟩
 refine⟨w.heap.size+1,[{ target:=.collected w.heap.size,args:=#[] }],W1,{ target:=.fn (.func gf) lb.toArray,args:=#[.func (.yield (w.heap.size+1)) #[] #[]] },W1,gf,
  #[.func (.yield (w.heap.size+1)) #[] #[]]++lb.toArray,W1,?_,?_,fun _ _=>trivial,?_,fun h=>(by cases h),?_⟩
 ·rw[<-hW1,hrec];exact run_enterLoop_outer _ _ _ _ _
 ·simp only[resolve,ov hv]
  simp[go_sem]
 ·simp only[invoke];rw[mJ hseq.1]
 ·refine(hseq.2 (w.heap.size+1) J Jx hStJ hStX ?_ F W1 lb hJ1 (fun g k h=>Nat.lt_of_lt_of_le (hF0 g k h).1 hbel.size) hshp1 ((hlb.bare hlds).grow hgF)).mono ?_
  ·rintro ro x r F' U W2 args ⟨hN,hFO,hXK,hGW,hl,s,B',hI,hLB⟩ hfrz hUlt hshp hargs
   have hlen:=aB.length hargs
   have hsz:=hlt hl
   have hy:=run_yield (P:=P) (args:=args.toArray) hl (by rw[hrec];simp only[List.size_toArray];rw[hlen,hps x];simp)
   rw[hrec] at hy
   have hl0:W2.heap[w.heap.size+1]? = some (.loop { rec .ready none with state:=.ready }):=by rw[hl,hrec]
   have hfold:=yy ps.toList args a.tmps hnd (fun p hp=>by rw[hs];exact hpt p hp) (by rw[hlen,hps x])
   have hact:((ps.zip args.toArray).foldl (fun(tmps:Array Value) (x:Tmp×Value)=>tmps.setIfInBounds x.1 x.2) a.tmps)=((ps.toList.zip args).foldl (fun(t:Array Value) (x:Nat×Value)=>t.setIfInBounds x.1 x.2) a.tmps):=by
    rw[<-Array.foldl_toList,Array.toList_zip]
   have hBhigh:∀b,Blk B ks b->P.low<=b:=fun b h=>hb.kE b (by rw[qp (hSk s0)];exact h)
   have hRhigh:∀b,(Rc b\/U b)->P.low<=b:=fun b h=>by
    rcases h with(h|h|h)|h
    ·omega
    ·omega
    ·exact hat0.high b h
    ·have:=hN b h;omega
   let p:Pt P:={ w:=W2,own:=Blk B ks,env:=nL B ks,low:=Fv ks,sh:=hshp,high:=hBhigh,rnd:=some (w.heap.size+1),defs:=[] }
   have hUBlk:∀b,(Rc b\/U b)->¬Blk B ks b:=fun b h h2=>by
    have:=hBlt b h2
    rcases h with(h|h|h)|h
    ·omega
    ·omega
    ·exact hBX b h h2
    ·have:=hN b h;omega
   have hatp:AtI (I (x::r) s) (fun b=>Rc b\/U b) F' W2 F' p:=⟨hI,fun b h=>by
     rcases h with h|h|h
     ·exact(hZ hN hsz b (.inl h)).1
     ·exact(hZ hN hsz b (.inr h)).1
     ·exact hUlt b h,hUBlk,fun g k h=>⟨(hfrz g k h).1,fun h2=>by
     rcases h2 with h2|h2|h2
     ·exact(hFO g k h).1 h2
     ·exact(hFO g k h).2 h2
     ·exact(hfrz g k h).2 h2⟩,⟨[],rfl,.nil,fun _ h=>by cases h⟩,hRhigh,fun _ _=>rfl,Nat.le_refl _,Grow.refl _ _⟩
   have hbp:Base F' p B' F' (aN (Lup (S s))) W2:=hLB.base (p:=p) (fun b h=>by show Blk B ks b;rw[<-ownS B' s hLB.env];exact h)
   have hrun0:=hass x s F' p { tmps:=(ps.toList.zip args).foldl (fun(t:Array Value) (x:Nat×Value)=>t.setIfInBounds x.1 x.2) a.tmps,defers:=[] } W2 ⟨B',F',hbp,rfl,by rw[hfold.1];exact hs,fun y hy=>?_⟩
   rotate_left
   ·rcases List.mem_append.1 hy with hy|hy
    ·obtain⟨y0,hy0,rfl⟩:=List.mem_map.1 hy
     have hc:=List.all_eq_true.1 hKb2 y0 hy0
     simp only[Bool.and_eq_true,Bool.not_eq_true'] at hc
     obtain⟨v,q1,q2⟩:=hK _ (mX hKb y0 hy0)
     refine⟨v,(hfold.2.1 _ (fun hm=>by have hm:y0.1∈ps.toList:=hm;rw[List.contains_iff_mem.2 hm] at hc;cases hc.1)).trans q1,?_⟩
     have q3:=q2.grow hGW.1
     obtain⟨y1,y2⟩:=y0
     show Rep F' W2 B' (upD y2) v
     have hc2:Nh ks y2=true:=hc.2
     have q3:Rep F' W2 B y2 v:=q3
     cases y2 with
     |own k off =>
      cases q3 with
      |own _ _ b hbj =>
       have hkk:k∈ks:=List.contains_iff_mem.1 hc2
       refine .own _ _ b (hLB.env _ _ ?_)
       unfold nL
       rw[if_pos ⟨Nat.le_add_left _ _,by rw[Nat.add_sub_cancel];exact hkk⟩,Nat.add_sub_cancel];exact hbj
     |_=>exact q3.bare hc2
    ·obtain⟨i,hi⟩:=List.getElem?_of_mem hy
     rw[List.getElem?_zip_eq_some] at hi
     obtain⟨v,q1,q2⟩:=hargs.get i hi.2
     have hnoy:D.fB y.2=true:=by
      have:=hne x
      have hmem:y.2∈encs x:=List.mem_of_getElem? hi.2
      clear hi hy q1 q2
      revert this hmem
      generalize encs x=es
      intro this hmem
      induction es with
      |nil=>cases hmem
      |cons e es ih =>
       rw[D.cO,Bool.and_eq_true] at this
       rcases List.mem_cons.1 hmem with rfl|h
       ·exact this.1
       ·exact ih this.2 h
     exact⟨v,hfold.2.2 i _ _ hi.1 q1,q2.bare hnoy⟩
   rw[<-hact] at hrun0
   refine⟨fn,_,assign,body,hy,roundIn_of_wpIn trivial (wpIn_mono hrun0 ?_)⟩
   rintro ea a1 Wa ⟨rfl,Ba,Fa,hba,hda,hsa,hKa⟩
   have hbx:=rV (DY (hS s))
   have hata:=hatp.mid (hsI (x::r) s) hba hbx
   have hoa:OwnB Ba (Lup (S s))=Blk B ks:=ownS Ba s hba.env
   have hla:Wa.heap[w.heap.size+1]? = some (.loop { rec .ready none with state:=.ready }):=(hata.kept _ (.inl (.inr (.inl rfl)))).trans hl0
   have hIa:I (x::r) s Fa (AS U) Wa:=by
    have h:=hata.inv
    have h:I (x::r) s Fa (fun b=>OwnB Ba (Lup (S s)) b\/(Rc b\/U b)) Wa:=h
    rw[hoa] at h;exact h
   have hFa:∀g k,Fa g k->g<Wa.heap.size/\¬AS U g:=fun g k h=>by
    have h:=hata.frz g k h
    have h:g<Wa.heap.size/\¬(OwnB Ba (Lup (S s)) g\/(Rc g\/U g)):=h
    rw[hoa] at h;exact h
   have hLa:∀b,AS U b->b<Wa.heap.size:=fun b h=>by
    refine hata.lt b ?_
    show OwnB Ba (Lup (S s)) b\/(Rc b\/U b)
    rw[hoa];exact h
   refine⟨_,run_beginRound hla rfl,?_⟩
   have ht3:=oH (P:=P) (o':=.loop { rec .ready none with state:=.busy }) hla rfl rfl (hRhigh _ (.inl (.inr (.inl rfl)))) (U:=AS U) (.inr (.inl (.inr (.inl rfl)))) hFa hLa hba.shp
   have hLB3:LB (nL B ks) Ba Fa (Lup (S s)) (Wa.putObj (w.heap.size+1) (.loop { rec .ready none with state:=.busy })):=(hba.lb).put hbx hla rfl rfl
   have hg3:=wu (o':=.loop { rec .ready none with state:=.busy }) hla rfl rfl Fa
   have hl3:(Wa.putObj (w.heap.size+1) (.loop { rec .ready none with state:=.busy })).heap[w.heap.size+1]? = some (.loop { rec .ready none with state:=.busy }):=World.putObj_heap_same (hlt hla)
   have hk3:∀b,b≠w.heap.size+1->(Wa.putObj (w.heap.size+1) (.loop { rec .ready none with state:=.busy })).heap[b]? = Wa.heap[b]?:=fun b hb'=>World.putObj_heap_other hb'
   have hs3:(Wa.putObj (w.heap.size+1) (.loop { rec .ready none with state:=.busy })).heap.size=Wa.heap.size:=World.putObj_size ..
   have hI3:=hsI (x::r) s () _ _ _ _ _ _ hIa ht3
   revert ht3 hLB3 hg3 hl3 hk3 hs3 hI3
   generalize Wa.putObj (w.heap.size+1) (.loop { rec .ready none with state:=.busy })=W3
   intro ht3 hLB3 hg3 hl3 hk3 hs3 hI3
   let p3:Pt P:={ w:=W3,own:=Blk B ks,env:=nL B ks,low:=Fv ks,sh:=ht3.shp,high:=hBhigh,rnd:=some (w.heap.size+1),defs:=[] }
   have hA3:AtI (I (x::r) s) (fun b=>Rc b\/U b) Fa W3 Fa p3:=⟨hI3,ht3.lt,hUBlk,fun g k h=>⟨ht3.frz g k h,ht3.off g k h⟩,⟨[],rfl,.nil,fun _ h=>by cases h⟩,hRhigh,fun _ _=>rfl,Nat.le_refl _,Grow.refl _ _⟩
   have hrun:=hbody x r s Fa p3 _ W3 hA3 a1 W3 ⟨Ba,Fa,hLB3.base (p:=p3) (fun b h=>by show Blk B ks b;rw[<-hoa];exact h),hda,hsa,fun y hy=>let ⟨v,q1,q2⟩:=hKa y hy;⟨v,q1,q2.grow hg3⟩⟩
   refine wpIn_mono hrun ?_
   rintro e a3 w3 hp
   cases e with
   |normal =>
    obtain⟨s',F1,w1',B1,F1',hb1,hat1,he1⟩:=hp
    have hbx1:=rV (DY (hS s'))
    have hat2:=hat1.mid (hsI r s') hb1 hbx1
    have henv1:∀k b,nL B ks k=some b->B1 k=some b:=fun k b h=>hb1.env k b (by rw[he1];exact h)
    have ho1:OwnB B1 (Lup (S s'))=Blk B ks:=ownS B1 s' henv1
    have hl4:w3.heap[w.heap.size+1]? = some (.loop { rec .ready none with state:=.busy }):=(hat2.kept _ (.inl (.inr (.inl rfl)))).trans hl3
    have hrun4:=run_endRound (P:=P) none hl4
    have hI4:I r s' F1' (AS U) w3:=by
     have h:=hat2.inv
     have h:I r s' F1' (fun b=>OwnB B1 (Lup (S s')) b\/(Rc b\/U b)) w3:=h
     rw[ho1] at h;exact h
    have hF4:∀g k,F1' g k->g<w3.heap.size/\¬AS U g:=fun g k h=>by
     have h:=hat2.frz g k h
     have h:g<w3.heap.size/\¬(OwnB B1 (Lup (S s')) g\/(Rc g\/U g)):=h
     rw[ho1] at h;exact h
    have hL4:∀b,AS U b->b<w3.heap.size:=fun b h=>by
     refine hat2.lt b ?_
     show OwnB B1 (Lup (S s')) b\/(Rc b\/U b)
     rw[ho1];exact h
    have ht4:=oH (P:=P) (o':=.loop { ({ rec .ready none with state:=.busy }:Loop) with state:=if(none:Option Code).isNone then .ready else .done,pending:=none }) hl4 rfl rfl (hRhigh _ (.inl (.inr (.inl rfl)))) (U:=AS U) (.inr (.inl (.inr (.inl rfl)))) hF4 hL4 hb1.shp
    have hkk:∀b,b≠w.heap.size+1->(Rc b\/U b)->w3.heap[b]? = W2.heap[b]?:=fun b h1 h2=>(hat2.kept b h2).trans ((hk3 b h1).trans (hata.kept b h2))
    refine⟨_,_,hrun4,F1',⟨⟨((hba.grow.trans hg3).trans hat2.ref).trans ht4.grow,ht4.frz,ht4.shp⟩,?_,fun b hu=>?_,fun g k h hu=>(hF4 g k h).2 (.inr (.inr hu))⟩,.inl ⟨rfl,hN,fun g k h=>⟨fun h2=>(hF4 g k h).2 (.inl h2),fun h2=>(hF4 g k h).2 (.inr (.inl h2))⟩,⟨fun b hb'=>?_,?_⟩,⟨hGW.1.trans (((hba.grow.trans hg3).trans hat2.ref).trans ht4.grow),ht4.frz,ht4.shp⟩,?_,s',B1,hsI r s' () _ _ _ _ _ _ hI4 ht4,?_⟩⟩
    ·rw[World.putObj_size]
     exact Nat.le_trans hba.below.size (Nat.le_trans (Nat.le_of_eq hs3.symm) hat2.size)
    ·have hne':b≠w.heap.size+1:=by have:=hN b hu;omega
     exact(World.putObj_heap_other hne').trans (hkk b hne' (.inr hu))
    ·have hne':b≠w.heap.size+1:=by have:=hXlt b hb';omega
     exact(World.putObj_heap_other hne').trans ((hkk b hne' (.inl (.inr (.inr hb')))).trans (hXK.1 b hb'))
    ·have hne':w.heap.size≠w.heap.size+1:=by omega
     exact(World.putObj_heap_other hne').trans ((hkk _ hne' (.inl (.inl rfl))).trans hXK.2)
    ·rw[World.putObj_heap_same (hlt hl4),hrec];rfl
    ·have h:=(hb1.lb).put (o':=.loop { ({ rec .ready none with state:=.busy }:Loop) with state:=if(none:Option Code).isNone then .ready else .done,pending:=none }) hbx1 hl4 rfl rfl
     rw[he1] at h;exact h
   |ret =>
    obtain⟨L1,F1,w1',B1,F1',hb1,hbx1,hat1⟩:=hp
    have hat2:=hat1.mid hsE hb1 hbx1
    have hl4:w3.heap[w.heap.size+1]? = some (.loop { rec .ready none with state:=.busy }):=(hat2.kept _ (.inl (.inr (.inl rfl)))).trans hl3
    have hrun4:=run_endRound (P:=P) (some .ret) hl4
    have hkk:∀b,b≠w.heap.size+1->(Rc b\/U b)->w3.heap[b]? = W2.heap[b]?:=fun b h1 h2=>(hat2.kept b h2).trans ((hk3 b h1).trans (hata.kept b h2))
    have ht4:=oH (P:=P) (o':=.loop { ({ rec .ready none with state:=.busy }:Loop) with state:=if(some Code.ret:Option Code).isNone then .ready else .done,pending:=some .ret }) hl4 rfl rfl (hRhigh _ (.inl (.inr (.inl rfl)))) (U:=fun b=>OwnB B1 L1 b\/(Rc b\/U b)) (.inr (.inl (.inr (.inl rfl)))) hat2.frz hat2.lt hb1.shp
    have hI5:Ie F1' (fun b=>Rc b\/U b) _:=hsE () _ _ _ _ _ _ hat2.inv ⟨ht4.below,ht4.grow,ht4.more,ht4.frz,fun g k h hu=>ht4.off g k h (.inr hu),fun b hu=>.inl (.inr hu),fun b hu=>ht4.lt b (.inr hu),ht4.shp⟩
    refine⟨_,_,hrun4,F1',⟨⟨((hba.grow.trans hg3).trans hat2.ref).trans ht4.grow,ht4.frz,ht4.shp⟩,?_,fun b hu=>?_,fun g k h hu=>(hat2.frz g k h).2 (.inr (.inr hu))⟩,.inr ⟨rfl,hN,fun g k h hu=>(hat2.frz g k h).2 (.inr (.inl hu)),⟨fun b hb'=>?_,?_⟩,⟨hGW.1.trans (((hba.grow.trans hg3).trans hat2.ref).trans ht4.grow),ht4.frz,ht4.shp⟩,?_,hI5⟩⟩
    ·rw[World.putObj_size]
     exact Nat.le_trans hba.below.size (Nat.le_trans (Nat.le_of_eq hs3.symm) hat2.size)
    ·have hne':b≠w.heap.size+1:=by have:=hN b hu;omega
     exact(World.putObj_heap_other hne').trans (hkk b hne' (.inr hu))
    ·have hne':b≠w.heap.size+1:=by have:=hXlt b hb';omega
     exact(World.putObj_heap_other hne').trans ((hkk b hne' (.inl (.inr (.inr hb')))).trans (hXK.1 b hb'))
    ·have hne':w.heap.size≠w.heap.size+1:=by omega
     exact(World.putObj_heap_other hne').trans ((hkk _ hne' (.inl (.inl rfl))).trans hXK.2)
    ·rw[World.putObj_heap_same (hlt hl4),hrec];rfl
   |exit id=>exact hp.elim
   |goto l=>exact hp.elim
   |panic ch=>exact hp.elim
   |outgrown=>exact hp.elim
  ·obtain⟨ms,m1,m2,m3⟩:=hat0.marks
   have m1:w0.defs=ms.map ug:=m1
   have hBhigh:∀b,Blk B ks b->P.low<=b:=fun b h=>hb.kE b (by rw[qp (hSk s0)];exact h)
   have hRchigh:∀b,Rc b->P.low<=b:=fun b h=>by
    rcases h with h|h|h
    ·omega
    ·omega
    ·exact hat0.high b h
   have hRB:∀b,Rc b->¬Blk B ks b:=fun b h h2=>by
    have:=hBlt b h2
    rcases h with h|h|h
    ·omega
    ·omega
    ·exact hBX b h h2
   have hmarks:∀w4:World,(∀b,X b->w4.heap[b]? = w.heap[b]?)->w4.heap[w.heap.size]? = some (.deferred (some []))->∃ms':List Nat,ug w.heap.size::w0.defs=ms'.map ug/\ms'.Nodup/\∀D∈ms',Rc D/\w4.heap[D]? = some (.deferred (some [])):=fun w4 h1 h2=>by
    refine⟨w.heap.size::ms,by rw[m1];rfl,List.nodup_cons.2 ⟨fun h=>?_,m2⟩,fun D hD=>?_⟩
    ·have:=hXlt _ (m3 _ h).1;omega
    ·rcases List.mem_cons.1 hD with rfl|hD
     ·exact⟨.inl rfl,h2⟩
     ·exact⟨.inr (.inr (m3 D hD).1),(h1 D (m3 D hD).1).trans ((hat0.kept D (m3 D hD).1).trans (m3 D hD).2)⟩
   rintro e Wz ⟨⟨v,rfl⟩,F',U',⟨hN,hFO,hXK,hGW,hl,s,B',hI,hLB⟩|⟨hN,hFO,hXK,hGW,hl,hI⟩⟩
   ·have hrun:=run_endLoop (P:=P) hl (by rw[hrec];simp)
    have hsz:=hlt hl
    have ht5:jf P F' (AS U') Wz F' (fun b=>Blk B ks b\/Rc b) Wz:=⟨dZ.refl _ _ _,Grow.refl _ _,fun _ _ h=>.inl h,hGW.2.1,fun g k h hu=>hu.elim (hFO g k h).1 (hFO g k h).2,fun b hu=>.inl (hu.elim .inl fun h=>.inr (.inl h)),fun b hu=>(hZ hN hsz b hu).1,hGW.2.2⟩
    have ht6:=oH (P:=P) (o':=.loop { (rec .ready none:Loop) with state:=.exhausted }) hl rfl rfl (hRchigh _ (.inr (.inl rfl))) (U:=fun b=>Blk B ks b\/Rc b) (.inr (.inr (.inl rfl))) (fun g k h=>⟨ht5.frz g k h,ht5.off g k h⟩) ht5.lt hGW.2.2
    have hI6:=hsI [] s () _ _ _ _ _ _ (hsI [] s () _ _ _ _ _ _ hI ht5) ht6
    have hLB6:=((hLB.down (env:=w0.env) (hS s) (hSk s) hB0 hb.env).put (o':=.loop { (rec .ready none:Loop) with state:=.exhausted }) (rV (hS s)) hl rfl rfl)
    have hX6:∀b,X b->(Wz.putObj (w.heap.size+1) (.loop { (rec .ready none:Loop) with state:=.exhausted })).heap[b]? = w.heap[b]?:=fun b hb'=>(World.putObj_heap_other (by have:=hXlt b hb';omega)).trans (hXK.1 b hb')
    have hD6:(Wz.putObj (w.heap.size+1) (.loop { (rec .ready none:Loop) with state:=.exhausted })).heap[w.heap.size]? = some (.deferred (some [])):=(World.putObj_heap_other (by omega)).trans hXK.2
    have hg6:=wu (o':=.loop { (rec .ready none:Loop) with state:=.exhausted }) hl rfl rfl F'
    revert hrun ht6 hI6 hLB6 hX6 hD6 hg6
    generalize Wz.putObj (w.heap.size+1) (.loop { (rec .ready none:Loop) with state:=.exhausted })=w4
    intro hrun ht6 hI6 hLB6 hX6 hD6 hg6
    let pz:Pt P:={ w:=w4,own:=Blk B ks,env:=w0.env,low:=w0.low,sh:=ht6.shp,high:=hBhigh,rnd:=none,defs:=ug w.heap.size::w0.defs }
    have hAz:AtI (I [] s) Rc F' w4 F' pz:=⟨hI6,ht6.lt,hRB,fun g k h=>⟨ht6.frz g k h,ht6.off g k h⟩,hmarks w4 hX6 hD6,hRchigh,fun _ _=>rfl,Nat.le_refl _,Grow.refl _ _⟩
    refine⟨none,w4,by rw[hrun,hrec],hn s F' pz Rc w4 rfl hAz _ _ ⟨B,F',hLB6.base (p:=pz) (fun b h=>by show Blk B ks b;rw[qp (hSk s)] at h;exact h),by rw[hd];rfl,hs,fun y hy=>?_⟩⟩
    obtain⟨v,q1,q2⟩:=hK y (mX hK' y hy)
    exact⟨v,q1,q2.grow (hGW.1.trans hg6)⟩
   ·have hrun:=run_endLoop (P:=P) hl (by rw[hrec];simp)
    have hsz:=hlt hl
    have ht5:jf P F' (fun b=>Rc b\/U' b) Wz F' (fun b=>False\/Rc b) Wz:=⟨dZ.refl _ _ _,Grow.refl _ _,fun _ _ h=>.inl h,hGW.2.1,fun g k h hu=>hu.elim id (hFO g k h),fun b hu=>.inl (hu.elim False.elim fun h=>.inl h),fun b hu=>(hZ hN hsz b (hu.elim False.elim .inr)).1,hGW.2.2⟩
    have ht6:=oH (P:=P) (o':=.loop { (rec .done (some .ret):Loop) with state:=.exhausted }) hl rfl rfl (hRchigh _ (.inr (.inl rfl))) (U:=fun b=>False\/Rc b) (.inr (.inr (.inl rfl))) (fun g k h=>⟨ht5.frz g k h,ht5.off g k h⟩) ht5.lt hGW.2.2
    have hI6:=hsE () _ _ _ _ _ _ (hsE () _ _ _ _ _ _ hI ht5) ht6
    have hX6:∀b,X b->(Wz.putObj (w.heap.size+1) (.loop { (rec .done (some .ret):Loop) with state:=.exhausted })).heap[b]? = w.heap[b]?:=fun b hb'=>(World.putObj_heap_other (by have:=hXlt b hb';omega)).trans (hXK.1 b hb')
    have hD6:(Wz.putObj (w.heap.size+1) (.loop { (rec .done (some .ret):Loop) with state:=.exhausted })).heap[w.heap.size]? = some (.deferred (some [])):=(World.putObj_heap_other (by omega)).trans hXK.2
    revert hrun ht6 hI6 hX6 hD6
    generalize Wz.putObj (w.heap.size+1) (.loop { (rec .done (some .ret):Loop) with state:=.exhausted })=w4
    intro hrun ht6 hI6 hX6 hD6
    let pz:Pt P:={ w:=w4,own:=fun _=>False,env:=w0.env,low:=w0.low,sh:=ht6.shp,high:=fun _ h=>h.elim,rnd:=none,defs:=ug w.heap.size::w0.defs }
    have hAz:AtI Ie Rc F' w4 F' pz:=⟨hI6,ht6.lt,fun _ _ h=>h,fun g k h=>⟨ht6.frz g k h,ht6.off g k h⟩,hmarks w4 hX6 hD6,hRchigh,fun _ _=>rfl,Nat.le_refl _,Grow.refl _ _⟩
    have hwp:=hx F' pz Rc w4 rfl hAz { a with defers:=[{ target:=.collected w.heap.size,args:=#[] }]++a.defers } w4 ⟨B,F',⟨(fun k t ds hl=>by simp[aN] at hl),(fun k t ds b hl=>by simp[aN] at hl),(fun i j b hi=>by obtain⟨t,ds,hx⟩:=hi;simp[aN] at hx),ht6.frz,fun g k h=>.inl h,Grow.refl _ _,dZ.refl _ _ _,hb.env⟩,by rw[hd];rfl,hs,fun y hy=>by cases hy⟩
    exact⟨some .ret,w4,by rw[hrun,hrec],hwp⟩
end
end Go.Proofs.YtefojkdckfidcaaGreatDoor.RX
namespace Go.Proofs.YtefojkdckfidcaaGreatDoor.RX
open Go.RowKit Go.Sort
def encS:Bs->List D:=fun x=>[.str x]
def jT(l:Ls):Ls:=l.mergeSort fun x y=>decide (x<=y)
section
variable {P:Program} {F:Fz} {w1:Pt P} {B:Env}
theorem yk{w:World}:∀{l:Ls}{xs:List Value},aB F w NB (l.flatMap encS) xs->xs=l.map encStr
 |[],_,h=>by cases h;rfl
 |x::l,_,h=>by
  simp only[List.flatMap_cons,encS,List.singleton_append] at h
  cases h with
  |cons _ v _ vs hv hs =>
   cases hv
   rw[yk hs];rfl
theorem Ab{w:World}{B:Env}:∀l:Ls,aB F w B (l.flatMap encS) (l.map encStr)
 |[]=>.nil
 |x::l=>by
  simp only[List.flatMap_cons,encS,List.singleton_append,List.map_cons]
  exact .cons _ _ _ _ (.str x) (Ab l)
theorem Rep.head{F:Fz}{w:World}{B:Env}{α:Type}{d:α}{enc:α->List D}{l l1:List α}{p:Option Nat}{n cap:Nat}(h:Rep F w B (.recs d enc l) (bD p n cap))(hp:l1 <+: l)(hn:n=l.length):Rep F w B (.recs d enc l1) (.slice (p.map fun b=>⟨b,0,none⟩) l1.length cap):=by
 generalize hv:bD p n cap=v at h
 unfold bD at hv
 cases h with
 |dm _ _ q =>
  have:l1=[]:=List.prefix_nil.1 hp
  subst this
  injection hv with e1 e2 e3
  rw[e1,e3]
  exact .dm d enc _
 |recs _ _ _ g off cap size vs hz h1 h2 h3 hc =>
  have hle:=hp.length_le
  obtain⟨ys,rfl⟩:=hp
  injection hv with e1 e2 e3
  rw[e1,e3]
  refine .recs d enc l1 g off cap size vs hz (fun i hi=>h1 i (by omega)) (fun i hi=>?_) (fun i j hi hj=>h3 i j (by omega) hj) (by omega)
  have:=h2 i (by omega)
  rwa[List.getElem?_append_left hi] at this
theorem Base.turned{k t g n cap:Nat}{α:Type}{d:α}{enc:α->List D}{l l':List α}{w':World}(hb:Base F w1 B F (aN [(k,t,[.aP false d enc l])]) w1.w)
  (hB:B k=some (.row (some g) n cap)) (hgr:w1.w.grownBy w' (some g)) (hown:∃xs,aB F w' NB (l'.flatMap enc) xs/\dH w' t (enc d).length (some g) n cap xs) (hl:l'.length=l.length) :
  Base F w1 B F (aN [(k,t,[.aP false d enc l'])]) w':=by
 have hm:aN [(k,t,[D.aP false d enc l])] k t [.aP false d enc l]:=List.mem_cons_self
 obtain⟨p,n0,cap0,hB0,hn0,hpos,hge,xs,hxs,hown0,hfz⟩:=hb.jX hm
 rw[hB] at hB0;cases hB0
 have hnf:∀j,¬F g j:=fun j hj=>by have:=(hfz g rfl j).1 hj;simp at this
 have hfr:=hb.new _ _ _ g hm (dA hB)
 have hone:∀j t' ds,aN [(k,t,[D.aP false d enc l'])] j t' ds->j=k/\t'=t/\ds=[.aP false d enc l']:=by
  intro j t' ds h
  have:=List.mem_singleton.1 h
  cases this;exact⟨rfl,rfl,rfl⟩
 refine⟨fun j t' ds h=>?_,fun j t' ds b h hbk=>?_,fun i j b hi hj _ _=>?_,fun g' j hF=>Nat.lt_of_lt_of_le (hb.frz g' j hF) hgr.size,hb.more,⟨fun _ _ h=>h,fun g' j hF=>?_⟩,⟨hgr.os,hgr.tape,hgr.output,hgr.size,fun j hj hno=>?_⟩,hb.env⟩
 ·obtain⟨rfl,rfl,rfl⟩:=hone _ _ _ h
  obtain⟨xs',h1,h2⟩:=hown
  exact .row false d enc l' (some g) n cap hB ⟨by rw[hl];exact hn0,hpos,hge,xs',h1,h2,hfz⟩
 ·obtain⟨rfl,rfl,rfl⟩:=hone _ _ _ h
  exact hb.new _ _ _ b hm hbk
 ·obtain⟨_,_,h1⟩:=hi
  obtain⟨_,_,h2⟩:=hj
  rw[(hone _ _ _ h1).1,(hone _ _ _ h2).1]
 ·have hne:g'≠g:=fun e=>by subst e;exact hnf j hF
  exact World.cell?_of_block (hgr.block g' (hb.frz g' j hF) (fun e=>hne (Option.some.inj e)))
 ·refine hgr.block j hj fun e=>?_
  cases e
  rcases hfr with h|h
  ·exact absurd hj (Nat.not_lt.2 h)
  ·exact hno h
theorem H8{w:World}{args:List Value}{k:Nat}(hr:aB F w B [.row k] args):∃p n cap v,B k=some (.row p n cap)/\qx v p n cap/\args=[v]:=by
 cases hr with
 |cons _ v _ vs h hs =>
  cases hs
  cases h with
  |row _ p n cap h=>exact⟨p,n,cap,_,h,.inl rfl,rfl⟩
  |eu _ q h=>exact⟨none,0,0,_,h,.inr ⟨rfl,rfl,rfl,q,rfl⟩,rfl⟩
theorem A6{v:Value}(h:qx v none 0 0):∃q,v=.slice q 0 0:=by
 rcases h with rfl|⟨_,_,_,q,rfl⟩
 ·exact⟨none,rfl⟩
 ·exact⟨q,rfl⟩
theorem BJ{v:Value}{g n cap:Nat}(h:qx v (some g) n cap):v=.slice (some ⟨g,0,none⟩) n cap:=by
 rcases h with rfl|⟨h,_⟩
 ·rfl
 ·cases h
theorem AQ{w:World}{g t n cap:Nat}{l:Ls}(hown:dH w t 1 (some g) n cap (l.map encStr)):Holds encStr w g 0 l.toArray/\g<w.heap.size/\n=l.length/\n<=cap/\cap<=maxLen /\
  ∃cur fz,w.heap[g]? = some (.cells cur t fz)/\cur.size=cap/\cur.toList.take n=l.map encStr/\∀j,j<cur.size->¬(fz.1<=j/\j<fz.2):=by
 obtain⟨hlen,hc⟩:=hown
 rcases hc with⟨h,_⟩|⟨g',cur,fz,hp,hh,hfz,hnc,hcm,hsz,htk⟩
 ·cases h
 ·cases hp
  simp only[List.length_map,Nat.mul_one] at hlen htk hsz
  refine⟨fun j hj=>?_,(Array.getElem?_eq_some_iff.1 hh).1,hlen.symm,hnc,hcm,cur,fz,hh,hsz,htk,hfz⟩
  have hj':j<l.length:=by simpa using hj
  have hjc:j<cur.size:=by omega
  have h1:(l.map encStr)[j]? = some cur[j]:=by
   rw[<-htk,List.getElem?_take,if_pos (by omega),Array.getElem?_toList,Array.getElem?_eq_getElem hjc]
  rw[List.getElem?_map,List.getElem?_eq_getElem hj',Option.map_some,Option.some.injEq] at h1
  refine⟨?_,?_⟩
  ·simp only[World.cell?,hh,Nat.zero_add]
   rw[Array.getElem?_eq_getElem hjc,<-h1]
   simp[hj']
  ·have:=hfz j hjc
   simp only[World.frozen?,hh,Nat.zero_add]
   rw[Bool.and_eq_false_iff]
   by_cases hc:fz.1<=j
   ·right;simp;omega
   ·left;simpa using hc
theorem Bg{w:World}{g t cap n q:Nat}{os:Array Obj}{cur:Array Value}{fz:Nat×Nat}(ts:Ls)(hh:w.heap[g]? = some (.cells cur t fz))(hn:n=ts.length)(hnc:n<=cap)(hcm:cap<=maxLen)(hsz:cur.size=cap)(hfz:∀j,j<cur.size->¬(fz.1<=j/\j<fz.2)) :
  dH (grow (putRow encStr (Sort.ahead w q) g 0 ts.toArray) os) t 1 (some g) n cap (ts.map encStr):=by
 have h1:=heap_sorted (n:=q) (os:=os) ts.toArray hh
 refine⟨by simp[hn],.inr ⟨g,_,fz,rfl,h1,?_,hnc,hcm,?_,?_⟩⟩
 ·intro j hj
  exact hfz j (by simpa[putCells] using hj)
 ·simpa[putCells] using hsz
 ·rw[Nat.mul_one,hn]
  exact take_putCells cur ts (by omega)
theorem Hu{f et:Nat}{l:Ls}(hf:FOK P f)
  (hc:∀(blk off cap:Nat)(ss:Ls)(w:World),Holds encStr w blk off ss.toArray->blk<w.heap.size->ss.length<4611686018427387904 ->
   Calls P f #[.slice (some ⟨blk,off,none⟩) ss.length cap] w fun e w'=>e=.returned (.tuple #[])/\∃n os,w'=grow (putRow encStr (Sort.ahead w n) blk off (ss.mergeSort fun x y=>decide (x<=y)).toArray) os)
  (hn:∀(p:Option Addr)(cap:Nat)(w:World),Calls P f #[.slice p 0 cap] w fun e w'=>e=.returned (.tuple #[])/\w'=w)
  (hl:decide (l.length*17<=limit)=true):aZ P f [.row LIM] [(LIM,et,[.aP false (α:=Bs) [] encS l])] (.tup []) [(LIM,et,[.aP false (α:=Bs) [] encS (jT l)])]:=by
 refine⟨hf,fun F w1 B args hb hr=>?_⟩
 have hlim:l.length*17<=140737488355328:=of_decide_eq_true hl
 obtain⟨p,n,cap,v,hB,hv,rfl⟩:=H8 hr
 obtain⟨p',n',cap',hB',hn0,hpos,hge,xs,hxs,hown,hfz⟩:=hb.jX (M:=aN [(LIM,et,[D.aP false (α:=Bs) [] encS l])]) List.mem_cons_self
 rw[hB] at hB';cases hB'
 have hx:=yk hxs
 subst hx
 cases p with
 |none =>
  have h0:l=[]/\n=0/\cap=0:=by
   rcases hown.2 with⟨_,h1,h2⟩|⟨_,_,_,h,_⟩
   ·exact⟨List.eq_nil_of_length_eq_zero (by omega),h1,h2⟩
   ·cases h
  obtain⟨rfl,rfl,rfl⟩:=h0
  obtain⟨q,rfl⟩:=A6 hv
  refine(hn q 0 w1.w).mono ?_
  rintro e w' ⟨rfl,rfl⟩
  exact⟨_,F,B,rfl,.tup [] [] .nil,by simpa[jT] using hb⟩
 |some g =>
  obtain⟨hH,hg,rfl,hnc,hcm,cur,fz,hh,hsz,htk,hfz'⟩:=AQ hown
  obtain rfl:=BJ hv
  refine(hc g 0 cap l w1.w hH hg (by omega)).mono ?_
  rintro e w' ⟨rfl,q,os,rfl⟩
  have hlen:(jT l).length=l.length:=by simp[jT]
  exact⟨_,F,B,rfl,.tup [] [] .nil,hb.turned hB (grownBy_sorted _) ⟨_,Ab (jT l),Bg (jT l) hh hlen.symm hnc hcm hsz hfz'⟩ hlen⟩
theorem CO{f et:Nat}{l:Ls}(hf:FOK P f)
  (hc:∀(blk off cap:Nat)(zs:Ls)(w:World),Holds encStr w blk off zs.toArray->zs.length<=9223372036854775807->zs.length<=cap ->
   Calls P f #[.slice (some ⟨blk,off,none⟩) zs.length cap] w fun e w'=>e=.returned (.slice (some ⟨blk,off,none⟩) (Lib.compact zs).length cap)/\∃q,w'=putRow encStr (Sort.ahead w q) blk off (Lib.compact zs++List.replicate (zs.length-(Lib.compact zs).length) []).toArray)
  (hn:∀(a:Option Addr)(cap:Nat)(w:World),Calls P f #[.slice a 0 cap] w fun e w'=>e=.returned (.slice a 0 cap)/\w'=w)
  (hle:(Lib.compact l).length<=l.length)
  (hl:decide (l.length*17<=limit)=true):aZ P f [.row LIM] [(LIM,et,[.aP false (α:=Bs) [] encS l])] (.recs (α:=Bs) [] encS (Lib.compact l)) []:=by
 refine⟨hf,fun F w1 B args hb hr=>?_⟩
 have hlim:l.length*17<=140737488355328:=of_decide_eq_true hl
 obtain⟨p,n,cap,v,hB,hv,rfl⟩:=H8 hr
 have hm:aN [(LIM,et,[D.aP false (α:=Bs) [] encS l])] LIM et [.aP false (α:=Bs) [] encS l]:=List.mem_cons_self
 obtain⟨p',n',cap',hB',hn0,hpos,hge,xs,hxs,hown,hfz⟩:=hb.jX hm
 rw[hB] at hB';cases hB'
 have hx:=yk hxs
 subst hx
 cases p with
 |none =>
  have h0:l=[]/\n=0/\cap=0:=by
   rcases hown.2 with⟨_,h1,h2⟩|⟨_,_,_,h,_⟩
   ·exact⟨List.eq_nil_of_length_eq_zero (by omega),h1,h2⟩
   ·cases h
  obtain⟨rfl,rfl,rfl⟩:=h0
  obtain⟨q,rfl⟩:=A6 hv
  refine(hn q 0 w1.w).mono ?_
  rintro e w' ⟨rfl,rfl⟩
  exact⟨_,F,B,rfl,.dm _ _ q,hb.sub fun _ _ _ h=>by simp[aN] at h⟩
 |some g =>
  obtain⟨hH,hg,rfl,hnc,hcm,cur,fz,hh,hsz,htk,hfz'⟩:=AQ hown
  obtain rfl:=BJ hv
  refine(hc g 0 cap l w1.w hH (by omega) hnc).mono ?_
  rintro e w' ⟨rfl,q,rfl⟩
  let ts:=Lib.compact l++List.replicate (l.length-(Lib.compact l).length) []
  have hlen:ts.length=l.length:=by simp[ts];omega
  have hb2:Base F w1 B F (aN [(LIM,et,[.aP false (α:=Bs) [] encS ts])]) (grow (putRow encStr (Sort.ahead w1.w q) g 0 ts.toArray) #[]) :=
   hb.turned hB (grownBy_sorted _) ⟨_,Ab ts,Bg ts hh hlen.symm hnc hcm hsz hfz'⟩ hlen
  rw[grow_empty] at hb2
  obtain⟨F',hb3,hg3⟩:=hb2.yg (k:=LIM) (t:=et) (m:=false) List.mem_cons_self
  obtain⟨p3,n3,cap3,hB3,hrow3⟩:=hb3.jX (.inl ⟨rfl,rfl,rfl⟩)
  rw[hB] at hB3;cases hB3
  have hrep:=hrow3.recs (B:=B)
  exact⟨_,F',B,rfl,hrep.head (List.prefix_append _ _) hlen.symm,hb3.sub fun _ _ _ h=>by simp[aN] at h⟩
end
end Go.Proofs.YtefojkdckfidcaaGreatDoor.RX
namespace Go.Proofs.YtefojkdckfidcaaGreatDoor.RX
open Go.RowKit
section
variable {P:Program} {F:Fz} {w:World} {B:Env}
theorem RI{a:Bs}{args:List Value}(h:aB F w B [.str a] args):args=[.string ⟨a.toArray⟩]:=by
 cases h with
 |cons _ v _ vs h1 h2=>cases h2;cases h1;rfl
theorem AX{a b:Bs}{args:List Value}(h:aB F w B [.str a,.str b] args):args=[.string ⟨a.toArray⟩,.string ⟨b.toArray⟩]:=by
 cases h with
 |cons _ v _ vs h1 h2=>cases h1;rw[RI h2]
theorem Rq{a:Bs}{k:IntKind}{n:Int}{args:List Value}(h:aB F w B [.str a,.val (.int k n)] args):args=[.string ⟨a.toArray⟩,.int k n]:=by
 cases h with
 |cons _ v _ vs h1 h2 =>
  cases h1
  cases h2 with
  |cons _ v _ vs h3 h4=>cases h4;cases h3;rfl
theorem J6(l:Bs):(⟨l.toArray⟩:ByteArray).size=l.length:=List.size_toArray
theorem yI{f:Nat}{ds:List D}{r:D}(hf:FOK P f)(h:∀(F:Fz)(w:World)(args:List Value),Shp P w->aB F w NB ds args->Calls P f args.toArray w fun e w'=>∃v,e=.returned v/\(∀F' w'',Rep F' w'' NB r v)/\Below w.heap.size w w'):bg P f ds r :=
 ⟨hf,fun F w args hs _ hr=>(h F w args hs hr).mono fun _ _ ⟨v,he,hv,hb⟩=>⟨v,he,hv _ _,hb⟩⟩
theorem PD{g:Nat}(hg:g<P.low)(hs:∀w:World,w.ShapedOpen P->∃m,w.cell? ⟨g,0,none⟩=some (.int .i64 m))(h:Shp P w):∃m,w.cell? ⟨g,0,none⟩=some (.int .i64 m):=by
 obtain⟨w0,h0,_,h1⟩:=h
 obtain⟨m,hm⟩:=hs w0 h0
 exact⟨m,(World.cell?_of_block (h1 g hg)).trans hm⟩
theorem QA{g:Nat}(h:Nat.ble g P.globals.size=true):g<P.low:=by
 have:P.low=P.globals.size+5:=by simp[Program.low,begin]
 have:=Nat.le_of_ble_eq_true h
 omega
variable {f:Nat} {a b c:Bs}
theorem PI{g:Nat}(hf:FOK P f)(hg:g<P.low)(hs:∀w:World,w.ShapedOpen P->∃m,w.cell? ⟨g,0,none⟩=some (.int .i64 m))
  (hc:∀(s sep:ByteArray)(m:Int)(w:World),s.size<4294967281->w.cell? ⟨g,0,none⟩=some (.int .i64 m)->Calls P f #[.string s,.string sep] w fun e w'=>e=.returned (.tuple #[.string ⟨(Lib.cut s.data.toList sep.data.toList).1.toArray⟩,.string ⟨(Lib.cut s.data.toList sep.data.toList).2.1.toArray⟩,.bool (Lib.cut s.data.toList sep.data.toList).2.2])/\∃n,w'=w.drewN n)
  (ha:decide (a.length<4294967281)=true):bg P f [.str a,.str b] (.tup [.str (Lib.cut a b).1,.str (Lib.cut a b).2.1,.val (.bool (Lib.cut a b).2.2)]):=by
 refine yI hf fun F w args hsh hr=>?_
 rw[AX hr]
 obtain⟨m,hm⟩:=PD hg hs hsh
 refine(hc ⟨a.toArray⟩ ⟨b.toArray⟩ m w (by rw[J6];exact of_decide_eq_true ha) hm).mono ?_
 rintro e w' ⟨rfl,n,rfl⟩
 exact⟨_,rfl,fun F' w''=>.tup _ [.string ⟨(Lib.cut a b).1.toArray⟩,.string ⟨(Lib.cut a b).2.1.toArray⟩,.bool (Lib.cut a b).2.2] (.cons _ _ _ _ (.str _) (.cons _ _ _ _ (.str _) (.cons _ _ _ _ (.val _ rfl) .nil))),below_drewN (Below.refl _ _) n⟩
theorem Ek(hf:FOK P f)(hc:∀(s p:ByteArray)(w:World),Calls P f #[.string s,.string p] w fun e w'=>e=.returned (.bool (Lib.hasPrefix s.data.toList p.data.toList))/\w'=w):bg P f [.str a,.str b] (.val (.bool (Lib.hasPrefix a b))):=by
 refine yI hf fun F w args _ hr=>?_
 rw[AX hr]
 refine(hc ⟨a.toArray⟩ ⟨b.toArray⟩ w).mono ?_
 rintro e w' ⟨rfl,rfl⟩
 exact⟨_,rfl,fun F' w''=>.val _ rfl,Below.refl _ _⟩
theorem Eo{n:Int}(hf:FOK P f)(hc:∀(s:ByteArray)(c:Int)(w:World),Calls P f #[.string s,.int .u8 c] w fun e w'=>e=.returned (.int .i64 (Lib.indexByte s.data.toList c.toNat.toUInt8))/\w'=w):bg P f [.str a,.val (.int .u8 n)] (.val (.int .i64 (Lib.indexByte a n.toNat.toUInt8))):=by
 refine yI hf fun F w args _ hr=>?_
 rw[Rq hr]
 refine(hc ⟨a.toArray⟩ n w).mono ?_
 rintro e w' ⟨rfl,rfl⟩
 exact⟨_,rfl,fun F' w''=>.val _ rfl,Below.refl _ _⟩
theorem EA{x:UInt8}(hf:FOK P f)(hc:∀(s:ByteArray)(c:UInt8),c.toNat<128->∀w:World,Calls P f #[.string s,.string ⟨#[c]⟩] w fun e w'=>e=.returned (.string ⟨(Lib.trimLeftB s.data.toList c).toArray⟩)/\w'=w)(hx:x.toNat<128):bg P f [.str a,.str [x]] (.str (Lib.trimLeftB a x)):=by
 refine yI hf fun F w args _ hr=>?_
 rw[AX hr]
 refine(hc ⟨a.toArray⟩ x hx w).mono ?_
 rintro e w' ⟨rfl,rfl⟩
 exact⟨_,rfl,fun F' w''=>.str _,Below.refl _ _⟩
theorem BU{x:UInt8}(hf:FOK P f)(hc:∀(s:ByteArray)(c:UInt8),c.toNat<128->∀w:World,s.size<=9223372036854775807->Calls P f #[.string s,.string ⟨#[c]⟩] w fun e w'=>e=.returned (.string ⟨(Lib.trimRightB s.data.toList c).toArray⟩)/\w'=w)(hx:x.toNat<128)
  (ha:decide (a.length<4294967281)=true):bg P f [.str a,.str [x]] (.str (Lib.trimRightB a x)):=by
 refine yI hf fun F w args _ hr=>?_
 rw[AX hr]
 have:=of_decide_eq_true ha
 refine(hc ⟨a.toArray⟩ x hx w (by rw[J6];omega)).mono ?_
 rintro e w' ⟨rfl,rfl⟩
 exact⟨_,rfl,fun F' w''=>.str _,Below.refl _ _⟩
end
end Go.Proofs.YtefojkdckfidcaaGreatDoor.RX
namespace Go.Proofs
open Go.Shelf
def Tryz.lays190_ren:Go.Shelf.Ren:=⟨fun|190=>114|125=>131|258=>130|128=>149|129=>150|302=>140|303=>141|304=>142|305=>143|306=>144|307=>145|308=>146|309=>147|310=>148|333=>157|329=>158|330=>159|334=>160|335=>161|336=>162|344=>164|n=>n,fun|31=>23|9=>9|3=>3|46=>106|0=>0|51=>153|53=>167|4=>4|183=>159|182=>158|131=>163|5=>5|218=>171|222=>175|228=>177|229=>178|n=>n,fun|n=>n⟩
theorem Tryz.lays190:Go.Proofs.Lays.n190 Tryz.prog Tryz.lays190_ren:={
 mixed:=by kernel_rfl
 f125:=Tryz.func131.trans (congrArg some (by kernel_rfl))
 f128:=Tryz.func149.trans (congrArg some (by kernel_rfl))
 f129:=Tryz.func150.trans (congrArg some (by kernel_rfl))
 f190:=Tryz.func114.trans (congrArg some (by kernel_rfl))
 f258:=Tryz.func130.trans (congrArg some (by kernel_rfl))
 f302:=Tryz.func140.trans (congrArg some (by kernel_rfl))
 f303:=Tryz.func141.trans (congrArg some (by kernel_rfl))
 f304:=Tryz.func142.trans (congrArg some (by kernel_rfl))
 f305:=Tryz.func143.trans (congrArg some (by kernel_rfl))
 f306:=Tryz.func144.trans (congrArg some (by kernel_rfl))
 f307:=Tryz.func145.trans (congrArg some (by kernel_rfl))
 f308:=Tryz.func146.trans (congrArg some (by kernel_rfl))
 f309:=Tryz.func147.trans (congrArg some (by kernel_rfl))
 f310:=Tryz.func148.trans (congrArg some (by kernel_rfl))
 f329:=Tryz.func158.trans (congrArg some (by kernel_rfl))
 f330:=Tryz.func159.trans (congrArg some (by kernel_rfl))
 f333:=Tryz.func157.trans (congrArg some (by kernel_rfl))
 f334:=Tryz.func160.trans (congrArg some (by kernel_rfl))
 f335:=Tryz.func161.trans (congrArg some (by kernel_rfl))
 f336:=Tryz.func162.trans (congrArg some (by kernel_rfl))
 f344:=Tryz.func164.trans (congrArg some (by kernel_rfl))
 t0:=Tryz.underlying0
 a0:=Tryz.isAgg0
 z0:=Tryz.sizeOf0
 v0:=Tryz.zeroValue0
 t3:=Tryz.underlying3
 a3:=Tryz.isAgg3
 z3:=Tryz.sizeOf3
 v3:=Tryz.zeroValue3
 t4:=Tryz.underlying4
 a4:=Tryz.isAgg4
 z4:=Tryz.sizeOf4
 v4:=Tryz.zeroValue4
 t5:=Tryz.underlying5
 a5:=Tryz.isAgg5
 z5:=Tryz.sizeOf5
 v5:=Tryz.zeroValue5
 t9:=Tryz.underlying9
 a9:=Tryz.isAgg9
 z9:=Tryz.sizeOf9
 v9:=Tryz.zeroValue9
 t31:=Tryz.underlying23
 a31:=Tryz.isAgg23
 z31:=Tryz.sizeOf23
 v31:=Tryz.zeroValue23
 t46:=Tryz.underlying106
 a46:=Tryz.isAgg106
 z46:=Tryz.sizeOf106
 v46:=Tryz.zeroValue106
 t51:=Tryz.underlying153
 a51:=Tryz.isAgg153
 z51:=Tryz.sizeOf153
 v51:=Tryz.zeroValue153
 t53:=Tryz.underlying167
 a53:=Tryz.isAgg167
 z53:=Tryz.sizeOf167
 v53:=Tryz.zeroValue167
 t131:=Tryz.underlying163
 a131:=Tryz.isAgg163
 z131:=Tryz.sizeOf163
 v131:=Tryz.zeroValue163
 t182:=Tryz.underlying158
 a182:=Tryz.isAgg158
 z182:=Tryz.sizeOf158
 v182:=Tryz.zeroValue158
 t183:=Tryz.underlying159
 a183:=Tryz.isAgg159
 z183:=Tryz.sizeOf159
 v183:=Tryz.zeroValue159
 t218:=Tryz.underlying171
 a218:=Tryz.isAgg171
 z218:=Tryz.sizeOf171
 v218:=Tryz.zeroValue171
 t222:=Tryz.underlying175
 a222:=Tryz.isAgg175
 z222:=Tryz.sizeOf175
 v222:=Tryz.zeroValue175
 t228:=Tryz.underlying177
 a228:=Tryz.isAgg177
 z228:=Tryz.sizeOf177
 v228:=Tryz.zeroValue177
 t229:=Tryz.underlying178
 a229:=Tryz.isAgg178
 z229:=Tryz.sizeOf178
 v229:=Tryz.zeroValue178 }
open Go.Sort Go.RowKit in
theorem Tryz.slices_Sort_string(blk off cap:Nat)(ss:List (List UInt8))(w:World)(hH:Holds encStr w blk off ss.toArray)(hblk:blk<w.heap.size)(hsz:ss.length<4611686018427387904) :
  Calls Tryz.prog 114 #[.slice (some ⟨blk,off,none⟩) ss.length cap] w fun e w' =>
   e=.returned (.tuple #[])/\∃n os,w'=grow (putRow encStr (Sort.ahead w n) blk off (ss.mergeSort fun x y=>decide (x<=y)).toArray) os:=Any.slices_Sort_string Tryz.lays190 blk off cap ss w hH hblk hsz
open Go.RowKit Go.Sort in
theorem Tryz.slices_Sort_string_none(p:Option Addr)(cap:Nat)(w:World) :
  Calls Tryz.prog 114 #[.slice p 0 cap] w fun e w'=>e=.returned (.tuple #[])/\w'=w:=Any.slices_Sort_string_none Tryz.lays190 p cap w
def Tryz.lays194_ren:Go.Shelf.Ren:=⟨fun|194=>115|n=>n,fun|31=>23|9=>9|3=>3|4=>4|0=>0|n=>n,fun|n=>n⟩
theorem Tryz.lays194:Go.Proofs.Lays.n194 Tryz.prog Tryz.lays194_ren:={
 mixed:=by kernel_rfl
 f194:=Tryz.func115.trans (congrArg some (by kernel_rfl))
 t0:=Tryz.underlying0
 a0:=Tryz.isAgg0
 z0:=Tryz.sizeOf0
 v0:=Tryz.zeroValue0
 t3:=Tryz.underlying3
 a3:=Tryz.isAgg3
 z3:=Tryz.sizeOf3
 v3:=Tryz.zeroValue3
 t4:=Tryz.underlying4
 a4:=Tryz.isAgg4
 z4:=Tryz.sizeOf4
 v4:=Tryz.zeroValue4
 t9:=Tryz.underlying9
 a9:=Tryz.isAgg9
 z9:=Tryz.sizeOf9
 v9:=Tryz.zeroValue9
 t31:=Tryz.underlying23
 a31:=Tryz.isAgg23
 z31:=Tryz.sizeOf23
 v31:=Tryz.zeroValue23 }
open Go.RowKit Go.Lib Go.Sort in
theorem Tryz.slices_Compact_string(blk off cap:Nat)(zs:List (List UInt8))(w:World)(hH:Holds encStr w blk off zs.toArray)(hsz:zs.length<=9223372036854775807)(hcap:zs.length<=cap) :
  Calls Tryz.prog 115 #[.slice (some ⟨blk,off,none⟩) zs.length cap] w fun e w'=>e=.returned (.slice (some ⟨blk,off,none⟩) (Lib.compact zs).length cap)/\∃q,w'=putRow encStr (Sort.ahead w q) blk off (Lib.compact zs++List.replicate (zs.length-(Lib.compact zs).length) []).toArray:=Any.slices_Compact_string Tryz.lays194 blk off cap zs w hH hsz hcap
open Go.RowKit Go.Lib Go.Sort in
theorem Tryz.slices_Compact_string_empty(a:Option Addr)(cap:Nat)(w:World) :
  Calls Tryz.prog 115 #[.slice a 0 cap] w fun e w'=>e=.returned (.slice a 0 cap)/\w'=w:=Any.slices_Compact_string_empty Tryz.lays194 a cap w
def Tryz.G6:Go.Shelf.Ren:=⟨fun|153=>82|152=>106|226=>107|227=>69|228=>101|137=>66|119=>121|224=>122|225=>123|217=>100|266=>119|n=>n,fun|9=>9|3=>3|4=>4|5=>5|21=>21|117=>98|116=>97|0=>0|46=>106|124=>101|n=>n,fun|n=>n⟩
theorem Tryz.PU:Go.Proofs.Lays.n153 Tryz.prog Tryz.G6:={
 mixed:=by kernel_rfl
 f119:=Tryz.func121.trans (congrArg some (by kernel_rfl))
 f137:=Tryz.func66.trans (congrArg some (by kernel_rfl))
 f152:=Tryz.func106.trans (congrArg some (by kernel_rfl))
 f153:=Tryz.func82.trans (congrArg some (by kernel_rfl))
 f217:=Tryz.func100.trans (congrArg some (by kernel_rfl))
 f224:=Tryz.func122.trans (congrArg some (by kernel_rfl))
 f225:=Tryz.func123.trans (congrArg some (by kernel_rfl))
 f226:=Tryz.func107.trans (congrArg some (by kernel_rfl))
 f227:=Tryz.func69.trans (congrArg some (by kernel_rfl))
 f228:=Tryz.func101.trans (congrArg some (by kernel_rfl))
 f266:=Tryz.func119.trans (congrArg some (by kernel_rfl))
 t0:=Tryz.underlying0
 a0:=Tryz.isAgg0
 z0:=Tryz.sizeOf0
 v0:=Tryz.zeroValue0
 t3:=Tryz.underlying3
 a3:=Tryz.isAgg3
 z3:=Tryz.sizeOf3
 v3:=Tryz.zeroValue3
 t4:=Tryz.underlying4
 a4:=Tryz.isAgg4
 z4:=Tryz.sizeOf4
 v4:=Tryz.zeroValue4
 t5:=Tryz.underlying5
 a5:=Tryz.isAgg5
 z5:=Tryz.sizeOf5
 v5:=Tryz.zeroValue5
 t9:=Tryz.underlying9
 a9:=Tryz.isAgg9
 z9:=Tryz.sizeOf9
 v9:=Tryz.zeroValue9
 t21:=Tryz.underlying21
 a21:=Tryz.isAgg21
 z21:=Tryz.sizeOf21
 v21:=Tryz.zeroValue21
 t46:=Tryz.underlying106
 a46:=Tryz.isAgg106
 z46:=Tryz.sizeOf106
 v46:=Tryz.zeroValue106
 t116:=Tryz.underlying97
 a116:=Tryz.isAgg97
 z116:=Tryz.sizeOf97
 t117:=Tryz.underlying98
 a117:=Tryz.isAgg98
 z117:=Tryz.sizeOf98
 v117:=Tryz.zeroValue98
 t124:=Tryz.underlying101
 a124:=Tryz.isAgg101
 z124:=Tryz.sizeOf101
 v124:=Tryz.zeroValue101 }
open Go.RowKit Go.Lib in
theorem Tryz.strings_IndexAny_long(hv116:∀w,(zeroValue 97).run Tryz.prog w=.ok (.agg (Array.replicate 256 (.bool false))) w)(s chars:ByteArray)(w:World)(h2:2<=chars.size)(h8:8<s.size)(hs:s.size<4294967281)(hcs:chars.size<4294967281)(hascii:∀(j:Nat) b,chars.data.toList[j]? = some b->b.toNat<128) :
  Calls Tryz.prog 82 #[.string s,.string chars] w fun e w'=>e=.returned (.int .i64 (Lib.indexAny s.data.toList chars.data.toList))/\w'=((w.alloc (.cells (Lib.setCells chars.data.toList) 97)).alloc (.cells (Lib.setCells chars.data.toList) 97)):=Any.strings_IndexAny_long Tryz.PU hv116 (by kernel_rfl) s chars w h2 h8 hs hcs hascii
def Tryz.G5:Go.Shelf.Ren:=⟨fun|119=>121|n=>n,fun|21=>21|4=>4|n=>n,fun|n=>n⟩
theorem Tryz.P0:Go.Proofs.Lays.n119 Tryz.prog Tryz.G5:={
 mixed:=by kernel_rfl
 f119:=Tryz.func121.trans (congrArg some (by kernel_rfl))
 t4:=Tryz.underlying4
 a4:=Tryz.isAgg4
 z4:=Tryz.sizeOf4
 v4:=Tryz.zeroValue4
 t21:=Tryz.underlying21
 a21:=Tryz.isAgg21
 z21:=Tryz.sizeOf21
 v21:=Tryz.zeroValue21 }
theorem Tryz.utf8_ValidRune(r:Int)(w:World) :
  Calls Tryz.prog 121 #[.int .i32 r] w fun e w'=>e=.returned (.bool (Lib.validRune r))/\w'=w:=Any.utf8_ValidRune Tryz.P0 r w
def Tryz.GX:Go.Shelf.Ren:=⟨fun|152=>106|137=>66|119=>121|224=>122|225=>123|217=>100|266=>119|n=>n,fun|9=>9|21=>21|3=>3|4=>4|5=>5|0=>0|46=>106|n=>n,fun|n=>n⟩
theorem Tryz.P7:Go.Proofs.Lays.n152 Tryz.prog Tryz.GX:={
 mixed:=by kernel_rfl
 f119:=Tryz.func121.trans (congrArg some (by kernel_rfl))
 f137:=Tryz.func66.trans (congrArg some (by kernel_rfl))
 f152:=Tryz.func106.trans (congrArg some (by kernel_rfl))
 f217:=Tryz.func100.trans (congrArg some (by kernel_rfl))
 f224:=Tryz.func122.trans (congrArg some (by kernel_rfl))
 f225:=Tryz.func123.trans (congrArg some (by kernel_rfl))
 f266:=Tryz.func119.trans (congrArg some (by kernel_rfl))
 t0:=Tryz.underlying0
 a0:=Tryz.isAgg0
 z0:=Tryz.sizeOf0
 v0:=Tryz.zeroValue0
 t3:=Tryz.underlying3
 a3:=Tryz.isAgg3
 z3:=Tryz.sizeOf3
 v3:=Tryz.zeroValue3
 t4:=Tryz.underlying4
 a4:=Tryz.isAgg4
 z4:=Tryz.sizeOf4
 v4:=Tryz.zeroValue4
 t5:=Tryz.underlying5
 a5:=Tryz.isAgg5
 z5:=Tryz.sizeOf5
 v5:=Tryz.zeroValue5
 t9:=Tryz.underlying9
 a9:=Tryz.isAgg9
 z9:=Tryz.sizeOf9
 v9:=Tryz.zeroValue9
 t21:=Tryz.underlying21
 a21:=Tryz.isAgg21
 z21:=Tryz.sizeOf21
 v21:=Tryz.zeroValue21
 t46:=Tryz.underlying106
 a46:=Tryz.isAgg106
 z46:=Tryz.sizeOf106
 v46:=Tryz.zeroValue106 }
open Go.RowKit Go.Lib in
theorem Tryz.strings_IndexRune_ascii(s:ByteArray)(r:Int)(w:World)(h0:0<=r)(h1:r<128) :
  Calls Tryz.prog 106 #[.string s,.int .i32 r] w fun e w'=>e=.returned (.int .i64 (Lib.indexByte s.data.toList r.toNat.toUInt8))/\w'=w:=Any.strings_IndexRune_ascii Tryz.P7 s r w h0 h1
def Tryz.GL:Go.Shelf.Ren:=⟨fun|226=>107|n=>n,fun|3=>3|4=>4|n=>n,fun|n=>n⟩
theorem Tryz.OM:Go.Proofs.Lays.n226 Tryz.prog Tryz.GL:={
 mixed:=by kernel_rfl
 f226:=Tryz.func107.trans (congrArg some (by kernel_rfl))
 t3:=Tryz.underlying3
 a3:=Tryz.isAgg3
 z3:=Tryz.sizeOf3
 v3:=Tryz.zeroValue3
 t4:=Tryz.underlying4
 a4:=Tryz.isAgg4
 z4:=Tryz.sizeOf4
 v4:=Tryz.zeroValue4 }
open Go.RowKit Go.Lib in
theorem Tryz.strings_shouldUseASCIISet(n:Int)(w:World) :
  Calls Tryz.prog 107 #[.int .i64 n] w fun e w'=>e=.returned (.bool (decide (8<n)))/\w'=w:=Any.strings_shouldUseASCIISet Tryz.OM n w
def Tryz.yY:Go.Shelf.Ren:=⟨fun|150=>50|153=>82|152=>106|226=>107|227=>69|228=>101|137=>66|119=>121|224=>122|225=>123|217=>100|266=>119|n=>n,fun|9=>9|4=>4|3=>3|5=>5|21=>21|117=>98|116=>97|0=>0|46=>106|124=>101|n=>n,fun|n=>n⟩
theorem Tryz.OU:Go.Proofs.Lays.n150 Tryz.prog Tryz.yY:={
 mixed:=by kernel_rfl
 f119:=Tryz.func121.trans (congrArg some (by kernel_rfl))
 f137:=Tryz.func66.trans (congrArg some (by kernel_rfl))
 f150:=Tryz.func50.trans (congrArg some (by kernel_rfl))
 f152:=Tryz.func106.trans (congrArg some (by kernel_rfl))
 f153:=Tryz.func82.trans (congrArg some (by kernel_rfl))
 f217:=Tryz.func100.trans (congrArg some (by kernel_rfl))
 f224:=Tryz.func122.trans (congrArg some (by kernel_rfl))
 f225:=Tryz.func123.trans (congrArg some (by kernel_rfl))
 f226:=Tryz.func107.trans (congrArg some (by kernel_rfl))
 f227:=Tryz.func69.trans (congrArg some (by kernel_rfl))
 f228:=Tryz.func101.trans (congrArg some (by kernel_rfl))
 f266:=Tryz.func119.trans (congrArg some (by kernel_rfl))
 t0:=Tryz.underlying0
 a0:=Tryz.isAgg0
 z0:=Tryz.sizeOf0
 v0:=Tryz.zeroValue0
 t3:=Tryz.underlying3
 a3:=Tryz.isAgg3
 z3:=Tryz.sizeOf3
 v3:=Tryz.zeroValue3
 t4:=Tryz.underlying4
 a4:=Tryz.isAgg4
 z4:=Tryz.sizeOf4
 v4:=Tryz.zeroValue4
 t5:=Tryz.underlying5
 a5:=Tryz.isAgg5
 z5:=Tryz.sizeOf5
 v5:=Tryz.zeroValue5
 t9:=Tryz.underlying9
 a9:=Tryz.isAgg9
 z9:=Tryz.sizeOf9
 v9:=Tryz.zeroValue9
 t21:=Tryz.underlying21
 a21:=Tryz.isAgg21
 z21:=Tryz.sizeOf21
 v21:=Tryz.zeroValue21
 t46:=Tryz.underlying106
 a46:=Tryz.isAgg106
 z46:=Tryz.sizeOf106
 v46:=Tryz.zeroValue106
 t116:=Tryz.underlying97
 a116:=Tryz.isAgg97
 z116:=Tryz.sizeOf97
 t117:=Tryz.underlying98
 a117:=Tryz.isAgg98
 z117:=Tryz.sizeOf98
 v117:=Tryz.zeroValue98
 t124:=Tryz.underlying101
 a124:=Tryz.isAgg101
 z124:=Tryz.sizeOf101
 v124:=Tryz.zeroValue101 }
def Tryz.GQ:Go.Shelf.Ren:=⟨fun|161=>34|231=>68|227=>69|233=>70|235=>71|228=>101|197=>102|151=>103|260=>120|152=>106|137=>66|119=>121|224=>122|225=>123|217=>100|266=>119|n=>n,fun|9=>9|4=>4|3=>3|5=>5|117=>98|116=>97|0=>0|124=>101|105=>126|21=>21|119=>149|46=>106|139=>152|138=>151|n=>n,fun|3=>1|4=>2|n=>n⟩
theorem Tryz.Qb:Go.Proofs.Lays.n161 Tryz.prog Tryz.GQ:={
 mixed:=by kernel_rfl
 f119:=Tryz.func121.trans (congrArg some (by kernel_rfl))
 f137:=Tryz.func66.trans (congrArg some (by kernel_rfl))
 f151:=Tryz.func103.trans (congrArg some (by kernel_rfl))
 f152:=Tryz.func106.trans (congrArg some (by kernel_rfl))
 f161:=Tryz.func34.trans (congrArg some (by kernel_rfl))
 f197:=Tryz.func102.trans (congrArg some (by kernel_rfl))
 f217:=Tryz.func100.trans (congrArg some (by kernel_rfl))
 f224:=Tryz.func122.trans (congrArg some (by kernel_rfl))
 f225:=Tryz.func123.trans (congrArg some (by kernel_rfl))
 f227:=Tryz.func69.trans (congrArg some (by kernel_rfl))
 f228:=Tryz.func101.trans (congrArg some (by kernel_rfl))
 f231:=Tryz.func68.trans (congrArg some (by kernel_rfl))
 f233:=Tryz.func70.trans (congrArg some (by kernel_rfl))
 f235:=Tryz.func71.trans (congrArg some (by kernel_rfl))
 f260:=Tryz.func120.trans (congrArg some (by kernel_rfl))
 f266:=Tryz.func119.trans (congrArg some (by kernel_rfl))
 t0:=Tryz.underlying0
 a0:=Tryz.isAgg0
 z0:=Tryz.sizeOf0
 v0:=Tryz.zeroValue0
 t3:=Tryz.underlying3
 a3:=Tryz.isAgg3
 z3:=Tryz.sizeOf3
 v3:=Tryz.zeroValue3
 t4:=Tryz.underlying4
 a4:=Tryz.isAgg4
 z4:=Tryz.sizeOf4
 v4:=Tryz.zeroValue4
 t5:=Tryz.underlying5
 a5:=Tryz.isAgg5
 z5:=Tryz.sizeOf5
 v5:=Tryz.zeroValue5
 t9:=Tryz.underlying9
 a9:=Tryz.isAgg9
 z9:=Tryz.sizeOf9
 v9:=Tryz.zeroValue9
 t21:=Tryz.underlying21
 a21:=Tryz.isAgg21
 z21:=Tryz.sizeOf21
 v21:=Tryz.zeroValue21
 t46:=Tryz.underlying106
 a46:=Tryz.isAgg106
 z46:=Tryz.sizeOf106
 v46:=Tryz.zeroValue106
 t105:=Tryz.underlying126
 a105:=Tryz.isAgg126
 z105:=Tryz.sizeOf126
 v105:=Tryz.zeroValue126
 t116:=Tryz.underlying97
 a116:=Tryz.isAgg97
 z116:=Tryz.sizeOf97
 t117:=Tryz.underlying98
 a117:=Tryz.isAgg98
 z117:=Tryz.sizeOf98
 v117:=Tryz.zeroValue98
 t119:=Tryz.underlying149
 a119:=Tryz.isAgg149
 z119:=Tryz.sizeOf149
 t124:=Tryz.underlying101
 a124:=Tryz.isAgg101
 z124:=Tryz.sizeOf101
 v124:=Tryz.zeroValue101
 t138:=Tryz.underlying151
 a138:=Tryz.isAgg151
 z138:=Tryz.sizeOf151
 v138:=Tryz.zeroValue151
 t139:=Tryz.underlying152
 a139:=Tryz.isAgg152
 z139:=Tryz.sizeOf152
 v139:=Tryz.zeroValue152
 g3:=by kernel_rfl
 g4:=by kernel_rfl }
open Go.RowKit in
theorem Tryz.strings_TrimLeft_one(s:ByteArray)(c:UInt8)(hc:c.toNat<128)(w:World) :
  Calls Tryz.prog 34 #[.string s,.string ⟨#[c]⟩] w fun e w'=>e=.returned (.string ⟨(Lib.trimLeftB s.data.toList c).toArray⟩)/\w'=w:=Any.strings_TrimLeft_one Tryz.Qb s c hc w
def Tryz.JZ:Go.Shelf.Ren:=⟨fun|99=>39|206=>76|n=>n,fun|9=>9|4=>4|3=>3|n=>n,fun|n=>n⟩
theorem Tryz.QD:Go.Proofs.Lays.n99 Tryz.prog Tryz.JZ:={
 mixed:=by kernel_rfl
 f99:=Tryz.func39.trans (congrArg some (by kernel_rfl))
 f206:=Tryz.func76.trans (congrArg some (by kernel_rfl))
 t3:=Tryz.underlying3
 a3:=Tryz.isAgg3
 z3:=Tryz.sizeOf3
 v3:=Tryz.zeroValue3
 t4:=Tryz.underlying4
 a4:=Tryz.isAgg4
 z4:=Tryz.sizeOf4
 v4:=Tryz.zeroValue4
 t9:=Tryz.underlying9
 a9:=Tryz.isAgg9
 z9:=Tryz.sizeOf9
 v9:=Tryz.zeroValue9 }
open Go.RowKit Go.Lib in
theorem Tryz.strings_HasPrefix(s p:ByteArray)(w:World) :
  Calls Tryz.prog 39 #[.string s,.string p] w fun e w'=>e=.returned (.bool (Lib.hasPrefix s.data.toList p.data.toList))/\w'=w:=Any.strings_HasPrefix Tryz.QD s p w
def Tryz.GN:Go.Shelf.Ren:=⟨fun|145=>53|220=>85|219=>108|217=>100|225=>123|224=>122|267=>124|266=>119|314=>136|n=>n,fun|9=>9|4=>4|59=>80|3=>3|5=>5|46=>106|146=>154|51=>153|n=>n,fun|1=>0|n=>n⟩
theorem Tryz.Pv:Go.Proofs.Lays.n145 Tryz.prog Tryz.GN:={
 mixed:=by kernel_rfl
 f145:=Tryz.func53.trans (congrArg some (by kernel_rfl))
 f217:=Tryz.func100.trans (congrArg some (by kernel_rfl))
 f219:=Tryz.func108.trans (congrArg some (by kernel_rfl))
 f220:=Tryz.func85.trans (congrArg some (by kernel_rfl))
 f224:=Tryz.func122.trans (congrArg some (by kernel_rfl))
 f225:=Tryz.func123.trans (congrArg some (by kernel_rfl))
 f266:=Tryz.func119.trans (congrArg some (by kernel_rfl))
 f267:=Tryz.func124.trans (congrArg some (by kernel_rfl))
 f314:=Tryz.func136.trans (congrArg some (by kernel_rfl))
 t3:=Tryz.underlying3
 a3:=Tryz.isAgg3
 z3:=Tryz.sizeOf3
 v3:=Tryz.zeroValue3
 t4:=Tryz.underlying4
 a4:=Tryz.isAgg4
 z4:=Tryz.sizeOf4
 v4:=Tryz.zeroValue4
 t5:=Tryz.underlying5
 a5:=Tryz.isAgg5
 z5:=Tryz.sizeOf5
 v5:=Tryz.zeroValue5
 t9:=Tryz.underlying9
 a9:=Tryz.isAgg9
 z9:=Tryz.sizeOf9
 v9:=Tryz.zeroValue9
 t46:=Tryz.underlying106
 a46:=Tryz.isAgg106
 z46:=Tryz.sizeOf106
 v46:=Tryz.zeroValue106
 t51:=Tryz.underlying153
 a51:=Tryz.isAgg153
 z51:=Tryz.sizeOf153
 v51:=Tryz.zeroValue153
 t59:=Tryz.underlying80
 a59:=Tryz.isAgg80
 z59:=Tryz.sizeOf80
 v59:=Tryz.zeroValue80
 t146:=Tryz.underlying154
 a146:=Tryz.isAgg154
 z146:=Tryz.sizeOf154
 v146:=Tryz.zeroValue154
 g1:=by kernel_rfl }
open Go.RowKit Go.Lib in
theorem Tryz.strings_Cut(s sep:ByteArray)(m:Int)(w:World)(hs:s.size<4294967281)(hm:w.cell? ⟨0,0,none⟩=some (.int .i64 m)) :
  Calls Tryz.prog 53 #[.string s,.string sep] w fun e w'=>e=.returned (.tuple #[.string ⟨(Lib.cut s.data.toList sep.data.toList).1.toArray⟩,.string ⟨(Lib.cut s.data.toList sep.data.toList).2.1.toArray⟩,.bool (Lib.cut s.data.toList sep.data.toList).2.2])/\∃n,w'=w.drewN n:=Any.strings_Cut Tryz.Pv s sep m w hs hm
def Tryz.Gt:Go.Shelf.Ren:=⟨fun|145=>53|220=>85|219=>108|217=>100|225=>123|224=>122|267=>124|266=>119|314=>136|n=>n,fun|9=>9|4=>4|59=>80|3=>3|5=>5|46=>106|146=>154|51=>153|n=>n,fun|1=>0|n=>n⟩
theorem Tryz.NY:Go.Proofs.LaysM.n145 Tryz.prog Tryz.Gt:={
 mixed:=by kernel_rfl
 f145:=Tryz.func53.trans (congrArg some (by kernel_rfl))
 f217:=Tryz.func100.trans (congrArg some (by kernel_rfl))
 f219:=Tryz.func108.trans (congrArg some (by kernel_rfl))
 f220:=Tryz.func85.trans (congrArg some (by kernel_rfl))
 f224:=Tryz.func122.trans (congrArg some (by kernel_rfl))
 f225:=Tryz.func123.trans (congrArg some (by kernel_rfl))
 f266:=Tryz.func119.trans (congrArg some (by kernel_rfl))
 f267:=Tryz.func124.trans (congrArg some (by kernel_rfl))
 f314:=Tryz.func136.trans (congrArg some (by kernel_rfl))
 t3:=Tryz.underlying3
 a3:=Tryz.isAgg3
 z3:=Tryz.sizeOf3
 v3:=Tryz.zeroValue3
 t4:=Tryz.underlying4
 a4:=Tryz.isAgg4
 z4:=Tryz.sizeOf4
 v4:=Tryz.zeroValue4
 t5:=Tryz.underlying5
 a5:=Tryz.isAgg5
 z5:=Tryz.sizeOf5
 v5:=Tryz.zeroValue5
 t9:=Tryz.underlying9
 a9:=Tryz.isAgg9
 z9:=Tryz.sizeOf9
 v9:=Tryz.zeroValue9
 t46:=Tryz.underlying106
 a46:=Tryz.isAgg106
 z46:=Tryz.sizeOf106
 v46:=Tryz.zeroValue106
 t51:=Tryz.underlying153
 a51:=Tryz.isAgg153
 z51:=Tryz.sizeOf153
 v51:=Tryz.zeroValue153
 t59:=Tryz.underlying80
 a59:=Tryz.isAgg80
 z59:=Tryz.sizeOf80
 v59:=Tryz.zeroValue80
 t146:=Tryz.underlying154
 a146:=Tryz.isAgg154
 z146:=Tryz.sizeOf154
 v146:=Tryz.zeroValue154
 g1:=by kernel_rfl
 i3:=by kernel_rfl
 i4:=by kernel_rfl
 i5:=by kernel_rfl
 i9:=by kernel_rfl
 i46:=by kernel_rfl
 i51:=by kernel_rfl
 i59:=by kernel_rfl
 i146:=by kernel_rfl
 m1:=by kernel_rfl
 s1_3:=fun w h=>Go.Proofs.cell_of_shapedOpen_int (zero:=#[.int .i64 0]) (t:=3) h (of_decide_eq_true (by kernel_rfl)) (by kernel_rfl) rfl (by kernel_rfl) (by kernel_rfl) Tryz.underlying3 }
def Tryz.lays137_ren:Go.Shelf.Ren:=⟨fun|137=>66|217=>100|266=>119|n=>n,fun|9=>9|5=>5|3=>3|n=>n,fun|n=>n⟩
theorem Tryz.lays137:Go.Proofs.Lays.n137 Tryz.prog Tryz.lays137_ren:={
 mixed:=by kernel_rfl
 f137:=Tryz.func66.trans (congrArg some (by kernel_rfl))
 f217:=Tryz.func100.trans (congrArg some (by kernel_rfl))
 f266:=Tryz.func119.trans (congrArg some (by kernel_rfl))
 t3:=Tryz.underlying3
 a3:=Tryz.isAgg3
 z3:=Tryz.sizeOf3
 v3:=Tryz.zeroValue3
 t5:=Tryz.underlying5
 a5:=Tryz.isAgg5
 z5:=Tryz.sizeOf5
 v5:=Tryz.zeroValue5
 t9:=Tryz.underlying9
 a9:=Tryz.isAgg9
 z9:=Tryz.sizeOf9
 v9:=Tryz.zeroValue9 }
open Go.RowKit in
theorem Tryz.strings_IndexByte(s:ByteArray)(c:Int)(w:World) :
  Calls Tryz.prog 66 #[.string s,.int .u8 c] w fun e w'=>e=.returned (.int .i64 (Lib.indexByte s.data.toList c.toNat.toUInt8))/\w'=w:=Any.strings_IndexByte Tryz.lays137 s c w
def Tryz.GV:Go.Shelf.Ren:=⟨fun|162=>139|232=>154|227=>69|234=>155|236=>156|228=>101|271=>163|151=>103|120=>165|197=>102|152=>106|260=>120|137=>66|119=>121|224=>122|225=>123|217=>100|266=>119|n=>n,fun|9=>9|4=>4|3=>3|5=>5|117=>98|116=>97|0=>0|124=>101|21=>21|105=>126|46=>106|119=>149|139=>152|138=>151|n=>n,fun|3=>1|4=>2|n=>n⟩
theorem Tryz.OL:Go.Proofs.Lays.n162 Tryz.prog Tryz.GV:={
 mixed:=by kernel_rfl
 f119:=Tryz.func121.trans (congrArg some (by kernel_rfl))
 f120:=Tryz.func165.trans (congrArg some (by kernel_rfl))
 f137:=Tryz.func66.trans (congrArg some (by kernel_rfl))
 f151:=Tryz.func103.trans (congrArg some (by kernel_rfl))
 f152:=Tryz.func106.trans (congrArg some (by kernel_rfl))
 f162:=Tryz.func139.trans (congrArg some (by kernel_rfl))
 f197:=Tryz.func102.trans (congrArg some (by kernel_rfl))
 f217:=Tryz.func100.trans (congrArg some (by kernel_rfl))
 f224:=Tryz.func122.trans (congrArg some (by kernel_rfl))
 f225:=Tryz.func123.trans (congrArg some (by kernel_rfl))
 f227:=Tryz.func69.trans (congrArg some (by kernel_rfl))
 f228:=Tryz.func101.trans (congrArg some (by kernel_rfl))
 f232:=Tryz.func154.trans (congrArg some (by kernel_rfl))
 f234:=Tryz.func155.trans (congrArg some (by kernel_rfl))
 f236:=Tryz.func156.trans (congrArg some (by kernel_rfl))
 f260:=Tryz.func120.trans (congrArg some (by kernel_rfl))
 f266:=Tryz.func119.trans (congrArg some (by kernel_rfl))
 f271:=Tryz.func163.trans (congrArg some (by kernel_rfl))
 t0:=Tryz.underlying0
 a0:=Tryz.isAgg0
 z0:=Tryz.sizeOf0
 v0:=Tryz.zeroValue0
 t3:=Tryz.underlying3
 a3:=Tryz.isAgg3
 z3:=Tryz.sizeOf3
 v3:=Tryz.zeroValue3
 t4:=Tryz.underlying4
 a4:=Tryz.isAgg4
 z4:=Tryz.sizeOf4
 v4:=Tryz.zeroValue4
 t5:=Tryz.underlying5
 a5:=Tryz.isAgg5
 z5:=Tryz.sizeOf5
 v5:=Tryz.zeroValue5
 t9:=Tryz.underlying9
 a9:=Tryz.isAgg9
 z9:=Tryz.sizeOf9
 v9:=Tryz.zeroValue9
 t21:=Tryz.underlying21
 a21:=Tryz.isAgg21
 z21:=Tryz.sizeOf21
 v21:=Tryz.zeroValue21
 t46:=Tryz.underlying106
 a46:=Tryz.isAgg106
 z46:=Tryz.sizeOf106
 v46:=Tryz.zeroValue106
 t105:=Tryz.underlying126
 a105:=Tryz.isAgg126
 z105:=Tryz.sizeOf126
 v105:=Tryz.zeroValue126
 t116:=Tryz.underlying97
 a116:=Tryz.isAgg97
 z116:=Tryz.sizeOf97
 t117:=Tryz.underlying98
 a117:=Tryz.isAgg98
 z117:=Tryz.sizeOf98
 v117:=Tryz.zeroValue98
 t119:=Tryz.underlying149
 a119:=Tryz.isAgg149
 z119:=Tryz.sizeOf149
 t124:=Tryz.underlying101
 a124:=Tryz.isAgg101
 z124:=Tryz.sizeOf101
 v124:=Tryz.zeroValue101
 t138:=Tryz.underlying151
 a138:=Tryz.isAgg151
 z138:=Tryz.sizeOf151
 v138:=Tryz.zeroValue151
 t139:=Tryz.underlying152
 a139:=Tryz.isAgg152
 z139:=Tryz.sizeOf152
 v139:=Tryz.zeroValue152
 g3:=by kernel_rfl
 g4:=by kernel_rfl }
open Go.RowKit in
theorem Tryz.strings_TrimRight_one(s:ByteArray)(c:UInt8)(hc:c.toNat<128)(w:World)(hs:s.size<=9223372036854775807) :
  Calls Tryz.prog 139 #[.string s,.string ⟨#[c]⟩] w fun e w'=>e=.returned (.string ⟨(Lib.trimRightB s.data.toList c).toArray⟩)/\w'=w:=Any.strings_TrimRight_one Tryz.OL s c hc w hs
end Go.Proofs
namespace Go.Proofs.YtefojkdckfidcaaGreatDoor.M.Sh
open Go.RowKit Go.Proofs.YtefojkdckfidcaaGreatDoor.RX
abbrev sort:=jT
theorem Pn{l:List (List UInt8)}(h:decide (List.length l*17<=limit)=true):aZ Tryz.prog 114 [.row 1000000] [(1000000,9,[.aP false (α:=List UInt8) [] RX.encS l])] (.tup []) [(1000000,9,[.aP false (α:=List UInt8) [] RX.encS (sort l)])]:=Hu ⟨Tryz.f114,by kernel_rfl,by kernel_rfl,by kernel_rfl⟩ Tryz.slices_Sort_string Tryz.slices_Sort_string_none h
theorem JF{l:List (List UInt8)}(h:decide (List.length l*17<=limit)=true):aZ Tryz.prog 115 [.row 1000000] [(1000000,9,[.aP false (α:=List UInt8) [] RX.encS l])] (.recs (α:=List UInt8) [] RX.encS (Lib.compact l)) []:=CO ⟨Tryz.f115,by kernel_rfl,by kernel_rfl,by kernel_rfl⟩ Tryz.slices_Compact_string Tryz.slices_Compact_string_empty (Lib.compact_length_le l) h
theorem uN{a:List UInt8}{x:UInt8}(hx:x.toNat<128):bg Tryz.prog 34 [.str a,.str [x]] (.str (Lib.trimLeftB a x)):=EA ⟨Tryz.f34,by kernel_rfl,by kernel_rfl,by kernel_rfl⟩ Tryz.strings_TrimLeft_one hx
theorem G7{a b:List UInt8}:bg Tryz.prog 39 [.str a,.str b] (.val (.bool (Lib.hasPrefix a b))):=Ek ⟨Tryz.f39,by kernel_rfl,by kernel_rfl,by kernel_rfl⟩ Tryz.strings_HasPrefix
theorem RQ{a b:List UInt8}(h:decide (List.length a<4294967281)=true):bg Tryz.prog 53 [.str a,.str b] (.tup [.str (Lib.cut a b).1,.str (Lib.cut a b).2.1,.val (.bool (Lib.cut a b).2.2)]):=PI (g:=0) ⟨Tryz.f53,by kernel_rfl,by kernel_rfl,by kernel_rfl⟩ (QA (by kernel_rfl)) Tryz.NY.s1_3 Tryz.strings_Cut h
theorem lN{a:List UInt8}{n:Int}:bg Tryz.prog 66 [.str a,.val (.int .u8 n)] (.val (.int .i64 (Lib.indexByte a (Int.toNat n).toUInt8))):=Eo ⟨Tryz.f66,by kernel_rfl,by kernel_rfl,by kernel_rfl⟩ Tryz.strings_IndexByte
theorem EC{a:List UInt8}{x:UInt8}(hx:x.toNat<128)(h:decide (List.length a<4294967281)=true):bg Tryz.prog 139 [.str a,.str [x]] (.str (Lib.trimRightB a x)):=BU ⟨Tryz.f139,by kernel_rfl,by kernel_rfl,by kernel_rfl⟩ Tryz.strings_TrimRight_one hx h
end Go.Proofs.YtefojkdckfidcaaGreatDoor.M.Sh
