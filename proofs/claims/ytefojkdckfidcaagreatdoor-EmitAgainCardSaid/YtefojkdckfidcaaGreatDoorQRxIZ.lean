import Derived.Test.YtefojkdckfidcaaGreatDoorQRxGoto
import Derived.Test.YtefojkdckfidcaaGreatDoorQRxAnyB
import Derived.Sort.OwnSorted
import Derived.Shelf.Vars
import Derived.Shelf.Slices.CompactS
import Derived.Shelf.Spec.SlicesGrow
import Derived.WalkSmall
import Derived.Lib.Bytealg
import Derived.Lib.IndexMore
import Derived.Lib.SplitLaws
import Derived.Lib.Join
import Derived.Lib.Repeat
import Derived.Lib.Replace
import Derived.Lib.TrimByte
import Derived.Lib.RowBridge
import Derived.Shelf.Strings.Builder1
import Derived.Shelf.Strings.Trim
import Derived.Shelf.Small.Utf8
import Derived.Shelf.Small.Bits
import Derived.Shelf.Small.Strs
import Derived.Shelf.Strings.BuilderF
import Derived.Shelf.Strings.BuilderK
import Derived.Shelf.Strconv.Itoa0
import Derived.Shelf.Strings.Search1
import Derived.Shelf.Strings.Search2
import Derived.Shelf.Strings.Cut
import Derived.Shelf.LaysM
import Derived.Shelf.Strings.Shaped
import Derived.Shelf.Sort.Plain
import Derived.Shelf.Strings.Prefix
import Derived.Shelf.Unicode.Decode
import Derived.Shelf.Strings.Runes
import Derived.Shelf.Strings.IndexAny
import Derived.Shelf.Strings.AsciiSet
import Derived.Shelf.Strings.IndexAnyAll
import Derived.Shelf.Unicode.DecodeSlow
import Derived.Shelf.Unicode.DecodeAny
import Derived.Shelf.Unicode.DecodeLast
import Derived.Shelf.Strings.BuilderCap
import Derived.Shelf.Slices.Turned
import Derived.Shelf.Slices.Cells
import Derived.Shelf.Slices.In.SortNone
import Derived.Test.YtefojkdckfidcaaGreatDoorProg
set_option linter.all false
namespace Go.Proofs.YtefojkdckfidcaaGreatDoor.RX
open Go.RowKit
def QI(P:Program){σ:Type}(I:σ->Fz->(Nat->Prop)->World->Prop)(Ie:Fz->(Nat->Prop)->World->Prop)(S:σ->ay)(X:Nat->Prop)(Fx:Fz)(W:World)(env:Nat->Option Ref):Exit->Act->World->Prop
 |.normal,_,w=>∃(s:σ)(F1:Fz)(w1:Pt P)(B:Env)(F:Fz),Base F1 w1 B F (aM (Lup (S s))) w/\AtI (I s) X Fx W F1 w1/\w1.env=env
 |.ret,_,w=>∃(L:ay)(F1:Fz)(w1:Pt P)(B:Env)(F:Fz),Base F1 w1 B F (aM L) w/\vA L=true/\AtI Ie X Fx W F1 w1
 |_,_,_=>False
section
variable {P:Program} {Γ:Nat->Option TI} {nt:Nat} {F0:Fz} {w0:Pt P} {K:List (Nat×D)} {L:ay} {Q:Exit->Act->World->Prop}
theorem Wp.JH{α σ:Type}{t:Nat}{ps:Array Tmp}{assign body:Code}{gf:Nat}{lds:List D}{encs:α->List D}{xs:List α}(ks:List Nat)(S:σ->ay)(I:List α->σ->Fz->(Nat->Prop)->World->Prop)(Ie:Fz->(Nat->Prop)->World->Prop)(Kb K':List (Nat×D))(kb k1:List Nat)(s0:σ)(K2:α->σ->List (Nat×D)){X:Nat->Prop}{Fx:Fz}{W:World}
  (hsI:∀r s,jb P (fun(_:Unit)=>I r s)) (hsE:jb P (fun(_:Unit)=>Ie)) (hro:w0.rnd=none) (hg:K.lookup t=some (.fn gf lds)) (hlds:D.cH lds=true) (hseq:wK P gf lds encs xs)
  (hat:AtI (I xs s0) X Fx W F0 w0) (hL:L=S s0) (hS:∀s,tW (S s)=true) (hSk:∀s,(S s).map (·.1)=ks)
  (hps:∀x,(encs x).length=ps.toList.length) (hnd:ps.toList.Nodup) (hpt:∀p∈ps.toList,p<nt) (hne:∀x,D.cH (encs x)=true)
  (hKb:lH K kb=some Kb) (hKb2:(Kb.all fun x=>!(ps.toList.contains x.1)&&N3 ks x.2)=true) (hK':lH K k1=some K') (hK2:(K'.all fun x=>N3 ks x.2)=true)
  (hass:∀x s (F':Fz) (w1:Pt P),Wp P nt F' w1 (Kb.map upK++ps.toList.zip (encs x)) (Lup (S s)) assign (yH nt F' w1 (K2 x s) (Lup (S s))))
  (hbody:∀x r s (F':Fz) (w1:Pt P) (X:Nat->Prop) (W:World),AtI (I (x::r) s) X F' W F' w1->Wp P nt F' w1 (K2 x s) (Lup (S s)) body (QI P (I r) Ie S X F' W w1.env))
  (hn:∀s F1 (w1:Pt P) X' W',w1.rnd=none->AtI (I [] s) X' F1 W' F1 w1->To nt F1 w1 K' (S s) .normal Q)
  (hx:∀F1 (w1:Pt P) X' W',w1.rnd=none->AtI Ie X' F1 W' F1 w1->Wp P nt F1 w1 [] [] .ret Q) :
  Wp P nt F0 w0 K L (.rangeFunc (.tmp t) ps assign body) Q:=by
 subst hL
 rintro a w ⟨B,F,hb,hd,hs,hK⟩
 rw[hro]
 have hat0:=hat.mid (hsI xs s0) hb (sr (hS s0))
 obtain⟨v,hv,hrv⟩:=hK _ (aD hg)
 obtain⟨lb,hlb,rfl⟩:∃lb,aB F w B lds lb/\v=.func (.func gf) #[] lb.toArray:=by
  cases hrv with
  |fn f ds vs h=>exact⟨vs,h,rfl⟩
 have hB0:∀k∈ks,∃b,B k=some b:=fun k hk=>by
  obtain⟨t,ds,hm⟩:=zj ((hSk s0).symm▸hk)
  obtain⟨b,hb'⟩:=(hb.boxes _ _ _ hm).some (wI (hS s0) hm).1
  exact⟨_,hb'⟩
 refine wpIn_rangeFunc fun fn hfn=>?_
 obtain⟨rec,hrec⟩:∃rec:LoopState->Option Code->Loop,rec=fun st pe=>{ state:=st,pending:=pe,fn,tmps:=a.tmps,params:=ps,assign,body,defers:=w.heap.size }:=⟨_,rfl⟩
 obtain⟨W1,hW1⟩:∃W1,(w.alloc (.deferred (some []))).alloc (.loop (rec .ready none))=W1:=⟨_,rfl⟩
 have hL1:W1.heap[w.heap.size+1]? = some (.loop (rec .ready none)):=by
  rw[<-hW1];have:=World.alloc_heap_new (w.alloc (.deferred (some []))) (.loop (rec .ready none));rwa[World.size_alloc] at this
 have hD1:W1.heap[w.heap.size]? = some (.deferred (some [])):=by
  rw[<-hW1];exact(Below.heap_alloc _ _ _ (by simp)).trans (World.alloc_heap_new w _)
 have hbel:Below w.heap.size w W1:=by rw[<-hW1];exact xY _ _ _
 have hlow:P.low<=w.heap.size:=by obtain⟨_,_,h,_⟩:=hb.shp;exact h
 have hlt:∀{W:World}{r:Nat}{o:Obj},W.heap[r]? = some o->r<W.heap.size:=fun h=>(Array.getElem?_eq_some_iff.1 h).1
 have hXlt:∀b,X b->b<w.heap.size:=fun b h=>hat0.lt b (.inr h)
 have hBlt:∀b,Blk B ks b->b<w.heap.size:=fun b h=>hat0.lt b (.inl (by rw[<-qd (hSk s0)] at h;exact h))
 have hBX:∀b,X b->¬Blk B ks b:=fun b h h2=>hat0.dis b h (by rw[<-qd (hSk s0)] at h2;exact h2)
 let Rc:Nat->Prop:=fun b=>b=w.heap.size\/b=w.heap.size+1\/X b
 let AS:(Nat->Prop)->Nat->Prop:=fun U b=>Blk B ks b\/(Rc b\/U b)
 let N0:(Nat->Prop)->Prop:=fun U=>∀b,U b->w.heap.size+2<=b
 let FO:Fz->Prop:=fun F'=>∀g k,F' g k->¬Blk B ks g/\¬Rc g
 let FO2:Fz->Prop:=fun F'=>∀g k,F' g k->¬Rc g
 let XK:World->Prop:=fun W=>(∀b,X b->W.heap[b]? = w.heap[b]?)/\W.heap[w.heap.size]? = some (.deferred (some []))
 let GW:Fz->World->Prop:=fun F' W=>Grow F F' w W/\(∀g k,F' g k->g<W.heap.size)/\Shp P W
 let J:List α->Fz->(Nat->Prop)->World->Prop:=fun r F' U W=>N0 U/\FO F'/\XK W/\GW F' W/\W.heap[w.heap.size+1]? = some (.loop (rec .ready none))/\∃s B',I r s F' (AS U) W/\LB (nL B ks) B' F' (Lup (S s)) W
 let Jx:Fz->(Nat->Prop)->World->Prop:=fun F' U W=>N0 U/\FO2 F'/\XK W/\GW F' W/\W.heap[w.heap.size+1]? = some (.loop (rec .done (some .ret)))/\Ie F' (fun b=>Rc b\/U b) W
 have hZ:∀{U:Nat->Prop}{W:World},N0 U->w.heap.size+1<W.heap.size->∀b,(Blk B ks b\/Rc b)->b<W.heap.size/\¬U b:=fun hU hsz b hb'=>by
  have h1:b<w.heap.size+2:=by
   rcases hb' with h|h|h|h
   ·have:=hBlt b h;omega
   ·omega
   ·omega
   ·have:=hXlt b h;omega
  exact⟨by omega,fun hu=>by have:=hU b hu;omega⟩
 have lift:∀{U U':Nat->Prop}{F' F'':Fz}{W W':World},N0 U->FO F'->w.heap.size+1<W.heap.size->iY P F' U W F'' U' W'->iY P F' (AS U) W F'' (AS U') W':=fun hU hF hsz ht =>
  ht.lift (Z:=fun b=>Blk B ks b\/Rc b) (fun b h=>.inr (.inr h)) (fun b h=>h.elim (fun h=>.inl (.inl h)) fun h=>h.elim (fun h=>.inl (.inr h)) .inr) (fun b h=>h.elim .inl fun h=>.inr (.inl h)) (hZ hU hsz) (fun g k h hz=>hz.elim (hF g k h).1 (hF g k h).2)
 have stN:∀{U U':Nat->Prop}{F' F'':Fz}{W W':World},N0 U->w.heap.size+1<W.heap.size->iY P F' U W F'' U' W'->N0 U':=fun hU hsz ht b hb'=>by
  rcases ht.own b hb' with h|h
  ·exact hU b h
  ·omega
 have stF:∀{U U':Nat->Prop}{F' F'':Fz}{W W':World},N0 U->FO F'->w.heap.size+1<W.heap.size->iY P F' U W F'' U' W'->FO F'':=fun {U U' F' F'' W W'} hU hF hsz ht g k hg=>by
  have key:∀b,(Blk B ks b\/Rc b)->¬F'' b k\/b≠g:=fun b hz=>by
   by_cases e:b=g
   ·subst e
    refine .inl fun hg=>?_
    rcases ht.more b k hg with h|h|h
    ·exact hz.elim (hF b k h).1 (hF b k h).2
    ·have:=(hZ hU hsz b hz).1;omega
    ·exact(hZ hU hsz b hz).2 h
   ·exact .inr e
  exact⟨fun h=>(key g (.inl h)).elim (fun h=>h hg) (fun h=>h rfl),fun h=>(key g (.inr h)).elim (fun h=>h hg) (fun h=>h rfl)⟩
 have lift2:∀{U U':Nat->Prop}{F' F'':Fz}{W W':World},N0 U->FO2 F'->w.heap.size+1<W.heap.size->iY P F' U W F'' U' W'->iY P F' (fun b=>Rc b\/U b) W F'' (fun b=>Rc b\/U' b) W':=fun hU hF hsz ht =>
  ht.lift (Z:=Rc) (fun b h=>.inr h) (fun b h=>h) (fun b h=>.inl h) (fun b h=>hZ hU hsz b (.inr h)) hF
 have stF2:∀{U U':Nat->Prop}{F' F'':Fz}{W W':World},N0 U->FO2 F'->w.heap.size+1<W.heap.size->iY P F' U W F'' U' W'->FO2 F'':=fun hU hF hsz ht g k hg hz=>by
  rcases ht.more g k hg with h|h|h
  ·exact hF g k h hz
  ·have:=(hZ hU hsz g (.inr hz)).1;omega
  ·exact(hZ hU hsz g (.inr hz)).2 h
 have stX:∀{U U':Nat->Prop}{F' F'':Fz}{W W':World},N0 U->XK W->w.heap.size+1<W.heap.size->iY P F' U W F'' U' W'->XK W':=fun hU hX hsz ht=>by
  refine⟨fun b hb'=>(ht.below.block b (hZ hU hsz b (.inr (.inr (.inr hb')))).1 (hZ hU hsz b (.inr (.inr (.inr hb')))).2).trans (hX.1 b hb'),(ht.below.block _ (hZ hU hsz _ (.inr (.inl rfl))).1 (hZ hU hsz _ (.inr (.inl rfl))).2).trans hX.2⟩
 have stG:∀{U U':Nat->Prop}{F' F'':Fz}{W W':World},GW F' W->iY P F' U W F'' U' W'->GW F'' W':=fun hG ht=>⟨hG.1.trans ht.grow,ht.frz,ht.shp⟩
 have stL:∀{U U':Nat->Prop}{F' F'':Fz}{W W':World}{o:Obj},N0 U->W.heap[w.heap.size+1]? = some o->iY P F' U W F'' U' W'->W'.heap[w.heap.size+1]? = some o:=fun hU h ht =>
  (ht.below.block _ (hlt h) (hZ hU (hlt h) _ (.inr (.inr (.inl rfl)))).2).trans h
 have ownS:∀(B':Env)(s:σ),(∀k b,nL B ks k=some b->B' k=some b)->OwnB B' (Lup (S s))=Blk B ks:=fun B' s he=>J5 he rfl (hSk s) hB0
 have hStJ:jb P J:=fun r F' U W F'' U' W' ⟨h1,h2,h3,hG,h4,s,B',h5,h6⟩ ht =>
  ⟨stN h1 (hlt h4) ht,stF h1 h2 (hlt h4) ht,stX h1 h3 (hlt h4) ht,stG hG ht,stL h1 h4 ht,s,B',hsI r s () _ _ _ _ _ _ h5 (lift h1 h2 (hlt h4) ht),h6.turn (fun b hb'=>(hZ h1 (hlt h4) b (.inl (by rw[<-ownS B' s h6.env];exact hb'))).2) ht⟩
 have hStX:jb P (fun(_:Unit)=>Jx):=fun _ F' U W F'' U' W' ⟨h1,h2,h3,hG,h4,h5⟩ ht =>
  ⟨stN h1 (hlt h4) ht,stF2 h1 h2 (hlt h4) ht,stX h1 h3 (hlt h4) ht,stG hG ht,stL h1 h4 ht,hsE () _ _ _ _ _ _ h5 (lift2 h1 h2 (hlt h4) ht)⟩
 have hF0:∀g k,F g k->g<w.heap.size/\¬(OwnB B (S s0) g\/X g):=hat0.frz
 have hFO0:FO F:=fun g k h=>by
  obtain⟨h1,h2⟩:=hF0 g k h
  refine⟨fun h3=>h2 (.inl (by rw[qd (hSk s0)];exact h3)),fun h3=>?_⟩
  rcases h3 with h3|h3|h3
  ·omega
  ·omega
  ·exact h2 (.inr h3)
 have hshp1:Shp P W1:=by
  obtain⟨q,q1,q2,q3⟩:=hb.shp
  exact⟨q,q1,Nat.le_trans q2 hbel.size,fun k hk=>(hbel.block k (by omega)).trans (q3 k hk)⟩
 have hgF:Grow F F w W1:=⟨fun _ _ h=>h,fun g k h=>hbel.cell (p:=⟨g,k,none⟩) (hF0 g k h).1⟩
 have hT1:iY P F (fun b=>OwnB B (S s0) b\/X b) w F (AS fun _=>False) W1 :=
  ⟨.of hbel,hgF,fun _ _ h=>.inl h,fun g k h=>Nat.lt_of_lt_of_le (hF0 g k h).1 hbel.size,fun g k h hA=>by
   rcases hA with hA|hA|hA
   ·exact(hFO0 g k h).1 hA
   ·exact(hFO0 g k h).2 hA
   ·exact hA,fun b hA=>by
   rcases hA with hA|(hA|hA|hA)|hA
   ·exact .inl (.inl (by rw[qd (hSk s0)];exact hA))
   ·exact .inr (by omega)
   ·exact .inr (by omega)
   ·exact .inl (.inr hA)
   ·exact hA.elim,fun b hA=>by
   have hsz:=hlt hL1
   rcases hA with hA|hA|hA
   ·exact(hZ (U:=fun _=>False) (fun _ h=>h.elim) hsz b (.inl hA)).1
   ·exact(hZ (U:=fun _=>False) (fun _ h=>h.elim) hsz b (.inr hA)).1
   ·exact hA.elim,hshp1⟩
 have hI1:I xs s0 F (AS fun _=>False) W1:=hsI xs s0 () _ _ _ _ _ _ hat0.inv hT1
 have hLB1:LB (nL B ks) (Bup B) F (Lup (S s0)) W1:=by
  have h1:=(hb.lb).up (hS s0)
  rw[hSk s0] at h1
  refine h1.turn (U:=fun _=>False) (U':=fun _=>False) (fun _ _ h=>h) ⟨.of hbel,hgF,fun _ _ h=>.inl h,fun g k h=>Nat.lt_of_lt_of_le (hF0 g k h).1 hbel.size,fun _ _ _ h=>h,fun _ h=>h.elim,fun _ h=>h.elim,hshp1⟩
 have hJ1:J xs F (fun _=>False) W1:=⟨fun _ h=>h.elim,hFO0,⟨fun b h=>hbel.block b (hXlt b h),hD1⟩,⟨hgF,fun g k h=>Nat.lt_of_lt_of_le (hF0 g k h).1 hbel.size,hshp1⟩,hL1,s0,Bup B,hI1,hLB1⟩
 refine⟨w.heap.size+1,[{ target:=.collected w.heap.size,args:=#[] }],W1,{ target:=.fn (.func gf) lb.toArray,args:=#[.func (.yield (w.heap.size+1)) #[] #[]] },W1,gf,
  #[.func (.yield (w.heap.size+1)) #[] #[]]++lb.toArray,W1,?_,?_,fun _ _=>trivial,?_,fun h=>(by cases h),?_⟩
 ·rw[<-hW1,hrec];exact run_enterLoop_outer _ _ _ _ _
 ·simp only[resolve,ox hv]
  simp[go_sem]
 ·simp only[invoke];rw[mP hseq.1]
 ·refine(hseq.2 (w.heap.size+1) J Jx hStJ hStX ?_ F W1 lb hJ1 (fun g k h=>Nat.lt_of_lt_of_le (hF0 g k h).1 hbel.size) hshp1 ((hlb.bare hlds).grow hgF)).mono ?_
  ·rintro ro x r F' U W2 args ⟨hN,hFO,hXK,hGW,hl,s,B',hI,hLB⟩ hfrz hUlt hshp hargs
   have hlen:=aB.length hargs
   have hsz:=hlt hl
   have hy:=run_yield (P:=P) (args:=args.toArray) hl (by rw[hrec];simp only[List.size_toArray];rw[hlen,hps x];simp)
   rw[hrec] at hy
   have hl0:W2.heap[w.heap.size+1]? = some (.loop { rec .ready none with state:=.ready }):=by rw[hl,hrec]
   have hfold:=yx ps.toList args a.tmps hnd (fun p hp=>by rw[hs];exact hpt p hp) (by rw[hlen,hps x])
   have hact:((ps.zip args.toArray).foldl (fun(tmps:Array Value) (x:Tmp×Value)=>tmps.setIfInBounds x.1 x.2) a.tmps)=((ps.toList.zip args).foldl (fun(t:Array Value) (x:Nat×Value)=>t.setIfInBounds x.1 x.2) a.tmps):=by
    rw[<-Array.foldl_toList,Array.toList_zip]
   have hBhigh:∀b,Blk B ks b->P.low<=b:=fun b h=>hb.kC b (by rw[qd (hSk s0)];exact h)
   have hRhigh:∀b,(Rc b\/U b)->P.low<=b:=fun b h=>by
    rcases h with(h|h|h)|h
    ·omega
    ·omega
    ·exact hat0.high b h
    ·have:=hN b h;omega
   let p:Pt P:={ w:=W2,own:=Blk B ks,env:=nL B ks,low:=EZ ks,sh:=hshp,high:=hBhigh,rnd:=some (w.heap.size+1),defs:=[] }
   have hUBlk:∀b,(Rc b\/U b)->¬Blk B ks b:=fun b h h2=>by
    have:=hBlt b h2
    rcases h with(h|h|h)|h
    ·omega
    ·omega
    ·exact hBX b h h2
    ·have:=hN b h;omega
   have hatp:AtI (I (x::r) s) (fun b=>Rc b\/U b) F' W2 F' p:=⟨hI,fun b h=>by
     rcases h with h|h|h
     ·exact(hZ hN hsz b (.inl h)).1
     ·exact(hZ hN hsz b (.inr h)).1
     ·exact hUlt b h,hUBlk,fun g k h=>⟨(hfrz g k h).1,fun h2=>by
     rcases h2 with h2|h2|h2
     ·exact(hFO g k h).1 h2
     ·exact(hFO g k h).2 h2
     ·exact(hfrz g k h).2 h2⟩,⟨[],rfl,.nil,fun _ h=>by cases h⟩,hRhigh,fun _ _=>rfl,Nat.le_refl _,Grow.refl _ _⟩
   have hbp:Base F' p B' F' (aM (Lup (S s))) W2:=hLB.base (p:=p) (fun b h=>by show Blk B ks b;rw[<-ownS B' s hLB.env];exact h)
   have hrun0:=hass x s F' p { tmps:=(ps.toList.zip args).foldl (fun(t:Array Value) (x:Nat×Value)=>t.setIfInBounds x.1 x.2) a.tmps,defers:=[] } W2 ⟨B',F',hbp,rfl,by rw[hfold.1];exact hs,fun y hy=>?_⟩
   rotate_left
   ·rcases List.mem_append.1 hy with hy|hy
    ·obtain⟨y0,hy0,rfl⟩:=List.mem_map.1 hy
     have hc:=List.all_eq_true.1 hKb2 y0 hy0
     simp only[Bool.and_eq_true,Bool.not_eq_true'] at hc
     obtain⟨v,q1,q2⟩:=hK _ (mY hKb y0 hy0)
     refine⟨v,(hfold.2.1 _ (fun hm=>by have hm:y0.1∈ps.toList:=hm;rw[List.contains_iff_mem.2 hm] at hc;cases hc.1)).trans q1,?_⟩
     have q3:=q2.grow hGW.1
     obtain⟨y1,y2⟩:=y0
     show Rep F' W2 B' (upD y2) v
     have hc2:N3 ks y2=true:=hc.2
     have q3:Rep F' W2 B y2 v:=q3
     cases y2 with
     |own k off =>
      cases q3 with
      |own _ _ b hbj =>
       have hkk:k∈ks:=List.contains_iff_mem.1 hc2
       refine .own _ _ b (hLB.env _ _ ?_)
       unfold nL
       rw[if_pos ⟨Nat.le_add_left _ _,by rw[Nat.add_sub_cancel];exact hkk⟩,Nat.add_sub_cancel];exact hbj
     |_=>exact q3.bare hc2
    ·obtain⟨i,hi⟩:=List.getElem?_of_mem hy
     rw[List.getElem?_zip_eq_some] at hi
     obtain⟨v,q1,q2⟩:=hargs.get i hi.2
     have hnoy:D.fA y.2=true:=by
      have:=hne x
      have hmem:y.2∈encs x:=List.mem_of_getElem? hi.2
      clear hi hy q1 q2
      revert this hmem
      generalize encs x=es
      intro this hmem
      induction es with
      |nil=>cases hmem
      |cons e es ih =>
       rw[D.cH,Bool.and_eq_true] at this
       rcases List.mem_cons.1 hmem with rfl|h
       ·exact this.1
       ·exact ih this.2 h
     exact⟨v,hfold.2.2 i _ _ hi.1 q1,q2.bare hnoy⟩
   rw[<-hact] at hrun0
   refine⟨fn,_,assign,body,hy,roundIn_of_wpIn trivial (wpIn_mono hrun0 ?_)⟩
   rintro ea a1 Wa ⟨rfl,Ba,Fa,hba,hda,hsa,hKa⟩
   have hbx:=sr (DZ (hS s))
   have hata:=hatp.mid (hsI (x::r) s) hba hbx
   have hoa:OwnB Ba (Lup (S s))=Blk B ks:=ownS Ba s hba.env
   have hla:Wa.heap[w.heap.size+1]? = some (.loop { rec .ready none with state:=.ready }):=(hata.kept _ (.inl (.inr (.inl rfl)))).trans hl0
   have hIa:I (x::r) s Fa (AS U) Wa:=by
    have h:=hata.inv
    have h:I (x::r) s Fa (fun b=>OwnB Ba (Lup (S s)) b\/(Rc b\/U b)) Wa:=h
    rw[hoa] at h;exact h
   have hFa:∀g k,Fa g k->g<Wa.heap.size/\¬AS U g:=fun g k h=>by
    have h:=hata.frz g k h
    have h:g<Wa.heap.size/\¬(OwnB Ba (Lup (S s)) g\/(Rc g\/U g)):=h
    rw[hoa] at h;exact h
   have hLa:∀b,AS U b->b<Wa.heap.size:=fun b h=>by
    refine hata.lt b ?_
    show OwnB Ba (Lup (S s)) b\/(Rc b\/U b)
    rw[hoa];exact h
   refine⟨_,run_beginRound hla rfl,?_⟩
   have ht3:=oH (P:=P) (o':=.loop { rec .ready none with state:=.busy }) hla rfl rfl (hRhigh _ (.inl (.inr (.inl rfl)))) (U:=AS U) (.inr (.inl (.inr (.inl rfl)))) hFa hLa hba.shp
   have hLB3:LB (nL B ks) Ba Fa (Lup (S s)) (Wa.putObj (w.heap.size+1) (.loop { rec .ready none with state:=.busy })):=(hba.lb).put hbx hla rfl rfl
   have hg3:=vO (o':=.loop { rec .ready none with state:=.busy }) hla rfl rfl Fa
   have hl3:(Wa.putObj (w.heap.size+1) (.loop { rec .ready none with state:=.busy })).heap[w.heap.size+1]? = some (.loop { rec .ready none with state:=.busy }):=World.putObj_heap_same (hlt hla)
   have hk3:∀b,b≠w.heap.size+1->(Wa.putObj (w.heap.size+1) (.loop { rec .ready none with state:=.busy })).heap[b]? = Wa.heap[b]?:=fun b hb'=>World.putObj_heap_other hb'
   have hs3:(Wa.putObj (w.heap.size+1) (.loop { rec .ready none with state:=.busy })).heap.size=Wa.heap.size:=World.putObj_size ..
   have hI3:=hsI (x::r) s () _ _ _ _ _ _ hIa ht3
   revert ht3 hLB3 hg3 hl3 hk3 hs3 hI3
   generalize Wa.putObj (w.heap.size+1) (.loop { rec .ready none with state:=.busy })=W3
   intro ht3 hLB3 hg3 hl3 hk3 hs3 hI3
   let p3:Pt P:={ w:=W3,own:=Blk B ks,env:=nL B ks,low:=EZ ks,sh:=ht3.shp,high:=hBhigh,rnd:=some (w.heap.size+1),defs:=[] }
   have hA3:AtI (I (x::r) s) (fun b=>Rc b\/U b) Fa W3 Fa p3:=⟨hI3,ht3.lt,hUBlk,fun g k h=>⟨ht3.frz g k h,ht3.off g k h⟩,⟨[],rfl,.nil,fun _ h=>by cases h⟩,hRhigh,fun _ _=>rfl,Nat.le_refl _,Grow.refl _ _⟩
   have hrun:=hbody x r s Fa p3 _ W3 hA3 a1 W3 ⟨Ba,Fa,hLB3.base (p:=p3) (fun b h=>by show Blk B ks b;rw[<-hoa];exact h),hda,hsa,fun y hy=>let ⟨v,q1,q2⟩:=hKa y hy;⟨v,q1,q2.grow hg3⟩⟩
   refine wpIn_mono hrun ?_
   rintro e a3 w3 hp
   cases e with
   |normal =>
    obtain⟨s',F1,w1',B1,F1',hb1,hat1,he1⟩:=hp
    have hbx1:=sr (DZ (hS s'))
    have hat2:=hat1.mid (hsI r s') hb1 hbx1
    have henv1:∀k b,nL B ks k=some b->B1 k=some b:=fun k b h=>hb1.env k b (by rw[he1];exact h)
    have ho1:OwnB B1 (Lup (S s'))=Blk B ks:=ownS B1 s' henv1
    have hl4:w3.heap[w.heap.size+1]? = some (.loop { rec .ready none with state:=.busy }):=(hat2.kept _ (.inl (.inr (.inl rfl)))).trans hl3
    have hrun4:=run_endRound (P:=P) none hl4
    have hI4:I r s' F1' (AS U) w3:=by
     have h:=hat2.inv
     have h:I r s' F1' (fun b=>OwnB B1 (Lup (S s')) b\/(Rc b\/U b)) w3:=h
     rw[ho1] at h;exact h
    have hF4:∀g k,F1' g k->g<w3.heap.size/\¬AS U g:=fun g k h=>by
     have h:=hat2.frz g k h
     have h:g<w3.heap.size/\¬(OwnB B1 (Lup (S s')) g\/(Rc g\/U g)):=h
     rw[ho1] at h;exact h
    have hL4:∀b,AS U b->b<w3.heap.size:=fun b h=>by
     refine hat2.lt b ?_
     show OwnB B1 (Lup (S s')) b\/(Rc b\/U b)
     rw[ho1];exact h
    have ht4:=oH (P:=P) (o':=.loop { ({ rec .ready none with state:=.busy }:Loop) with state:=if(none:Option Code).isNone then .ready else .done,pending:=none }) hl4 rfl rfl (hRhigh _ (.inl (.inr (.inl rfl)))) (U:=AS U) (.inr (.inl (.inr (.inl rfl)))) hF4 hL4 hb1.shp
    have hkk:∀b,b≠w.heap.size+1->(Rc b\/U b)->w3.heap[b]? = W2.heap[b]?:=fun b h1 h2=>(hat2.kept b h2).trans ((hk3 b h1).trans (hata.kept b h2))
    refine⟨_,_,hrun4,F1',⟨⟨((hba.grow.trans hg3).trans hat2.ref).trans ht4.grow,ht4.frz,ht4.shp⟩,?_,fun b hu=>?_,fun g k h hu=>(hF4 g k h).2 (.inr (.inr hu))⟩,.inl ⟨rfl,hN,fun g k h=>⟨fun h2=>(hF4 g k h).2 (.inl h2),fun h2=>(hF4 g k h).2 (.inr (.inl h2))⟩,⟨fun b hb'=>?_,?_⟩,⟨hGW.1.trans (((hba.grow.trans hg3).trans hat2.ref).trans ht4.grow),ht4.frz,ht4.shp⟩,?_,s',B1,hsI r s' () _ _ _ _ _ _ hI4 ht4,?_⟩⟩
    ·rw[World.putObj_size]
     exact Nat.le_trans hba.below.size (Nat.le_trans (Nat.le_of_eq hs3.symm) hat2.size)
    ·have hne':b≠w.heap.size+1:=by have:=hN b hu;omega
     exact(World.putObj_heap_other hne').trans (hkk b hne' (.inr hu))
    ·have hne':b≠w.heap.size+1:=by have:=hXlt b hb';omega
     exact(World.putObj_heap_other hne').trans ((hkk b hne' (.inl (.inr (.inr hb')))).trans (hXK.1 b hb'))
    ·have hne':w.heap.size≠w.heap.size+1:=by omega
     exact(World.putObj_heap_other hne').trans ((hkk _ hne' (.inl (.inl rfl))).trans hXK.2)
    ·rw[World.putObj_heap_same (hlt hl4),hrec];rfl
    ·have h:=(hb1.lb).put (o':=.loop { ({ rec .ready none with state:=.busy }:Loop) with state:=if(none:Option Code).isNone then .ready else .done,pending:=none }) hbx1 hl4 rfl rfl
     rw[he1] at h;exact h
   |ret =>
    obtain⟨L1,F1,w1',B1,F1',hb1,hbx1,hat1⟩:=hp
    have hat2:=hat1.mid hsE hb1 hbx1
    have hl4:w3.heap[w.heap.size+1]? = some (.loop { rec .ready none with state:=.busy }):=(hat2.kept _ (.inl (.inr (.inl rfl)))).trans hl3
    have hrun4:=run_endRound (P:=P) (some .ret) hl4
    have hkk:∀b,b≠w.heap.size+1->(Rc b\/U b)->w3.heap[b]? = W2.heap[b]?:=fun b h1 h2=>(hat2.kept b h2).trans ((hk3 b h1).trans (hata.kept b h2))
    have ht4:=oH (P:=P) (o':=.loop { ({ rec .ready none with state:=.busy }:Loop) with state:=if(some Code.ret:Option Code).isNone then .ready else .done,pending:=some .ret }) hl4 rfl rfl (hRhigh _ (.inl (.inr (.inl rfl)))) (U:=fun b=>OwnB B1 L1 b\/(Rc b\/U b)) (.inr (.inl (.inr (.inl rfl)))) hat2.frz hat2.lt hb1.shp
    have hI5:Ie F1' (fun b=>Rc b\/U b) _:=hsE () _ _ _ _ _ _ hat2.inv ⟨ht4.below,ht4.grow,ht4.more,ht4.frz,fun g k h hu=>ht4.off g k h (.inr hu),fun b hu=>.inl (.inr hu),fun b hu=>ht4.lt b (.inr hu),ht4.shp⟩
    refine⟨_,_,hrun4,F1',⟨⟨((hba.grow.trans hg3).trans hat2.ref).trans ht4.grow,ht4.frz,ht4.shp⟩,?_,fun b hu=>?_,fun g k h hu=>(hat2.frz g k h).2 (.inr (.inr hu))⟩,.inr ⟨rfl,hN,fun g k h hu=>(hat2.frz g k h).2 (.inr (.inl hu)),⟨fun b hb'=>?_,?_⟩,⟨hGW.1.trans (((hba.grow.trans hg3).trans hat2.ref).trans ht4.grow),ht4.frz,ht4.shp⟩,?_,hI5⟩⟩
    ·rw[World.putObj_size]
     exact Nat.le_trans hba.below.size (Nat.le_trans (Nat.le_of_eq hs3.symm) hat2.size)
    ·have hne':b≠w.heap.size+1:=by have:=hN b hu;omega
     exact(World.putObj_heap_other hne').trans (hkk b hne' (.inr hu))
    ·have hne':b≠w.heap.size+1:=by have:=hXlt b hb';omega
     exact(World.putObj_heap_other hne').trans ((hkk b hne' (.inl (.inr (.inr hb')))).trans (hXK.1 b hb'))
    ·have hne':w.heap.size≠w.heap.size+1:=by omega
     exact(World.putObj_heap_other hne').trans ((hkk _ hne' (.inl (.inl rfl))).trans hXK.2)
    ·rw[World.putObj_heap_same (hlt hl4),hrec];rfl
   |exit id=>exact hp.elim
   |goto l=>exact hp.elim
   |panic ch=>exact hp.elim
   |outgrown=>exact hp.elim
  ·obtain⟨ms,m1,m2,m3⟩:=hat0.marks
   have m1:w0.defs=ms.map uj:=m1
   have hBhigh:∀b,Blk B ks b->P.low<=b:=fun b h=>hb.kC b (by rw[qd (hSk s0)];exact h)
   have hRchigh:∀b,Rc b->P.low<=b:=fun b h=>by
    rcases h with h|h|h
    ·omega
    ·omega
    ·exact hat0.high b h
   have hRB:∀b,Rc b->¬Blk B ks b:=fun b h h2=>by
    have:=hBlt b h2
    rcases h with h|h|h
    ·omega
    ·omega
    ·exact hBX b h h2
   have hmarks:∀w4:World,(∀b,X b->w4.heap[b]? = w.heap[b]?)->w4.heap[w.heap.size]? = some (.deferred (some []))->∃ms':List Nat,uj w.heap.size::w0.defs=ms'.map uj/\ms'.Nodup/\∀D∈ms',Rc D/\w4.heap[D]? = some (.deferred (some [])):=fun w4 h1 h2=>by
    refine⟨w.heap.size::ms,by rw[m1];rfl,List.nodup_cons.2 ⟨fun h=>?_,m2⟩,fun D hD=>?_⟩
    ·have:=hXlt _ (m3 _ h).1;omega
    ·rcases List.mem_cons.1 hD with rfl|hD
     ·exact⟨.inl rfl,h2⟩
     ·exact⟨.inr (.inr (m3 D hD).1),(h1 D (m3 D hD).1).trans ((hat0.kept D (m3 D hD).1).trans (m3 D hD).2)⟩
   rintro e Wz ⟨⟨v,rfl⟩,F',U',⟨hN,hFO,hXK,hGW,hl,s,B',hI,hLB⟩|⟨hN,hFO,hXK,hGW,hl,hI⟩⟩
   ·have hrun:=run_endLoop (P:=P) hl (by rw[hrec];simp)
    have hsz:=hlt hl
    have ht5:iY P F' (AS U') Wz F' (fun b=>Blk B ks b\/Rc b) Wz:=⟨dX.refl _ _ _,Grow.refl _ _,fun _ _ h=>.inl h,hGW.2.1,fun g k h hu=>hu.elim (hFO g k h).1 (hFO g k h).2,fun b hu=>.inl (hu.elim .inl fun h=>.inr (.inl h)),fun b hu=>(hZ hN hsz b hu).1,hGW.2.2⟩
    have ht6:=oH (P:=P) (o':=.loop { (rec .ready none:Loop) with state:=.exhausted }) hl rfl rfl (hRchigh _ (.inr (.inl rfl))) (U:=fun b=>Blk B ks b\/Rc b) (.inr (.inr (.inl rfl))) (fun g k h=>⟨ht5.frz g k h,ht5.off g k h⟩) ht5.lt hGW.2.2
    have hI6:=hsI [] s () _ _ _ _ _ _ (hsI [] s () _ _ _ _ _ _ hI ht5) ht6
    have hLB6:=((hLB.down (env:=w0.env) (hS s) (hSk s) hB0 hb.env).put (o':=.loop { (rec .ready none:Loop) with state:=.exhausted }) (sr (hS s)) hl rfl rfl)
    have hX6:∀b,X b->(Wz.putObj (w.heap.size+1) (.loop { (rec .ready none:Loop) with state:=.exhausted })).heap[b]? = w.heap[b]?:=fun b hb'=>(World.putObj_heap_other (by have:=hXlt b hb';omega)).trans (hXK.1 b hb')
    have hD6:(Wz.putObj (w.heap.size+1) (.loop { (rec .ready none:Loop) with state:=.exhausted })).heap[w.heap.size]? = some (.deferred (some [])):=(World.putObj_heap_other (by omega)).trans hXK.2
    have hg6:=vO (o':=.loop { (rec .ready none:Loop) with state:=.exhausted }) hl rfl rfl F'
    revert hrun ht6 hI6 hLB6 hX6 hD6 hg6
    generalize Wz.putObj (w.heap.size+1) (.loop { (rec .ready none:Loop) with state:=.exhausted })=w4
    intro hrun ht6 hI6 hLB6 hX6 hD6 hg6
    let pz:Pt P:={ w:=w4,own:=Blk B ks,env:=w0.env,low:=w0.low,sh:=ht6.shp,high:=hBhigh,rnd:=none,defs:=uj w.heap.size::w0.defs }
    have hAz:AtI (I [] s) Rc F' w4 F' pz:=⟨hI6,ht6.lt,hRB,fun g k h=>⟨ht6.frz g k h,ht6.off g k h⟩,hmarks w4 hX6 hD6,hRchigh,fun _ _=>rfl,Nat.le_refl _,Grow.refl _ _⟩
    refine⟨none,w4,by rw[hrun,hrec],hn s F' pz Rc w4 rfl hAz _ _ ⟨B,F',hLB6.base (p:=pz) (fun b h=>by show Blk B ks b;rw[qd (hSk s)] at h;exact h),by rw[hd];rfl,hs,fun y hy=>?_⟩⟩
    obtain⟨v,q1,q2⟩:=hK y (mY hK' y hy)
    exact⟨v,q1,q2.grow (hGW.1.trans hg6)⟩
   ·have hrun:=run_endLoop (P:=P) hl (by rw[hrec];simp)
    have hsz:=hlt hl
    have ht5:iY P F' (fun b=>Rc b\/U' b) Wz F' (fun b=>False\/Rc b) Wz:=⟨dX.refl _ _ _,Grow.refl _ _,fun _ _ h=>.inl h,hGW.2.1,fun g k h hu=>hu.elim id (hFO g k h),fun b hu=>.inl (hu.elim False.elim fun h=>.inl h),fun b hu=>(hZ hN hsz b (hu.elim False.elim .inr)).1,hGW.2.2⟩
    have ht6:=oH (P:=P) (o':=.loop { (rec .done (some .ret):Loop) with state:=.exhausted }) hl rfl rfl (hRchigh _ (.inr (.inl rfl))) (U:=fun b=>False\/Rc b) (.inr (.inr (.inl rfl))) (fun g k h=>⟨ht5.frz g k h,ht5.off g k h⟩) ht5.lt hGW.2.2
    have hI6:=hsE () _ _ _ _ _ _ (hsE () _ _ _ _ _ _ hI ht5) ht6
    have hX6:∀b,X b->(Wz.putObj (w.heap.size+1) (.loop { (rec .done (some .ret):Loop) with state:=.exhausted })).heap[b]? = w.heap[b]?:=fun b hb'=>(World.putObj_heap_other (by have:=hXlt b hb';omega)).trans (hXK.1 b hb')
    have hD6:(Wz.putObj (w.heap.size+1) (.loop { (rec .done (some .ret):Loop) with state:=.exhausted })).heap[w.heap.size]? = some (.deferred (some [])):=(World.putObj_heap_other (by omega)).trans hXK.2
    revert hrun ht6 hI6 hX6 hD6
    generalize Wz.putObj (w.heap.size+1) (.loop { (rec .done (some .ret):Loop) with state:=.exhausted })=w4
    intro hrun ht6 hI6 hX6 hD6
    let pz:Pt P:={ w:=w4,own:=fun _=>False,env:=w0.env,low:=w0.low,sh:=ht6.shp,high:=fun _ h=>h.elim,rnd:=none,defs:=uj w.heap.size::w0.defs }
    have hAz:AtI Ie Rc F' w4 F' pz:=⟨hI6,ht6.lt,fun _ _ h=>h,fun g k h=>⟨ht6.frz g k h,ht6.off g k h⟩,hmarks w4 hX6 hD6,hRchigh,fun _ _=>rfl,Nat.le_refl _,Grow.refl _ _⟩
    have hwp:=hx F' pz Rc w4 rfl hAz { a with defers:=[{ target:=.collected w.heap.size,args:=#[] }]++a.defers } w4 ⟨B,F',⟨(fun k t ds hl=>by simp[aM] at hl),(fun k t ds b hl=>by simp[aM] at hl),(fun i j b hi=>by obtain⟨t,ds,hx⟩:=hi;simp[aM] at hx),ht6.frz,fun g k h=>.inl h,Grow.refl _ _,dX.refl _ _ _,hb.env⟩,by rw[hd];rfl,hs,fun y hy=>by cases hy⟩
    exact⟨some .ret,w4,by rw[hrun,hrec],hwp⟩
end
end Go.Proofs.YtefojkdckfidcaaGreatDoor.RX
namespace Go.Proofs.YtefojkdckfidcaaGreatDoor.RX
open Go.RowKit Go.Sort
def encS:Bs->List D:=fun x=>[.str x]
def jS(l:Ls):Ls:=l.mergeSort fun x y=>decide (x<=y)
section
variable {P:Program} {F:Fz} {w1:Pt P} {B:Env}
theorem yp{w:World}:∀{l:Ls}{xs:List Value},aB F w NB (l.flatMap encS) xs->xs=l.map encStr
 |[],_,h=>by cases h;rfl
 |x::l,_,h=>by
  simp only[List.flatMap_cons,encS,List.singleton_append] at h
  cases h with
  |cons _ v _ vs hv hs =>
   cases hv
   rw[yp hs];rfl
theorem zm{w:World}{B:Env}:∀l:Ls,aB F w B (l.flatMap encS) (l.map encStr)
 |[]=>.nil
 |x::l=>by
  simp only[List.flatMap_cons,encS,List.singleton_append,List.map_cons]
  exact .cons _ _ _ _ (.str x) (zm l)
theorem Rep.head{F:Fz}{w:World}{B:Env}{α:Type}{d:α}{enc:α->List D}{l l1:List α}{p:Option Nat}{n cap:Nat}(h:Rep F w B (.recs d enc l) (bq p n cap))(hp:l1 <+: l)(hn:n=l.length):Rep F w B (.recs d enc l1) (.slice (p.map fun b=>⟨b,0,none⟩) l1.length cap):=by
 generalize hv:bq p n cap=v at h
 unfold bq at hv
 cases h with
 |dA _ _ q =>
  have:l1=[]:=List.prefix_nil.1 hp
  subst this
  injection hv with e1 e2 e3
  rw[e1,e3]
  exact .dA d enc _
 |recs _ _ _ g off cap size vs hz h1 h2 h3 hc =>
  have hle:=hp.length_le
  obtain⟨ys,rfl⟩:=hp
  injection hv with e1 e2 e3
  rw[e1,e3]
  refine .recs d enc l1 g off cap size vs hz (fun i hi=>h1 i (by omega)) (fun i hi=>?_) (fun i j hi hj=>h3 i j (by omega) hj) (by omega)
  have:=h2 i (by omega)
  rwa[List.getElem?_append_left hi] at this
theorem Base.turned{k t g n cap:Nat}{α:Type}{d:α}{enc:α->List D}{l l':List α}{w':World}(hb:Base F w1 B F (aM [(k,t,[.aN false d enc l])]) w1.w)
  (hB:B k=some (.row (some g) n cap)) (hgr:w1.w.grownBy w' (some g)) (hown:∃xs,aB F w' NB (l'.flatMap enc) xs/\dE w' t (enc d).length (some g) n cap xs) (hl:l'.length=l.length) :
  Base F w1 B F (aM [(k,t,[.aN false d enc l'])]) w':=by
 have hm:aM [(k,t,[D.aN false d enc l])] k t [.aN false d enc l]:=List.mem_cons_self
 obtain⟨p,n0,cap0,hB0,hn0,hpos,hge,xs,hxs,hown0,hfz⟩:=hb.jU hm
 rw[hB] at hB0;cases hB0
 have hnf:∀j,¬F g j:=fun j hj=>by have:=(hfz g rfl j).1 hj;simp at this
 have hfr:=hb.new _ _ _ g hm (dn hB)
 have hone:∀j t' ds,aM [(k,t,[D.aN false d enc l'])] j t' ds->j=k/\t'=t/\ds=[.aN false d enc l']:=by
  intro j t' ds h
  have:=List.mem_singleton.1 h
  cases this;exact⟨rfl,rfl,rfl⟩
 refine⟨fun j t' ds h=>?_,fun j t' ds b h hbk=>?_,fun i j b hi hj _ _=>?_,fun g' j hF=>Nat.lt_of_lt_of_le (hb.frz g' j hF) hgr.size,hb.more,⟨fun _ _ h=>h,fun g' j hF=>?_⟩,⟨hgr.os,hgr.tape,hgr.output,hgr.size,fun j hj hno=>?_⟩,hb.env⟩
 ·obtain⟨rfl,rfl,rfl⟩:=hone _ _ _ h
  obtain⟨xs',h1,h2⟩:=hown
  exact .row false d enc l' (some g) n cap hB ⟨by rw[hl];exact hn0,hpos,hge,xs',h1,h2,hfz⟩
 ·obtain⟨rfl,rfl,rfl⟩:=hone _ _ _ h
  exact hb.new _ _ _ b hm hbk
 ·obtain⟨_,_,h1⟩:=hi
  obtain⟨_,_,h2⟩:=hj
  rw[(hone _ _ _ h1).1,(hone _ _ _ h2).1]
 ·have hne:g'≠g:=fun e=>by subst e;exact hnf j hF
  exact World.cell?_of_block (hgr.block g' (hb.frz g' j hF) (fun e=>hne (Option.some.inj e)))
 ·refine hgr.block j hj fun e=>?_
  cases e
  rcases hfr with h|h
  ·exact absurd hj (Nat.not_lt.2 h)
  ·exact hno h
theorem Ii{w:World}{args:List Value}{k:Nat}(hr:aB F w B [.row k] args):∃p n cap v,B k=some (.row p n cap)/\qF v p n cap/\args=[v]:=by
 cases hr with
 |cons _ v _ vs h hs =>
  cases hs
  cases h with
  |row _ p n cap h=>exact⟨p,n,cap,_,h,.inl rfl,rfl⟩
  |dY _ q h=>exact⟨none,0,0,_,h,.inr ⟨rfl,rfl,rfl,q,rfl⟩,rfl⟩
theorem Az{v:Value}(h:qF v none 0 0):∃q,v=.slice q 0 0:=by
 rcases h with rfl|⟨_,_,_,q,rfl⟩
 ·exact⟨none,rfl⟩
 ·exact⟨q,rfl⟩
theorem AX{v:Value}{g n cap:Nat}(h:qF v (some g) n cap):v=.slice (some ⟨g,0,none⟩) n cap:=by
 rcases h with rfl|⟨h,_⟩
 ·rfl
 ·cases h
theorem A6{w:World}{g t n cap:Nat}{l:Ls}(hown:dE w t 1 (some g) n cap (l.map encStr)):Holds encStr w g 0 l.toArray/\g<w.heap.size/\n=l.length/\n<=cap/\cap<=maxLen /\
  ∃cur fz,w.heap[g]? = some (.cells cur t fz)/\cur.size=cap/\cur.toList.take n=l.map encStr/\∀j,j<cur.size->¬(fz.1<=j/\j<fz.2):=by
 obtain⟨hlen,hc⟩:=hown
 rcases hc with⟨h,_⟩|⟨g',cur,fz,hp,hh,hfz,hnc,hcm,hsz,htk⟩
 ·cases h
 ·cases hp
  simp only[List.length_map,Nat.mul_one] at hlen htk hsz
  refine⟨fun j hj=>?_,(Array.getElem?_eq_some_iff.1 hh).1,hlen.symm,hnc,hcm,cur,fz,hh,hsz,htk,hfz⟩
  have hj':j<l.length:=by simpa using hj
  have hjc:j<cur.size:=by omega
  have h1:(l.map encStr)[j]? = some cur[j]:=by
   rw[<-htk,List.getElem?_take,if_pos (by omega),Array.getElem?_toList,Array.getElem?_eq_getElem hjc]
  rw[List.getElem?_map,List.getElem?_eq_getElem hj',Option.map_some,Option.some.injEq] at h1
  refine⟨?_,?_⟩
  ·simp only[World.cell?,hh,Nat.zero_add]
   rw[Array.getElem?_eq_getElem hjc,<-h1]
   simp[hj']
  ·have:=hfz j hjc
   simp only[World.frozen?,hh,Nat.zero_add]
   rw[Bool.and_eq_false_iff]
   by_cases hc:fz.1<=j
   ·right;simp;omega
   ·left;simpa using hc
theorem Br{w:World}{g t cap n q:Nat}{os:Array Obj}{cur:Array Value}{fz:Nat×Nat}(ts:Ls)(hh:w.heap[g]? = some (.cells cur t fz))(hn:n=ts.length)(hnc:n<=cap)(hcm:cap<=maxLen)(hsz:cur.size=cap)(hfz:∀j,j<cur.size->¬(fz.1<=j/\j<fz.2)) :
  dE (grow (putRow encStr (Sort.ahead w q) g 0 ts.toArray) os) t 1 (some g) n cap (ts.map encStr):=by
 have h1:=heap_sorted (n:=q) (os:=os) ts.toArray hh
 refine⟨by simp[hn],.inr ⟨g,_,fz,rfl,h1,?_,hnc,hcm,?_,?_⟩⟩
 ·intro j hj
  exact hfz j (by simpa[putCells] using hj)
 ·simpa[putCells] using hsz
 ·rw[Nat.mul_one,hn]
  exact take_putCells cur ts (by omega)
theorem Gu{f et:Nat}{l:Ls}(hf:FOK P f)
  (hc:∀(blk off cap:Nat)(ss:Ls)(w:World),Holds encStr w blk off ss.toArray->blk<w.heap.size->ss.length<4611686018427387904 ->
   Calls P f #[.slice (some ⟨blk,off,none⟩) ss.length cap] w fun e w'=>e=.returned (.tuple #[])/\∃n os,w'=grow (putRow encStr (Sort.ahead w n) blk off (ss.mergeSort fun x y=>decide (x<=y)).toArray) os)
  (hn:∀(p:Option Addr)(cap:Nat)(w:World),Calls P f #[.slice p 0 cap] w fun e w'=>e=.returned (.tuple #[])/\w'=w)
  (hl:decide (l.length*17<=limit)=true):aY P f [.row LIM] [(LIM,et,[.aN false (α:=Bs) [] encS l])] (.tup []) [(LIM,et,[.aN false (α:=Bs) [] encS (jS l)])]:=by
 refine⟨hf,fun F w1 B args hb hr=>?_⟩
 have hlim:l.length*17<=140737488355328:=of_decide_eq_true hl
 obtain⟨p,n,cap,v,hB,hv,rfl⟩:=Ii hr
 obtain⟨p',n',cap',hB',hn0,hpos,hge,xs,hxs,hown,hfz⟩:=hb.jU (M:=aM [(LIM,et,[D.aN false (α:=Bs) [] encS l])]) List.mem_cons_self
 rw[hB] at hB';cases hB'
 have hx:=yp hxs
 subst hx
 cases p with
 |none =>
  have h0:l=[]/\n=0/\cap=0:=by
   rcases hown.2 with⟨_,h1,h2⟩|⟨_,_,_,h,_⟩
   ·exact⟨List.eq_nil_of_length_eq_zero (by omega),h1,h2⟩
   ·cases h
  obtain⟨rfl,rfl,rfl⟩:=h0
  obtain⟨q,rfl⟩:=Az hv
  refine(hn q 0 w1.w).mono ?_
  rintro e w' ⟨rfl,rfl⟩
  exact⟨_,F,B,rfl,.tup [] [] .nil,by simpa[jS] using hb⟩
 |some g =>
  obtain⟨hH,hg,rfl,hnc,hcm,cur,fz,hh,hsz,htk,hfz'⟩:=A6 hown
  obtain rfl:=AX hv
  refine(hc g 0 cap l w1.w hH hg (by omega)).mono ?_
  rintro e w' ⟨rfl,q,os,rfl⟩
  have hlen:(jS l).length=l.length:=by simp[jS]
  exact⟨_,F,B,rfl,.tup [] [] .nil,hb.turned hB (grownBy_sorted _) ⟨_,zm (jS l),Br (jS l) hh hlen.symm hnc hcm hsz hfz'⟩ hlen⟩
theorem Ci{f et:Nat}{l:Ls}(hf:FOK P f)
  (hc:∀(blk off cap:Nat)(zs:Ls)(w:World),Holds encStr w blk off zs.toArray->zs.length<=9223372036854775807->zs.length<=cap ->
   Calls P f #[.slice (some ⟨blk,off,none⟩) zs.length cap] w fun e w'=>e=.returned (.slice (some ⟨blk,off,none⟩) (Lib.compact zs).length cap)/\∃q,w'=putRow encStr (Sort.ahead w q) blk off (Lib.compact zs++List.replicate (zs.length-(Lib.compact zs).length) []).toArray)
  (hn:∀(a:Option Addr)(cap:Nat)(w:World),Calls P f #[.slice a 0 cap] w fun e w'=>e=.returned (.slice a 0 cap)/\w'=w)
  (hle:(Lib.compact l).length<=l.length)
  (hl:decide (l.length*17<=limit)=true):aY P f [.row LIM] [(LIM,et,[.aN false (α:=Bs) [] encS l])] (.recs (α:=Bs) [] encS (Lib.compact l)) []:=by
 refine⟨hf,fun F w1 B args hb hr=>?_⟩
 have hlim:l.length*17<=140737488355328:=of_decide_eq_true hl
 obtain⟨p,n,cap,v,hB,hv,rfl⟩:=Ii hr
 have hm:aM [(LIM,et,[D.aN false (α:=Bs) [] encS l])] LIM et [.aN false (α:=Bs) [] encS l]:=List.mem_cons_self
 obtain⟨p',n',cap',hB',hn0,hpos,hge,xs,hxs,hown,hfz⟩:=hb.jU hm
 rw[hB] at hB';cases hB'
 have hx:=yp hxs
 subst hx
 cases p with
 |none =>
  have h0:l=[]/\n=0/\cap=0:=by
   rcases hown.2 with⟨_,h1,h2⟩|⟨_,_,_,h,_⟩
   ·exact⟨List.eq_nil_of_length_eq_zero (by omega),h1,h2⟩
   ·cases h
  obtain⟨rfl,rfl,rfl⟩:=h0
  obtain⟨q,rfl⟩:=Az hv
  refine(hn q 0 w1.w).mono ?_
  rintro e w' ⟨rfl,rfl⟩
  exact⟨_,F,B,rfl,.dA _ _ q,hb.sub fun _ _ _ h=>by simp[aM] at h⟩
 |some g =>
  obtain⟨hH,hg,rfl,hnc,hcm,cur,fz,hh,hsz,htk,hfz'⟩:=A6 hown
  obtain rfl:=AX hv
  refine(hc g 0 cap l w1.w hH (by omega) hnc).mono ?_
  rintro e w' ⟨rfl,q,rfl⟩
  let ts:=Lib.compact l++List.replicate (l.length-(Lib.compact l).length) []
  have hlen:ts.length=l.length:=by simp[ts];omega
  have hb2:Base F w1 B F (aM [(LIM,et,[.aN false (α:=Bs) [] encS ts])]) (grow (putRow encStr (Sort.ahead w1.w q) g 0 ts.toArray) #[]) :=
   hb.turned hB (grownBy_sorted _) ⟨_,zm ts,Br ts hh hlen.symm hnc hcm hsz hfz'⟩ hlen
  rw[grow_empty] at hb2
  obtain⟨F',hb3,hg3⟩:=hb2.xW (k:=LIM) (t:=et) (m:=false) List.mem_cons_self
  obtain⟨p3,n3,cap3,hB3,hrow3⟩:=hb3.jU (.inl ⟨rfl,rfl,rfl⟩)
  rw[hB] at hB3;cases hB3
  have hrep:=hrow3.recs (B:=B)
  exact⟨_,F',B,rfl,hrep.head (List.prefix_append _ _) hlen.symm,hb3.sub fun _ _ _ h=>by simp[aM] at h⟩
end
end Go.Proofs.YtefojkdckfidcaaGreatDoor.RX
namespace Go.Proofs.YtefojkdckfidcaaGreatDoor.RX
open Go.RowKit
section
variable {P:Program} {F:Fz} {w:World} {B:Env}
theorem Rn{a:Bs}{args:List Value}(h:aB F w B [.str a] args):args=[.string ⟨a.toArray⟩]:=by
 cases h with
 |cons _ v _ vs h1 h2=>cases h2;cases h1;rfl
theorem Am{a b:Bs}{args:List Value}(h:aB F w B [.str a,.str b] args):args=[.string ⟨a.toArray⟩,.string ⟨b.toArray⟩]:=by
 cases h with
 |cons _ v _ vs h1 h2=>cases h1;rw[Rn h2]
theorem Rk{a:Bs}{k:IntKind}{n:Int}{args:List Value}(h:aB F w B [.str a,.val (.int k n)] args):args=[.string ⟨a.toArray⟩,.int k n]:=by
 cases h with
 |cons _ v _ vs h1 h2 =>
  cases h1
  cases h2 with
  |cons _ v _ vs h3 h4=>cases h4;cases h3;rfl
theorem Jl(l:Bs):(⟨l.toArray⟩:ByteArray).size=l.length:=List.size_toArray
theorem yr{f:Nat}{ds:List D}{r:D}(hf:FOK P f)(h:∀(F:Fz)(w:World)(args:List Value),Shp P w->aB F w NB ds args->Calls P f args.toArray w fun e w'=>∃v,e=.returned v/\(∀F' w'',Rep F' w'' NB r v)/\Below w.heap.size w w'):bC P f ds r :=
 ⟨hf,fun F w args hs _ hr=>(h F w args hs hr).mono fun _ _ ⟨v,he,hv,hb⟩=>⟨v,he,hv _ _,hb⟩⟩
theorem PP{g:Nat}(hg:g<P.low)(hs:∀w:World,w.ShapedOpen P->∃m,w.cell? ⟨g,0,none⟩=some (.int .i64 m))(h:Shp P w):∃m,w.cell? ⟨g,0,none⟩=some (.int .i64 m):=by
 obtain⟨w0,h0,_,h1⟩:=h
 obtain⟨m,hm⟩:=hs w0 h0
 exact⟨m,(World.cell?_of_block (h1 g hg)).trans hm⟩
theorem QQ{g:Nat}(h:Nat.ble g P.globals.size=true):g<P.low:=by
 have:P.low=P.globals.size+5:=by simp[Program.low,begin]
 have:=Nat.le_of_ble_eq_true h
 omega
variable {f:Nat} {a b c:Bs}
theorem PZ{g:Nat}(hf:FOK P f)(hg:g<P.low)(hs:∀w:World,w.ShapedOpen P->∃m,w.cell? ⟨g,0,none⟩=some (.int .i64 m))
  (hc:∀(s sep:ByteArray)(m:Int)(w:World),s.size<4294967281->w.cell? ⟨g,0,none⟩=some (.int .i64 m)->Calls P f #[.string s,.string sep] w fun e w'=>e=.returned (.tuple #[.string ⟨(Lib.cut s.data.toList sep.data.toList).1.toArray⟩,.string ⟨(Lib.cut s.data.toList sep.data.toList).2.1.toArray⟩,.bool (Lib.cut s.data.toList sep.data.toList).2.2])/\∃n,w'=w.drewN n)
  (ha:decide (a.length<4294967281)=true):bC P f [.str a,.str b] (.tup [.str (Lib.cut a b).1,.str (Lib.cut a b).2.1,.val (.bool (Lib.cut a b).2.2)]):=by
 refine yr hf fun F w args hsh hr=>?_
 rw[Am hr]
 obtain⟨m,hm⟩:=PP hg hs hsh
 refine(hc ⟨a.toArray⟩ ⟨b.toArray⟩ m w (by rw[Jl];exact of_decide_eq_true ha) hm).mono ?_
 rintro e w' ⟨rfl,n,rfl⟩
 exact⟨_,rfl,fun F' w''=>.tup _ [.string ⟨(Lib.cut a b).1.toArray⟩,.string ⟨(Lib.cut a b).2.1.toArray⟩,.bool (Lib.cut a b).2.2] (.cons _ _ _ _ (.str _) (.cons _ _ _ _ (.str _) (.cons _ _ _ _ (.val _ rfl) .nil))),below_drewN (Below.refl _ _) n⟩
theorem Eb(hf:FOK P f)(hc:∀(s p:ByteArray)(w:World),Calls P f #[.string s,.string p] w fun e w'=>e=.returned (.bool (Lib.hasPrefix s.data.toList p.data.toList))/\w'=w):bC P f [.str a,.str b] (.val (.bool (Lib.hasPrefix a b))):=by
 refine yr hf fun F w args _ hr=>?_
 rw[Am hr]
 refine(hc ⟨a.toArray⟩ ⟨b.toArray⟩ w).mono ?_
 rintro e w' ⟨rfl,rfl⟩
 exact⟨_,rfl,fun F' w''=>.val _ rfl,Below.refl _ _⟩
theorem D9{n:Int}(hf:FOK P f)(hc:∀(s:ByteArray)(c:Int)(w:World),Calls P f #[.string s,.int .u8 c] w fun e w'=>e=.returned (.int .i64 (Lib.indexByte s.data.toList c.toNat.toUInt8))/\w'=w):bC P f [.str a,.val (.int .u8 n)] (.val (.int .i64 (Lib.indexByte a n.toNat.toUInt8))):=by
 refine yr hf fun F w args _ hr=>?_
 rw[Rk hr]
 refine(hc ⟨a.toArray⟩ n w).mono ?_
 rintro e w' ⟨rfl,rfl⟩
 exact⟨_,rfl,fun F' w''=>.val _ rfl,Below.refl _ _⟩
theorem D8{x:UInt8}(hf:FOK P f)(hc:∀(s:ByteArray)(c:UInt8),c.toNat<128->∀w:World,Calls P f #[.string s,.string ⟨#[c]⟩] w fun e w'=>e=.returned (.string ⟨(Lib.trimLeftB s.data.toList c).toArray⟩)/\w'=w)(hx:x.toNat<128):bC P f [.str a,.str [x]] (.str (Lib.trimLeftB a x)):=by
 refine yr hf fun F w args _ hr=>?_
 rw[Am hr]
 refine(hc ⟨a.toArray⟩ x hx w).mono ?_
 rintro e w' ⟨rfl,rfl⟩
 exact⟨_,rfl,fun F' w''=>.str _,Below.refl _ _⟩
theorem C4{x:UInt8}(hf:FOK P f)(hc:∀(s:ByteArray)(c:UInt8),c.toNat<128->∀w:World,s.size<=9223372036854775807->Calls P f #[.string s,.string ⟨#[c]⟩] w fun e w'=>e=.returned (.string ⟨(Lib.trimRightB s.data.toList c).toArray⟩)/\w'=w)(hx:x.toNat<128)
  (ha:decide (a.length<4294967281)=true):bC P f [.str a,.str [x]] (.str (Lib.trimRightB a x)):=by
 refine yr hf fun F w args _ hr=>?_
 rw[Am hr]
 have:=of_decide_eq_true ha
 refine(hc ⟨a.toArray⟩ x hx w (by rw[Jl];omega)).mono ?_
 rintro e w' ⟨rfl,rfl⟩
 exact⟨_,rfl,fun F' w''=>.str _,Below.refl _ _⟩
end
end Go.Proofs.YtefojkdckfidcaaGreatDoor.RX
namespace Go.Proofs
open Go.Shelf
def Tryz.lays190_ren:Go.Shelf.Ren:=⟨fun|190=>114|125=>131|258=>130|128=>149|129=>150|302=>140|303=>141|304=>142|305=>143|306=>144|307=>145|308=>146|309=>147|310=>148|333=>157|329=>158|330=>159|334=>160|335=>161|336=>162|344=>164|n=>n,fun|31=>23|9=>9|3=>3|46=>106|0=>0|51=>153|53=>167|4=>4|183=>159|182=>158|131=>163|5=>5|218=>171|222=>175|228=>177|229=>178|n=>n,fun|n=>n⟩
theorem Tryz.lays190:Go.Proofs.Lays.n190 Tryz.prog Tryz.lays190_ren:={
 mixed:=by kernel_rfl
 f125:=Tryz.func131.trans (congrArg some (by kernel_rfl))
 f128:=Tryz.func149.trans (congrArg some (by kernel_rfl))
 f129:=Tryz.func150.trans (congrArg some (by kernel_rfl))
 f190:=Tryz.func114.trans (congrArg some (by kernel_rfl))
 f258:=Tryz.func130.trans (congrArg some (by kernel_rfl))
 f302:=Tryz.func140.trans (congrArg some (by kernel_rfl))
 f303:=Tryz.func141.trans (congrArg some (by kernel_rfl))
 f304:=Tryz.func142.trans (congrArg some (by kernel_rfl))
 f305:=Tryz.func143.trans (congrArg some (by kernel_rfl))
 f306:=Tryz.func144.trans (congrArg some (by kernel_rfl))
 f307:=Tryz.func145.trans (congrArg some (by kernel_rfl))
 f308:=Tryz.func146.trans (congrArg some (by kernel_rfl))
 f309:=Tryz.func147.trans (congrArg some (by kernel_rfl))
 f310:=Tryz.func148.trans (congrArg some (by kernel_rfl))
 f329:=Tryz.func158.trans (congrArg some (by kernel_rfl))
 f330:=Tryz.func159.trans (congrArg some (by kernel_rfl))
 f333:=Tryz.func157.trans (congrArg some (by kernel_rfl))
 f334:=Tryz.func160.trans (congrArg some (by kernel_rfl))
 f335:=Tryz.func161.trans (congrArg some (by kernel_rfl))
 f336:=Tryz.func162.trans (congrArg some (by kernel_rfl))
 f344:=Tryz.func164.trans (congrArg some (by kernel_rfl))
 t0:=Tryz.underlying0
 a0:=Tryz.isAgg0
 z0:=Tryz.sizeOf0
 v0:=Tryz.zeroValue0
 t3:=Tryz.underlying3
 a3:=Tryz.isAgg3
 z3:=Tryz.sizeOf3
 v3:=Tryz.zeroValue3
 t4:=Tryz.underlying4
 a4:=Tryz.isAgg4
 z4:=Tryz.sizeOf4
 v4:=Tryz.zeroValue4
 t5:=Tryz.underlying5
 a5:=Tryz.isAgg5
 z5:=Tryz.sizeOf5
 v5:=Tryz.zeroValue5
 t9:=Tryz.underlying9
 a9:=Tryz.isAgg9
 z9:=Tryz.sizeOf9
 v9:=Tryz.zeroValue9
 t31:=Tryz.underlying23
 a31:=Tryz.isAgg23
 z31:=Tryz.sizeOf23
 v31:=Tryz.zeroValue23
 t46:=Tryz.underlying106
 a46:=Tryz.isAgg106
 z46:=Tryz.sizeOf106
 v46:=Tryz.zeroValue106
 t51:=Tryz.underlying153
 a51:=Tryz.isAgg153
 z51:=Tryz.sizeOf153
 v51:=Tryz.zeroValue153
 t53:=Tryz.underlying167
 a53:=Tryz.isAgg167
 z53:=Tryz.sizeOf167
 v53:=Tryz.zeroValue167
 t131:=Tryz.underlying163
 a131:=Tryz.isAgg163
 z131:=Tryz.sizeOf163
 v131:=Tryz.zeroValue163
 t182:=Tryz.underlying158
 a182:=Tryz.isAgg158
 z182:=Tryz.sizeOf158
 v182:=Tryz.zeroValue158
 t183:=Tryz.underlying159
 a183:=Tryz.isAgg159
 z183:=Tryz.sizeOf159
 v183:=Tryz.zeroValue159
 t218:=Tryz.underlying171
 a218:=Tryz.isAgg171
 z218:=Tryz.sizeOf171
 v218:=Tryz.zeroValue171
 t222:=Tryz.underlying175
 a222:=Tryz.isAgg175
 z222:=Tryz.sizeOf175
 v222:=Tryz.zeroValue175
 t228:=Tryz.underlying177
 a228:=Tryz.isAgg177
 z228:=Tryz.sizeOf177
 v228:=Tryz.zeroValue177
 t229:=Tryz.underlying178
 a229:=Tryz.isAgg178
 z229:=Tryz.sizeOf178
 v229:=Tryz.zeroValue178 }
open Go.Sort Go.RowKit in
theorem Tryz.slices_Sort_string(blk off cap:Nat)(ss:List (List UInt8))(w:World)(hH:Holds encStr w blk off ss.toArray)(hblk:blk<w.heap.size)(hsz:ss.length<4611686018427387904) :
  Calls Tryz.prog 114 #[.slice (some ⟨blk,off,none⟩) ss.length cap] w fun e w' =>
   e=.returned (.tuple #[])/\∃n os,w'=grow (putRow encStr (Sort.ahead w n) blk off (ss.mergeSort fun x y=>decide (x<=y)).toArray) os:=Any.slices_Sort_string Tryz.lays190 blk off cap ss w hH hblk hsz
open Go.RowKit Go.Sort in
theorem Tryz.slices_Sort_string_none(p:Option Addr)(cap:Nat)(w:World) :
  Calls Tryz.prog 114 #[.slice p 0 cap] w fun e w'=>e=.returned (.tuple #[])/\w'=w:=Any.slices_Sort_string_none Tryz.lays190 p cap w
def Tryz.lays194_ren:Go.Shelf.Ren:=⟨fun|194=>115|n=>n,fun|31=>23|9=>9|3=>3|4=>4|0=>0|n=>n,fun|n=>n⟩
theorem Tryz.lays194:Go.Proofs.Lays.n194 Tryz.prog Tryz.lays194_ren:={
 mixed:=by kernel_rfl
 f194:=Tryz.func115.trans (congrArg some (by kernel_rfl))
 t0:=Tryz.underlying0
 a0:=Tryz.isAgg0
 z0:=Tryz.sizeOf0
 v0:=Tryz.zeroValue0
 t3:=Tryz.underlying3
 a3:=Tryz.isAgg3
 z3:=Tryz.sizeOf3
 v3:=Tryz.zeroValue3
 t4:=Tryz.underlying4
 a4:=Tryz.isAgg4
 z4:=Tryz.sizeOf4
 v4:=Tryz.zeroValue4
 t9:=Tryz.underlying9
 a9:=Tryz.isAgg9
 z9:=Tryz.sizeOf9
 v9:=Tryz.zeroValue9
 t31:=Tryz.underlying23
 a31:=Tryz.isAgg23
 z31:=Tryz.sizeOf23
 v31:=Tryz.zeroValue23 }
open Go.RowKit Go.Lib Go.Sort in
theorem Tryz.slices_Compact_string(blk off cap:Nat)(zs:List (List UInt8))(w:World)(hH:Holds encStr w blk off zs.toArray)(hsz:zs.length<=9223372036854775807)(hcap:zs.length<=cap) :
  Calls Tryz.prog 115 #[.slice (some ⟨blk,off,none⟩) zs.length cap] w fun e w'=>e=.returned (.slice (some ⟨blk,off,none⟩) (Lib.compact zs).length cap)/\∃q,w'=putRow encStr (Sort.ahead w q) blk off (Lib.compact zs++List.replicate (zs.length-(Lib.compact zs).length) []).toArray:=Any.slices_Compact_string Tryz.lays194 blk off cap zs w hH hsz hcap
open Go.RowKit Go.Lib Go.Sort in
theorem Tryz.slices_Compact_string_empty(a:Option Addr)(cap:Nat)(w:World) :
  Calls Tryz.prog 115 #[.slice a 0 cap] w fun e w'=>e=.returned (.slice a 0 cap)/\w'=w:=Any.slices_Compact_string_empty Tryz.lays194 a cap w
def Tryz.Gx:Go.Shelf.Ren:=⟨fun|153=>82|152=>106|226=>107|227=>69|228=>101|137=>66|119=>121|224=>122|225=>123|217=>100|266=>119|n=>n,fun|9=>9|3=>3|4=>4|5=>5|21=>21|117=>98|116=>97|0=>0|46=>106|124=>101|n=>n,fun|n=>n⟩
theorem Tryz.Ph:Go.Proofs.Lays.n153 Tryz.prog Tryz.Gx:={
 mixed:=by kernel_rfl
 f119:=Tryz.func121.trans (congrArg some (by kernel_rfl))
 f137:=Tryz.func66.trans (congrArg some (by kernel_rfl))
 f152:=Tryz.func106.trans (congrArg some (by kernel_rfl))
 f153:=Tryz.func82.trans (congrArg some (by kernel_rfl))
 f217:=Tryz.func100.trans (congrArg some (by kernel_rfl))
 f224:=Tryz.func122.trans (congrArg some (by kernel_rfl))
 f225:=Tryz.func123.trans (congrArg some (by kernel_rfl))
 f226:=Tryz.func107.trans (congrArg some (by kernel_rfl))
 f227:=Tryz.func69.trans (congrArg some (by kernel_rfl))
 f228:=Tryz.func101.trans (congrArg some (by kernel_rfl))
 f266:=Tryz.func119.trans (congrArg some (by kernel_rfl))
 t0:=Tryz.underlying0
 a0:=Tryz.isAgg0
 z0:=Tryz.sizeOf0
 v0:=Tryz.zeroValue0
 t3:=Tryz.underlying3
 a3:=Tryz.isAgg3
 z3:=Tryz.sizeOf3
 v3:=Tryz.zeroValue3
 t4:=Tryz.underlying4
 a4:=Tryz.isAgg4
 z4:=Tryz.sizeOf4
 v4:=Tryz.zeroValue4
 t5:=Tryz.underlying5
 a5:=Tryz.isAgg5
 z5:=Tryz.sizeOf5
 v5:=Tryz.zeroValue5
 t9:=Tryz.underlying9
 a9:=Tryz.isAgg9
 z9:=Tryz.sizeOf9
 v9:=Tryz.zeroValue9
 t21:=Tryz.underlying21
 a21:=Tryz.isAgg21
 z21:=Tryz.sizeOf21
 v21:=Tryz.zeroValue21
 t46:=Tryz.underlying106
 a46:=Tryz.isAgg106
 z46:=Tryz.sizeOf106
 v46:=Tryz.zeroValue106
 t116:=Tryz.underlying97
 a116:=Tryz.isAgg97
 z116:=Tryz.sizeOf97
 t117:=Tryz.underlying98
 a117:=Tryz.isAgg98
 z117:=Tryz.sizeOf98
 v117:=Tryz.zeroValue98
 t124:=Tryz.underlying101
 a124:=Tryz.isAgg101
 z124:=Tryz.sizeOf101
 v124:=Tryz.zeroValue101 }
open Go.RowKit Go.Lib in
theorem Tryz.strings_IndexAny_long(hv116:∀w,(zeroValue 97).run Tryz.prog w=.ok (.agg (Array.replicate 256 (.bool false))) w)(s chars:ByteArray)(w:World)(h2:2<=chars.size)(h8:8<s.size)(hs:s.size<4294967281)(hcs:chars.size<4294967281)(hascii:∀(j:Nat) b,chars.data.toList[j]? = some b->b.toNat<128) :
  Calls Tryz.prog 82 #[.string s,.string chars] w fun e w'=>e=.returned (.int .i64 (Lib.indexAny s.data.toList chars.data.toList))/\w'=((w.alloc (.cells (Lib.setCells chars.data.toList) 97)).alloc (.cells (Lib.setCells chars.data.toList) 97)):=Any.strings_IndexAny_long Tryz.Ph hv116 (by kernel_rfl) s chars w h2 h8 hs hcs hascii
def Tryz.GH:Go.Shelf.Ren:=⟨fun|119=>121|n=>n,fun|21=>21|4=>4|n=>n,fun|n=>n⟩
theorem Tryz.OS:Go.Proofs.Lays.n119 Tryz.prog Tryz.GH:={
 mixed:=by kernel_rfl
 f119:=Tryz.func121.trans (congrArg some (by kernel_rfl))
 t4:=Tryz.underlying4
 a4:=Tryz.isAgg4
 z4:=Tryz.sizeOf4
 v4:=Tryz.zeroValue4
 t21:=Tryz.underlying21
 a21:=Tryz.isAgg21
 z21:=Tryz.sizeOf21
 v21:=Tryz.zeroValue21 }
theorem Tryz.utf8_ValidRune(r:Int)(w:World) :
  Calls Tryz.prog 121 #[.int .i32 r] w fun e w'=>e=.returned (.bool (Lib.validRune r))/\w'=w:=Any.utf8_ValidRune Tryz.OS r w
def Tryz.GV:Go.Shelf.Ren:=⟨fun|152=>106|137=>66|119=>121|224=>122|225=>123|217=>100|266=>119|n=>n,fun|9=>9|21=>21|3=>3|4=>4|5=>5|0=>0|46=>106|n=>n,fun|n=>n⟩
theorem Tryz.O3:Go.Proofs.Lays.n152 Tryz.prog Tryz.GV:={
 mixed:=by kernel_rfl
 f119:=Tryz.func121.trans (congrArg some (by kernel_rfl))
 f137:=Tryz.func66.trans (congrArg some (by kernel_rfl))
 f152:=Tryz.func106.trans (congrArg some (by kernel_rfl))
 f217:=Tryz.func100.trans (congrArg some (by kernel_rfl))
 f224:=Tryz.func122.trans (congrArg some (by kernel_rfl))
 f225:=Tryz.func123.trans (congrArg some (by kernel_rfl))
 f266:=Tryz.func119.trans (congrArg some (by kernel_rfl))
 t0:=Tryz.underlying0
 a0:=Tryz.isAgg0
 z0:=Tryz.sizeOf0
 v0:=Tryz.zeroValue0
 t3:=Tryz.underlying3
 a3:=Tryz.isAgg3
 z3:=Tryz.sizeOf3
 v3:=Tryz.zeroValue3
 t4:=Tryz.underlying4
 a4:=Tryz.isAgg4
 z4:=Tryz.sizeOf4
 v4:=Tryz.zeroValue4
 t5:=Tryz.underlying5
 a5:=Tryz.isAgg5
 z5:=Tryz.sizeOf5
 v5:=Tryz.zeroValue5
 t9:=Tryz.underlying9
 a9:=Tryz.isAgg9
 z9:=Tryz.sizeOf9
 v9:=Tryz.zeroValue9
 t21:=Tryz.underlying21
 a21:=Tryz.isAgg21
 z21:=Tryz.sizeOf21
 v21:=Tryz.zeroValue21
 t46:=Tryz.underlying106
 a46:=Tryz.isAgg106
 z46:=Tryz.sizeOf106
 v46:=Tryz.zeroValue106 }
open Go.RowKit Go.Lib in
theorem Tryz.strings_IndexRune_ascii(s:ByteArray)(r:Int)(w:World)(h0:0<=r)(h1:r<128) :
  Calls Tryz.prog 106 #[.string s,.int .i32 r] w fun e w'=>e=.returned (.int .i64 (Lib.indexByte s.data.toList r.toNat.toUInt8))/\w'=w:=Any.strings_IndexRune_ascii Tryz.O3 s r w h0 h1
def Tryz.GF:Go.Shelf.Ren:=⟨fun|226=>107|n=>n,fun|3=>3|4=>4|n=>n,fun|n=>n⟩
theorem Tryz.Pj:Go.Proofs.Lays.n226 Tryz.prog Tryz.GF:={
 mixed:=by kernel_rfl
 f226:=Tryz.func107.trans (congrArg some (by kernel_rfl))
 t3:=Tryz.underlying3
 a3:=Tryz.isAgg3
 z3:=Tryz.sizeOf3
 v3:=Tryz.zeroValue3
 t4:=Tryz.underlying4
 a4:=Tryz.isAgg4
 z4:=Tryz.sizeOf4
 v4:=Tryz.zeroValue4 }
open Go.RowKit Go.Lib in
theorem Tryz.strings_shouldUseASCIISet(n:Int)(w:World) :
  Calls Tryz.prog 107 #[.int .i64 n] w fun e w'=>e=.returned (.bool (decide (8<n)))/\w'=w:=Any.strings_shouldUseASCIISet Tryz.Pj n w
def Tryz.y8:Go.Shelf.Ren:=⟨fun|150=>50|153=>82|152=>106|226=>107|227=>69|228=>101|137=>66|119=>121|224=>122|225=>123|217=>100|266=>119|n=>n,fun|9=>9|4=>4|3=>3|5=>5|21=>21|117=>98|116=>97|0=>0|46=>106|124=>101|n=>n,fun|n=>n⟩
theorem Tryz.PT:Go.Proofs.Lays.n150 Tryz.prog Tryz.y8:={
 mixed:=by kernel_rfl
 f119:=Tryz.func121.trans (congrArg some (by kernel_rfl))
 f137:=Tryz.func66.trans (congrArg some (by kernel_rfl))
 f150:=Tryz.func50.trans (congrArg some (by kernel_rfl))
 f152:=Tryz.func106.trans (congrArg some (by kernel_rfl))
 f153:=Tryz.func82.trans (congrArg some (by kernel_rfl))
 f217:=Tryz.func100.trans (congrArg some (by kernel_rfl))
 f224:=Tryz.func122.trans (congrArg some (by kernel_rfl))
 f225:=Tryz.func123.trans (congrArg some (by kernel_rfl))
 f226:=Tryz.func107.trans (congrArg some (by kernel_rfl))
 f227:=Tryz.func69.trans (congrArg some (by kernel_rfl))
 f228:=Tryz.func101.trans (congrArg some (by kernel_rfl))
 f266:=Tryz.func119.trans (congrArg some (by kernel_rfl))
 t0:=Tryz.underlying0
 a0:=Tryz.isAgg0
 z0:=Tryz.sizeOf0
 v0:=Tryz.zeroValue0
 t3:=Tryz.underlying3
 a3:=Tryz.isAgg3
 z3:=Tryz.sizeOf3
 v3:=Tryz.zeroValue3
 t4:=Tryz.underlying4
 a4:=Tryz.isAgg4
 z4:=Tryz.sizeOf4
 v4:=Tryz.zeroValue4
 t5:=Tryz.underlying5
 a5:=Tryz.isAgg5
 z5:=Tryz.sizeOf5
 v5:=Tryz.zeroValue5
 t9:=Tryz.underlying9
 a9:=Tryz.isAgg9
 z9:=Tryz.sizeOf9
 v9:=Tryz.zeroValue9
 t21:=Tryz.underlying21
 a21:=Tryz.isAgg21
 z21:=Tryz.sizeOf21
 v21:=Tryz.zeroValue21
 t46:=Tryz.underlying106
 a46:=Tryz.isAgg106
 z46:=Tryz.sizeOf106
 v46:=Tryz.zeroValue106
 t116:=Tryz.underlying97
 a116:=Tryz.isAgg97
 z116:=Tryz.sizeOf97
 t117:=Tryz.underlying98
 a117:=Tryz.isAgg98
 z117:=Tryz.sizeOf98
 v117:=Tryz.zeroValue98
 t124:=Tryz.underlying101
 a124:=Tryz.isAgg101
 z124:=Tryz.sizeOf101
 v124:=Tryz.zeroValue101 }
def Tryz.G3:Go.Shelf.Ren:=⟨fun|161=>34|231=>68|227=>69|233=>70|235=>71|228=>101|197=>102|151=>103|260=>120|152=>106|137=>66|119=>121|224=>122|225=>123|217=>100|266=>119|n=>n,fun|9=>9|4=>4|3=>3|5=>5|117=>98|116=>97|0=>0|124=>101|105=>126|21=>21|119=>149|46=>106|139=>152|138=>151|n=>n,fun|3=>1|4=>2|n=>n⟩
theorem Tryz.OW:Go.Proofs.Lays.n161 Tryz.prog Tryz.G3:={
 mixed:=by kernel_rfl
 f119:=Tryz.func121.trans (congrArg some (by kernel_rfl))
 f137:=Tryz.func66.trans (congrArg some (by kernel_rfl))
 f151:=Tryz.func103.trans (congrArg some (by kernel_rfl))
 f152:=Tryz.func106.trans (congrArg some (by kernel_rfl))
 f161:=Tryz.func34.trans (congrArg some (by kernel_rfl))
 f197:=Tryz.func102.trans (congrArg some (by kernel_rfl))
 f217:=Tryz.func100.trans (congrArg some (by kernel_rfl))
 f224:=Tryz.func122.trans (congrArg some (by kernel_rfl))
 f225:=Tryz.func123.trans (congrArg some (by kernel_rfl))
 f227:=Tryz.func69.trans (congrArg some (by kernel_rfl))
 f228:=Tryz.func101.trans (congrArg some (by kernel_rfl))
 f231:=Tryz.func68.trans (congrArg some (by kernel_rfl))
 f233:=Tryz.func70.trans (congrArg some (by kernel_rfl))
 f235:=Tryz.func71.trans (congrArg some (by kernel_rfl))
 f260:=Tryz.func120.trans (congrArg some (by kernel_rfl))
 f266:=Tryz.func119.trans (congrArg some (by kernel_rfl))
 t0:=Tryz.underlying0
 a0:=Tryz.isAgg0
 z0:=Tryz.sizeOf0
 v0:=Tryz.zeroValue0
 t3:=Tryz.underlying3
 a3:=Tryz.isAgg3
 z3:=Tryz.sizeOf3
 v3:=Tryz.zeroValue3
 t4:=Tryz.underlying4
 a4:=Tryz.isAgg4
 z4:=Tryz.sizeOf4
 v4:=Tryz.zeroValue4
 t5:=Tryz.underlying5
 a5:=Tryz.isAgg5
 z5:=Tryz.sizeOf5
 v5:=Tryz.zeroValue5
 t9:=Tryz.underlying9
 a9:=Tryz.isAgg9
 z9:=Tryz.sizeOf9
 v9:=Tryz.zeroValue9
 t21:=Tryz.underlying21
 a21:=Tryz.isAgg21
 z21:=Tryz.sizeOf21
 v21:=Tryz.zeroValue21
 t46:=Tryz.underlying106
 a46:=Tryz.isAgg106
 z46:=Tryz.sizeOf106
 v46:=Tryz.zeroValue106
 t105:=Tryz.underlying126
 a105:=Tryz.isAgg126
 z105:=Tryz.sizeOf126
 v105:=Tryz.zeroValue126
 t116:=Tryz.underlying97
 a116:=Tryz.isAgg97
 z116:=Tryz.sizeOf97
 t117:=Tryz.underlying98
 a117:=Tryz.isAgg98
 z117:=Tryz.sizeOf98
 v117:=Tryz.zeroValue98
 t119:=Tryz.underlying149
 a119:=Tryz.isAgg149
 z119:=Tryz.sizeOf149
 t124:=Tryz.underlying101
 a124:=Tryz.isAgg101
 z124:=Tryz.sizeOf101
 v124:=Tryz.zeroValue101
 t138:=Tryz.underlying151
 a138:=Tryz.isAgg151
 z138:=Tryz.sizeOf151
 v138:=Tryz.zeroValue151
 t139:=Tryz.underlying152
 a139:=Tryz.isAgg152
 z139:=Tryz.sizeOf152
 v139:=Tryz.zeroValue152
 g3:=by kernel_rfl
 g4:=by kernel_rfl }
open Go.RowKit in
theorem Tryz.strings_TrimLeft_one(s:ByteArray)(c:UInt8)(hc:c.toNat<128)(w:World) :
  Calls Tryz.prog 34 #[.string s,.string ⟨#[c]⟩] w fun e w'=>e=.returned (.string ⟨(Lib.trimLeftB s.data.toList c).toArray⟩)/\w'=w:=Any.strings_TrimLeft_one Tryz.OW s c hc w
def Tryz.Jm:Go.Shelf.Ren:=⟨fun|99=>39|206=>76|n=>n,fun|9=>9|4=>4|3=>3|n=>n,fun|n=>n⟩
theorem Tryz.Qw:Go.Proofs.Lays.n99 Tryz.prog Tryz.Jm:={
 mixed:=by kernel_rfl
 f99:=Tryz.func39.trans (congrArg some (by kernel_rfl))
 f206:=Tryz.func76.trans (congrArg some (by kernel_rfl))
 t3:=Tryz.underlying3
 a3:=Tryz.isAgg3
 z3:=Tryz.sizeOf3
 v3:=Tryz.zeroValue3
 t4:=Tryz.underlying4
 a4:=Tryz.isAgg4
 z4:=Tryz.sizeOf4
 v4:=Tryz.zeroValue4
 t9:=Tryz.underlying9
 a9:=Tryz.isAgg9
 z9:=Tryz.sizeOf9
 v9:=Tryz.zeroValue9 }
open Go.RowKit Go.Lib in
theorem Tryz.strings_HasPrefix(s p:ByteArray)(w:World) :
  Calls Tryz.prog 39 #[.string s,.string p] w fun e w'=>e=.returned (.bool (Lib.hasPrefix s.data.toList p.data.toList))/\w'=w:=Any.strings_HasPrefix Tryz.Qw s p w
def Tryz.GR:Go.Shelf.Ren:=⟨fun|145=>53|220=>85|219=>108|217=>100|225=>123|224=>122|267=>124|266=>119|314=>136|n=>n,fun|9=>9|4=>4|59=>80|3=>3|5=>5|46=>106|146=>154|51=>153|n=>n,fun|1=>0|n=>n⟩
theorem Tryz.O6:Go.Proofs.Lays.n145 Tryz.prog Tryz.GR:={
 mixed:=by kernel_rfl
 f145:=Tryz.func53.trans (congrArg some (by kernel_rfl))
 f217:=Tryz.func100.trans (congrArg some (by kernel_rfl))
 f219:=Tryz.func108.trans (congrArg some (by kernel_rfl))
 f220:=Tryz.func85.trans (congrArg some (by kernel_rfl))
 f224:=Tryz.func122.trans (congrArg some (by kernel_rfl))
 f225:=Tryz.func123.trans (congrArg some (by kernel_rfl))
 f266:=Tryz.func119.trans (congrArg some (by kernel_rfl))
 f267:=Tryz.func124.trans (congrArg some (by kernel_rfl))
 f314:=Tryz.func136.trans (congrArg some (by kernel_rfl))
 t3:=Tryz.underlying3
 a3:=Tryz.isAgg3
 z3:=Tryz.sizeOf3
 v3:=Tryz.zeroValue3
 t4:=Tryz.underlying4
 a4:=Tryz.isAgg4
 z4:=Tryz.sizeOf4
 v4:=Tryz.zeroValue4
 t5:=Tryz.underlying5
 a5:=Tryz.isAgg5
 z5:=Tryz.sizeOf5
 v5:=Tryz.zeroValue5
 t9:=Tryz.underlying9
 a9:=Tryz.isAgg9
 z9:=Tryz.sizeOf9
 v9:=Tryz.zeroValue9
 t46:=Tryz.underlying106
 a46:=Tryz.isAgg106
 z46:=Tryz.sizeOf106
 v46:=Tryz.zeroValue106
 t51:=Tryz.underlying153
 a51:=Tryz.isAgg153
 z51:=Tryz.sizeOf153
 v51:=Tryz.zeroValue153
 t59:=Tryz.underlying80
 a59:=Tryz.isAgg80
 z59:=Tryz.sizeOf80
 v59:=Tryz.zeroValue80
 t146:=Tryz.underlying154
 a146:=Tryz.isAgg154
 z146:=Tryz.sizeOf154
 v146:=Tryz.zeroValue154
 g1:=by kernel_rfl }
open Go.RowKit Go.Lib in
theorem Tryz.strings_Cut(s sep:ByteArray)(m:Int)(w:World)(hs:s.size<4294967281)(hm:w.cell? ⟨0,0,none⟩=some (.int .i64 m)) :
  Calls Tryz.prog 53 #[.string s,.string sep] w fun e w'=>e=.returned (.tuple #[.string ⟨(Lib.cut s.data.toList sep.data.toList).1.toArray⟩,.string ⟨(Lib.cut s.data.toList sep.data.toList).2.1.toArray⟩,.bool (Lib.cut s.data.toList sep.data.toList).2.2])/\∃n,w'=w.drewN n:=Any.strings_Cut Tryz.O6 s sep m w hs hm
def Tryz.FV:Go.Shelf.Ren:=⟨fun|145=>53|220=>85|219=>108|217=>100|225=>123|224=>122|267=>124|266=>119|314=>136|n=>n,fun|9=>9|4=>4|59=>80|3=>3|5=>5|46=>106|146=>154|51=>153|n=>n,fun|1=>0|n=>n⟩
theorem Tryz.Nv:Go.Proofs.LaysM.n145 Tryz.prog Tryz.FV:={
 mixed:=by kernel_rfl
 f145:=Tryz.func53.trans (congrArg some (by kernel_rfl))
 f217:=Tryz.func100.trans (congrArg some (by kernel_rfl))
 f219:=Tryz.func108.trans (congrArg some (by kernel_rfl))
 f220:=Tryz.func85.trans (congrArg some (by kernel_rfl))
 f224:=Tryz.func122.trans (congrArg some (by kernel_rfl))
 f225:=Tryz.func123.trans (congrArg some (by kernel_rfl))
 f266:=Tryz.func119.trans (congrArg some (by kernel_rfl))
 f267:=Tryz.func124.trans (congrArg some (by kernel_rfl))
 f314:=Tryz.func136.trans (congrArg some (by kernel_rfl))
 t3:=Tryz.underlying3
 a3:=Tryz.isAgg3
 z3:=Tryz.sizeOf3
 v3:=Tryz.zeroValue3
 t4:=Tryz.underlying4
 a4:=Tryz.isAgg4
 z4:=Tryz.sizeOf4
 v4:=Tryz.zeroValue4
 t5:=Tryz.underlying5
 a5:=Tryz.isAgg5
 z5:=Tryz.sizeOf5
 v5:=Tryz.zeroValue5
 t9:=Tryz.underlying9
 a9:=Tryz.isAgg9
 z9:=Tryz.sizeOf9
 v9:=Tryz.zeroValue9
 t46:=Tryz.underlying106
 a46:=Tryz.isAgg106
 z46:=Tryz.sizeOf106
 v46:=Tryz.zeroValue106
 t51:=Tryz.underlying153
 a51:=Tryz.isAgg153
 z51:=Tryz.sizeOf153
 v51:=Tryz.zeroValue153
 t59:=Tryz.underlying80
 a59:=Tryz.isAgg80
 z59:=Tryz.sizeOf80
 v59:=Tryz.zeroValue80
 t146:=Tryz.underlying154
 a146:=Tryz.isAgg154
 z146:=Tryz.sizeOf154
 v146:=Tryz.zeroValue154
 g1:=by kernel_rfl
 i3:=by kernel_rfl
 i4:=by kernel_rfl
 i5:=by kernel_rfl
 i9:=by kernel_rfl
 i46:=by kernel_rfl
 i51:=by kernel_rfl
 i59:=by kernel_rfl
 i146:=by kernel_rfl
 m1:=by kernel_rfl
 s1_3:=fun w h=>Go.Proofs.cell_of_shapedOpen_int (zero:=#[.int .i64 0]) (t:=3) h (of_decide_eq_true (by kernel_rfl)) (by kernel_rfl) rfl (by kernel_rfl) (by kernel_rfl) Tryz.underlying3 }
def Tryz.lays137_ren:Go.Shelf.Ren:=⟨fun|137=>66|217=>100|266=>119|n=>n,fun|9=>9|5=>5|3=>3|n=>n,fun|n=>n⟩
theorem Tryz.lays137:Go.Proofs.Lays.n137 Tryz.prog Tryz.lays137_ren:={
 mixed:=by kernel_rfl
 f137:=Tryz.func66.trans (congrArg some (by kernel_rfl))
 f217:=Tryz.func100.trans (congrArg some (by kernel_rfl))
 f266:=Tryz.func119.trans (congrArg some (by kernel_rfl))
 t3:=Tryz.underlying3
 a3:=Tryz.isAgg3
 z3:=Tryz.sizeOf3
 v3:=Tryz.zeroValue3
 t5:=Tryz.underlying5
 a5:=Tryz.isAgg5
 z5:=Tryz.sizeOf5
 v5:=Tryz.zeroValue5
 t9:=Tryz.underlying9
 a9:=Tryz.isAgg9
 z9:=Tryz.sizeOf9
 v9:=Tryz.zeroValue9 }
open Go.RowKit in
theorem Tryz.strings_IndexByte(s:ByteArray)(c:Int)(w:World) :
  Calls Tryz.prog 66 #[.string s,.int .u8 c] w fun e w'=>e=.returned (.int .i64 (Lib.indexByte s.data.toList c.toNat.toUInt8))/\w'=w:=Any.strings_IndexByte Tryz.lays137 s c w
def Tryz.Gm:Go.Shelf.Ren:=⟨fun|162=>139|232=>154|227=>69|234=>155|236=>156|228=>101|271=>163|151=>103|120=>165|197=>102|152=>106|260=>120|137=>66|119=>121|224=>122|225=>123|217=>100|266=>119|n=>n,fun|9=>9|4=>4|3=>3|5=>5|117=>98|116=>97|0=>0|124=>101|21=>21|105=>126|46=>106|119=>149|139=>152|138=>151|n=>n,fun|3=>1|4=>2|n=>n⟩
theorem Tryz.O8:Go.Proofs.Lays.n162 Tryz.prog Tryz.Gm:={
 mixed:=by kernel_rfl
 f119:=Tryz.func121.trans (congrArg some (by kernel_rfl))
 f120:=Tryz.func165.trans (congrArg some (by kernel_rfl))
 f137:=Tryz.func66.trans (congrArg some (by kernel_rfl))
 f151:=Tryz.func103.trans (congrArg some (by kernel_rfl))
 f152:=Tryz.func106.trans (congrArg some (by kernel_rfl))
 f162:=Tryz.func139.trans (congrArg some (by kernel_rfl))
 f197:=Tryz.func102.trans (congrArg some (by kernel_rfl))
 f217:=Tryz.func100.trans (congrArg some (by kernel_rfl))
 f224:=Tryz.func122.trans (congrArg some (by kernel_rfl))
 f225:=Tryz.func123.trans (congrArg some (by kernel_rfl))
 f227:=Tryz.func69.trans (congrArg some (by kernel_rfl))
 f228:=Tryz.func101.trans (congrArg some (by kernel_rfl))
 f232:=Tryz.func154.trans (congrArg some (by kernel_rfl))
 f234:=Tryz.func155.trans (congrArg some (by kernel_rfl))
 f236:=Tryz.func156.trans (congrArg some (by kernel_rfl))
 f260:=Tryz.func120.trans (congrArg some (by kernel_rfl))
 f266:=Tryz.func119.trans (congrArg some (by kernel_rfl))
 f271:=Tryz.func163.trans (congrArg some (by kernel_rfl))
 t0:=Tryz.underlying0
 a0:=Tryz.isAgg0
 z0:=Tryz.sizeOf0
 v0:=Tryz.zeroValue0
 t3:=Tryz.underlying3
 a3:=Tryz.isAgg3
 z3:=Tryz.sizeOf3
 v3:=Tryz.zeroValue3
 t4:=Tryz.underlying4
 a4:=Tryz.isAgg4
 z4:=Tryz.sizeOf4
 v4:=Tryz.zeroValue4
 t5:=Tryz.underlying5
 a5:=Tryz.isAgg5
 z5:=Tryz.sizeOf5
 v5:=Tryz.zeroValue5
 t9:=Tryz.underlying9
 a9:=Tryz.isAgg9
 z9:=Tryz.sizeOf9
 v9:=Tryz.zeroValue9
 t21:=Tryz.underlying21
 a21:=Tryz.isAgg21
 z21:=Tryz.sizeOf21
 v21:=Tryz.zeroValue21
 t46:=Tryz.underlying106
 a46:=Tryz.isAgg106
 z46:=Tryz.sizeOf106
 v46:=Tryz.zeroValue106
 t105:=Tryz.underlying126
 a105:=Tryz.isAgg126
 z105:=Tryz.sizeOf126
 v105:=Tryz.zeroValue126
 t116:=Tryz.underlying97
 a116:=Tryz.isAgg97
 z116:=Tryz.sizeOf97
 t117:=Tryz.underlying98
 a117:=Tryz.isAgg98
 z117:=Tryz.sizeOf98
 v117:=Tryz.zeroValue98
 t119:=Tryz.underlying149
 a119:=Tryz.isAgg149
 z119:=Tryz.sizeOf149
 t124:=Tryz.underlying101
 a124:=Tryz.isAgg101
 z124:=Tryz.sizeOf101
 v124:=Tryz.zeroValue101
 t138:=Tryz.underlying151
 a138:=Tryz.isAgg151
 z138:=Tryz.sizeOf151
 v138:=Tryz.zeroValue151
 t139:=Tryz.underlying152
 a139:=Tryz.isAgg152
 z139:=Tryz.sizeOf152
 v139:=Tryz.zeroValue152
 g3:=by kernel_rfl
 g4:=by kernel_rfl }
open Go.RowKit in
theorem Tryz.strings_TrimRight_one(s:ByteArray)(c:UInt8)(hc:c.toNat<128)(w:World)(hs:s.size<=9223372036854775807) :
  Calls Tryz.prog 139 #[.string s,.string ⟨#[c]⟩] w fun e w'=>e=.returned (.string ⟨(Lib.trimRightB s.data.toList c).toArray⟩)/\w'=w:=Any.strings_TrimRight_one Tryz.O8 s c hc w hs
end Go.Proofs
namespace Go.Proofs.YtefojkdckfidcaaGreatDoor.M.Sh
open Go.RowKit Go.Proofs.YtefojkdckfidcaaGreatDoor.RX
abbrev sort:=jS
theorem PU{l:List (List UInt8)}(h:decide (List.length l*17<=limit)=true):aY Tryz.prog 114 [.row 1000000] [(1000000,9,[.aN false (α:=List UInt8) [] RX.encS l])] (.tup []) [(1000000,9,[.aN false (α:=List UInt8) [] RX.encS (sort l)])]:=Gu ⟨Tryz.f114,by kernel_rfl,by kernel_rfl,by kernel_rfl⟩ Tryz.slices_Sort_string Tryz.slices_Sort_string_none h
theorem Jw{l:List (List UInt8)}(h:decide (List.length l*17<=limit)=true):aY Tryz.prog 115 [.row 1000000] [(1000000,9,[.aN false (α:=List UInt8) [] RX.encS l])] (.recs (α:=List UInt8) [] RX.encS (Lib.compact l)) []:=Ci ⟨Tryz.f115,by kernel_rfl,by kernel_rfl,by kernel_rfl⟩ Tryz.slices_Compact_string Tryz.slices_Compact_string_empty (Lib.compact_length_le l) h
theorem uS{a:List UInt8}{x:UInt8}(hx:x.toNat<128):bC Tryz.prog 34 [.str a,.str [x]] (.str (Lib.trimLeftB a x)):=D8 ⟨Tryz.f34,by kernel_rfl,by kernel_rfl,by kernel_rfl⟩ Tryz.strings_TrimLeft_one hx
theorem Gt{a b:List UInt8}:bC Tryz.prog 39 [.str a,.str b] (.val (.bool (Lib.hasPrefix a b))):=Eb ⟨Tryz.f39,by kernel_rfl,by kernel_rfl,by kernel_rfl⟩ Tryz.strings_HasPrefix
theorem RI{a b:List UInt8}(h:decide (List.length a<4294967281)=true):bC Tryz.prog 53 [.str a,.str b] (.tup [.str (Lib.cut a b).1,.str (Lib.cut a b).2.1,.val (.bool (Lib.cut a b).2.2)]):=PZ (g:=0) ⟨Tryz.f53,by kernel_rfl,by kernel_rfl,by kernel_rfl⟩ (QQ (by kernel_rfl)) Tryz.Nv.s1_3 Tryz.strings_Cut h
theorem lN{a:List UInt8}{n:Int}:bC Tryz.prog 66 [.str a,.val (.int .u8 n)] (.val (.int .i64 (Lib.indexByte a (Int.toNat n).toUInt8))):=D9 ⟨Tryz.f66,by kernel_rfl,by kernel_rfl,by kernel_rfl⟩ Tryz.strings_IndexByte
theorem Ef{a:List UInt8}{x:UInt8}(hx:x.toNat<128)(h:decide (List.length a<4294967281)=true):bC Tryz.prog 139 [.str a,.str [x]] (.str (Lib.trimRightB a x)):=C4 ⟨Tryz.f139,by kernel_rfl,by kernel_rfl,by kernel_rfl⟩ Tryz.strings_TrimRight_one hx h
end Go.Proofs.YtefojkdckfidcaaGreatDoor.M.Sh
namespace Go.Proofs.YtefojkdckfidcaaGreatDoor.RX
open Go.RowKit
theorem PY{F:Fz}{w:World}{B:Env}{k:Nat}{args:List Value}(h:aB F w B [.own k 0] args):∃b,B k=some (.box b)/\args=[.pointer (some ⟨b,0,none⟩)]:=by
 cases h with
 |cons _ v _ vs h hs =>
  cases hs
  cases h with
  |own _ _ b hB=>exact⟨b,hB,rfl⟩
structure Quiet(q:Option Nat)(w w':World):Prop where
 os:w'.os=w.os
 tape:w'.tape=w.tape
 output:w'.output=w.output
 size:w.heap.size<=w'.heap.size
 block:∀k,k<w.heap.size->q≠some k->w'.heap[k]? = w.heap[k]?
theorem Quiet.of{q:Option Nat}{w w':World}(h:Below w.heap.size w w'):Quiet q w w':=⟨h.os,h.tape,h.output,h.size,fun k hk _=>h.block k hk⟩
theorem vG{F:Fz}{w:World}:∀{l:Bs}{xs:List Value},aB F w NB (l.flatMap e8) xs->xs=l.map fun b=>Value.int .u8 (b.toNat:Int)
 |[],_,h=>by cases h;rfl
 |x::l,_,h=>by
  simp only[List.flatMap_cons,e8,List.singleton_append] at h
  cases h with
  |cons _ v _ vs hv hs =>
   cases hv
   rw[vG hs];rfl
theorem BL{P:Program}{f T e:Nat}{l:Bs}(hf:FOK P f)
  (H:∀(b n cap:Nat)(q:Option Nat)(p:Value)(w:World),w.heap[b]? = some (.cells #[p,bq q n cap] T (0,0))->n=l.length->dE w e 1 q n cap (l.map fun b=>Value.int .u8 (b.toNat:Int)) ->
   Calls P f #[.pointer (some ⟨b,0,none⟩)] w fun ex w'=>ex=.returned (.string ⟨l.toArray⟩)/\Quiet q w w') :
  aY P f [.own LIM 0] [(LIM,T,[.opt LIM,.bf (LIM+1)]),(LIM+1,e,[.aN false (0:UInt8) e8 l])] (.str l) [(LIM,T,[.opt LIM,.hole])]:=by
 refine⟨hf,fun F w1 B args hb hr=>?_⟩
 obtain⟨b,hB,rfl⟩:=PY hr
 have hm:aM [(LIM,T,[D.opt LIM,.bf (LIM+1)]),(LIM+1,e,[D.aN false (0:UInt8) e8 l])] LIM T [.opt LIM,.bf (LIM+1)]:=List.mem_cons_self
 have hm2:aM [(LIM,T,[D.opt LIM,.bf (LIM+1)]),(LIM+1,e,[D.aN false (0:UInt8) e8 l])] (LIM+1) e [.aN false (0:UInt8) e8 l]:=List.mem_cons_of_mem _ List.mem_cons_self
 obtain⟨vs,hrv,hfl,hh,hnn,hnf⟩:=hb.xE hm hB
 obtain⟨q,n,cap,hBq,hn0,hpos,hge,xs,hxs,hown,hfz⟩:=hb.jU hm2
 have hx:=vG hxs
 subst hx
 cases hrv with
 |cons _ p _ vs h hs =>
  cases hs with
  |cons _ v _ vs' h1 hs =>
   cases hs
   obtain rfl:v=bq q n cap:=by
    cases h1 with
    |bf _ p' n' cap' hB'=>rw[hBq] at hB';cases hB';rfl
   have hflv:iW (bq q n cap)=true:=rfl
   have hqb:q≠some b:=fun e0=>by
    have:=hb.inj LIM (LIM+1) b ⟨_,_,hm⟩ ⟨_,_,hm2⟩ (fG hB) (by rw[dn hBq,e0])
    exact absurd this (by decide)
   have hblt:b<w1.w.heap.size:=(Array.getElem?_eq_some_iff.1 hh).1
   refine(H b n cap q p w1.w hh hn0 hown).mono ?_
   rintro ex w' ⟨rfl,hq⟩
   have hcell:∀g j,F g j->w'.heap[g]? = w1.w.heap[g]?:=fun g j hF=>hq.block g (hb.frz g j hF) fun e0=>by
    have:=(hfz g e0 j).1 hF
    simp at this
   refine⟨_,F,B,rfl,.str l,⟨fun k t ds hk=>?_,fun k t ds c hk hc=>?_,fun i j c hi hj _ _=>?_,fun g j hF=>Nat.lt_of_lt_of_le (hb.frz g j hF) hq.size,hb.more,⟨fun _ _ h=>h,fun g j hF=>World.cell?_of_block (hcell g j hF)⟩,⟨hq.os,hq.tape,hq.output,hq.size,fun k hk hno=>?_⟩,hb.env⟩⟩
   ·have:=List.mem_singleton.1 hk
    cases this
    refine .box _ b [p,bq q n cap] hB (.cons _ _ _ _ ?_ (.cons _ _ _ _ (.hole _ hflv) .nil)) rfl ((hq.block b hblt hqb).trans hh) hnf
    cases h with
    |opt _ b' _ hB' hp=>exact .opt _ b' _ hB' hp
   ·have:=List.mem_singleton.1 hk
    cases this
    exact hb.new _ _ _ c hm hc
   ·obtain⟨_,_,h1⟩:=hi
    obtain⟨_,_,h2⟩:=hj
    have h1:=List.mem_singleton.1 h1
    have h2:=List.mem_singleton.1 h2
    cases h1;cases h2;rfl
   ·refine hq.block k hk fun e0=>?_
    rcases hb.new _ _ _ k hm2 (by rw[dn hBq,e0]) with h|h
    ·omega
    ·exact hno h
end Go.Proofs.YtefojkdckfidcaaGreatDoor.RX
namespace Go.Proofs.YtefojkdckfidcaaGreatDoor.RX
open Go.Shelf Go.RowKit Go.Proofs
set_option maxHeartbeats 1000000 in
set_option maxRecDepth 100000 in
theorem GG{P:Program}{ρ:Ren}(L:Lays.n169 P ρ)(X:Builder.Extra P ρ)(b g cap size:Nat)(p:Value)(l:Bs)(w:World)(hbk:w.heap[b]? = some (.cells #[p,.slice (some ⟨g,0,none⟩) l.length cap] (ρ.t 72) (0,0)))
  (hg:w.shape? g=some (ρ.t 5,size)) (h0:l≠[]) (hc:l.length<=cap) (hs:l.length<=size) (hmax:l.length<=maxLen) (hcells:∀j x,l[j]? = some x->w.cell? ⟨g,j,none⟩=some (.int .u8 x.toNat)) :
  Calls P (ρ.f 169) #[.pointer (some ⟨b,0,none⟩)] w fun e w'=>e=.returned (.string ⟨l.toArray⟩)/\w'=w.drew.freeze ⟨g,0,none⟩ l.length:=by
 have hl0:l.length≠0:=by simpa using h0
 have c1:w.drew.cell? ⟨b,1,none⟩=some (.slice (some ⟨g,0,none⟩) l.length cap):=by
  have:w.drew.heap[b]? = some (.cells #[p,.slice (some ⟨g,0,none⟩) l.length cap] (ρ.t 72) (0,0)):=hbk
  rw[Lib.cell_of_heap this];rfl
 have hSD:(Builtin.unsafeSliceData_ #[(ρ.t 37)] (ρ.t 127) #[.slice (some ⟨g,0,none⟩) l.length cap]).run P w.drew=.ok (.pointer (some ⟨g,0,none⟩)) w.drew :=
  Lib.run_unsafeSliceData_row _ _ _ _ _ _ (by omega)
 have hUS:(Builtin.unsafeString_ #[(ρ.t 127),(ρ.t 3)] (ρ.t 9) #[.pointer (some ⟨g,0,none⟩),.int .i64 l.length]).run P w.drew=.ok (.string ⟨l.toArray⟩) (w.drew.freeze ⟨g,0,none⟩ l.length) :=
  Lib.run_unsafeString_row w.drew (ρ.t 127) (ρ.t 3) (ρ.t 9) (ρ.t 5) L.t127 X.cellsByte g size hg l h0 hs (by unfold maxLen at hmax;omega) fun j x hx=>by
   have e:(⟨g,0,none⟩:Addr).add j=⟨g,j,none⟩:=by unfold Addr.add;split<;>simp_all
   rw[e];exact hcells j x hx
 have mixed:=L.mixed
 have z72:=L.z72;have v72:=L.v72;have u72:=run_underlying L.t72;have t72:=L.t72;have a72:=L.a72
 have z70:=L.z70;have v70:=L.v70;have u70:=run_underlying L.t70;have t70:=L.t70;have a70:=L.a70
 have z37:=L.z37;have v37:=L.v37;have u37:=run_underlying L.t37;have t37:=L.t37;have a37:=L.a37
 have z127:=L.z127;have v127:=L.v127;have u127:=run_underlying L.t127;have t127:=L.t127;have a127:=L.a127
 have z3:=L.z3;have v3:=L.v3;have u3:=run_underlying L.t3;have t3:=L.t3;have a3:=L.a3
 have z9:=L.z9;have v9:=L.v9;have u9:=run_underlying L.t9;have t9:=L.t9;have a9:=L.a9
 have z5:=X.z5;have v5:=X.v5;have u5:=run_underlying X.t5;have t5:=X.t5;have a5:=X.a5
 go_enter L.f169,Body.n169_ntmps ρ
 go_wp2
 go_region_o
 all_goals (go_wp2;go_ret;exact⟨rfl,rfl⟩)
theorem EC(w:World)(g n:Nat):Quiet (some g) w (w.drew.freeze ⟨g,0,none⟩ n):=by
 unfold World.freeze
 split
 ·exact⟨rfl,rfl,rfl,Nat.le_refl _,fun _ _ _=>rfl⟩
 ·refine⟨rfl,rfl,rfl,?_,fun k hk hne=>?_⟩
  ·show w.heap.size<=(w.heap.modify g _).size
   rw[Array.size_modify];exact Nat.le_refl _
  ·have hk:g≠k:=fun e=>hne (congrArg some e)
   show(w.heap.modify g _)[k]? = w.heap[k]?
   rw[Array.getElem?_modify,if_neg hk]
set_option maxHeartbeats 2000000 in
set_option maxRecDepth 100000 in
theorem EU{P:Program}{ρ:Ren}(L:Lays.n169 P ρ)(X:Builder.Extra P ρ)(b:Nat)(a:Addr)(sh:TypeId×Nat)(p:Value)(w:World)(hbk:w.heap[b]? = some (.cells #[p,.slice (some a) 0 0] (ρ.t 72) (0,0)))(hsh:w.shape? a.block=some sh) :
  Calls P (ρ.f 169) #[.pointer (some ⟨b,0,none⟩)] w fun e w'=>e=.returned (.string ⟨#[]⟩)/\Below w.heap.size w w':=by
 have hUS:=Any.unsafeString_none L X
 have hlt:b<w.heap.size:=(Array.getElem?_eq_some_iff.1 hbk).1
 have c1:w.drew.cell? ⟨b,1,none⟩=some (.slice (some a) 0 0):=by
  have:w.drew.heap[b]? = some (.cells #[p,.slice (some a) 0 0] (ρ.t 72) (0,0)):=hbk
  rw[Lib.cell_of_heap this];rfl
 have hSD:(Builtin.unsafeSliceData_ #[(ρ.t 37)] (ρ.t 127) #[.slice (some a) 0 0]).run P w.drew=.ok (.pointer (some ⟨w.drew.heap.size,0,none⟩)) (w.drew.alloc (.view a (ρ.t 5))) :=
  Lib.run_unsafeSliceData_zero w.drew _ _ (ρ.t 5) L.t127 a 0 sh hsh
 have c2:(w.drew.alloc (.view a (ρ.t 5))).cell? ⟨b,1,none⟩=some (.slice (some a) 0 0):=by
  have:(w.drew.alloc (.view a (ρ.t 5))).heap[b]? = _:=(Lib.alloc_old w.drew _ b hlt).trans hbk
  rw[Lib.cell_of_heap this];rfl
 have c3:(w.alloc (.view a (ρ.t 5))).drew.cell? ⟨b,1,none⟩=some (.slice (some a) 0 0):=c2
 have c0:w.cell? ⟨b,1,none⟩=some (.slice (some a) 0 0):=c1
 have mixed:=L.mixed
 have z72:=L.z72;have v72:=L.v72;have u72:=run_underlying L.t72;have t72:=L.t72;have a72:=L.a72
 have z70:=L.z70;have v70:=L.v70;have u70:=run_underlying L.t70;have t70:=L.t70;have a70:=L.a70
 have z37:=L.z37;have v37:=L.v37;have u37:=run_underlying L.t37;have t37:=L.t37;have a37:=L.a37
 have z127:=L.z127;have v127:=L.v127;have u127:=run_underlying L.t127;have t127:=L.t127;have a127:=L.a127
 have z3:=L.z3;have v3:=L.v3;have u3:=run_underlying L.t3;have t3:=L.t3;have a3:=L.a3
 have z9:=L.z9;have v9:=L.v9;have u9:=run_underlying L.t9;have t9:=L.t9;have a9:=L.a9
 have z5:=X.z5;have v5:=X.v5;have u5:=run_underlying X.t5;have t5:=X.t5;have a5:=X.a5
 go_enter L.f169,Body.n169_ntmps ρ
 go_wp2
 go_region_o
 all_goals (go_wp2;go_ret;exact⟨rfl,(Below.drew (Below.refl w.heap.size w)).alloc (Nat.le_refl _) _⟩)
theorem GN{P:Program}{ρ:Ren}(L:Lays.n169 P ρ)(X:Builder.Extra P ρ)(l:Bs)(b n cap:Nat)(q:Option Nat)(p:Value)(w:World)(hbk:w.heap[b]? = some (.cells #[p,bq q n cap] (ρ.t 72) (0,0)))(hn:n=l.length)
  (hown:dE w (ρ.t 5) 1 q n cap (l.map fun b=>Value.int .u8 (b.toNat:Int))) :
  Calls P (ρ.f 169) #[.pointer (some ⟨b,0,none⟩)] w fun ex w'=>ex=.returned (.string ⟨l.toArray⟩)/\Quiet q w w':=by
 subst hn
 rcases hown.2 with⟨rfl,h0,rfl⟩|⟨g,cur,fz,rfl,hh,_,hnc,hcm,hsz,htk⟩
 ·have hl:l=[]:=List.eq_nil_of_length_eq_zero h0
  subst hl
  exact(Any.Builder_String_nil L X w.heap.size b p w hbk).mono fun e w' h=>⟨h.1,.of h.2⟩
 ·by_cases hl:l=[]
  ·subst hl
   by_cases hc0:cap=0
   ·subst hc0
    exact(EU L X b ⟨g,0,none⟩ _ p w hbk (by simp[World.shape?,hh];rfl)).mono fun e w' h=>⟨h.1,.of h.2⟩
   ·exact(Any.Builder_String_room L X w.heap.size b g cap p w hc0 hbk).mono fun e w' h=>⟨h.1,.of h.2⟩
  ·refine(GG L X b g cap cur.size p l w hbk (by simp[World.shape?,hh]) hl hnc (by omega) (by omega) fun j x hx=>?_).mono ?_
   ·exact hown.cells (by rw[List.getElem?_map,hx];rfl)
   ·rintro e w' ⟨rfl,rfl⟩
    exact⟨rfl,EC w g _⟩
theorem rP{P:Program}{w:World}{t t2 ty e:Nat}{i:TypeInfo}{z:Value}{p:Option Nat}{n cap:Nat}(ht:P.underlying t=some (.slice e))(hi:P.info? e=some i)(hz:i.zero=some z)(hzs:z.cells.size=i.size)(hpos:0<i.size)
  (ht2:(∃e2,P.underlying t2=some (.slice e2))\/P.underlying t2=some .string)
  {xs:List Value} (hown:dE w e i.size p n cap xs)
  {x:Value} {m:Nat} {news:List Value} (hlen:∀w',(Builtin.lenOf x).run P w'=.ok m w') (hx:(Builtin.firstCells i.size m x).run P w=.ok news.toArray w) (hx':(Builtin.firstCells i.size m x).run P w.drew=.ok news.toArray w.drew)
  (hl:news.length=m*i.size) (h1:∀u∈news,u.oneCell'=true) (hb:(n+m)*(i.bytes+1)<=140737488355328) :
  ∃p' cap' w',(Builtin.append_ #[t,t2] ty #[bq p n cap,x]).run P w=.ok (bq p' (n+m) cap') w'/\dE w' e i.size p' (n+m) cap' (xs++news)/\((p'=p/\w.grownBy w' p)\/(p'=some w.heap.size/\w.grownBy w' none)):=by
 obtain⟨p',cap',w',v',g1,g2,g3,g4⟩:=uG (ty:=ty) (v0:=bq p n cap) (.inl rfl) ht hi hz hzs hpos ht2 hown hlen hx hx' hl h1 hb
 rcases g2 with rfl|⟨rfl,h0,rfl,q,rfl⟩
 ·exact⟨p',cap',w',g1,g3,g4⟩
 ·have hp:p=none:=by
   rcases g4 with⟨e,_⟩|⟨e,_⟩
   ·exact e.symm
   ·cases e
  subst hp
  have hn:n=0/\cap=0:=by
   rcases hown.2 with⟨_,h1,h2⟩|⟨_,_,_,h,_⟩
   ·exact⟨h1,h2⟩
   ·cases h
  obtain⟨rfl,rfl⟩:=hn
  obtain rfl:m=0:=by omega
  obtain rfl:news=[]:=List.eq_nil_of_length_eq_zero (by simpa using hl)
  have hd:(Builtin.append_ #[t,t2] ty #[bq none 0 0,x]).run P w=.ok (.slice none 0 0) w:=by
   rcases ht2 with⟨e2,ht2⟩|ht2<;>simp[bq,Builtin.append_,run_underlying ht,run_underlying ht2,sizeOf,typeInfo,hi,hlen,hx,storeCells]
  rw[hd] at g1
  injection g1 with e1 e2
  injection e1 with e1 _ _
  subst e1
  subst e2
  exact⟨none,0,w,hd,g3,g4⟩
open Go.Lib in
theorem wpList_append_run{P:Program}{w w':World}{v v' xv:Value}{ops:Array Oper}{rest:List Oper}{o:Oper}{a:Act}{Q:Exit->Act->World->Prop}(hgd:o.guard=none)(sl x:Operand)(t u:TypeId)
  (ho:o.op=.call { callee:=.builtin .append,args:=#[sl,x],argTypes:=#[t,u] }) (hs:a.eval sl=v) (hx:a.eval x=xv) (hr:(Builtin.append_ #[t,u] o.type #[v,xv]).run P w=.ok v' w')
  (h:wpList P ops Q rest (a.put o.dst v') w'):wpList P ops Q (o::rest) a w:=by
 refine wpList_plain hgd fun K hK=>?_
 unfold Oper.wp execOp
 simp only[ho,resolve,invoke,builtin,Sem.run_bind,Sem.run_pure,Result.andThen_ok,List.map_toArray,List.map_cons,List.map_nil,hs,hx,hr]
 exact hK _ _ h
structure ym(P:Program)(ρ:Ren):Prop where
 mixed:P.follows .mixedOrders=true
 t72 : P.underlying (ρ.t 72)=some (TypeDesc.struct #[{ name := "addr",type:=ρ.t 70,offset:=0,embedded:=false,tag := "",pkgPath := "strings",byteOffset:=0 },{ name := "buf",type:=ρ.t 37,offset:=1,embedded:=false,tag := "",pkgPath := "strings",byteOffset:=8 }])
 a72:∀w,(isAgg (ρ.t 72)).run P w=.ok true w
 z72:∀w,(Go.sizeOf (ρ.t 72)).run P w=.ok 2 w
 v72:∀w,(zeroValue (ρ.t 72)).run P w=.ok (Value.agg #[Value.pointer none,Value.slice none 0 0]) w
 t70:P.underlying (ρ.t 70)=some (TypeDesc.pointer (ρ.t 72))
 a70:∀w,(isAgg (ρ.t 70)).run P w=.ok false w
 z70:∀w,(Go.sizeOf (ρ.t 70)).run P w=.ok 1 w
 v70:∀w,(zeroValue (ρ.t 70)).run P w=.ok (Value.pointer none) w
 t37:P.underlying (ρ.t 37)=some (TypeDesc.slice (ρ.t 5))
 a37:∀w,(isAgg (ρ.t 37)).run P w=.ok false w
 z37:∀w,(Go.sizeOf (ρ.t 37)).run P w=.ok 1 w
 v37:∀w,(zeroValue (ρ.t 37)).run P w=.ok (Value.slice none 0 0) w
 t3:P.underlying (ρ.t 3)=some (TypeDesc.int IntKind.i64)
 a3:∀w,(isAgg (ρ.t 3)).run P w=.ok false w
 z3:∀w,(Go.sizeOf (ρ.t 3)).run P w=.ok 1 w
 v3:∀w,(zeroValue (ρ.t 3)).run P w=.ok (Value.int IntKind.i64 0) w
 t9:P.underlying (ρ.t 9)=some (TypeDesc.string)
 a9:∀w,(isAgg (ρ.t 9)).run P w=.ok false w
 z9:∀w,(Go.sizeOf (ρ.t 9)).run P w=.ok 1 w
 v9:∀w,(zeroValue (ρ.t 9)).run P w=.ok (Value.string { data:=#[] }) w
 e240:∀args w,(callFunc (ρ.f 240) args).run P w=.ok (.enter (ρ.f 240) args) w
 fresh:∀b w,w.cell? ⟨b,0,none⟩=some (.pointer none)->w.shape? b=some (ρ.t 72,2)->w.frozen? ⟨b,0,none⟩=false ->
  Calls P (ρ.f 240) #[.pointer (some ⟨b,0,none⟩)] w fun e w'=>e=.returned (.tuple #[])/\w'=w.setCell ⟨b,0,none⟩ (.pointer (some ⟨b,0,none⟩))
 used:∀b w,w.cell? ⟨b,0,none⟩=some (.pointer (some ⟨b,0,none⟩))->Calls P (ρ.f 240) #[.pointer (some ⟨b,0,none⟩)] w fun e w'=>e=.returned (.tuple #[])/\w'=w
set_option maxHeartbeats 2000000 in
set_option maxRecDepth 100000 in
theorem QR{P:Program}{ρ:Ren}(L:ym P ρ)(hfn:P.funcs[ρ.f 166]? = some (Body.n166 ρ))(X:Builder.Extra P ρ)(b n cap:Nat)(q:Option Nat)(p:Value)(xs news:List Value)(s:ByteArray)(w:World)(hbk:w.heap[b]? = some (.cells #[p,bq q n cap] (ρ.t 72) (0,0)))
  (hp:p=.pointer none\/p=.pointer (some ⟨b,0,none⟩)) (hqb:q≠some b) (hown:dE w (ρ.t 5) 1 q n cap xs) (hnews:news.length=s.size) (h1:∀u∈news,u.oneCell'=true)
  (hx:∀w',(Builtin.firstCells 1 s.size (.string s)).run P w'=.ok news.toArray w') (hb:(n+s.size)*2<=140737488355328) :
  Calls P (ρ.f 166) #[.pointer (some ⟨b,0,none⟩),.string s] w fun e w'=>e=.returned (.tuple #[.int .i64 s.size,.nilIface])/\∃q' cap' w2,w'=w2.setCell ⟨b,1,none⟩ (bq q' (n+s.size) cap') /\
   w2.heap[b]? = some (.cells #[.pointer (some ⟨b,0,none⟩),bq q n cap] (ρ.t 72) (0,0))/\dE w2 (ρ.t 5) 1 q' (n+s.size) cap' (xs++news)/\∃w1,(w1=w\/w1=w.setCell ⟨b,0,none⟩ (.pointer (some ⟨b,0,none⟩)))/\((q'=q/\w1.grownBy w2 q)\/(q'=some w1.heap.size/\w1.grownBy w2 none)):=by
 obtain⟨i0,hi,hz0,hz1,hz2⟩:=info_parts X.infoByte
 have mixed:=L.mixed
 have z72:=L.z72;have v72:=L.v72;have u72:=run_underlying L.t72;have t72:=L.t72;have a72:=L.a72
 have z70:=L.z70;have v70:=L.v70;have u70:=run_underlying L.t70;have t70:=L.t70;have a70:=L.a70
 have z37:=L.z37;have v37:=L.v37;have u37:=run_underlying L.t37;have t37:=L.t37;have a37:=L.a37
 have z3:=L.z3;have v3:=L.v3;have u3:=run_underlying L.t3;have t3:=L.t3;have a3:=L.a3
 have z9:=L.z9;have v9:=L.v9;have u9:=run_underlying L.t9;have t9:=L.t9;have a9:=L.a9
 have z5:=X.z5;have v5:=X.v5;have u5:=run_underlying X.t5;have t5:=X.t5;have a5:=X.a5
 have e240:∀args w,(callFunc (ρ.f 240) args).run P w=.ok (.enter (ρ.f 240) args) w:=L.e240
 have hcc:Calls P (ρ.f 240) #[.pointer (some ⟨b,0,none⟩)] w fun e w1=>e=.returned (.tuple #[])/\(w1=w\/w1=w.setCell ⟨b,0,none⟩ (.pointer (some ⟨b,0,none⟩)))/\w1.heap[b]? = some (.cells #[.pointer (some ⟨b,0,none⟩),bq q n cap] (ρ.t 72) (0,0))/\dE w1 (ρ.t 5) 1 q n cap xs:=by
  rcases hp with rfl|rfl
  ·refine(L.fresh b w (by rw[Lib.cell_of_heap hbk];rfl) (by simp[World.shape?,hbk]) (Lib.frozen_of_heap hbk 0)).mono ?_
   rintro e w1 ⟨rfl,rfl⟩
   refine⟨rfl,.inr rfl,by simp[World.setCell,Array.getElem?_modify,hbk],?_⟩
   refine⟨hown.1,hown.2.imp id ?_⟩
   rintro⟨g,cur,fz,rfl,hh,h⟩
   refine⟨g,cur,fz,rfl,?_,h⟩
   have hne:b≠g:=fun e=>hqb (congrArg some e.symm)
   simp[World.setCell,Array.getElem?_modify,hne,hh]
  ·refine(L.used b w (by rw[Lib.cell_of_heap hbk];rfl)).mono ?_
   rintro e w1 ⟨rfl,rfl⟩
   exact⟨rfl,.inl rfl,hbk,hown⟩
 have hlenS:∀w',(Builtin.lenOf (.string s)).run P w'=.ok s.size w':=fun w'=>by simp[Builtin.lenOf]
 go_enter hfn,Body.n166_ntmps ρ
 go_wp2_with (go_at_fn (ρ.f 240);refine hcc.mono ?_)
 rintro e w1 ⟨rfl,hw1,hbk1,hown1⟩
 have c0:w1.cell? ⟨b,0,none⟩=some (.pointer (some ⟨b,0,none⟩)):=by rw[Lib.cell_of_heap hbk1];rfl
 have c1:w1.cell? ⟨b,1,none⟩=some (bq q n cap):=by rw[Lib.cell_of_heap hbk1];rfl
 obtain⟨q',cap',w2,hA,hown2,hg⟩:=rP (P:=P) (w:=w1) (t:=ρ.t 37) (t2:=ρ.t 9) (ty:=ρ.t 37) (e:=ρ.t 5) (i:=i0) (p:=q) (n:=n) (cap:=cap) (xs:=xs) (x:=.string s) (m:=s.size) (news:=news) L.t37 hi hz0 (by rw[hz1];rfl) (by rw[hz1];decide) (.inr L.t9) (by rw[hz1];exact hown1) hlenS (by rw[hz1];exact hx _) (by rw[hz1];exact hx _) (by rw[hz1];omega) h1 (by rw[hz2];exact hb)
 rw[hz1] at hown2
 have hlt:b<w1.heap.size:=(Array.getElem?_eq_some_iff.1 hbk1).1
 have hb2:w2.heap[b]? = some (.cells #[.pointer (some ⟨b,0,none⟩),bq q n cap] (ρ.t 72) (0,0)):=by
  rcases hg with⟨_,hg⟩|⟨_,hg⟩
  ·rw[hg.block b hlt (fun e=>hqb e.symm)];exact hbk1
  ·rw[hg.block b hlt (by simp)];exact hbk1
 have d0:w2.cell? ⟨b,0,none⟩=some (.pointer (some ⟨b,0,none⟩)):=by rw[Lib.cell_of_heap hb2];rfl
 have d1:w2.cell? ⟨b,1,none⟩=some (bq q n cap):=by rw[Lib.cell_of_heap hb2];rfl
 have f1:w2.frozen? ⟨b,1,none⟩=false:=Lib.frozen_of_heap hb2 1
 go_wp2_with (at_builtin;refine wpList_append_run rfl _ _ (ρ.t 37) (ρ.t 9) rfl rfl rfl hA ?_)
 obtain⟨ao,m,c,hao⟩:∃ao m c,bq q' (n+s.size) cap'=.slice ao m c:=⟨_,_,_,rfl⟩
 obtain⟨ao2,m2,c2,hao2⟩:∃ao m c,bq q n cap=.slice ao m c:=⟨_,_,_,rfl⟩
 have hfin:∃q' cap' w2',w2.setCell ⟨b,1,none⟩ (.slice ao m c)=w2'.setCell ⟨b,1,none⟩ (bq q' (n+s.size) cap') /\
   w2'.heap[b]? = some (.cells #[.pointer (some ⟨b,0,none⟩),bq q n cap] (ρ.t 72) (0,0))/\dE w2' (ρ.t 5) 1 q' (n+s.size) cap' (xs++news)/\∃w1,(w1=w\/w1=w.setCell ⟨b,0,none⟩ (.pointer (some ⟨b,0,none⟩)))/\((q'=q/\w1.grownBy w2' q)\/(q'=some w1.heap.size/\w1.grownBy w2' none)) :=
  ⟨q',cap',w2,by rw[hao],hb2,hown2,w1,hw1,hg⟩
 rw[hao2] at d1
 rw[hao,hao2]
 clear hA hao hao2
 have hst:(storeCells ⟨b,1,none⟩ [.slice ao m c]).run P w2=.ok () (w2.setCell ⟨b,1,none⟩ (.slice ao m c)):=by
  have h2:(store ⟨b,1,none⟩ (.slice ao m c)).run P w2=.ok () (w2.setCell ⟨b,1,none⟩ (.slice ao m c)):=by
   rw[run_store P w2 _ _ _ rfl,d1];simp[f1]
  simp[storeCells,h2,Addr.add]
 go_wp2
 rw[hst]
 simp only[Result.andThen]
 rw[Oper.upon_skip]
 go_wp2
 go_ret2
 exact⟨rfl,hfin⟩
theorem D4{F:Fz}{w:World}{B:Env}:∀l:Bs,aB F w B (l.flatMap e8) (l.map fun b=>Value.int .u8 (b.toNat:Int))
 |[]=>.nil
 |x::l=>by
  simp only[List.flatMap_cons,e8,List.singleton_append,List.map_cons]
  exact .cons _ _ _ _ (.val _ rfl) (D4 l)
def Wrote(T e b:Nat)(q:Option Nat)(l':Bs)(w w':World):Prop :=
 ∃q' cap',w'.heap[b]? = some (.cells #[.pointer (some ⟨b,0,none⟩),bq q' l'.length cap'] T (0,0))/\dE w' e 1 q' l'.length cap' (l'.map fun b=>Value.int .u8 (b.toNat:Int)) /\
  (w'.os=w.os/\w'.tape=w.tape/\w'.output=w.output/\w.heap.size<=w'.heap.size/\∀k,k<w.heap.size->k≠b->q≠some k->w'.heap[k]? = w.heap[k]?)/\(q'=q\/∃g,q'=some g/\w.heap.size<=g)
theorem wU{P:Program}{f T e:Nat}{l l':Bs}{d2 r:D}{x2 v0:Value}(hf:FOK P f)(hd2:∀(F:Fz)(w:World)(B:Env) v,Rep F w B d2 v->v=x2)(hr0:∀(F:Fz)(w:World)(B:Env),Rep F w B r v0)
  (H:∀(b n cap:Nat)(q:Option Nat)(p:Value)(w:World),w.heap[b]? = some (.cells #[p,bq q n cap] T (0,0))->(p=.pointer none\/p=.pointer (some ⟨b,0,none⟩))->q≠some b->n=l.length->dE w e 1 q n cap (l.map fun b=>Value.int .u8 (b.toNat:Int)) ->
   Calls P f #[.pointer (some ⟨b,0,none⟩),x2] w fun ex w'=>ex=.returned v0/\Wrote T e b q l' w w') :
  aY P f [.own LIM 0,d2] [(LIM,T,[.opt LIM,.bf (LIM+1)]),(LIM+1,e,[.aN false (0:UInt8) e8 l])] r [(LIM,T,[.opt LIM,.bf 1]),(1,e,[.aN false (0:UInt8) e8 l'])]:=by
 refine⟨hf,fun F w1 B args hb hr=>?_⟩
 have ha:∃b,B LIM=some (.box b)/\args=[.pointer (some ⟨b,0,none⟩),x2]:=by
  cases hr with
  |cons _ v _ vs h hs =>
   cases hs with
   |cons _ v2 _ vs2 h2 hs =>
    cases hs
    have:=hd2 _ _ _ _ h2
    subst this
    cases h with
    |own _ _ b hB=>exact⟨b,hB,rfl⟩
 obtain⟨b,hB,rfl⟩:=ha
 have hm:aM [(LIM,T,[D.opt LIM,.bf (LIM+1)]),(LIM+1,e,[D.aN false (0:UInt8) e8 l])] LIM T [.opt LIM,.bf (LIM+1)]:=List.mem_cons_self
 have hm2:aM [(LIM,T,[D.opt LIM,.bf (LIM+1)]),(LIM+1,e,[D.aN false (0:UInt8) e8 l])] (LIM+1) e [.aN false (0:UInt8) e8 l]:=List.mem_cons_of_mem _ List.mem_cons_self
 obtain⟨vs,hrv,hfl,hh,hnn,hnf⟩:=hb.xE hm hB
 obtain⟨q,n,cap,hBq,hn0,hpos,hge,xs,hxs,hown,hfz⟩:=hb.jU hm2
 have hx:=vG hxs
 subst hx
 cases hrv with
 |cons _ p _ vs h hs =>
  cases hs with
  |cons _ v _ vs' h1 hs =>
   cases hs
   obtain rfl:v=bq q n cap:=by
    cases h1 with
    |bf _ p' n' cap' hB'=>rw[hBq] at hB';cases hB';rfl
   have hqb:q≠some b:=fun e0=>by
    have:=hb.inj LIM (LIM+1) b ⟨_,_,hm⟩ ⟨_,_,hm2⟩ (fG hB) (by rw[dn hBq,e0])
    exact absurd this (by decide)
   have hp:p=.pointer none\/p=.pointer (some ⟨b,0,none⟩):=by
    cases h with
    |opt _ b' _ hB' hp=>rw[hB] at hB';cases hB';exact hp
   have hblt:b<w1.w.heap.size:=(Array.getElem?_eq_some_iff.1 hh).1
   have hqf:∀g,q=some g->∀j,¬F g j:=fun g e0 j hF=>by
    have:=(hfz g e0 j).1 hF
    simp at this
   refine(H b n cap q p w1.w hh hp hqb hn0 hown).mono ?_
   rintro ex w' ⟨rfl,q',cap',hb',hown',⟨ho,ht,hout,hsize,hblk⟩,hq'⟩
   have hq'b:q'≠some b:=by
    rcases hq' with rfl|⟨g,rfl,hg⟩
    ·exact hqb
    ·intro e0;cases e0;omega
   have hB1:setB B 1 (.row q' l'.length cap') 1=some (.row q' l'.length cap'):=fH _ _ _
   have hBL:setB B 1 (.row q' l'.length cap') LIM=some (.box b):=(bF _ _ _ _ (by decide)).trans hB
   have hcell:∀g j,F g j->w'.heap[g]? = w1.w.heap[g]?:=fun g j hF=>hblk g (hb.frz g j hF) (fun e0=>hnf j (e0▸hF)) fun e0=>hqf g e0 j hF
   have hcase:∀k t ds,aM [(LIM,T,[D.opt LIM,.bf 1]),(1,e,[D.aN false (0:UInt8) e8 l'])] k t ds->(k=LIM/\t=T/\ds=[D.opt LIM,.bf 1])\/(k=1/\t=e/\ds=[D.aN false (0:UInt8) e8 l']):=by
    intro k t ds hk
    rcases List.mem_cons.1 hk with hk|hk
    ·cases hk;exact .inl ⟨rfl,rfl,rfl⟩
    ·have:=List.mem_singleton.1 hk
     cases this;exact .inr ⟨rfl,rfl,rfl⟩
   refine⟨v0,F,setB B 1 (.row q' l'.length cap'),rfl,hr0 _ _ _,⟨fun k t ds hk=>?_,fun k t ds c hk hc=>?_,fun i j c hi hj hci hcj=>?_,fun g j hF=>Nat.lt_of_lt_of_le (hb.frz g j hF) hsize,hb.more,⟨fun _ _ h=>h,fun g j hF=>World.cell?_of_block (hcell g j hF)⟩,⟨ho,ht,hout,hsize,fun k hk hno=>?_⟩,fun k r hk=>?_⟩⟩
   ·rcases hcase _ _ _ hk with⟨rfl,rfl,rfl⟩|⟨rfl,rfl,rfl⟩
    ·exact .box _ b [_,bq q' l'.length cap'] hBL (.cons _ _ _ _ (.opt _ b _ hBL (.inr rfl)) (.cons _ _ _ _ (.bf _ _ _ _ hB1) .nil)) rfl hb' hnf
    ·refine .row false _ _ l' q' l'.length cap' hB1 ⟨rfl,hpos,hge,_,D4 l',hown',fun b0 e0 j=>?_⟩
     refine⟨fun hF=>?_,fun h=>by simp at h⟩
     rcases hq' with rfl|⟨g,rfl,hg⟩
     ·exact(hqf b0 e0 j hF).elim
     ·cases e0
      have:=hb.frz _ _ hF
      omega
   ·rcases hcase _ _ _ hk with⟨rfl,rfl,rfl⟩|⟨rfl,rfl,rfl⟩
    ·rw[fG hBL] at hc;cases hc;exact hnn
    ·rw[dn hB1] at hc
     rcases hq' with rfl|⟨g,rfl,hg⟩
     ·exact hb.new _ _ _ c hm2 (by rw[dn hBq,hc])
     ·cases hc;exact .inl hg
   ·obtain⟨_,_,h1⟩:=hi
    obtain⟨_,_,h2⟩:=hj
    rcases hcase _ _ _ h1 with⟨rfl,_,_⟩|⟨rfl,_,_⟩<;>rcases hcase _ _ _ h2 with⟨rfl,_,_⟩|⟨rfl,_,_⟩
    ·rfl
    ·rw[fG hBL] at hci;rw[dn hB1] at hcj;cases hci;exact(hq'b hcj).elim
    ·rw[dn hB1] at hci;rw[fG hBL] at hcj;cases hcj;exact(hq'b hci).elim
    ·rfl
   ·refine hblk k hk (fun e0=>?_) fun e0=>?_
    ·subst e0
     rcases hnn with h|h
     ·omega
     ·exact hno h
    ·rcases hb.new _ _ _ k hm2 (by rw[dn hBq,e0]) with h|h
     ·omega
     ·exact hno h
   ·have hk1:k≠1:=fun e0=>by
     have:=w1.low k (by rw[hk];simp)
     unfold LIM at this;omega
    rw[bF _ _ _ _ hk1];exact hb.env k r hk
theorem KN(s:Bs):∀u∈s.map (fun b=>Value.int .u8 (b.toNat:Int)),u.oneCell'=true:=by
 intro u hu
 obtain⟨x,_,rfl⟩:=List.mem_map.1 hu
 rfl
theorem DF{w w1:World}{b:Nat}(hw1:w1=w\/w1=w.setCell ⟨b,0,none⟩ (.pointer (some ⟨b,0,none⟩))):w1.os=w.os/\w1.tape=w.tape/\w1.output=w.output/\w.heap.size<=w1.heap.size/\∀k,k<w.heap.size->k≠b->w1.heap[k]? = w.heap[k]?:=by
 rcases hw1 with rfl|rfl
 ·exact⟨rfl,rfl,rfl,Nat.le_refl _,fun _ _ _=>rfl⟩
 ·refine⟨rfl,rfl,rfl,by simp[World.setCell],fun k _ hk=>?_⟩
  have hk':b≠k:=fun e=>hk e.symm
  simp[World.setCell,Array.getElem?_modify,hk']
theorem EB{T e b n cap:Nat}{q q':Option Nat}{p:Value}{l':Bs}{w w1 w2:World}{cap':Nat}(hbk:w.heap[b]? = some (.cells #[p,bq q n cap] T (0,0)))(hqb:q≠some b)
  (hb2:w2.heap[b]? = some (.cells #[.pointer (some ⟨b,0,none⟩),bq q n cap] T (0,0))) (hown2:dE w2 e 1 q' l'.length cap' (l'.map fun b=>Value.int .u8 (b.toNat:Int)))
  (hq1:w1.os=w.os/\w1.tape=w.tape/\w1.output=w.output/\w.heap.size<=w1.heap.size/\∀k,k<w.heap.size->k≠b->w1.heap[k]? = w.heap[k]?) (hg:(q'=q/\w1.grownBy w2 q)\/(q'=some w1.heap.size/\w1.grownBy w2 none)) :
  Wrote T e b q l' w (w2.setCell ⟨b,1,none⟩ (bq q' l'.length cap')):=by
 have hblt:b<w.heap.size:=(Array.getElem?_eq_some_iff.1 hbk).1
 obtain⟨o1,t1,u1,z1,k1⟩:=hq1
 have hq'b:q'≠some b:=by
  rcases hg with⟨rfl,_⟩|⟨rfl,_⟩
  ·exact hqb
  ·intro e0;cases e0;omega
 have hgg:w2.os=w1.os/\w2.tape=w1.tape/\w2.output=w1.output/\w1.heap.size<=w2.heap.size/\∀k,k<w1.heap.size->q≠some k->w2.heap[k]? = w1.heap[k]?:=by
  rcases hg with⟨_,hg⟩|⟨_,hg⟩
  ·exact⟨hg.os,hg.tape,hg.output,hg.size,fun k hk hne=>hg.block k hk fun e=>hne e.symm⟩
  ·exact⟨hg.os,hg.tape,hg.output,hg.size,fun k hk _=>hg.block k hk (by simp)⟩
 obtain⟨o2,t2,u2,z2,k2⟩:=hgg
 refine⟨q',cap',?_,?_,⟨o2.trans o1,t2.trans t1,u2.trans u1,by show w.heap.size<=(w2.setCell _ _).heap.size;simp[World.setCell];omega,fun k hk hkb hkq=>?_⟩,?_⟩
 ·simp[World.setCell,Array.getElem?_modify,hb2]
 ·refine⟨hown2.1,hown2.2.imp id ?_⟩
  rintro⟨g,cur,fz,rfl,hh,h⟩
  refine⟨g,cur,fz,rfl,?_,h⟩
  have hne:b≠g:=fun e=>hq'b (congrArg some e.symm)
  simp[World.setCell,Array.getElem?_modify,hne,hh]
 ·have hk':b≠k:=fun e=>hkb e.symm
  have:(w2.setCell ⟨b,1,none⟩ (bq q' l'.length cap')).heap[k]? = w2.heap[k]?:=by simp[World.setCell,Array.getElem?_modify,hk']
  rw[this,k2 k (by omega) hkq,k1 k hk hkb]
 ·rcases hg with⟨h,_⟩|⟨h,_⟩
  ·exact .inl h
  ·exact .inr ⟨_,h,by omega⟩
set_option maxHeartbeats 2000000 in
set_option maxRecDepth 100000 in
theorem O9{P:Program}{ρ:Ren}(L:ym P ρ)(hfn:P.funcs[ρ.f 167]? = some (Body.n167 ρ))(X:Builder.Extra P ρ)(b n cap:Nat)(q:Option Nat)(p:Value)(xs:List Value)(ch:Int)(w:World)(hbk:w.heap[b]? = some (.cells #[p,bq q n cap] (ρ.t 72) (0,0)))
  (hp:p=.pointer none\/p=.pointer (some ⟨b,0,none⟩)) (hqb:q≠some b) (hown:dE w (ρ.t 5) 1 q n cap xs) (hb:(n+1)*2<=140737488355328) :
  Calls P (ρ.f 167) #[.pointer (some ⟨b,0,none⟩),.int .u8 ch] w fun e w'=>e=.returned .nilIface/\∃q' cap' w2,w'=w2.setCell ⟨b,1,none⟩ (bq q' (n+1) cap') /\
   w2.heap[b]? = some (.cells #[.pointer (some ⟨b,0,none⟩),bq q n cap] (ρ.t 72) (0,0))/\dE w2 (ρ.t 5) 1 q' (n+1) cap' (xs++[.int .u8 ch])/\∃w1:World,(w1.os=w.os/\w1.tape=w.tape/\w1.output=w.output/\w.heap.size<=w1.heap.size/\∀k,k<w.heap.size->k≠b->w1.heap[k]? = w.heap[k]?)/\((q'=q/\w1.grownBy w2 q)\/(q'=some w1.heap.size/\w1.grownBy w2 none)):=by
 obtain⟨i0,hi,hz0,hz1,hz2⟩:=info_parts X.infoByte
 have mixed:=L.mixed
 have z72:=L.z72;have v72:=L.v72;have u72:=run_underlying L.t72;have t72:=L.t72;have a72:=L.a72
 have z70:=L.z70;have v70:=L.v70;have u70:=run_underlying L.t70;have t70:=L.t70;have a70:=L.a70
 have z37:=L.z37;have v37:=L.v37;have u37:=run_underlying L.t37;have t37:=L.t37;have a37:=L.a37
 have z9:=L.z9;have v9:=L.v9;have u9:=run_underlying L.t9;have t9:=L.t9;have a9:=L.a9
 have z5:=X.z5;have v5:=X.v5;have u5:=run_underlying X.t5;have t5:=X.t5;have a5:=X.a5
 have e240:∀args w,(callFunc (ρ.f 240) args).run P w=.ok (.enter (ρ.f 240) args) w:=L.e240
 have hcc:Calls P (ρ.f 240) #[.pointer (some ⟨b,0,none⟩)] w fun e w1=>e=.returned (.tuple #[])/\(w1=w\/w1=w.setCell ⟨b,0,none⟩ (.pointer (some ⟨b,0,none⟩)))/\w1.heap[b]? = some (.cells #[.pointer (some ⟨b,0,none⟩),bq q n cap] (ρ.t 72) (0,0))/\dE w1 (ρ.t 5) 1 q n cap xs:=by
  rcases hp with rfl|rfl
  ·refine(L.fresh b w (by rw[Lib.cell_of_heap hbk];rfl) (by simp[World.shape?,hbk]) (Lib.frozen_of_heap hbk 0)).mono ?_
   rintro e w1 ⟨rfl,rfl⟩
   refine⟨rfl,.inr rfl,by simp[World.setCell,Array.getElem?_modify,hbk],?_⟩
   refine⟨hown.1,hown.2.imp id ?_⟩
   rintro⟨g,cur,fz,rfl,hh,h⟩
   refine⟨g,cur,fz,rfl,?_,h⟩
   have hne:b≠g:=fun e=>hqb (congrArg some e.symm)
   simp[World.setCell,Array.getElem?_modify,hne,hh]
  ·refine(L.used b w (by rw[Lib.cell_of_heap hbk];rfl)).mono ?_
   rintro e w1 ⟨rfl,rfl⟩
   exact⟨rfl,.inl rfl,hbk,hown⟩
 go_enter hfn,Body.n167_ntmps ρ
 go_wp2_with (go_at_fn (ρ.f 240);refine hcc.mono ?_)
 rintro e w1 ⟨rfl,hw1,hbk1,hown1⟩
 have c0:w1.cell? ⟨b,0,none⟩=some (.pointer (some ⟨b,0,none⟩)):=by rw[Lib.cell_of_heap hbk1];rfl
 have c1:w1.cell? ⟨b,1,none⟩=some (bq q n cap):=by rw[Lib.cell_of_heap hbk1];rfl
 have hlt1:b<w1.heap.size:=(Array.getElem?_eq_some_iff.1 hbk1).1
 obtain⟨wa,hwa⟩:∃wa,wa=w1.alloc (.cells #[.int .u8 ch] (ρ.t 5)):=⟨_,rfl⟩
 have hown1a:dE wa (ρ.t 5) 1 q n cap xs:=by
  subst hwa
  refine⟨hown1.1,hown1.2.imp id ?_⟩
  rintro⟨g,cur,fz,rfl,hh,h⟩
  exact⟨g,cur,fz,rfl,(Lib.alloc_old w1 _ g (Array.getElem?_eq_some_iff.1 hh).1).trans hh,h⟩
 have hbka:wa.heap[b]? = some (.cells #[.pointer (some ⟨b,0,none⟩),bq q n cap] (ρ.t 72) (0,0)):=by subst hwa;exact(Lib.alloc_old w1 _ b hlt1).trans hbk1
 have hcell:∀W:World,W.heap=wa.heap->(Builtin.firstCells 1 1 (.slice (some ⟨w1.heap.size,0,none⟩) 1 1)).run P W=.ok #[.int .u8 ch] W:=by
  intro W hW
  have hb:W.heap[w1.heap.size]? = some (.cells #[.int .u8 ch] (ρ.t 5) (0,0)):=by rw[hW,hwa];exact heap_alloc_new w1 _
  have h:W.cell? ⟨w1.heap.size,0,none⟩=some (.int .u8 ch):=by rw[Lib.cell_of_heap hb];rfl
  have e:(⟨w1.heap.size,0,none⟩:Addr).add 0=⟨w1.heap.size,0,none⟩:=rfl
  simp[Builtin.firstCells,loadCells,loadCellsFrom,e,h]
 have hq1:wa.os=w.os/\wa.tape=w.tape/\wa.output=w.output/\w.heap.size<=wa.heap.size/\∀k,k<w.heap.size->k≠b->wa.heap[k]? = w.heap[k]?:=by
  obtain⟨o1,t1,u1,z1,k1⟩:=DF hw1
  subst hwa
  refine⟨o1,t1,u1,by show w.heap.size<=(w1.heap.push _).size;rw[Array.size_push];omega,fun k hk hkb=>(Lib.alloc_old w1 _ k (by omega)).trans (k1 k hk hkb)⟩
 obtain⟨q',cap',w2,hA,hown2,hg⟩:=rP (P:=P) (w:=wa) (t:=ρ.t 37) (t2:=ρ.t 37) (ty:=ρ.t 37) (e:=ρ.t 5) (i:=i0) (p:=q) (n:=n) (cap:=cap) (xs:=xs) (x:=.slice (some ⟨w1.heap.size,0,none⟩) 1 1) (m:=1) (news:=[.int .u8 ch]) L.t37 hi hz0 (by rw[hz1];rfl) (by rw[hz1];decide) (.inl ⟨_,L.t37⟩) (by rw[hz1];exact hown1a) (fun w'=>by simp[Builtin.lenOf]) (by rw[hz1];exact hcell _ rfl) (by rw[hz1];exact hcell _ rfl) (by rw[hz1];rfl) (fun u hu=>by rw[List.mem_singleton] at hu;subst hu;rfl) (by rw[hz2];exact hb)
 rw[hz1] at hown2
 have hlt:b<wa.heap.size:=(Array.getElem?_eq_some_iff.1 hbka).1
 have hb2:w2.heap[b]? = some (.cells #[.pointer (some ⟨b,0,none⟩),bq q n cap] (ρ.t 72) (0,0)):=by
  rcases hg with⟨_,hg⟩|⟨_,hg⟩
  ·rw[hg.block b hlt (fun e=>hqb e.symm)];exact hbka
  ·rw[hg.block b hlt (by simp)];exact hbka
 have d0:w2.cell? ⟨b,0,none⟩=some (.pointer (some ⟨b,0,none⟩)):=by rw[Lib.cell_of_heap hb2];rfl
 have d1:w2.cell? ⟨b,1,none⟩=some (bq q n cap):=by rw[Lib.cell_of_heap hb2];rfl
 have f1:w2.frozen? ⟨b,1,none⟩=false:=Lib.frozen_of_heap hb2 1
 go_wp2_with (at_builtin;refine wpList_append_run rfl _ _ (ρ.t 37) (ρ.t 37) rfl rfl rfl (hwa▸hA) ?_)
 obtain⟨ao,m,c,hao⟩:∃ao m c,bq q' (n+1) cap'=.slice ao m c:=⟨_,_,_,rfl⟩
 obtain⟨ao2,m2,c2,hao2⟩:∃ao m c,bq q n cap=.slice ao m c:=⟨_,_,_,rfl⟩
 have hfin:∃q' cap' w2',w2.setCell ⟨b,1,none⟩ (.slice ao m c)=w2'.setCell ⟨b,1,none⟩ (bq q' (n+1) cap') /\
   w2'.heap[b]? = some (.cells #[.pointer (some ⟨b,0,none⟩),bq q n cap] (ρ.t 72) (0,0))/\dE w2' (ρ.t 5) 1 q' (n+1) cap' (xs++[.int .u8 ch])/\∃w1:World,(w1.os=w.os/\w1.tape=w.tape/\w1.output=w.output/\w.heap.size<=w1.heap.size/\∀k,k<w.heap.size->k≠b->w1.heap[k]? = w.heap[k]?)/\((q'=q/\w1.grownBy w2' q)\/(q'=some w1.heap.size/\w1.grownBy w2' none)) :=
  ⟨q',cap',w2,by rw[hao],hb2,hown2,wa,hq1,hg⟩
 rw[hao2] at d1
 rw[hao,hao2]
 clear hA hao hao2
 have hst:(storeCells ⟨b,1,none⟩ [.slice ao m c]).run P w2=.ok () (w2.setCell ⟨b,1,none⟩ (.slice ao m c)):=by
  have h2:(store ⟨b,1,none⟩ (.slice ao m c)).run P w2=.ok () (w2.setCell ⟨b,1,none⟩ (.slice ao m c)):=by
   rw[run_store P w2 _ _ _ rfl,d1];simp[f1]
  simp[storeCells,h2,Addr.add]
 go_wp2
 rw[hst]
 simp only[Result.andThen]
 rw[Oper.upon_skip]
 go_wp2
 go_ret
 exact⟨rfl,hfin⟩
theorem IJ{P:Program}{ρ:Ren}(L:ym P ρ)(hfn:P.funcs[ρ.f 167]? = some (Body.n167 ρ))(X:Builder.Extra P ρ){l:Bs}{x:UInt8}(hf:FOK P (ρ.f 167))(hl:decide ((l.length+1)*(1+1)<=limit)=true) :
  aY P (ρ.f 167) [.own LIM 0,.val (.int .u8 (x.toNat:Int))] [(LIM,ρ.t 72,[.opt LIM,.bf (LIM+1)]),(LIM+1,ρ.t 5,[.aN false (0:UInt8) e8 l])] (.val .nilIface) [(LIM,ρ.t 72,[.opt LIM,.bf 1]),(1,ρ.t 5,[.aN false (0:UInt8) e8 (l++[x])])]:=by
 have hlim:(l.length+1)*2<=140737488355328:=of_decide_eq_true hl
 refine wU (x2:=.int .u8 (x.toNat:Int)) (v0:=.nilIface) hf (fun F w B v h=>by cases h;rfl) (fun F w B=>.val _ rfl) fun b n cap q p w hbk hp hqb hn hown=>?_
 subst hn
 refine(O9 L hfn X b l.length cap q p _ (x.toNat:Int) w hbk hp hqb hown hlim).mono ?_
 rintro ex w' ⟨rfl,q',cap',w2,rfl,hb2,hown2,w1,hq1,hg⟩
 refine⟨rfl,?_⟩
 have he:l.length+1=(l++[x]).length:=by simp
 have hm:l.map (fun b=>Value.int .u8 (b.toNat:Int))++[.int .u8 (x.toNat:Int)]=(l++[x]).map fun b=>Value.int .u8 (b.toNat:Int):=by simp
 rw[he,hm] at hown2
 rw[he]
 exact EB hbk hqb hb2 hown2 hq1 hg
theorem EM{P:Program}{ρ:Ren}(L:ym P ρ)(hfn:P.funcs[ρ.f 166]? = some (Body.n166 ρ))(X:Builder.Extra P ρ){l s:Bs}(hf:FOK P (ρ.f 166))(hl:decide ((l.length+s.length)*(1+1)<=limit)=true) :
  aY P (ρ.f 166) [.own LIM 0,.str s] [(LIM,ρ.t 72,[.opt LIM,.bf (LIM+1)]),(LIM+1,ρ.t 5,[.aN false (0:UInt8) e8 l])] (.tup [.val (.int .i64 (s.length:Int)),.val .nilIface]) [(LIM,ρ.t 72,[.opt LIM,.bf 1]),(1,ρ.t 5,[.aN false (0:UInt8) e8 (l++s)])]:=by
 have hlim:(l.length+s.length)*2<=140737488355328:=of_decide_eq_true hl
 refine wU (x2:=.string ⟨s.toArray⟩) (v0:=.tuple #[.int .i64 (s.length:Int),.nilIface]) hf (fun F w B v h=>by cases h;rfl) (fun F w B=>.tup _ [_,_] (.cons _ _ _ _ (.val _ rfl) (.cons _ _ _ _ (.val _ rfl) .nil))) fun b n cap q p w hbk hp hqb hn hown=>?_
 subst hn
 have hs:(⟨s.toArray⟩:ByteArray).size=s.length:=by simp[ByteArray.size]
 refine(QR L hfn X b l.length cap q p _ (s.map fun b=>Value.int .u8 (b.toNat:Int)) ⟨s.toArray⟩ w hbk hp hqb hown (by simp[hs]) (KN s) (fun w'=>by simp[Builtin.firstCells,hs]) (by rw[hs];exact hlim)).mono ?_
 rintro ex w' ⟨rfl,q',cap',w2,rfl,hb2,hown2,w1,hw1,hg⟩
 rw[hs] at hown2 ⊢
 refine⟨rfl,?_⟩
 have he:l.length+s.length=(l++s).length:=by simp
 rw[he,<-List.map_append] at hown2
 rw[he]
 exact EB hbk hqb hb2 hown2 (DF hw1) hg
def Ic(b k:Nat)(ds:List D):List D:=match ds with|[.val (.pointer none),.val (.slice none 0 0)]=>[.opt b,.bf k]|ds=>ds
def Qh(b k:Nat)(L:ay):ay:=L.map fun x=>bif x.1==b then(x.1,x.2.1,Ic b k x.2.2) else x
section
variable {P:Program} {nt:Nat} {F0:Fz} {w0:Pt P} {K:List (Nat×D)} {L:ay} {Q:Exit->Act->World->Prop}
theorem St.N6(b k e:Nat)(hlt:k<1000000)(hf:ku k K L=true){L':ay}(hv:Qh b k L=L'):∀a w,St nt F0 w0 K L a w->St nt F0 w0 K ((k,e,[.aN false (0:UInt8) e8 []])::L') a w:=by
 rintro a w ⟨B,F,hb,hd,hs,hK⟩
 subst hv
 simp only[ku,Bool.and_eq_true] at hf
 have hfK:∀x∈K,D.names k x.2=false:=fun x hx=>by simpa using List.all_eq_true.1 hf.1 x hx
 have hfL:∀x∈L,x.1≠k/\D.bH k x.2.2=false:=fun x hx=>by simpa using List.all_eq_true.1 hf.2 x hx
 have hB':setB B k (.row none 0 0) k=some (.row none 0 0):=fH _ _ _
 have hbase:=hb.sZ (t:=k) (ty:=e) (ds:=[.aN false (0:UInt8) e8 []]) (F':=F) (w':=w) (B':=setB B k (.row none 0 0)) (M':=aM L) (Grow.refl _ _)
  (.row false (0:UInt8) e8 [] none 0 0 hB' ⟨rfl,(iH []).1,(iH []).2,[],.nil,⟨by simp,.inl ⟨rfl,rfl,rfl⟩⟩,fun b hb=>by cases hb⟩) (fun b hbk=>by rw[dn hB'] at hbk;cases hbk)
  (fun j t' ds hm=>⟨hm,(hfL _ hm).1,bF _ _ _ _ (hfL _ hm).1,fun F w vs hr=>hr.gW k (bF _ _ _) (hfL _ hm).2⟩) (fun b _=>⟨rfl,fun _ h=>h⟩) hb.frz (fun g j h=>.inl h) (dX.refl _ _ _) (fun q hq=>bF _ _ _ _ (by unfold LIM at hq;omega))
 have hmem:∀q t es,aM ((k,e,[D.aN false (0:UInt8) e8 []])::Qh b k L) q t es->∃ds,mT k e [.aN false (0:UInt8) e8 []] (aM L) q t ds/\(es=ds\/(q=b/\ds=[.val (.pointer none),.val (.slice none 0 0)]/\es=[.opt b,.bf k])):=by
  intro q t es hm
  rcases List.mem_cons.1 hm with hm|hm
  ·cases hm;exact⟨_,.inl ⟨rfl,rfl,rfl⟩,.inl rfl⟩
  ·obtain⟨x,hx,he⟩:=List.mem_map.1 hm
   obtain⟨q',t',ds⟩:=x
   cases hc:q'==b with
   |false=>simp only[hc,cond_false] at he;cases he;exact⟨_,.inr hx,.inl rfl⟩
   |true =>
    simp only[hc,cond_true] at he
    cases he
    refine⟨ds,.inr hx,?_⟩
    unfold Ic
    split
    ·exact .inr ⟨by simpa using hc,rfl,rfl⟩
    ·exact .inl rfl
 refine⟨setB B k (.row none 0 0),F,⟨fun q t es hm=>?_,fun q t es c hm hbk=>?_,fun i i' c hi hi'=>hbase.inj i i' c ?_ ?_,hbase.frz,hbase.more,hbase.grow,hbase.below,hbase.env⟩,hd,hs,fun x hx=>?_⟩
 ·obtain⟨ds,h1,h2⟩:=hmem _ _ _ hm
  have hh:=hbase.boxes _ _ _ h1
  rcases h2 with rfl|⟨rfl,rfl,rfl⟩
  ·exact hh
  ·cases hh with
   |box _ c vs h3 h4 h5 h6 h7 =>
    refine .box _ c vs h3 ?_ rfl h6 h7
    cases h4 with
    |cons _ v1 _ vs1 r1 rs =>
     cases rs with
     |cons _ v2 _ vs2 r2 rs =>
      cases rs
      cases r1
      cases r2
      exact .cons _ _ _ _ (.opt _ c _ h3 (.inl rfl)) (.cons _ _ _ _ (.bf k none 0 0 hB') .nil)
 ·obtain⟨ds,h1,_⟩:=hmem _ _ _ hm
  exact hbase.new _ _ _ _ h1 hbk
 ·obtain⟨t,es,hm⟩:=hi
  obtain⟨ds,h1,_⟩:=hmem _ _ _ hm
  exact⟨_,_,h1⟩
 ·obtain⟨t,es,hm⟩:=hi'
  obtain⟨ds,h1,_⟩:=hmem _ _ _ hm
  exact⟨_,_,h1⟩
 ·obtain⟨v,h1,h2⟩:=hK x hx
  exact⟨v,h1,h2.gW k (bF _ _ _) (hfK x hx)⟩
end
end Go.Proofs.YtefojkdckfidcaaGreatDoor.RX
namespace Go.Proofs.YtefojkdckfidcaaGreatDoor.M
open Go Go.Shelf Go.Proofs Go.RowKit Go.Proofs.YtefojkdckfidcaaGreatDoor.RX
set_option maxHeartbeats 1000000
set_option maxRecDepth 100000
theorem PQ(b:Nat)(w:World)(h0:w.cell? ⟨b,0,none⟩=some (.pointer (some ⟨b,0,none⟩))) :
  Calls Tryz.prog 81 #[.pointer (some ⟨b,0,none⟩)] w fun e w'=>e=.returned (.tuple #[])/\w'=w:=by
 obtain⟨j,hj⟩:∃j,Tryz.prog.info? 68=some j:=⟨_,rfl⟩
 have mixed:Tryz.prog.follows .mixedOrders=true:=by kernel_rfl
 have t72 : Tryz.prog.underlying 68=some (TypeDesc.struct #[{ name := "addr",type:=65,offset:=0,embedded:=false,tag := "",pkgPath := "strings",byteOffset:=0 },{ name := "buf",type:=66,offset:=1,embedded:=false,tag := "",pkgPath := "strings",byteOffset:=8 }]):=by kernel_rfl
 have a72:∀w,(isAgg 68).run Tryz.prog w=.ok true w:=fun w=>by kernel_rfl
 have z72:∀w,(Go.sizeOf 68).run Tryz.prog w=.ok 2 w:=fun w=>by kernel_rfl
 have u72:=run_underlying t72
 have t70:Tryz.prog.underlying 65=some (TypeDesc.pointer 68):=by kernel_rfl
 have a70:∀w,(isAgg 65).run Tryz.prog w=.ok false w:=fun w=>by kernel_rfl
 have z70:∀w,(Go.sizeOf 65).run Tryz.prog w=.ok 1 w:=fun w=>by kernel_rfl
 have v70:∀w,(zeroValue 65).run Tryz.prog w=.ok (Value.pointer none) w:=fun w=>by kernel_rfl
 have u70:=run_underlying t70
 go_enter (show Tryz.prog.funcs[81]? = some Tryz.f81 from by kernel_rfl),(show Tryz.f81.ntmps=20 from rfl)
 go_wp2
 rw[Lib.run_neq_ptr_same w _ t70 hj]
 go_wp2
 go_end0
 exact⟨rfl,rfl⟩
theorem NJ(b:Nat)(w:World)(h0:w.cell? ⟨b,0,none⟩=some (.pointer none))(hsh:w.shape? b=some (68,2))(hfz:w.frozen? ⟨b,0,none⟩=false) :
  Calls Tryz.prog 81 #[.pointer (some ⟨b,0,none⟩)] w fun e w'=>e=.returned (.tuple #[])/\w'=w.setCell ⟨b,0,none⟩ (.pointer (some ⟨b,0,none⟩)):=by
 obtain⟨j,hj,hjs⟩:∃j,Tryz.prog.info? 68=some j/\j.size=2:=⟨_,rfl,rfl⟩
 have mixed:Tryz.prog.follows .mixedOrders=true:=by kernel_rfl
 have t72 : Tryz.prog.underlying 68=some (TypeDesc.struct #[{ name := "addr",type:=65,offset:=0,embedded:=false,tag := "",pkgPath := "strings",byteOffset:=0 },{ name := "buf",type:=66,offset:=1,embedded:=false,tag := "",pkgPath := "strings",byteOffset:=8 }]):=by kernel_rfl
 have a72:∀w,(isAgg 68).run Tryz.prog w=.ok true w:=fun w=>by kernel_rfl
 have z72:∀w,(Go.sizeOf 68).run Tryz.prog w=.ok 2 w:=fun w=>by kernel_rfl
 have u72:=run_underlying t72
 have t70:Tryz.prog.underlying 65=some (TypeDesc.pointer 68):=by kernel_rfl
 have a70:∀w,(isAgg 65).run Tryz.prog w=.ok false w:=fun w=>by kernel_rfl
 have z70:∀w,(Go.sizeOf 65).run Tryz.prog w=.ok 1 w:=fun w=>by kernel_rfl
 have v70:∀w,(zeroValue 65).run Tryz.prog w=.ok (Value.pointer none) w:=fun w=>by kernel_rfl
 have u70:=run_underlying t70
 have t164:Tryz.prog.underlying 130=some TypeDesc.unsafePointer:=by kernel_rfl
 have a164:∀w,(isAgg 130).run Tryz.prog w=.ok false w:=fun w=>by kernel_rfl
 have z164:∀w,(Go.sizeOf 130).run Tryz.prog w=.ok 1 w:=fun w=>by kernel_rfl
 have u164:=run_underlying t164
 have hlies:liesAt Tryz.prog Tryz.prog.depth 68 (2 / Tryz.prog.cellsOf 68) 0 68 1=true:=by kernel_rfl
 go_enter (show Tryz.prog.funcs[81]? = some Tryz.f81 from by kernel_rfl),(show Tryz.f81.ntmps=20 from rfl)
 go_wp2
 rw[Lib.run_to_unsafe w ⟨b,0,none⟩ t70 t164 hj (by rw[hjs];decide) hsh (Nat.zero_lt_succ 1)]
 simp only[Result.andThen]
 rw[Oper.upon_value]
 go_wp2
 rw[run_callFunc_extern (show Tryz.prog.funcs[105]? = some Tryz.f105 from by kernel_rfl) (by kernel_rfl) (by kernel_rfl) (by kernel_rfl) (e:=Extern.AbiNoEscape.same) (by kernel_rfl)]
 rw[Lib.run_noEscape]
 simp only[Result.andThen]
 rw[Oper.upon_value]
 go_wp2
 rw[Lib.run_from_unsafe w ⟨b,0,none⟩ t164 t70 hj hsh hlies]
 simp only[Result.andThen]
 rw[Oper.upon_value]
 go_wp2
 go_end0
 exact⟨rfl,rfl⟩
def zD:Ren:=⟨fun n=>match n with|240=>81|166=>44|167=>45|169=>46|_=>0,fun n=>match n with|3=>3|5=>5|9=>9|37=>66|70=>65|72=>68|75=>73|127=>108|_=>0,fun n=>n⟩
theorem Lq:ym Tryz.prog zD where
 mixed:=by kernel_rfl
 t72:=by kernel_rfl
 a72:=fun w=>by kernel_rfl
 z72:=fun w=>by kernel_rfl
 v72:=fun w=>by kernel_rfl
 t70:=by kernel_rfl
 a70:=fun w=>by kernel_rfl
 z70:=fun w=>by kernel_rfl
 v70:=fun w=>by kernel_rfl
 t37:=by kernel_rfl
 a37:=fun w=>by kernel_rfl
 z37:=fun w=>by kernel_rfl
 v37:=fun w=>by kernel_rfl
 t3:=by kernel_rfl
 a3:=fun w=>by kernel_rfl
 z3:=fun w=>by kernel_rfl
 v3:=fun w=>by kernel_rfl
 t9:=by kernel_rfl
 a9:=fun w=>by kernel_rfl
 z9:=fun w=>by kernel_rfl
 v9:=fun w=>by kernel_rfl
 e240:=enters_of (fn:=Tryz.f81) (by kernel_rfl) (by kernel_rfl) rfl
 fresh:=NJ
 used:=PQ
theorem Sr:Tryz.prog.funcs[zD.f 166]? = some (Body.n166 zD):=by kernel_rfl
theorem Sl:Tryz.prog.funcs[zD.f 167]? = some (Body.n167 zD):=by kernel_rfl
theorem EN:Builder.Extra Tryz.prog zD:={
 sizeBuilder:=by kernel_rfl
 liesBuilder:=by kernel_rfl
 t5:=by kernel_rfl
 a5:=fun w=>by kernel_rfl
 z5:=fun w=>by kernel_rfl
 v5:=fun w=>by kernel_rfl
 infoByte:=by kernel_rfl
 cellsByte:=by kernel_rfl
 sizeByte:=by kernel_rfl
 neB5:=by decide }
theorem Nb:Lays.n169 Tryz.prog zD:={
 mixed:=by kernel_rfl
 f169:=by kernel_rfl
 t0:=by kernel_rfl
 a0:=fun w=>by kernel_rfl
 z0:=fun w=>by kernel_rfl
 v0:=fun w=>by kernel_rfl
 t3:=by kernel_rfl
 a3:=fun w=>by kernel_rfl
 z3:=fun w=>by kernel_rfl
 v3:=fun w=>by kernel_rfl
 t9:=by kernel_rfl
 a9:=fun w=>by kernel_rfl
 z9:=fun w=>by kernel_rfl
 v9:=fun w=>by kernel_rfl
 t37:=by kernel_rfl
 a37:=fun w=>by kernel_rfl
 z37:=fun w=>by kernel_rfl
 v37:=fun w=>by kernel_rfl
 t70:=by kernel_rfl
 a70:=fun w=>by kernel_rfl
 z70:=fun w=>by kernel_rfl
 v70:=fun w=>by kernel_rfl
 t72:=by kernel_rfl
 a72:=fun w=>by kernel_rfl
 z72:=fun w=>by kernel_rfl
 v72:=fun w=>by kernel_rfl
 t127:=by kernel_rfl
 a127:=fun w=>by kernel_rfl
 z127:=fun w=>by kernel_rfl
 v127:=fun w=>by kernel_rfl }
theorem writeString{l s:List UInt8}(h:decide ((l.length+s.length)*(1+1)<=limit)=true) :
  aY Tryz.prog 44 [.own LIM 0,.str s] [(LIM,68,[.opt LIM,.bf (LIM+1)]),(LIM+1,5,[.aN false (0:UInt8) e8 l])] (.tup [.val (.int .i64 (s.length:Int)),.val .nilIface]) [(LIM,68,[.opt LIM,.bf 1]),(1,5,[.aN false (0:UInt8) e8 (l++s)])] :=
 EM Lq Sr EN ⟨Tryz.f44,by kernel_rfl,by kernel_rfl,by kernel_rfl⟩ h
theorem writeByte{l:List UInt8}{x:UInt8}(h:decide ((l.length+1)*(1+1)<=limit)=true) :
  aY Tryz.prog 45 [.own LIM 0,.val (.int .u8 (x.toNat:Int))] [(LIM,68,[.opt LIM,.bf (LIM+1)]),(LIM+1,5,[.aN false (0:UInt8) e8 l])] (.val .nilIface) [(LIM,68,[.opt LIM,.bf 1]),(1,5,[.aN false (0:UInt8) e8 (l++[x])])] :=
 IJ Lq Sl EN ⟨Tryz.f45,by kernel_rfl,by kernel_rfl,by kernel_rfl⟩ h
theorem JJ{l:List UInt8}{x:UInt8}{n:Int}(hx:(x.toNat:Int)=n)(h:decide ((l.length+1)*(1+1)<=limit)=true) :
  aY Tryz.prog 45 [.own LIM 0,.val (.int .u8 n)] [(LIM,68,[.opt LIM,.bf (LIM+1)]),(LIM+1,5,[.aN false (0:UInt8) e8 l])] (.val .nilIface) [(LIM,68,[.opt LIM,.bf 1]),(1,5,[.aN false (0:UInt8) e8 (l++[x])])]:=by
 subst hx
 exact writeByte h
theorem PO{l:List UInt8} :
  aY Tryz.prog 46 [.own LIM 0] [(LIM,68,[.opt LIM,.bf (LIM+1)]),(LIM+1,5,[.aN false (0:UInt8) e8 l])] (.str l) [(LIM,68,[.opt LIM,.hole])] :=
 BL ⟨Tryz.f46,by kernel_rfl,by kernel_rfl,by kernel_rfl⟩ fun b n cap q p w hbk hn hown=>GN Nb EN l b n cap q p w hbk hn hown
end Go.Proofs.YtefojkdckfidcaaGreatDoor.M
