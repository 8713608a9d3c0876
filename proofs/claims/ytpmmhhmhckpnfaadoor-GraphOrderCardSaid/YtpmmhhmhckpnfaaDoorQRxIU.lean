import Derived.Test.YtpmmhhmhckpnfaaDoorQRxOrd
import Derived.Test.YtpmmhhmhckpnfaaDoorQM24c
import Derived.Test.YtpmmhhmhckpnfaaDoorQPlain
set_option linter.all false
namespace Go.Proofs.YtpmmhhmhckpnfaaDoor.RX
open Go.RowKit
structure vQ(P:Program)(F:Fz)(U:Nat->Prop)(w:World)(F':Fz)(U':Nat->Prop)(w':World):Prop where
 below:dP U w.heap.size w w'
 grow:Grow F F' w w'
 more:∀g k,F' g k->F g k\/w.heap.size<=g\/U g
 frz:∀g k,F' g k->g<w'.heap.size
 off:∀g k,F' g k->¬U' g
 own:∀b,U' b->U b\/w.heap.size<=b
 lt:∀b,U' b->b<w'.heap.size
 shp:Shp P w'
def jX(P:Program){β:Type}(J:β->Fz->(Nat->Prop)->World->Prop):Prop:=∀s F U w F' U' w',J s F U w->vQ P F U w F' U' w'->J s F' U' w'
structure Ap(P:Program)(F:Fz)(U:Nat->Prop)(w:World)(F':Fz)(w':World):Prop where
 adv:Adv P F w F' w'
 size:w.heap.size<=w'.heap.size
 kept:∀b,U b->w'.heap[b]? = w.heap[b]?
 off:∀g k,F' g k->¬U g
def sW(P:Program)(l:Nat){α:Type}(encs:α->List D)(J:List α->Fz->(Nat->Prop)->World->Prop)(Jx:Fz->(Nat->Prop)->World->Prop):Prop :=
 ∀ro x r F U w args,J (x::r) F U w->(∀g k,F g k->g<w.heap.size/\¬U g)->(∀b,U b->b<w.heap.size)->Shp P w->aA F w NB (encs x) args ->
  YieldAt (Fr ro) 0 P l args.toArray w fun e w'=>∃F',Ap P F U w F' w'/\((e=.returned (.bool true)/\J r F' U w')\/(e=.returned (.bool false)/\Jx F' U w'))
section
variable {P:Program} {F0 F1:Fz} {w0 w1:Pt P} {B:Env} {F:Fz} {M:Mem} {w:World}
def Pt.nV(w1:Pt P)(W:World)(sh:Shp P W)(ex:Nat->Prop)(ro:Option Nat)(ds:List Deferred):Pt P :=
 { w:=W,own:=fun b=>w1.fresh b/\¬ex b,env:=w1.env,low:=w1.low,sh:=sh,high:=fun _ h=>Pt.mZ h.1,rnd:=ro,defs:=ds }
theorem Base.nV(hb:Base F1 w1 B F M w)(sh:Shp P w){ex:Nat->Prop}{ro:Option Nat}{ds:List Deferred}(hex:∀k t c b,M k t c->bM B k=some b->¬ex b):Base F (w1.nV w sh ex ro ds) B F M w :=
 ⟨hb.boxes,fun k t c b h hk=>.inr ⟨hb.new k t c b h hk,hex k t c b h hk⟩,hb.inj,hb.frz,fun _ _ h=>.inl h,Grow.refl _ _,dP.refl _ _ _,hb.env⟩
theorem Base.Db(hb:Base F1 w1 B F M w){sh:Shp P w}{ex:Nat->Prop}{ro:Option Nat}{ds:List Deferred}{B':Env}{F':Fz}{M':Mem}{w':World}(h:Base F (w1.nV w sh ex ro ds) B' F' M' w'):Base F1 w1 B' F' M' w':=by
 have hsz:=hb.below.size
 have hfr:∀b,(w1.nV w sh ex ro ds).fresh b->w1.fresh b:=by
  rintro b (hb'|hb')
  ·exact .inl (Nat.le_trans hsz hb')
  ·exact hb'.1
 refine⟨h.boxes,fun k t c b hm hk=>hfr b (h.new k t c b hm hk),h.inj,h.frz,fun g k hF=>?_,hb.grow.trans h.grow,⟨h.below.os.trans hb.below.os,h.below.tape.trans hb.below.tape,h.below.output.trans hb.below.output,Nat.le_trans hsz h.below.size,fun k hk ho=>?_⟩,h.env⟩
 ·rcases h.more g k hF with h1|h1
  ·exact hb.more g k h1
  ·exact .inr (hfr g h1)
 ·refine(h.below.block k (Nat.lt_of_lt_of_le hk hsz) fun h1=>?_).trans (hb.below.block k hk ho)
  rcases h1.1 with h2|h2
  ·omega
  ·exact ho h2
theorem pQ{W:World}{sh:Shp P W}{ex:Nat->Prop}{ro:Option Nat}{ds:List Deferred}(hlt:∀b,ex b->b<W.heap.size){b:Nat}(h:(w1.nV W sh ex ro ds).fresh b):¬ex b:=fun he=>by
 rcases h with h|h
 ·have:=hlt b he;exact absurd h (by show ¬W.heap.size<=b;omega)
 ·exact h.2 he
end
section
variable {P:Program} {Γ:Nat->Option TI} {nt:Nat} {F0:Fz} {w0:Pt P} {K K' Kb:List (Nat×D)} {L L':ay} {Q:Exit->Act->World->Prop}
end
section
variable {P:Program} {Γ:Nat->Option TI} {nt:Nat} {F0:Fz} {w0:Pt P} {K:List (Nat×D)} {L:ay} {Q:Exit->Act->World->Prop}
end
end Go.Proofs.YtpmmhhmhckpnfaaDoor.RX
namespace Go.Proofs.YtpmmhhmhckpnfaaDoor.RX
open Go.RowKit
def DF:List D->Bool
 |[.aR _ _ _ _]=>false
 |[.dH _ _ _ _ _]=>false
 |[.pG _ _ _]=>false
 |_=>true
def rf(L:ay):Bool:=L.all fun x=>DF x.2.2
def OwnB(B:Env)(L:ay)(b:Nat):Prop:=∃k t ds,aJ L k t ds/\bM B k=some b
section
variable {P:Program} {F0 F1:Fz} {w0 w1:Pt P} {B:Env} {F:Fz} {M:Mem} {w:World} {L:ay}
theorem jX.wq{β:Type}{J:β->Fz->(Nat->Prop)->World->Prop}(h:jX P J)(b:β):jX P (fun(_:Unit)=>J b):=fun _=>h b
theorem jM.F6{k t:Nat}{ds:List D}(h:jM F w B k t ds)(hb:DF ds=true){b:Nat}(hk:bM B k=some b):∀j,¬F b j:=by
 cases h with
 |box _ b' vs hB hr hfl hh hnf=>rw[ia hB] at hk;cases hk;exact hnf
 |row m d enc l p n cap hB h=>cases hb
 |map kk ag d enc l b' hB h=>cases hb
 |obj b' o' S hB hh=>cases hb
theorem zk(h:rf L=true){k t:Nat}{ds:List D}(hm:aJ L k t ds):DF ds=true:=List.all_eq_true.1 h _ hm
def Pt.mid(w0:Pt P)(W:World)(sh:Shp P W)(O:Nat->Prop)(hO:∀b,O b->P.low<=b):Pt P :=
 { w:=W,own:=O,env:=w0.env,low:=w0.low,sh:=sh,high:=hO,rnd:=w0.rnd,defs:=w0.defs }
theorem Base.kH(hb:Base F0 w0 B F (aJ L) w):∀b,OwnB B L b->P.low<=b:=fun b ⟨k,t,ds,hm,hk⟩=>Pt.mZ (hb.new k t ds b hm hk)
theorem Base.mid(hb:Base F0 w0 B F (aJ L) w):Base F (w0.mid w hb.shp (OwnB B L) hb.kH) B F (aJ L) w :=
 ⟨hb.boxes,fun k t ds b hm hk=>.inr ⟨k,t,ds,hm,hk⟩,hb.inj,hb.frz,fun _ _ h=>.inl h,Grow.refl _ _,dP.refl _ _ _,hb.env⟩
def Bz(D:Nat):Deferred:={ target:=.collected D,args:=#[] }
structure AtI(I:Fz->(Nat->Prop)->World->Prop)(X:Nat->Prop)(Fx:Fz)(W:World)(F0:Fz)(w0:Pt P):Prop where
 inv:I F0 (fun b=>w0.own b\/X b) w0.w
 lt:∀b,w0.own b\/X b->b<w0.w.heap.size
 dis:∀b,X b->¬w0.own b
 frz:∀g k,F0 g k->g<w0.w.heap.size/\¬(w0.own g\/X g)
 marks:∃ms:List Nat,w0.defs=ms.map Bz/\ms.Nodup/\∀D∈ms,X D/\W.heap[D]? = some (.deferred (some []))
 high:∀b,X b->P.low<=b
 kept:∀b,X b->w0.w.heap[b]? = W.heap[b]?
 size:W.heap.size<=w0.w.heap.size
 ref:Grow Fx F0 W w0.w
variable {I:Fz->(Nat->Prop)->World->Prop} {X:Nat->Prop} {Fx:Fz} {W:World}
theorem AtI.mid(h:AtI I X Fx W F0 w0)(hs:jX P (fun(_:Unit)=>I))(hb:Base F0 w0 B F (aJ L) w)(hbox:rf L=true):AtI I X Fx W F (w0.mid w hb.shp (OwnB B L) hb.kH):=by
 have hsz:=hb.below.size
 have hoff:∀g k,F g k->¬(OwnB B L g\/X g):=fun g k hF hu=>by
  rcases hu with⟨k',t,ds,hm,hk⟩|hu
  ·exact(hb.boxes _ _ _ hm).F6 (zk hbox hm) hk _ hF
  ·rcases hb.more g k hF with h1|h1|h1
   ·exact(h.frz g k h1).2 (.inr hu)
   ·have:=h.lt g (.inr hu);omega
   ·exact h.dis g hu h1
 have hlt:∀b,OwnB B L b\/X b->b<w.heap.size:=fun b hu=>by
  rcases hu with⟨k',t,ds,hm,hk⟩|hu
  ·exact(hb.boxes _ _ _ hm).lt hk
  ·have:=h.lt b (.inr hu);omega
 have hkept:∀b,X b->w.heap[b]? = w0.w.heap[b]?:=fun b hx=>hb.below.block b (h.lt b (.inr hx)) (h.dis b hx)
 refine⟨hs () _ _ _ _ _ _ h.inv ⟨⟨hb.below.os,hb.below.tape,hb.below.output,hsz,fun k hk hu=>hb.below.block k hk fun ho=>hu (.inl ho)⟩,hb.grow,fun g k hF=>?_,hb.frz,hoff,fun b hu=>?_,hlt,hb.shp⟩,hlt,fun b hx ⟨k,t,ds,hm,hk⟩=>?_,fun g k hF=>⟨hb.frz g k hF,hoff g k hF⟩,h.marks,h.high,fun b hx=>(hkept b hx).trans (h.kept b hx),Nat.le_trans h.size hsz,h.ref.trans hb.grow⟩
 ·rcases hb.more g k hF with h1|h1|h1
  ·exact .inl h1
  ·exact .inr (.inl h1)
  ·exact .inr (.inr (.inl h1))
 ·rcases hu with⟨k',t,ds,hm,hk⟩|hu
  ·rcases hb.new _ _ _ b hm hk with h1|h1
   ·exact .inr h1
   ·exact .inl (.inl h1)
  ·exact .inl (.inr hu)
 ·rcases hb.new _ _ _ b hm hk with h1|h1
  ·have:=h.lt b (.inr hx);omega
  ·exact h.dis b hx h1
theorem AtI.given{I2:Fz->(Nat->Prop)->World->Prop}(h:AtI I X Fx W F w1){F2:Fz}{w2:World}(hg:Ap P F (fun b=>w1.own b\/X b) w1.w F2 w2)(h2:I2 F2 (fun b=>w1.own b\/X b) w2):AtI I2 X Fx W F2 (w1.mid w2 hg.adv.shp w1.own w1.high) :=
 ⟨h2,fun b hu=>Nat.lt_of_lt_of_le (h.lt b hu) hg.size,h.dis,fun g k hF=>⟨hg.adv.frz g k hF,hg.off g k hF⟩,h.marks,h.high,fun b hx=>(hg.kept b (.inr hx)).trans (h.kept b hx),Nat.le_trans h.size hg.size,h.ref.trans hg.adv.grow⟩
end
def DC(C:Nat->List D->D->Prop)(CB:Nat->List D->ay->D->ay->Prop)(Γ:Nat->Option TI)(nt:Nat)(orc:List (Nat×D))(orb:List (Nat×CBd))(l:List Oper)(fz:List (Nat×List Nat))(i:Nat)(K:List (Nat×D))(L:ay)(kk kl:List Nat)(b:Bool):Option (Value×List D×List (Nat×D)×ay×List Prop) :=
 if l.all ndB then
  match l[i]?,ji C CB Γ nt orc orb l fz (l.take i) 0 (ky K L) with
  |some o,some s =>
   (match o.op,o.dst,gV l s.K o.guard with
   |.call c,some td,some g =>
    (match c.callee,getAll (getOp s.K g) c.args.toList with
    |.value x,some ds =>
     (match getOp s.K g x,ji C CB Γ nt orc orb l fz (l.drop (i+1)) (i+1) { K:=fJ ⟨td,i+1,g,.val (.bool b)⟩ s.K,L:=s.L,tab:=di i (.val (.bool b)) s.tab,obl:=s.obl } with
     |some (.val v),some s3=>if td<nt/\D.bU ds=true/\holds s.tab g=true/\rf s.L=true then(match nc s3.K kk,iD s3.L kl with|some K',some L'=>some (v,ds,K',L',s3.obl)|_,_=>none) else none
     |_,_=>none)
    |_,_=>none)
   |_,_,_=>none)
  |_,_=>none
 else none
section
variable {P:Program} {Γ:Nat->Option TI} {nt:Nat} {F0:Fz} {w0:Pt P} {K:List (Nat×D)} {L:ay} {Q:Exit->Act->World->Prop}
theorem xP{C:Nat->List D->D->Prop}{CB:Nat->List D->ay->D->ay->Prop}{orc:List (Nat×D)}{orb:List (Nat×CBd)}{l:List Oper}{fz:List (Nat×List Nat)}{i:Nat}{kk kl:List Nat}{b:Bool}{v:Value}{r:List D×List (Nat×D)×ay×List Prop}
  (h:DC C CB Γ nt orc orb l fz i K L kk kl b=some (v,r)):l.all ndB=true/\∃o s c td g x s3,l[i]? = some o/\ji C CB Γ nt orc orb l fz (l.take i) 0 (ky K L)=some s/\o.op=.call c/\o.dst=some td/\gV l s.K o.guard=some g/\c.callee=.value x/\getAll (getOp s.K g) c.args.toList=some r.1 /\
   getOp s.K g x=some (.val v)/\ji C CB Γ nt orc orb l fz (l.drop (i+1)) (i+1) { K:=fJ ⟨td,i+1,g,.val (.bool b)⟩ s.K,L:=s.L,tab:=di i (.val (.bool b)) s.tab,obl:=s.obl }=some s3/\td<nt/\D.bU r.1=true/\nc s3.K kk=some r.2.1/\iD s3.L kl=some r.2.2.1/\holds s.tab g=true/\rf s.L=true/\r.2.2.2=s3.obl:=by
 unfold DC at h
 split at h
 rotate_left
 ·cases h
 rename_i hnd
 split at h
 rotate_left
 ·cases h
 rename_i o s ho hs
 split at h
 rotate_left
 ·cases h
 rename_i c td g h1 h2 h3
 split at h
 rotate_left
 ·cases h
 rename_i x ds h4 h5
 split at h
 rotate_left
 ·cases h
 rename_i v' s3 h6 h7
 split at h
 rotate_left
 ·cases h
 rename_i hc
 split at h
 rotate_left
 ·cases h
 rename_i K' L' hk hl
 obtain⟨hc1,hc2,hc3,hc4⟩:=hc
 cases h
 exact⟨hnd,o,s,c,td,g,x,s3,ho,hs,h1,h2,h3,h4,h5,h6,h7,hc1,hc2,hk,hl,hc3,hc4,rfl⟩
theorem Wp.CU(hΓ:ΓOK P Γ){id:Nat}{l:List Oper}(i l0:Nat)(fz:List (Nat×List Nat))(orc:List (Nat×D))(orb:List (Nat×CBd))(kk kl:List Nat){α:Type}{encs:α->List D}{J:List α->Fz->(Nat->Prop)->World->Prop}{Jx:Fz->(Nat->Prop)->World->Prop}(hs:jX P J)(hY:sW P l0 encs J Jx)(x:α)(r:List α){X:Nat->Prop}{Fx:Fz}{W:World}
  (hat:AtI (J (x::r)) X Fx W F0 w0) (K2:Bool->List (Nat×D)) (L2:Bool->ay) (ob:Bool->List Prop)
  (h:∀b,DC (CX P) (cY P) Γ nt orc orb l fz i K L kk kl b=some (.func (.yield l0) #[] #[],encs x,K2 b,L2 b,ob b)) (hob:∀b,ax (ob b))
  (hn:∀(b:Bool)(F1:Fz)(w1:Pt P),w1.rnd=w0.rnd->w1.env=w0.env->(if b=true then AtI (J r) X Fx W F1 w1 else AtI Jx X Fx W F1 w1)->To nt F1 w1 (K2 b) (L2 b) .normal Q) :
  Wp P nt F0 w0 K L (.region id l.toArray false) Q:=by
 rintro a w ⟨B,F,hb,hd,hsz,hK⟩
 obtain⟨hnd,o,s,c,td,g,xv,s3,ho,hs',hop,hdst,hg,hcal,hds,hx,hs3,htd,hno,hkk,hkl,hgt,hbl,hobl⟩:=xP (h true)
 obtain⟨_,o',s',c',td',g',x',s4,ho',hs'',hop',hdst',hg',_,_,_,hs4,_,_,hkk4,hkl4,_,_,hobl4⟩:=xP (h false)
 rw[ho] at ho';cases ho'
 rw[hs'] at hs'';cases hs''
 rw[hdst] at hdst';cases hdst'
 rw[hg] at hg';cases hg'
 simp only at hds hno hkk hkk4 hkl hkl4 hobl hobl4
 refine XC.nrm (wpIn_region_lit ?_)
 have hil:i<l.length:=(List.getElem?_eq_some_iff.1 ho).1
 have hsplit:l=l.take i++(o::l.drop (i+1)):=by
  have h1:l.drop i=o::l.drop (i+1):=by
   rw[List.drop_eq_getElem_cons hil]
   congr 1
   rw[List.getElem?_eq_getElem hil] at ho
   exact Option.some.inj ho
  rw[<-h1,List.take_append_drop]
 have hndl:=B7 hnd
 have hobs:∀p∈s.obl,p:=fun p hp=>ax.mem (hob true) p (by rw[hobl];exact pW _ _ hs3 p hp)
 have key:wpListIn (Fr w0.rnd) 0 P l.toArray (nrm Q) (l.take i++(o::l.drop (i+1))) a w:=by
  refine nX (fun o ho=>hndl o (List.mem_of_mem_take ho)) ?_
  have h0:=mP (Q:=za w0.rnd P l.toArray (nrm Q) (o::l.drop (i+1))) hΓ [] (l.take i) 0 (fun j hj=>?_) hs' hobs (oh hb hd hsz hK) fun B' F' a' w' hi=>wpList_nil ?_
  ·rwa[List.append_nil] at h0
  ·have hj':j<i:=by rw[List.length_take] at hj;omega
   rw[Nat.zero_add,List.getElem?_take,if_pos hj']
  ·have hlt:0+(l.take i).length=i:=by rw[List.length_take];omega
   rw[hlt] at hi
   show wpListIn (Fr w0.rnd) 0 P l.toArray (nrm Q) (o::l.drop (i+1)) a' w'
   unfold wpListIn
   obtain⟨hw,hgS⟩:=uM hi hg (o:=o) rfl
   have hod:((l[i]?).bind (·.dst))=some td:=by rw[ho];exact hdst
   have htab:∀(b:Bool)(j:Nat),j≠i->tv (di i (.val (.bool b)) s.tab) j=tv s.tab j:=fun b j hj=>qB hj
   have hself:∀(b b':Bool),D.val (.bool b)=.val (.bool b')->tv (di i (.val (.bool b)) s.tab) i=b':=fun b b' e=>by cases e;simp[di,tv]
   rw[if_pos (hw.trans hgt)]
   have hatm:=hat.mid (hs.wq (x::r)) hi.base hbl
   have hget:=bF (g:=g) hi.ents hgt
   have hargs:=eE.all hget _ _ hds
   obtain⟨fnr,tmps,assign,body,hrun,hround⟩:=hY w0.rnd x r F' _ w' _ hatm.inv hatm.frz hatm.lt hi.base.shp (hargs.bare hno)
   have hv0:a'.eval xv=.func (.yield l0) #[] #[]:=by
    have:=hget xv _ hx
    generalize a'.eval xv=v at this ⊢
    cases this;rfl
   have e1:(o.semAt (Fr w0.rnd).round a'.eval).run P w'=.ok (.round l0 fnr tmps assign body) w':=by
    rw[Oper.semAt_eq _ _ _ (fun c' hc'=>by rw[hop] at hc';cases hc')]
    have hag:(c.args.map a'.eval)=(c.args.toList.map a'.eval).toArray:=by rw[<-Array.toList_map,Array.toArray_toList]
    unfold execOp
    simp only[hop,resolve,hcal,Deferred.ofValue,hv0,Sem.run_bind,Sem.run_pure,Result.andThen_ok,invoke]
    rw[hag,Array.empty_append]
    exact hrun
   unfold Oper.wpIn
   refine⟨fun _ _=>trivial,?_⟩
   rw[e1]
   refine⟨fun h=>(by cases h),RoundIn.mono hround fun e w2 he=>?_⟩
   obtain⟨F2,hgiv,he⟩:=he
   obtain⟨b,rfl,hat2⟩:∃b:Bool,e=.returned (.bool b)/\(if b=true then AtI (J r) X Fx W F2 ((w0.mid w' hi.base.shp (OwnB B' s.L) hi.base.kH).mid w2 hgiv.adv.shp (OwnB B' s.L) hi.base.kH) else AtI Jx X Fx W F2 ((w0.mid w' hi.base.shp (OwnB B' s.L) hi.base.kH).mid w2 hgiv.adv.shp (OwnB B' s.L) hi.base.kH)):=by
    rcases he with⟨h1,h2⟩|⟨h1,h2⟩
    ·exact⟨true,h1,by rw[if_pos rfl];exact hatm.given hgiv h2⟩
    ·exact⟨false,h1,by rw[if_neg (by decide)];exact hatm.given hgiv h2⟩
   show wpListIn (Fr w0.rnd) 0 P l.toArray (nrm Q) (l.drop (i+1)) (a'.put o.dst (.bool b)) w2
   rw[hdst]
   have hbase:Base F2 ((w0.mid w' hi.base.shp (OwnB B' s.L) hi.base.kH).mid w2 hgiv.adv.shp (OwnB B' s.L) hi.base.kH) B' F2 (aJ s.L) w2:=by
    refine⟨fun k t ds hm=>?_,fun k t ds b hm hk=>.inr ⟨k,t,ds,hm,hk⟩,hi.base.inj,hgiv.adv.frz,fun _ _ h=>.inl h,Grow.refl _ _,dP.refl _ _ _,hi.base.env⟩
    refine(hi.base.boxes _ _ _ hm).grow hgiv.adv.grow rfl (fun _ _ _ h=>h) fun b hbk=>⟨hgiv.kept b (.inl ⟨k,t,ds,hm,hbk⟩),fun j hj=>absurd (.inl ⟨k,t,ds,hm,hbk⟩) (hgiv.off b j hj)⟩
   have hi2:ft nt l F2 ((w0.mid w' hi.base.shp (OwnB B' s.L) hi.base.kH).mid w2 hgiv.adv.shp (OwnB B' s.L) hi.base.kH) B' F2 s (fun j=>j<i) a' w2 :=
    ⟨hbase,hi.defers,hi.size,fun e he=>let ⟨q1,q2⟩:=hi.ents e he;⟨fun hh=>let ⟨v,r1,r2⟩:=q1 hh;⟨v,r1,r2.grow hgiv.adv.grow⟩,q2⟩,hi.keys,hi.srcs,hi.kF⟩
   have hi3:=ff (i:=i) (S':=fun j=>j<i+1) hi2 (by simp) (fun j hj=>Nat.lt_succ_of_lt hj) (Nat.lt_succ_self i) (fun e he=>⟨he,hi2.ents e he⟩) hbase (t:=td) (g:=g) (d:=.val (.bool b)) (v:=.bool b) (tab':=di i (.val (.bool b)) s.tab) (ob:=s.obl) htd hgS (htab b) (hself b) hod ⟨fun _=>.val _ rfl,fun hh=>by rw[show holds s.tab g=true from hgt] at hh;cases hh⟩
   cases b with
   |true=>exact mF nM (fun o ho=>hndl o (List.mem_of_mem_drop ho)) (kz hΓ (l.drop (i+1)) (i+1) (fun j=>by rw[List.getElem?_drop]) hs3 (by rw[<-hobl];exact ax.mem (hob true)) hi3 fun B'' F'' a'' w'' hi4=>hn true F2 ((w0.mid w' hi.base.shp (OwnB B' s.L) hi.base.kH).mid w2 hgiv.adv.shp (OwnB B' s.L) hi.base.kH) rfl rfl hat2 a'' w'' (mC hi4 hkk hkl))
   |false=>exact mF nM (fun o ho=>hndl o (List.mem_of_mem_drop ho)) (kz hΓ (l.drop (i+1)) (i+1) (fun j=>by rw[List.getElem?_drop]) hs4 (by rw[<-hobl4];exact ax.mem (hob false)) hi3 fun B'' F'' a'' w'' hi4=>hn false F2 ((w0.mid w' hi.base.shp (OwnB B' s.L) hi.base.kH).mid w2 hgiv.adv.shp (OwnB B' s.L) hi.base.kH) rfl rfl hat2 a'' w'' (mC hi4 hkk4 hkl4))
 rw[<-hsplit] at key
 exact key
theorem To.yJ{F1:Fz}{w1:Pt P}{ro:Option Nat}{y:Code}(hr:w1.rnd=ro)(h:Wp P nt F1 w1 K L y Q):To nt F1 w1 K L .normal (Exit.then (fun a w=>XC ro P y Q a w) Q):=by
 subst hr;exact h
theorem To.FT{F1:Fz}{w1:Pt P}{ro:Option Nat}{c:Code}(hr:w1.rnd=ro)(h:WL P nt F1 w1 K L c Q):To nt F1 w1 K L .normal (Exit.then (fun a w=>Lp ro P c Q a w) Q):=by
 subst hr;exact h
end
end Go.Proofs.YtpmmhhmhckpnfaaDoor.RX
namespace Go.Proofs.YtpmmhhmhckpnfaaDoor.RX
open Go.RowKit
section
variable {P:Program} {Γ:Nat->Option TI} {nt:Nat} {F0 F1:Fz} {w0 w1:Pt P} {K K':List (Nat×D)} {L L':ay} {Q:Exit->Act->World->Prop} {B:Env} {F:Fz} {w:World}
theorem DT{r:Nat}{o o':Obj}(ho:w.heap[r]? = some o)(hbk:qe o=true)(hbk':qe o'=true)(F:Fz):Grow F F w (w.putObj r o'):=⟨fun _ _ h=>h,fun g k _=>by
 unfold World.cell?
 by_cases e:g=r
 ·subst e
  have hlt:g<w.heap.size:=(Array.getElem?_eq_some_iff.1 ho).1
  simp only[ho,World.putObj_heap_same hlt]
  cases o with
  |loop _=>cases o'<;>first|rfl|cases hbk'
  |deferred _=>cases o'<;>first|rfl|cases hbk'
  |_=>cases hbk
 ·simp only[World.putObj_heap_other e],fun g k _ es c hh=>by
  have hne:g≠r:=fun e=>by subst e;rw[ho] at hh;cases hh;cases hbk
  exact(World.putObj_heap_other hne).trans hh⟩
theorem FG{r:Nat}{o:Obj}(hsh:Shp P w)(hr:P.low<=r):Shp P (w.putObj r o):=by
 obtain⟨w0,h1,h2,h3⟩:=hsh
 exact⟨w0,h1,by rw[World.putObj_size];exact h2,fun k hk=>(World.putObj_heap_other (by omega)).trans (h3 k hk)⟩
theorem Dv{U:Nat->Prop}{r:Nat}{o o':Obj}(ho:w.heap[r]? = some o)(hbk:qe o=true)(hbk':qe o'=true)(hr:P.low<=r)(hU:U r)(hf:∀g k,F g k->g<w.heap.size/\¬U g)(hlt:∀b,U b->b<w.heap.size)(hsh:Shp P w):vQ P F U w F U (w.putObj r o') :=
 ⟨⟨rfl,rfl,rfl,by rw[World.putObj_size];exact Nat.le_refl _,fun k _ hk=>World.putObj_heap_other fun e=>hk (e▸hU)⟩,DT ho hbk hbk' F,fun _ _ h=>.inl h,fun g k h=>by rw[World.putObj_size];exact(hf g k h).1,fun g k h=>(hf g k h).2,fun _ h=>.inl h,fun b h=>by rw[World.putObj_size];exact hlt b h,FG hsh hr⟩
def vW(J:Fz->(Nat->Prop)->World->Prop)(Jx:Fz->(Nat->Prop)->World->Prop)(e:Ending)(w':World):Prop:=(∃v,e=.returned v)/\∃F' U',J F' U' w'\/Jx F' U' w'
theorem zW(hΓ:ΓOK P Γ){fn:Func}{r:D}(hres:oP Γ [] [] fn.results.toList=some r){tmps:Array Value}{R:Ending->World->Prop}{I:Fz->(Nat->Prop)->World->Prop}(hs:jX P (fun(_:Unit)=>I)){U:Nat->Prop}(hR:∀v w,I F U w->R (.returned v) w):∀(ms:List Nat)(w:World),ms.Nodup->(∀D∈ms,U D/\P.low<=D/\w.heap[D]? = some (.deferred (some [])))->I F U w->(∀g k,F g k->g<w.heap.size/\¬U g)->(∀b,U b->b<w.heap.size)->Shp P w ->
  LeavesInM (Fr none) 0 P fn tmps R (ms.map Bz) .returning w
 |[],w,_,_,hI,hf,_,hsh=>by
  obtain⟨_,v,h5,_⟩:=To.done (P:=P) (nt:=tmps.size) (F0:=fun _ _=>False) (K:=[]) (L:=[]) hΓ (hsh:=hsh) hres { tmps:=tmps,defers:=[] } w ⟨NB,fun _ _=>False,⟨(fun k t ds hl=>by simp[aJ] at hl),(fun k t ds b hl=>by simp[aJ] at hl),(fun i j b hi=>by obtain⟨t,ds,hx⟩:=hi;simp[aJ] at hx),fun _ _ h=>h.elim,fun g k h=>.inl h,Grow.refl _ _,dP.refl _ _ _,fun k b h=>by cases h⟩,rfl,rfl,fun x hx=>by cases hx⟩
  exact⟨v,h5,hR v w hI⟩
 |D::ms,w,hnd,hm,hI,hf,hlt,hsh=>by
  obtain⟨n1,n2⟩:=List.nodup_cons.1 hnd
  obtain⟨hD1,hD2,hD3⟩:=hm D List.mem_cons_self
  have ht:=Dv (P:=P) (o':=.deferred none) hD3 rfl rfl hD2 hD1 hf hlt hsh
  refine⟨by simp,.inl ⟨D,_,rfl,run_takeDeferred hD3,zW hΓ hres hs hR ms _ n2 (fun E hE=>?_) (hs () _ _ _ _ _ _ hI ht) (fun g k h=>by rw[World.putObj_size];exact hf g k h) (fun b h=>by rw[World.putObj_size];exact hlt b h) ht.shp⟩⟩
  obtain⟨e1,e2,e3⟩:=hm E (List.mem_cons_of_mem _ hE)
  exact⟨e1,e2,(World.putObj_heap_other (by intro e;subst e;exact n1 hE)).trans e3⟩
theorem To.FZ(hΓ:ΓOK P Γ){fn:Func}{r:D}(hres:oP Γ [] [] fn.results.toList=some r){I:Fz->(Nat->Prop)->World->Prop}(hs:jX P (fun(_:Unit)=>I)){R:Ending->World->Prop}(hR:∀F U v w,I F U w->R (.returned v) w){X:Nat->Prop}{Fx:Fz}{W:World}(hat:AtI I X Fx W F1 w1)(hbox:rf L=true):To nt F1 w1 K L .ret (bodyPostM (Fr none) 0 P fn R):=by
 rintro a w ⟨B,F,hb,hd,hs',hK⟩
 have hm:=hat.mid hs hb hbox
 obtain⟨ms,m1,m2,m3⟩:=hm.marks
 show LeavesInM (Fr none) 0 P fn a.tmps R a.defers .returning w
 rw[hd,show w1.defs=ms.map Bz from m1]
 exact zW hΓ hres hs (hR F _) ms w m2 (fun D hD=>⟨.inr (m3 D hD).1,hm.high D (m3 D hD).1,(hm.kept D (m3 D hD).1).trans (m3 D hD).2⟩) hm.inv hm.frz hm.lt hb.shp
theorem To.EO(hΓ:ΓOK P Γ){fn:Func}{r:D}(hres:oP Γ [] [] fn.results.toList=some r){I:Fz->(Nat->Prop)->World->Prop}(hs:jX P (fun(_:Unit)=>I)){R:Ending->World->Prop}(hR:∀F U v w,I F U w->R (.returned v) w){X:Nat->Prop}{Fx:Fz}{W:World}(hat:AtI I X Fx W F1 w1)(hbox:rf L=true):To nt F1 w1 K L .normal (bodyPostM (Fr none) 0 P fn R):=fun a w hst =>
 To.FZ (nt:=nt) (K:=K) (L:=L) hΓ hres hs hR hat hbox a w hst
end
end Go.Proofs.YtpmmhhmhckpnfaaDoor.RX
namespace Go.Proofs.YtpmmhhmhckpnfaaDoor.RX
open Go.RowKit
def AA(P:Program)(g:Nat)(ds:List D)(Lg:ay){α:Type}(encs:α->List D)(xs:List α):Prop :=
 FOK P g/\∀(l:Nat)(J:List α->Fz->(Nat->Prop)->World->Prop)(Jx:Fz->(Nat->Prop)->World->Prop),jX P J->jX P (fun(_:Unit)=>Jx)->sW P l encs J Jx ->
  ∀(F:Fz)(w1:Pt P)(B:Env)(lb:List Value),w1.rnd=none->w1.defs=[]->(∀b,w1.own b->b<w1.w.heap.size)->(∀g k,F g k->¬w1.own g)->J xs F w1.own w1.w->Base F w1 B F (aJ Lg) w1.w->aA F w1.w B ds lb ->
   CallsIn (Fr none) 0 P g (#[.func (.yield l) #[] #[]]++lb.toArray) w1.w fun e w'=>(∃v,e=.returned v)/\∃F' U',J [] F' U' w'\/Jx F' U' w'
section
variable {P:Program} {F0 F1:Fz} {w0 w1:Pt P} {B:Env} {F:Fz} {M:Mem} {w:World}
theorem Base.EC{L:ay}{U U':Nat->Prop}{F':Fz}{w':World}(hb:Base F1 w1 B F (aJ L) w)(hU:∀b,U b->w1.fresh b)(hd:∀k t c b,aJ L k t c->bM B k=some b->¬U b)(h:vQ P F U w F' U' w'):Base F1 w1 B F' (aJ L) w':=by
 refine⟨fun k t ds hm=>?_,hb.new,hb.inj,h.frz,fun g k hF=>?_,hb.grow.trans h.grow,hb.below.trans ⟨h.below.os,h.below.tape,h.below.output,h.below.size,fun k hk hno=>?_⟩,hb.env⟩
 ·have hh:=hb.boxes _ _ _ hm
  refine hh.grow h.grow rfl (fun _ _ _ h=>h) fun b hbk=>?_
  have hlt:=hh.lt hbk
  have hu:=hd _ _ _ b hm hbk
  refine⟨h.below.block b hlt hu,fun j hj=>?_⟩
  rcases h.more b j hj with h1|h1|h1
  ·exact h1
  ·omega
  ·exact absurd h1 hu
 ·rcases h.more g k hF with h1|h1|h1
  ·exact hb.more g k h1
  ·exact .inr (.inl (Nat.le_trans hb.below.size h1))
  ·exact .inr (hU g h1)
 ·exact h.below.block k (Nat.lt_of_lt_of_le hk hb.below.size) fun hu=>by
   rcases hU k hu with h|h
   ·omega
   ·exact hno h
end
section
variable {P:Program} {Γ:Nat->Option TI} {nt:Nat} {F0:Fz} {w0:Pt P} {K K' Kb:List (Nat×D)} {L L':ay} {Q:Exit->Act->World->Prop}
theorem Wp.An{α σ:Type}{t:Nat}{ps:Array Tmp}{assign body:Code}{gf:Nat}{lds ldsI:List D}{encs:α->List D}{xs:List α}(c:CBd)(Lg:ay)(R:List α->σ->Prop)(S:σ->ay)(jump:Option Code)
  (hro:w0.rnd=none) (hg:K.lookup t=some (.fn gf lds)) (hlds:D.subs (bX never c.ren) ldsI=lds) (hseq:AA P gf ldsI Lg encs xs) (hLg:∀k t ds,aJ Lg k t ds->aJ c.Lin k t ds) (hbg:rf Lg=true)
  (hok:qU c=true) (hLin:found c L=c.Lin.map fun x=>some (x.2.1,D.subs (bX never c.ren) x.2.2)) (hno:∀s,gK (S s)=true) (hnoL:gK c.dN=true) (hnoA:gK (jK c L)=true)
  (s0:σ) (hR0:R xs s0) (hS0:∀k t ds,aJ (S s0) k t ds->aJ c.Lin k t ds/\∀t' ds',¬aJ Lg k t' ds') (hps:∀x,(encs x).length=ps.toList.length) (hnd:ps.toList.Nodup) (hpt:∀p∈ps.toList,p<nt) (hne:∀x,D.bU (encs x)=true)
  (hKb:∀x∈Kb,(x.1,D.sub (bX never c.ren) x.2)∈K/\x.1∉ps.toList/\AL (c.Lin.map (·.1)) x.2=true)
  (K2:α->σ->List (Nat×D)) (L2:α->σ->ay) (hno2:∀x s,gK (L2 x s)=true)
  (hass:∀x r s,R (x::r) s->∀(F':Fz)(w1:Pt P),Wp P nt F' w1 (Kb++ps.toList.zip (encs x)) (S s) assign (tG nt F' w1 (K2 x s) (L2 x s)))
  (hbody:∀x r s,R (x::r) s->∀(F':Fz)(w1:Pt P),Wp P nt F' w1 (K2 x s) (L2 x s) body (jO F' w1 (R r) S jump c.dN))
  (hend:∀s,R [] s->jump=none/\S s=c.dN)
  (hK':∀x∈K',x∈K/\∀k,(dm c).contains k=true->D.names k x.2=false)
  (hn:∀(F1:Fz)(w1:Pt P),After F0 w0 F1 w1->Behind nt F1 w1 K' (jK c L) Q jump) :
  Wp P nt F0 w0 K L (.rangeFunc (.tmp t) ps assign body) Q:=by
 rintro a w ⟨B,F,hb,hd,hs,hK⟩
 rw[hro]
 obtain⟨w1,hw1,hb1,henv,hafter⟩:=rS hb hok hLin
 obtain⟨v,hv,hrv⟩:=hK _ (aB hg)
 obtain⟨lb,hlb,rfl⟩:∃lb,aA F w B lds lb/\v=.func (.func gf) #[] lb.toArray:=by
  cases hrv with
  |fn f ds vs h=>exact⟨vs,h,rfl⟩
 refine wpIn_rangeFunc fun fn hfn=>?_
 obtain⟨rec,hrec⟩:∃rec:LoopState->Option Code->Loop,rec=fun st pe=>{ state:=st,pending:=pe,fn,tmps:=a.tmps,params:=ps,assign,body,defers:=w.heap.size }:=⟨_,rfl⟩
 obtain⟨W1,hW1⟩:∃W1,(w.alloc (.deferred (some []))).alloc (.loop (rec .ready none))=W1:=⟨_,rfl⟩
 have hL1:W1.heap[w.heap.size+1]? = some (.loop (rec .ready none)):=by
  rw[<-hW1];have:=World.alloc_heap_new (w.alloc (.deferred (some []))) (.loop (rec .ready none));rwa[World.size_alloc] at this
 have hD1:W1.heap[w.heap.size]? = some (.deferred (some [])):=by
  rw[<-hW1];exact(Below.heap_alloc _ _ _ (by simp)).trans (World.alloc_heap_new w _)
 have hbel:Below w.heap.size w W1:=by rw[<-hW1];exact yc _ _ _
 obtain⟨hbW,hgW⟩:=hb1.callee hbel
 have hw0:w0.w.heap.size<=w.heap.size:=hb.below.size
 refine⟨w.heap.size+1,[{ target:=.collected w.heap.size,args:=#[] }],W1,{ target:=.fn (.func gf) lb.toArray,args:=#[.func (.yield (w.heap.size+1)) #[] #[]] },W1,gf,
  #[.func (.yield (w.heap.size+1)) #[] #[]]++lb.toArray,W1,?_,?_,fun _ _=>trivial,?_,fun h=>(by cases h),?_⟩
 ·rw[<-hW1,hrec];exact run_enterLoop_outer _ _ _ _ _
 ·simp only[resolve,nC hv]
  simp[go_sem]
 ·simp only[invoke];rw[ni hseq.1]
 ·have hlbI:aA F w (pull c.ren B) ldsI lb:=aA.pull ldsI (by rw[hlds];exact hlb)
  let U0:Nat->Prop:=OwnB (pull c.ren B) Lg
  have hU0lt:∀b,U0 b->b<w.heap.size:=fun b ⟨k,t,ds,hm,hk⟩=>(hb1.boxes _ _ _ (hLg _ _ _ hm)).lt hk
  let N0:(Nat->Prop)->Prop:=fun U=>∀b,U b->U0 b\/w.heap.size+2<=b
  have hN:∀{b:Nat},(U0 b\/w.heap.size+2<=b)->b<w.heap.size\/w.heap.size+2<=b:=fun h=>h.imp (hU0lt _) id
  let Dj:Env->ay->(Nat->Prop)->Prop:=fun B' L U=>∀k t c b,aJ L k t c->bM B' k=some b->¬U b
  let J:List α->Fz->(Nat->Prop)->World->Prop:=fun r F' U W=>N0 U/\∃s B',R r s/\Base F w1 B' F' (aJ (S s)) W/\Dj B' (S s) U/\W.heap[w.heap.size+1]? = some (.loop (rec .ready none))/\W.heap[w.heap.size]? = some (.deferred (some []))
  let Jx:Fz->(Nat->Prop)->World->Prop:=fun F' U W=>N0 U/\∃B' j,jump=some j/\Base F w1 B' F' (aJ c.dN) W/\Dj B' c.dN U/\W.heap[w.heap.size+1]? = some (.loop (rec .done (some j)))/\W.heap[w.heap.size]? = some (.deferred (some []))
  have hw1s:w1.w.heap.size=w.heap.size:=by rw[hw1]
  have hlt:∀{W:World}{r:Nat}{o:Obj},W.heap[r]? = some o->r<W.heap.size:=fun h=>(Array.getElem?_eq_some_iff.1 h).1
  have hbs:Base F w1 (pull c.ren B) (je F w W1) (aJ (S s0)) W1:=hbW.sub fun k t ds h=>(hS0 k t ds h).1
  have stN:∀{U U':Nat->Prop}{F' F'':Fz}{W W':World},N0 U->w.heap.size+1<W.heap.size->vQ P F' U W F'' U' W'->N0 U':=fun hU hsz ht b hb'=>by
   rcases ht.own b hb' with h|h
   ·exact hU b h
   ·exact .inr (by omega)
  have stD:∀{U U':Nat->Prop}{F' F'':Fz}{W W':World}{B':Env}{Lx:ay},Base F w1 B' F' (aJ Lx) W->Dj B' Lx U->vQ P F' U W F'' U' W'->Dj B' Lx U':=fun hbx hd ht k t c b hm hk hu=>by
   rcases ht.own b hu with h|h
   ·exact hd k t c b hm hk h
   ·have:=(hbx.boxes _ _ _ hm).lt hk;omega
  have hU1:∀{U:Nat->Prop},N0 U->∀b,U b->w1.fresh b:=fun hU b hb'=>by
   rcases hU b hb' with⟨k,t,ds,hm,hk⟩|h
   ·exact hb1.new _ _ _ b (hLg _ _ _ hm) hk
   ·exact .inl (by omega)
  have hdj0:Dj (pull c.ren B) (S s0) U0:=fun k t ds b hm hk ⟨k',t',ds',hm',hk'⟩=>by
   obtain⟨h1,h2⟩:=hS0 _ _ _ hm
   have:=hbW.inj k k' b ⟨_,_,h1⟩ ⟨_,_,hLg _ _ _ hm'⟩ hk hk'
   subst this
   exact h2 _ _ hm'
  have hbase0:∀{hh:∀b,U0 b->P.low<=b},Base (je F w W1) { w:=W1,own:=U0,env:=w1.env,low:=w1.low,sh:=hbW.shp,high:=hh,rnd:=none,defs:=[] } (pull c.ren B) (je F w W1) (aJ Lg) W1:=fun {hh} =>
   ⟨fun k t ds hm=>hbW.boxes _ _ _ (hLg _ _ _ hm),fun k t ds b hm hk=>.inr ⟨k,t,ds,hm,hk⟩,fun i j b ⟨t,ds,hi⟩ ⟨t',ds',hj⟩=>hbW.inj i j b ⟨_,_,hLg _ _ _ hi⟩ ⟨_,_,hLg _ _ _ hj⟩,hbW.frz,fun _ _ h=>.inl h,Grow.refl _ _,dP.refl _ _ _,hbW.env⟩
  refine(hseq.2 (w.heap.size+1) J Jx (fun r F' U W F'' U' w' ⟨hN0,s,B',h1,h2,hdj,h3,h4⟩ h5=>⟨stN hN0 (hlt h3) h5,s,B',h1,h2.EC (hU1 hN0) hdj h5,stD h2 hdj h5,(h5.below.block _ (hlt h3) (fun hu=>by have:=hN (hN0 _ hu);omega)).trans h3,(h5.below.block _ (hlt h4) (fun hu=>by have:=hN (hN0 _ hu);omega)).trans h4⟩)
   (fun _ F' U W F'' U' w' ⟨hN0,B',j,h1,h2,hdj,h3,h4⟩ h5=>⟨stN hN0 (hlt h3) h5,B',j,h1,h2.EC (hU1 hN0) hdj h5,stD h2 hdj h5,(h5.below.block _ (hlt h3) (fun hu=>by have:=hN (hN0 _ hu);omega)).trans h3,(h5.below.block _ (hlt h4) (fun hu=>by have:=hN (hN0 _ hu);omega)).trans h4⟩) ?_ (je F w W1) { w:=W1,own:=U0,env:=w1.env,low:=w1.low,sh:=hbW.shp,high:=fun b ⟨k,t,ds,hm,hk⟩=>Pt.mZ (hbW.new _ _ _ b (hLg _ _ _ hm) hk),rnd:=none,defs:=[] } (pull c.ren B) lb rfl rfl (fun b hu=>Nat.lt_of_lt_of_le (hU0lt b hu) hbel.size) (fun g k hF ⟨k',t',ds',hm,hk⟩=>(hbW.boxes _ _ _ (hLg _ _ _ hm)).F6 (zk hbg hm) hk _ hF) ⟨fun _ h=>.inl h,s0,pull c.ren B,hR0,hbs,hdj0,hL1,hD1⟩ hbase0 (hlbI.grow hgW)).mono ?_
  ·rintro ro x r F' U W args ⟨hN0,s,B',hR,hbJ,hdj,hl,hk⟩ hfrz hUlt hshp hargs
   have hlen:=aA.length hargs
   have hy:=run_yield (P:=P) (args:=args.toArray) hl (by rw[hrec];simp only[List.size_toArray];rw[hlen,hps x];simp)
   rw[hrec] at hy
   have hll:=hlt hl
   let ex:Nat->Prop:=fun b=>b=w.heap.size\/b=w.heap.size+1\/U b
   have hexlt:∀{W':World},W.heap.size<=W'.heap.size->∀b,ex b->b<W'.heap.size:=fun hle b he=>by
    rcases he with h|h|h
    ·omega
    ·omega
    ·have:=hUlt b h;omega
   have hex:∀{W:World}{st:LoopState},W.heap[w.heap.size+1]? = some (.loop { rec .ready none with state:=st })->W.heap[w.heap.size]? = some (.deferred (some []))->∀q∈[w.heap.size,w.heap.size+1],∃o,W.heap[q]? = some o/\qe o=true:=by
    intro W st h1 h2 q hq
    simp only[List.mem_cons,List.not_mem_nil,or_false] at hq
    rcases hq with rfl|rfl
    ·exact⟨_,h2,rfl⟩
    ·exact⟨_,h1,rfl⟩
   have hl0:W.heap[w.heap.size+1]? = some (.loop { rec .ready none with state:=.ready }):=by rw[hl,hrec]
   have off2:∀{B'':Env}{F'':Fz}{Lx:ay}{W':World}{st:LoopState},Base F w1 B'' F'' (aJ Lx) W'->gK Lx=true->W'.heap[w.heap.size+1]? = some (.loop { rec .ready none with state:=st })->W'.heap[w.heap.size]? = some (.deferred (some []))->Dj B'' Lx U->∀k t c b,aJ Lx k t c->bM B'' k=some b->¬ex b:=fun hbx hnx h1 h2 hdx k t c b hm hk he=>by
    rcases he with h|h|h
    ·exact hbx.tf hnx (ex:=[w.heap.size,w.heap.size+1]) (hex h1 h2) k t c b hm hk (by simp[h])
    ·exact hbx.tf hnx (ex:=[w.heap.size,w.heap.size+1]) (hex h1 h2) k t c b hm hk (by simp[h])
    ·exact hdx k t c b hm hk h
   have hfold:=wV ps.toList args a.tmps hnd (fun p hp=>by rw[hs];exact hpt p hp) (by rw[hlen,hps x])
   have hgw:Grow F F' w W:=by have:=hbJ.grow;rwa[hw1] at this
   have hact:((ps.zip args.toArray).foldl (fun(tmps:Array Value) (x:Tmp×Value)=>tmps.setIfInBounds x.1 x.2) a.tmps)=((ps.toList.zip args).foldl (fun(t:Array Value) (x:Nat×Value)=>t.setIfInBounds x.1 x.2) a.tmps):=by
    rw[<-Array.foldl_toList,Array.toList_zip]
   have hrun0:=hass x r s hR F' (w1.nV W hbJ.shp ex (some (w.heap.size+1)) []) { tmps:=(ps.toList.zip args).foldl (fun(t:Array Value) (x:Nat×Value)=>t.setIfInBounds x.1 x.2) a.tmps,defers:=[] } W ⟨B',F',hbJ.nV hbJ.shp (off2 hbJ (hno s) hl0 hk hdj),rfl,by rw[hfold.1];exact hs,fun y hy=>?_⟩
   rotate_left
   ·rcases List.mem_append.1 hy with hy|hy
    ·obtain⟨h1,h2,h3⟩:=hKb y hy
     obtain⟨v,q1,q2⟩:=hK _ h1
     refine⟨v,by rw[hfold.2.1 _ h2];exact q1,?_⟩
     have q3:=(Rep.pull y.2 q2).grow hgw
     cases hd':y.2 with
     |own j off =>
      rw[hd'] at q3 h3
      cases q3 with
      |own _ _ b hbj =>
       have hj:j∈c.Lin.map (·.1):=List.contains_iff_mem.1 h3
       obtain⟨z,hz,rfl⟩:=List.mem_map.1 hj
       exact .own _ _ b (hbJ.env _ _ ((henv z.1 z.2.1 z.2.2 hz).trans hbj))
     |_=>rw[hd'] at q3 h3;exact q3.bare h3
    ·obtain⟨i,hi⟩:=List.getElem?_of_mem hy
     rw[List.getElem?_zip_eq_some] at hi
     obtain⟨v,q1,q2⟩:=hargs.get i hi.2
     have hnoy:D.dL y.2=true:=by
      have:=hne x
      have hmem:y.2∈encs x:=List.mem_of_getElem? hi.2
      clear hi hy q1 q2
      revert this hmem
      generalize encs x=es
      intro this hmem
      induction es with
      |nil=>cases hmem
      |cons e es ih =>
       rw[D.bU,Bool.and_eq_true] at this
       rcases List.mem_cons.1 hmem with rfl|h
       ·exact this.1
       ·exact ih this.2 h
     exact⟨v,hfold.2.2 i _ _ hi.1 q1,q2.bare hnoy⟩
   rw[<-hact] at hrun0
   refine⟨fn,_,assign,body,hy,roundIn_of_wpIn trivial (wpIn_mono hrun0 ?_)⟩
   rintro ea a1 Wa ⟨rfl,Ba,Fa,hba,hda,hsa,hKa⟩
   have hla:Wa.heap[w.heap.size+1]? = some (.loop { rec .ready none with state:=.ready }):=(hba.below.block _ hll (fun h=>h.2 (.inr (.inl rfl)))).trans hl0
   have hka:Wa.heap[w.heap.size]? = some (.deferred (some [])):=(hba.below.block (w.heap.size) (by show w.heap.size<W.heap.size;omega) (fun h=>h.2 (.inl rfl))).trans hk
   have hUa:∀b,U b->Wa.heap[b]? = W.heap[b]?:=fun b hu=>hba.below.block b (hUlt b hu) (fun h=>h.2 (.inr (.inr hu)))
   have hsza:W.heap.size<=Wa.heap.size:=hba.below.size
   have hdja:Dj Ba (L2 x s) U:=fun k t c b hm hk hu=>pQ (hexlt (Nat.le_refl _)) (hba.new k t c b hm hk) (.inr (.inr hu))
   have hoffa:∀g k,Fa g k->¬U g:=fun g k hF hu=>by
    rcases hba.more g k hF with h|h
    ·exact(hfrz g k h).2 hu
    ·exact pQ (hexlt (Nat.le_refl _)) h (.inr (.inr hu))
   refine⟨_,run_beginRound hla rfl,?_⟩
   have hb1a:=hbJ.Db hba
   obtain⟨hb2,hg2a⟩:=hb1a.put (hno2 x s) (o':=.loop { rec .ready none with state:=.busy }) hla rfl rfl (by omega)
   have hg2:=hba.grow.trans hg2a
   have hl2:(Wa.putObj (w.heap.size+1) (.loop { rec .ready none with state:=.busy })).heap[w.heap.size+1]? = some (.loop { rec .ready none with state:=.busy }):=World.putObj_heap_same (hlt hla)
   have hk2:(Wa.putObj (w.heap.size+1) (.loop { rec .ready none with state:=.busy })).heap[w.heap.size]? = some (.deferred (some [])):=(World.putObj_heap_other (by omega)).trans hka
   have hU2:∀b,U b->(Wa.putObj (w.heap.size+1) (.loop { rec .ready none with state:=.busy })).heap[b]? = W.heap[b]?:=fun b hu=>(World.putObj_heap_other (by have:=hN (hN0 b hu);omega)).trans (hUa b hu)
   have hsz2':W.heap.size<=(Wa.putObj (w.heap.size+1) (.loop { rec .ready none with state:=.busy })).heap.size:=by rw[World.putObj_size];exact hsza
   revert hb2 hg2 hg2a hl2 hk2 hU2 hsz2'
   generalize Wa.putObj (w.heap.size+1) (.loop { rec .ready none with state:=.busy })=W2
   intro hb2 hg2a hg2 hl2 hk2 hU2 hsz2'
   have hrun:=hbody x r s hR Fa (w1.nV W2 hb2.shp ex (some (w.heap.size+1)) []) a1 W2 ⟨Ba,Fa,hb2.nV hb2.shp (off2 hb2 (hno2 x s) hl2 hk2 hdja),hda,hsa,fun y hy=>let ⟨v,q1,q2⟩:=hKa y hy;⟨v,q1,q2.grow hg2a⟩⟩
   refine wpIn_mono hrun ?_
   have hsz2:w.heap.size+1<W2.heap.size:=hlt hl2
   have fin:∀(jm:Option Code)(Lx:ay)(B'':Env)(F'':Fz)(w':World),gK Lx=true->Base Fa (w1.nV W2 hb2.shp ex (some (w.heap.size+1)) []) B'' F'' (aJ Lx) w' ->
     ∃w4,(Instr.endRound (w.heap.size+1) jm).run P w'=.ok (.bool jm.isNone) w4/\Ap P F' U W F'' w4/\Base F w1 B'' F'' (aJ Lx) w4/\Dj B'' Lx U/\w4.heap[w.heap.size+1]? = some (.loop (rec (if jm.isNone then .ready else .done) jm))/\w4.heap[w.heap.size]? = some (.deferred (some [])):=by
    intro jm Lx B'' F'' w' hnx hb3
    have hl3:w'.heap[w.heap.size+1]? = some (.loop { rec .ready none with state:=.busy }):=(hb3.below.block _ hsz2 (fun h=>h.2 (.inr (.inl rfl)))).trans hl2
    have hk3:w'.heap[w.heap.size]? = some (.deferred (some [])):=(hb3.below.block (w.heap.size) (by show w.heap.size<W2.heap.size;omega) (fun h=>h.2 (.inl rfl))).trans hk2
    have hrun:=run_endRound (P:=P) jm hl3
    have hb4:=hb2.Db hb3
    obtain⟨hb5,hg5⟩:=hb4.put hnx (o':=.loop { ({ rec .ready none with state:=.busy }:Loop) with state:=if jm.isNone then .ready else .done,pending:=jm }) hl3 rfl rfl (by omega)
    refine⟨_,hrun,⟨⟨(hg2.trans hb3.grow).trans hg5,hb5.frz,hb5.shp⟩,?_,fun b hu=>?_,fun g k hF hu=>?_⟩,hb5,fun k t c b hm hk hu=>pQ (hexlt hsz2') (hb3.new k t c b hm hk) (.inr (.inr hu)),?_,(World.putObj_heap_other (by omega)).trans hk3⟩
    ·rw[World.putObj_size];exact Nat.le_trans hsz2' hb3.below.size
    ·refine(World.putObj_heap_other (by have:=hN (hN0 b hu);omega)).trans ((hb3.below.block b ?_ (fun h=>h.2 (.inr (.inr hu)))).trans (hU2 b hu))
     show b<W2.heap.size
     have:=hUlt b hu;omega
    ·rcases hb3.more g k hF with h|h
     ·exact hoffa g k h hu
     ·exact pQ (hexlt hsz2') h (.inr (.inr hu))
    rw[World.putObj_heap_same (hlt hl3),hrec]
   rintro e a3 w3 hp
   cases e with
   |normal =>
    obtain⟨s',B'',F'',hR',hb3⟩:=hp
    obtain⟨w4,h1,h2,h3,hd3,h4,h5⟩:=fin none _ B'' F'' w3 (hno s') hb3
    exact⟨_,w4,h1,F'',h2,.inl ⟨rfl,hN0,s',B'',hR',h3,hd3,h4,h5⟩⟩
   |ret =>
    obtain⟨hj,B'',F'',hb3⟩:=hp
    obtain⟨w4,h1,h2,h3,hd3,h4,h5⟩:=fin (some .ret) _ B'' F'' w3 hnoL hb3
    exact⟨_,w4,h1,F'',h2,.inr ⟨rfl,hN0,B'',_,hj,h3,hd3,h4,h5⟩⟩
   |exit id =>
    obtain⟨hj,B'',F'',hb3⟩:=hp
    obtain⟨w4,h1,h2,h3,hd3,h4,h5⟩:=fin (some (.exit id)) _ B'' F'' w3 hnoL hb3
    exact⟨_,w4,h1,F'',h2,.inr ⟨rfl,hN0,B'',_,hj,h3,hd3,h4,h5⟩⟩
   |goto t =>
    obtain⟨hj,B'',F'',hb3⟩:=hp
    obtain⟨w4,h1,h2,h3,hd3,h4,h5⟩:=fin (some (.goto t)) _ B'' F'' w3 hnoL hb3
    exact⟨_,w4,h1,F'',h2,.inr ⟨rfl,hN0,B'',_,hj,h3,hd3,h4,h5⟩⟩
   |panic ch=>exact hp.elim
   |outgrown=>exact hp.elim
  ·
   have out:∀(B':Env)(F':Fz)(W:World)(lp:Loop),Base F w1 B' F' (aJ c.dN) W->W.heap[w.heap.size+1]? = some (.loop lp)->lp.state≠.busy->W.heap[w.heap.size]? = some (.deferred (some [])) ->
     ∃w4 w1m,(Instr.endLoop (w.heap.size+1)).run P W=.ok lp.pending w4/\After F0 w0 F' w1m/\St nt F' w1m K' (jK c L) { a with defers:=[{ target:=.collected w.heap.size,args:=#[] }]++a.defers } w4:=by
    intro B' F' W lp hbx hl hst hk
    have hw1s:w1.w.heap.size=w.heap.size:=by rw[hw1]
    obtain⟨hb4,hg4⟩:=hbx.put hnoL (o':=.loop { lp with state:=.exhausted }) hl rfl rfl (by omega)
    have hk4:(W.putObj (w.heap.size+1) (.loop { lp with state:=.exhausted })).heap[w.heap.size]? = some (.deferred (some [])):=(World.putObj_heap_other (by omega)).trans hk
    obtain⟨B2,hb5,hg5,hold,_,_⟩:=hafter F' B' _ hb4
    have hb6:=hb5.nA hb5.shp (ro:=none) (ds:={ target:=.collected w.heap.size,args:=#[] }::w0.defs) (hb5.tf hnoA (ex:=[w.heap.size]) fun q hq=>by
     rw[List.mem_singleton.1 hq];exact⟨_,hk4,rfl⟩)
    refine⟨_,_,run_endLoop hl hst,⟨fun B F M w h=>hb5.comes h,⟨w.heap.size,rfl,hw0,hk4,fun h=>h.2 (by simp)⟩,rfl⟩,B2,F',hb6,by rw[hd];rfl,hs,fun x hx=>?_⟩
    obtain⟨h1,h2⟩:=hK' x hx
    obtain⟨v,q1,q2⟩:=hK x h1
    refine⟨v,q1,(q2.grow hg5).lU fun k hk=>hold k ?_⟩
    cases hcc:(dm c).contains k with
    |false=>rfl
    |true=>rw[h2 k hcc] at hk;cases hk
   rintro e W ⟨⟨v,rfl⟩,F',U',⟨_,s,B',hR,hbx,_,hl,hk⟩|⟨_,B',j,hj,hbx,_,hl,hk⟩⟩
   ·obtain⟨rfl,hS⟩:=hend s hR
    rw[hS] at hbx
    obtain⟨w4,w1m,h1,h2,h3⟩:=out B' F' W _ hbx hl (by rw[hrec];simp) hk
    rw[hrec] at h1
    exact⟨none,w4,h1,hn F' w1m h2 _ _ h3⟩
   ·subst hj
    obtain⟨w4,w1m,h1,h2,h3⟩:=out B' F' W _ hbx hl (by rw[hrec];simp) hk
    rw[hrec] at h1
    have hwp:Wp P nt F' w1m K' (jK c L) j Q:=hn F' w1m h2
    have:=hwp _ _ h3
    rw[h2.rnd] at this
    exact⟨some j,w4,h1,this⟩
end
section
variable {P:Program} {Γ:Nat->Option TI} {nt:Nat} {F0:Fz} {w0:Pt P} {K:List (Nat×D)} {L:ay} {Q:Exit->Act->World->Prop}
theorem E3{g : Nat}{fn : Func}{c : Code}{ds : List D}{Lg : ay}{α : Type}{encs : α->List D}{xs : List α}(hf : P.funcs[g]? = some fn)(hbody : fn.body=some c)(hname : (fn.name == "runtime.NumGoroutine")=false)(hn : ds.length+1<=fn.ntmps)
  (h:∀(l:Nat)(J:List α->Fz->(Nat->Prop)->World->Prop)(Jx:Fz->(Nat->Prop)->World->Prop),jX P J->jX P (fun(_:Unit)=>Jx)->sW P l encs J Jx ->
   ∀(F0:Fz)(w1:Pt P),w1.rnd=none->AtI (J xs) (fun _=>False) F0 w1.w F0 w1 ->
    Wp P fn.ntmps F0 w1 ((D.val (.func (.yield l) #[] #[])::ds).zipIdx.map fun x=>(x.2,x.1)) Lg c (bodyPostM (Fr none) 0 P fn (vW (J []) Jx))):AA P g ds Lg encs xs:=by
 refine⟨⟨fn,hf,hname,by rw[hbody];rfl⟩,fun l J Jx hs hsx hy F w1 B lb hro hdf hlt hoff hJ hb hr=>?_⟩
 have hr':aA F w1.w B (D.val (.func (.yield l) #[] #[])::ds) (.func (.yield l) #[] #[]::lb):=.cons _ _ _ _ (.val _ rfl) hr
 have hlen:=aA.length hr'
 have hargs:#[Value.func (.yield l) #[] #[]]++lb.toArray=(Value.func (.yield l) #[] #[]::lb).toArray:=by simp
 rw[hargs]
 have hJ':J xs F (fun b=>w1.own b\/False) w1.w:=by
  have e:(fun b=>w1.own b\/False)=w1.own:=by funext b;exact propext ⟨fun h=>h.elim id False.elim,.inl⟩
  rw[e];exact hJ
 have hw:=h l J Jx hs hsx hy F w1 hro ⟨hJ',fun b h=>h.elim (hlt b) False.elim,fun _ h=>h.elim,fun g k h=>⟨hb.frz g k h,fun h'=>h'.elim (hoff g k h) False.elim⟩,⟨[],hdf,.nil,fun _ h=>by cases h⟩,fun _ h=>h.elim,fun _ h=>h.elim,Nat.le_refl _,Grow.refl _ _⟩
 unfold Wp at hw
 rw[hro] at hw
 refine callsIn_of_wp_marks (F:=Fr none) hf hbody trivial (hw _ w1.w ⟨B,F,hb,hdf.symm▸rfl,?_,fun x hx=>?_⟩)
 ·have h1:lb.length=ds.length:=by have:=hlen;simp only[List.length_cons] at this;omega
  simp;omega
 ·obtain⟨y,hy,rfl⟩:=List.mem_map.1 hx
  obtain⟨d,i⟩:=y
  have hd:(D.val (.func (.yield l) #[] #[])::ds)[i]? = some d:=by
   have:=List.mem_zipIdx_iff_getElem?.1 hy
   simpa using this
  obtain⟨v,hv,hrep⟩:=hr'.get i hd
  refine⟨v,?_,hrep⟩
  have hi:i<(Value.func (.yield l) #[] #[]::lb).length:=(List.getElem?_eq_some_iff.1 hv).1
  simp only
  rw[Array.getElem?_append_left (by simpa using hi)]
  simpa using hv
end
section
variable {P:Program} {Γ:Nat->Option TI} {nt:Nat} {F0:Fz} {w0:Pt P} {K:List (Nat×D)} {L:ay} {Q:Exit->Act->World->Prop}
theorem Wp.y7{α σ:Type}{t:Nat}{ps:Array Tmp}{assign body:Code}{gf:Nat}{lds ldsI:List D}{encs:α->List D}{xs:List α}(c:CBd)(Lg:ay)(R:List α->σ->Prop)(S:σ->ay)(jump:Option Code)(kb k1:List Nat)(Kb K':List (Nat×D))(L':ay)(s0:σ)(K2:α->σ->List (Nat×D))(L2:α->σ->ay)
  (hro:w0.rnd=none) (hg:K.lookup t=some (.fn gf lds)) (hlds:D.subs (bX never c.ren) ldsI=lds) (hseq:AA P gf ldsI Lg encs xs) (hLg:∀k t ds,aJ Lg k t ds->aJ c.Lin k t ds) (hbg:rf Lg=true)
  (hok:qU c=true) (hLin:found c L=c.Lin.map fun x=>some (x.2.1,D.subs (bX never c.ren) x.2.2)) (hno:∀s,gK (S s)=true) (hnoL:gK c.dN=true) (hA:jK c L=L') (hnoA:gK L'=true)
  (hR0:R xs s0) (hS0:∀k t ds,aJ (S s0) k t ds->aJ c.Lin k t ds/\∀t' ds',¬aJ Lg k t' ds') (hps:∀x,(encs x).length=ps.toList.length) (hnd:ps.toList.Nodup) (hpt:∀p∈ps.toList,p<nt) (hne:∀x,D.bU (encs x)=true)
  (hKb:jZ K kb=some (Kb.map fun x=>(x.1,D.sub (bX never c.ren) x.2))) (hKb2:(Kb.all fun x=>!(ps.toList.contains x.1)&&AL (c.Lin.map (·.1)) x.2)=true)
  (hno2:∀x s,gK (L2 x s)=true)
  (hend:∀s,R [] s->jump=none/\S s=c.dN)
  (hK':jZ K k1=some K') (hK2:(K'.all fun x=>(dm c).all fun k=>!(D.names k x.2))=true)
  (hass:∀x r s,R (x::r) s->∀(F':Fz)(w1:Pt P),Wp P nt F' w1 (Kb++ps.toList.zip (encs x)) (S s) assign (tG nt F' w1 (K2 x s) (L2 x s)))
  (hbody:∀x r s,R (x::r) s->∀(F':Fz)(w1:Pt P),Wp P nt F' w1 (K2 x s) (L2 x s) body (jO F' w1 (R r) S jump c.dN))
  (hn:∀(F1:Fz)(w1:Pt P),After F0 w0 F1 w1.out->Behind nt F1 w1.out K' L' Q jump) :
  Wp P nt F0 w0 K L (.rangeFunc (.tmp t) ps assign body) Q:=by
 subst hA
 refine Wp.An (Kb:=Kb) (K':=K') c Lg R S jump hro hg hlds hseq hLg hbg hok hLin hno hnoL hnoA s0 hR0 hS0 hps hnd hpt hne (fun x hx=>⟨kN hKb _ (List.mem_map.2 ⟨x,hx,rfl⟩),?_⟩) K2 L2 hno2 hass hbody hend (fun x hx=>⟨kN hK' x hx,fun k hk=>?_⟩) (fun F1 w1 hA=>?_)
 ·have h:=List.all_eq_true.1 hKb2 x hx
  simp only[Bool.and_eq_true,Bool.not_eq_true'] at h
  exact⟨fun hm=>(by rw[List.contains_iff_mem.2 hm] at h;cases h.1),h.2⟩
 ·have h:=List.all_eq_true.1 (List.all_eq_true.1 hK2 x hx) k (List.contains_iff_mem.1 hk)
  simpa using h
 ·have e:w1.out=w1:=by
   have h1:=hA.rnd
   cases w1
   simp only at h1
   subst h1
   rfl
  have h2:=hn F1 w1 (by rw[e];exact hA)
  rwa[e] at h2
end
end Go.Proofs.YtpmmhhmhckpnfaaDoor.RX
namespace Go.Proofs.YtpmmhhmhckpnfaaDoor.M
open Go.RowKit Go.Proofs.YtpmmhhmhckpnfaaDoor.RX
set_option maxRecDepth 100000
abbrev BSt:=Bs
abbrev sqB(a b c:Nat)(s:BSt):ay:=[(a,9,[.str [47]]),(b,9,[.str s]),(c,3,[.val (.int .i64 0)])]
theorem zu(s:BSt):cY Tryd.prog 69 [.str s,.str [47],.val (.int .i64 0)] [] (.fn 72 [.own 4 0,.own 3 0,.own 5 0]) (sqB 4 3 5 s):=by
 refine pO (fn:=Tryd.f69) (by kernel_rfl) rfl (by kernel_rfl) (Nat.le_of_ble_eq_true (by kernel_rfl)) fun F0 w0=>?_
 refine Wp.seq ?_
 refine Wp.region hΓ [] [] [] [3,4,5] [4,3,5] (K':=[(3,.own 3 0),(4,.own 4 0),(5,.own 5 0)]) (L':=sqB 4 3 5 s) (ob:=[]) (by kernel_rfl) ax.nil ?_
 refine To.aj ?_
 refine Wp.seq ?_
 refine Wp.region hΓ [] [] [] [6] [4,3,5] (K':=[(6,.fn 72 [.own 4 0,.own 3 0,.own 5 0])]) (L':=sqB 4 3 5 s) (ob:=[]) (by kernel_rfl) ax.nil ?_
 refine To.aj ?_
 refine Wp.ret ?_
 exact To.AB hΓ [4,3,5] (by kernel_rfl) (by kernel_rfl)
theorem zD(s:BSt):cY Tryd.prog 61 [.str s,.str [47]] [] (.fn 72 [.own 14 0,.own 13 0,.own 15 0]) (sqB 14 13 15 s):=by
 refine pO (fn:=Tryd.f61) (by kernel_rfl) rfl (by kernel_rfl) (Nat.le_of_ble_eq_true (by kernel_rfl)) fun F0 w0=>?_
 refine Wp.seq ?_
 refine Wp.region hΓ [] [] [] [0,1] [] (K':=[(0,.str s),(1,.str [47])]) (L':=[]) (ob:=[]) (by kernel_rfl) ax.nil ?_
 refine To.aj ?_
 refine Wp.seq ?_
 refine Wp.region hΓ [] [] [(2,⟨[],[(4,14),(3,13),(5,15)],[.str s,.str [47],.val (.int .i64 0)],[],.fn 72 [.own 4 0,.own 3 0,.own 5 0],sqB 4 3 5 s⟩)] [4] [14,13,15] (K':=[(4,.fn 72 [.own 14 0,.own 13 0,.own 15 0])]) (L':=sqB 14 13 15 s)
  (ob:=[qb (cY Tryd.prog) 69 [.str s,.str [47],.val (.int .i64 0)] [] ⟨[],[(4,14),(3,13),(5,15)],[.str s,.str [47],.val (.int .i64 0)],[],.fn 72 [.own 4 0,.own 3 0,.own 5 0],sqB 4 3 5 s⟩]) (by kernel_rfl) (ax.cons ⟨zu s,by kernel_rfl,by kernel_rfl⟩ ax.nil) ?_
 refine To.aj ?_
 refine Wp.ret ?_
 exact To.AB hΓ [14,13,15] (by kernel_rfl) (by kernel_rfl)
def pK:Nat->BSt->Option (List BSt)
 |0,_=>none
 |k+1,s=>if decide (List.length s<4294967281)=true then(if decide (Lib.index s [47]<0)=true then some [s]
  else if decide (0<=IntKind.wrap .i64 (Lib.index s [47]+0)/\IntKind.wrap .i64 (Lib.index s [47]+0)<=(List.length s:Int))=true then(if decide (0<=IntKind.wrap .i64 (Lib.index s [47]+1)/\IntKind.wrap .i64 (Lib.index s [47]+1)<=(List.length s:Int))=true then
   (pK k (List.drop (Int.toNat (IntKind.wrap .i64 (Lib.index s [47]+1))) s)).bind fun r=>some (List.take (Int.toNat (IntKind.wrap .i64 (Lib.index s [47]+0))) s::r) else none) else none) else none
def rm(x:BSt):List D:=[.str x]
abbrev y72(l:Nat):Value:=.func (.yield l) #[] #[]
abbrev K72(l:Nat):List (Nat×D):=[(0,.val (y72 l)),(1,.own 1000001 0),(2,.own 1000002 0),(3,.own 1000003 0)]
abbrev L72(s:BSt):ay:=sqB 1000001 1000002 1000003 s
section
variable {J:List BSt->Fz->(Nat->Prop)->World->Prop} {Jx:Fz->(Nat->Prop)->World->Prop} {X:Nat->Prop} {Fx:Fz} {W:World}
theorem GF{nt:Nat}{F1:Fz}{w1:Pt Tryd.prog}{K:List (Nat×D)}{L:ay}{I:Fz->(Nat->Prop)->World->Prop}(hs:jX Tryd.prog (fun(_:Unit)=>I))(hI:∀F U w,I F U w->J [] F U w\/Jx F U w)(hat:AtI I X Fx W F1 w1)(hbox:rf L=true):To nt F1 w1 K L .ret (bodyPostM (Fr none) 0 Tryd.prog Tryd.f72 (vW (J []) Jx)) :=
 To.FZ (r:=.tup []) hΓ (by kernel_rfl) hs (fun F U v w h=>⟨⟨v,rfl⟩,F,U,hI F U w h⟩) hat hbox
theorem G3(l:Nat)(hs:jX Tryd.prog J)(hsx:jX Tryd.prog (fun(_:Unit)=>Jx))(hY:sW Tryd.prog l rm J Jx):∀(k:Nat)(s:BSt)(xs:List BSt),pK k s=some xs ->
  ∀(F0:Fz)(w0:Pt Tryd.prog),w0.rnd=none->AtI (J xs) X Fx W F0 w0 ->
   WL Tryd.prog 52 F0 w0 (K72 l) (L72 s) (cI (cI (cA (cB (cF Tryd.f72))))) (Exit.inBlock 2 (Exit.then (fun a w=>XC none Tryd.prog (cB (cB (cF Tryd.f72))) (bodyPostM (Fr none) 0 Tryd.prog Tryd.f72 (vW (J []) Jx)) a w) (bodyPostM (Fr none) 0 Tryd.prog Tryd.f72 (vW (J []) Jx)))):=by
 intro k
 induction k with
 |zero=>intro s xs h;cases h
 |succ k ih =>
  intro s xs h F0 w0 hro hat
  rw[pK] at h
  obtain⟨hc1,h⟩:=bg h
  refine WL.round ?_
  refine Wp.block ?_
  refine Wp.seq ?_
  refine Wp.region hΓ [] [(2,.val (.int .i64 (Lib.index s [47])))] [] [0,1,2,3,7] [1000001,1000002,1000003] (K':=K72 l++[(7,.val (.int .i64 (Lib.index s [47])))]) (L':=L72 s) (ob:=[(true=true->CX Tryd.prog 74 [.str s,.str [47]] (.val (.int .i64 (Lib.index s [47]))))]) (by kernel_rfl) (ax.cons (fun _=>cx (Sh.Fe hc1)) ax.nil) ?_
  refine To.aj ?_
  refine Wp.seq ?_
  refine Wp.seq ?_
  refine Wp.region hΓ [] [] [] [0,1,2,3,7,33] [1000001,1000002,1000003] (K':=K72 l++[(7,.val (.int .i64 (Lib.index s [47]))),(33,.val (.bool (decide (Lib.index s [47]<0))))]) (L':=L72 s) (ob:=[]) (by kernel_rfl) ax.nil ?_
  refine To.aj ?_
  refine Wp.cond (b:=decide (Lib.index s [47]<0)) (by kernel_rfl) (fun hb=>?_) (fun hb=>?_)
  ·replace h:=iZ hb h
   cases h
   refine Wp.exit ?_
   refine To.aZ ?_
   refine To.vo (by decide) ?_
   refine To.aZ ?_
   refine To.keep (kk:=[0,1,2,3]) (kl:=[1000001,1000002,1000003]) (K':=K72 l) (L':=L72 s) (by kernel_rfl) (by kernel_rfl) ?_
   refine To.cH ?_
   refine To.yJ hro ?_
   refine Wp.CU hΓ 2 l [] [] [] [] [1000001,1000002,1000003] hs hY s [] hat (fun _=>[]) (fun _=>L72 s) (fun _=>[]) (fun b=>by kernel_rfl) (fun _=>ax.nil) ?_
   intro b F1 w1 hr1 he1 hat1
   cases b with
   |true =>
    rw[if_pos rfl] at hat1
    exact To.EO (r:=.tup []) hΓ (by kernel_rfl) (hs.wq []) (fun F U v w h=>⟨⟨v,rfl⟩,F,U,.inl h⟩) hat1 (by kernel_rfl)
   |false =>
    rw[if_neg (by decide)] at hat1
    exact To.EO (r:=.tup []) hΓ (by kernel_rfl) hsx (fun F U v w h=>⟨⟨v,rfl⟩,F,U,.inr h⟩) hat1 (by kernel_rfl)
  ·replace h:=wO hb h
   obtain⟨hc2,h⟩:=bg h
   obtain⟨hc3,h⟩:=bg h
   obtain⟨r,hr,h⟩:=aG h
   cases h
   refine Wp.skip ?_
   refine To.aj ?_
   refine Wp.seq ?_
   refine Wp.region hΓ [] [] [] [0,1,2,3,7,8] [1000001,1000002,1000003] (K':=K72 l++[(7,.val (.int .i64 (Lib.index s [47]))),(8,.str (List.take (Int.toNat (IntKind.wrap .i64 (Lib.index s [47]+0))) s))]) (L':=L72 s)
    (ob:=[decide (0<=IntKind.wrap .i64 (Lib.index s [47]+0)/\IntKind.wrap .i64 (Lib.index s [47]+0)<=(List.length s:Int))=true]) (by kernel_rfl) (ax.cons hc2 ax.nil) ?_
   refine To.aj ?_
   refine Wp.seq ?_
   refine Wp.seq ?_
   refine Wp.CU hΓ 2 l [] [] [] [0,1,2,3,7,42] [1000001,1000002,1000003] hs hY (List.take (Int.toNat (IntKind.wrap .i64 (Lib.index s [47]+0))) s) r hat (fun b=>K72 l++[(7,.val (.int .i64 (Lib.index s [47]))),(42,.val (.bool (!b)))]) (fun _=>L72 s) (fun _=>[]) (fun b=>by kernel_rfl) (fun _=>ax.nil) ?_
   intro b F1 w1 hr1 he1 hat1
   refine To.yJ hr1 ?_
   refine Wp.cond (b:=!b) (by kernel_rfl) (fun hb2=>?_) (fun hb2=>?_)
   ·have hbf:b=false:=by simpa using hb2
    subst hbf
    rw[if_neg (by decide)] at hat1
    refine Wp.ret ?_
    refine To.aX ?_
    refine To.bH ?_
    refine To.aX ?_
    refine To.bH ?_
    refine To.aX ?_
    exact GF hsx (fun _ _ _ h=>.inr h) hat1 (by kernel_rfl)
   ·have hbt:b=true:=by simpa using hb2
    subst hbt
    rw[if_pos rfl] at hat1
    refine Wp.skip ?_
    refine To.yJ hr1 ?_
    refine Wp.region hΓ [] [] [] [0,1,2,3] [1000001,1000002,1000003] (K':=K72 l) (L':=L72 (List.drop (Int.toNat (IntKind.wrap .i64 (Lib.index s [47]+1))) s)) (ob:=[decide (0<=IntKind.wrap .i64 (Lib.index s [47]+1)/\IntKind.wrap .i64 (Lib.index s [47]+1)<=(List.length s:Int))=true]) (by kernel_rfl) (ax.cons hc3 ax.nil) ?_
    refine To.bT ?_
    refine To.FT hr1 ?_
    exact ih _ r hr F1 w1 (hr1.trans hro) hat1
end
theorem BH(n:Nat)(s:BSt)(xs:List BSt)(h:pK n s=some xs):AA Tryd.prog 72 [.own 1000001 0,.own 1000002 0,.own 1000003 0] (L72 s) rm xs:=by
 refine E3 (fn:=Tryd.f72) (by kernel_rfl) rfl (by kernel_rfl) (Nat.le_of_ble_eq_true (by kernel_rfl)) fun l J Jx hs hsx hY F0 w1 hro hat=>?_
 refine Wp.seq ?_
 refine Wp.seq ?_
 refine Wp.region hΓ [] [] [] [0,1,2,3,11] [1000001,1000002,1000003] (K':=K72 l++[(11,.val (.bool (((List.length ([47]:BSt):Nat):Int)==0)))]) (L':=L72 s) (ob:=[]) (by kernel_rfl) ax.nil ?_
 refine To.aj ?_
 refine Wp.cond (b:=(((List.length ([47]:BSt):Nat):Int)==0)) (by kernel_rfl) (fun hb=>absurd hb (by decide)) (fun hb=>?_)
 refine Wp.skip ?_
 refine To.aj ?_
 refine Wp.seq ?_
 refine Wp.block ?_
 refine Wp.keep (kk:=[0,1,2,3]) (kl:=[1000001,1000002,1000003]) (K':=K72 l) (L':=L72 s) (by kernel_rfl) (by kernel_rfl) ?_
 refine Wp.dE ?_
 have:=G3 l hs hsx hY n s xs h F0 w1 hro hat
 rw[hro]
 exact this
abbrev pZ(x:BSt):Bool:=bif (bif (x==[]) then true else(x==[46])) then true else(x==[46,46])
def kS(n:Nat)(a0:BSt):Option Bool :=
 (kV n a0).bind fun r1 =>
 if(!((!r1)==false)||decide (0<=(0:Int)/\(0:Int)<(List.length a0:Int)))=true then
  (if(bif (!r1) then true else((((a0)[Int.toNat 0]?.getD 0).toNat:Int) != 47))=true then some false
  else if(a0==[47])=true then some true
  else if decide (0<=(1:Int)/\(1:Int)<=(List.length a0:Int))=true then(pK n (List.drop (Int.toNat 1) a0)).bind fun xs=>some (!(xs.any pZ)) else none) else none
abbrev bx0(k:Nat)(b:Bool):Nat×Nat×List D:=(k,4,[.val (.bool b)])
theorem BK{jump:Option Code}{R:List BSt->Unit->Prop}(x:BSt)(r:List BSt)(hn:pZ x=false->R r ())(hj:pZ x=true->jump=some .ret){F1:Fz}{w1:Pt Tryd.prog} :
  Wp Tryd.prog 28 F1 w1 [(2,.own 1000000 0),(3,.str x)] [bx0 1000000 false] (cRB (cI (cB (cA (cB (cB (cB (cF Tryd.f52)))))))) (jO F1 w1 (R r) (fun _=>[bx0 1000000 false]) jump [bx0 1000000 false]):=by
 refine Wp.block ?_
 refine Wp.seq ?_
 refine Wp.region hΓ [] [] [] [2,27] [1000000] (K':=[(2,.own 1000000 0),(27,.val (.bool (pZ x)))]) (L':=[bx0 1000000 false]) (ob:=[]) (by kernel_rfl) ax.nil ?_
 refine To.aj ?_
 refine Wp.cond (b:=pZ x) (by kernel_rfl) (fun hb=>?_) (fun hb=>?_)
 ·refine Wp.seq ?_
  refine Wp.region hΓ [] [] [] [] [1000000] (K':=[]) (L':=[bx0 1000000 false]) (ob:=[]) (by kernel_rfl) ax.nil ?_
  refine To.aj ?_
  refine Wp.ret ?_
  refine To.bH ?_
  exact To.Ei [1000000] (hj hb) (by kernel_rfl)
 ·refine Wp.skip ?_
  refine To.bT ?_
  exact To.round () [1000000] (hn hb) (by kernel_rfl)
abbrev c52(s:BSt):CBd:=⟨[(1000000,2),(1000001,24),(1000002,23),(1000003,25)],[(1000000,2)],[],bx0 1000000 false::L72 s,.hole,[bx0 1000000 false]⟩
theorem vw(n:Nat)(a0:BSt)(r:Bool)(h:kS n a0=some r):bq Tryd.prog 52 [.str a0] (.val (.bool r)):=by
 unfold kS at h
 obtain⟨r1,hr1,h⟩:=aG h
 obtain⟨hc1,h⟩:=bg h
 refine vY (fn:=Tryd.f52) (by kernel_rfl) rfl (by kernel_rfl) (Nat.le_of_ble_eq_true (by kernel_rfl)) fun F0 w0 hsh=>?_
 refine Wp.keep (kk:=[0]) (kl:=[]) (K':=[(0,.str a0)]) (L':=[]) (by kernel_rfl) (by kernel_rfl) ?_
 refine Wp.seq ?_
 refine Wp.region hΓ [] [] [] [0,2] [2] (K':=[(0,.str a0),(2,.own 2 0)]) (L':=[bx0 2 false]) (ob:=[]) (by kernel_rfl) ax.nil ?_
 refine To.aj ?_
 refine Wp.seq ?_
 refine Wp.seq ?_
 refine Wp.region hΓ [] [(1,.val (.bool r1))] [] [0,2,11] [2] (K':=[(0,.str a0),(2,.own 2 0),(11,.val (.bool (bif (!r1) then true else((((a0)[Int.toNat 0]?.getD 0).toNat:Int) != 47))))]) (L':=[bx0 2 false])
  (ob:=[(true=true->CX Tryd.prog 53 [.str a0] (.val (.bool r1))),(!((!r1)==false)||decide (0<=(0:Int)/\(0:Int)<(List.length a0:Int)))=true]) (by kernel_rfl) (ax.cons (fun _=>cx (rG n a0 _ hr1)) (ax.cons hc1 ax.nil)) ?_
 refine To.aj ?_
 refine Wp.cond (b:=(bif (!r1) then true else((((a0)[Int.toNat 0]?.getD 0).toNat:Int) != 47))) (by kernel_rfl) (fun hb=>?_) (fun hb=>?_)
 ·replace h:=iZ hb h
  cases h
  refine Wp.seq ?_
  refine Wp.region hΓ [] [] [] [2] [2] (K':=[(2,.own 2 0)]) (L':=[bx0 2 false]) (ob:=[]) (by kernel_rfl) ax.nil ?_
  refine To.aj ?_
  refine Wp.ret ?_
  refine To.aX ?_
  exact To.yE hΓ (by kernel_rfl)
 ·replace h:=wO hb h
  refine Wp.skip ?_
  refine To.aj ?_
  refine Wp.seq ?_
  refine Wp.seq ?_
  refine Wp.region hΓ [] [] [] [0,2,13] [2] (K':=[(0,.str a0),(2,.own 2 0),(13,.val (.bool (a0==[47])))]) (L':=[bx0 2 false]) (ob:=[]) (by kernel_rfl) ax.nil ?_
  refine To.aj ?_
  refine Wp.cond (b:=(a0==[47])) (by kernel_rfl) (fun hb=>?_) (fun hb=>?_)
  ·replace h:=iZ hb h
   cases h
   refine Wp.seq ?_
   refine Wp.region hΓ [] [] [] [2] [2] (K':=[(2,.own 2 0)]) (L':=[bx0 2 true]) (ob:=[]) (by kernel_rfl) ax.nil ?_
   refine To.aj ?_
   refine Wp.ret ?_
   refine To.aX ?_
   exact To.yE hΓ (by kernel_rfl)
  ·replace h:=wO hb h
   obtain⟨hc2,h⟩:=bg h
   obtain⟨xs,hxs,h⟩:=aG h
   cases h
   refine Wp.skip ?_
   refine To.aj ?_
   refine Wp.seq ?_
   refine Wp.seq ?_
   obtain⟨s,hs⟩:∃s,List.drop (Int.toNat 1) a0=s:=⟨_,rfl⟩
   refine Wp.region hΓ [] [] [(2,⟨[],[(14,24),(13,23),(15,25)],[.str (List.drop (Int.toNat 1) a0),.str [47]],[],.fn 72 [.own 14 0,.own 13 0,.own 15 0],sqB 14 13 15 (List.drop (Int.toNat 1) a0)⟩)] [2,16] [2,24,23,25] (K':=[(2,.own 2 0),(16,.fn 72 [.own 24 0,.own 23 0,.own 25 0])]) (L':=bx0 2 false::sqB 24 23 25 (List.drop (Int.toNat 1) a0))
    (ob:=[decide (0<=(1:Int)/\(1:Int)<=(List.length a0:Int))=true,qb (cY Tryd.prog) 61 [.str (List.drop (Int.toNat 1) a0),.str [47]] [] ⟨[],[(14,24),(13,23),(15,25)],[.str (List.drop (Int.toNat 1) a0),.str [47]],[],.fn 72 [.own 14 0,.own 13 0,.own 15 0],sqB 14 13 15 (List.drop (Int.toNat 1) a0)⟩]) (by kernel_rfl) (ax.cons hc2 (ax.cons ⟨zD _,by kernel_rfl,by kernel_rfl⟩ ax.nil)) ?_
   rw[hs] at hxs
   rw[hs]
   refine To.aj ?_
   refine Wp.block ?_
   have hseq:=BH n s xs hxs
   have hLg:∀k t ds,aJ (L72 s) k t ds->aJ (c52 s).Lin k t ds:=fun k t ds hm=>List.mem_cons_of_mem _ hm
   have hS0:∀k t ds,aJ [bx0 1000000 false] k t ds->aJ (c52 s).Lin k t ds/\∀t' ds',¬aJ (L72 s) k t' ds':=fun k t ds hm=>by
    have e:=List.mem_singleton.1 hm
    cases e
    refine⟨List.mem_cons_self,fun t' ds' h'=>?_⟩
    simp[aJ] at h'
   cases hbad:xs.any pZ with
   |false =>
    refine Wp.y7 (gf:=72) (lds:=[.own 24 0,.own 23 0,.own 25 0]) (ldsI:=[.own 1000001 0,.own 1000002 0,.own 1000003 0]) (σ:=Unit) (encs:=rm) (xs:=xs) (c52 s) (L72 s) (fun r _=>r.any pZ=false) (fun _=>[bx0 1000000 false]) none [2] [2] [(2,.own 1000000 0)] [(2,.own 2 0)] [bx0 2 false] () (fun x _=>[(2,.own 1000000 0),(3,.str x)]) (fun _ _=>[bx0 1000000 false])
     rfl (by kernel_rfl) (by kernel_rfl) hseq hLg (by kernel_rfl) (by kernel_rfl) (by kernel_rfl) (fun _=>by kernel_rfl) (by kernel_rfl) (by kernel_rfl) (by kernel_rfl) hbad hS0 (fun x=>rfl) (by decide) (by decide) (fun x=>by kernel_rfl) (by kernel_rfl) (by kernel_rfl) (fun x s=>by kernel_rfl) (fun _ _=>⟨rfl,rfl⟩) (by kernel_rfl) (by kernel_rfl) (fun x r s h F1 w1=>?_) (fun x r s h F1 w1=>?_) (fun F1 w1 hA=>?_)
    ·refine Wp.region hΓ [] [] [] [2,3] [1000000] (K':=[(2,.own 1000000 0),(3,.str x)]) (L':=[bx0 1000000 false]) (ob:=[]) (by kernel_rfl) ax.nil ?_
     exact fun a w h=>⟨rfl,h⟩
    ·rw[List.any_cons,Bool.or_eq_false_iff] at h
     exact BK (jump:=none) (R:=fun r _=>r.any pZ=false) x r (fun _=>h.2) (fun hb=>by have:=h.1;rw[hb] at this;cases this)
    ·refine To.bT ?_
     refine To.aj ?_
     refine Wp.seq ?_
     refine Wp.region hΓ [] [] [] [2] [2] (K':=[(2,.own 2 0)]) (L':=[bx0 2 true]) (ob:=[]) (by kernel_rfl) ax.nil ?_
     refine To.aj ?_
     refine Wp.ret ?_
     exact To.Be hΓ hA (by kernel_rfl) (by kernel_rfl)
   |true =>
    refine Wp.y7 (gf:=72) (lds:=[.own 24 0,.own 23 0,.own 25 0]) (ldsI:=[.own 1000001 0,.own 1000002 0,.own 1000003 0]) (σ:=Unit) (encs:=rm) (xs:=xs) (c52 s) (L72 s) (fun r _=>r.any pZ=true) (fun _=>[bx0 1000000 false]) (some .ret) [2] [2] [(2,.own 1000000 0)] [(2,.own 2 0)] [bx0 2 false] () (fun x _=>[(2,.own 1000000 0),(3,.str x)]) (fun _ _=>[bx0 1000000 false])
     rfl (by kernel_rfl) (by kernel_rfl) hseq hLg (by kernel_rfl) (by kernel_rfl) (by kernel_rfl) (fun _=>by kernel_rfl) (by kernel_rfl) (by kernel_rfl) (by kernel_rfl) hbad hS0 (fun x=>rfl) (by decide) (by decide) (fun x=>by kernel_rfl) (by kernel_rfl) (by kernel_rfl) (fun x s=>by kernel_rfl) (fun _ h=>by cases h) (by kernel_rfl) (by kernel_rfl) (fun x r s h F1 w1=>?_) (fun x r s h F1 w1=>?_) (fun F1 w1 hA=>?_)
    ·refine Wp.region hΓ [] [] [] [2,3] [1000000] (K':=[(2,.own 1000000 0),(3,.str x)]) (L':=[bx0 1000000 false]) (ob:=[]) (by kernel_rfl) ax.nil ?_
     exact fun a w h=>⟨rfl,h⟩
    ·rw[List.any_cons] at h
     exact BK (jump:=some .ret) (R:=fun r _=>r.any pZ=true) x r (fun hb=>by rw[hb,Bool.false_or] at h;exact h) (fun _=>rfl)
    ·refine Wp.ret ?_
     refine To.bH ?_
     refine To.aX ?_
     exact To.Be hΓ hA (by kernel_rfl) (by kernel_rfl)
end Go.Proofs.YtpmmhhmhckpnfaaDoor.M
