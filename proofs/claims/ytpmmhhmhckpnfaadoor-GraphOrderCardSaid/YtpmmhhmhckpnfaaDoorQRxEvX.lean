import Derived.Test.YtpmmhhmhckpnfaaDoorQRxEv
import Derived.Orders
import Derived.Laws.CopyOwn
set_option linter.all false
namespace Go.Proofs.YtpmmhhmhckpnfaaDoor.RX
open Go.RowKit Go.MapKept
section
variable {F:Fz} {w:World} {kk:Option IntKind} {ag:Bool} {α:Type} {enc:α->List D}
theorem dc.del{x:MK}(hx:x.ok kk):∀{l:List (MK×α)}{es:List MapEntry},dc F w kk ag enc l es ->
  ((∀e∈es,e.key≠x.val kk)/\dc F w kk ag enc (qW l x) es) \/
  (∃j e,es[j]? = some e/\e.key=x.val kk/\dc F w kk ag enc (qW l x) (es.eraseIdx j))
 |_,_,.nil=>.inl ⟨fun e he=>by simp at he,.nil⟩
 |_,_,.cons y v l e es hk hy hv hr=>by
  by_cases hxy:y=x
  ·subst hxy
   exact .inr ⟨0,e,rfl,hk,by simpa[qW] using hr⟩
  ·have hne:e.key≠x.val kk:=fun h=>hxy (MK.inj hy hx (hk.symm.trans h))
   rcases dc.del hx hr with⟨h1,h2⟩|⟨j,e0,h1,h2,h3⟩
   ·refine .inl ⟨fun e' he=>?_,?_⟩
    ·rcases List.mem_cons.1 he with rfl|he
     ·exact hne
     ·exact h1 e' he
    ·simp only[qW,hxy,if_false]
     exact .cons _ _ _ _ _ hk hy hv h2
   ·refine .inr ⟨j+1,e0,by simpa using h1,h2,?_⟩
    simp only[qW,hxy,if_false,List.eraseIdx_cons_succ]
    exact .cons _ _ _ _ _ hk hy hv h3
end
section
variable {P:Program} {F0:Fz} {w0:Pt P} {B:Env} {F:Fz} {M:Mem} {w:World} {a:Act} {get:Operand->Option D} {Γ:Nat->Option TI} {L:ay}
theorem Gn(hΓ:ΓOK P Γ){op:BinOp}{t yt:Nat}{ti:TI}(ht:Γ t=some ti)(hk:ti.kind=.ptr){x y:Operand}{dx dy:D}{r:Bool}(hx:Rep F w B dx (a.eval x))(hy:Rep F w B dy (a.eval y))(he:BG op dx dy=some r)
  {o:Oper} (ho:o.op=.binOp op t x y yt):aY P F w B M a o (.val (.val (.bool r))):=by
 obtain⟨i,de,z,hi,hde,hz,hz1,hz2,hz3,hsz,hag,hkd⟩:=aW (hΓ _ _ ht).1
 obtain⟨e,rfl⟩:=Ea (by rw[hkd];exact hk)
 generalize hv:a.eval x=vx at hx
 generalize hu:a.eval y=vy at hy
 have key:∀(p q:Option Addr)(b:Bool),vx=.pointer p->vy=.pointer q->(∀w,(Op.equal t (.pointer p) (.pointer q)).run P w=.ok b w)->(op=.eql/\r=b)\/(op=.neq/\r=!b)->(execOp a.eval o).run P w=.ok (.value (.bool r)) w:=by
  rintro p q b rfl rfl heq hop
  unfold execOp
  rcases hop with⟨rfl,rfl⟩|⟨rfl,rfl⟩
  all_goals
   simp only[ho,hv,hu,Sem.run_bind,eqGuard,Result.andThen_ok,Go.binOp,heq,Sem.run_pure]
   rfl
 have heq1:∀(p:Addr) w,(Op.equal t (.pointer (some p)) (.pointer none)).run P w=.ok false w:=fun p w=>by
  rw[Op.equal,show Op.maxDepth=9999+1 from rfl,Op.equalIn]
  simp[run_underlying hde]
 have heq2:∀w,(Op.equal t (.pointer none) (.pointer none)).run P w=.ok true w:=fun w=>by
  rw[Op.equal,show Op.maxDepth=9999+1 from rfl,Op.equalIn]
  simp[run_underlying hde]
 unfold BG at he
 split at he<;>first|(cases he;done)|skip
 all_goals
  cases he
  cases hx;cases hy
 ·exact⟨_,key _ _ _ rfl rfl (heq1 _) (.inl ⟨rfl,rfl⟩),.val _ rfl⟩
 ·exact⟨_,key _ _ _ rfl rfl (heq1 _) (.inr ⟨rfl,rfl⟩),.val _ rfl⟩
 ·exact⟨_,key _ _ _ rfl rfl heq2 (.inl ⟨rfl,rfl⟩),.val _ rfl⟩
 ·exact⟨_,key _ _ _ rfl rfl heq2 (.inr ⟨rfl,rfl⟩),.val _ rfl⟩
theorem BQ{c:Call}{x y:D}(hg:eE F w B a get)(ha:getAll get c.args.toList=some [x,y]):∃u v,c.args.map a.eval=#[u,v]/\Rep F w B x u/\Rep F w B y v:=by
 have h:=hg.all _ _ ha
 have hm:c.args.map a.eval=(c.args.toList.map a.eval).toArray:=by apply Array.ext';simp
 generalize hvs:c.args.toList.map a.eval=vs at h hm
 cases h with
 |cons _ u _ vs' hd hs =>
  cases hs with
  |cons _ v _ vs' hd2 hs =>
   cases hs
   exact⟨u,v,hm,hd,hd2⟩
theorem Di(hΓ:ΓOK P Γ)(hb:Base F0 w0 B F M w){c:Call}{t t2:Nat}{ti:TI}(ht:Γ t=some ti){kk:Option IntKind}{es:Nat}{ag:Bool}(hk:ti.kind=.map kk es ag)(hat:c.argTypes.toList=[t,t2]){k:Nat}{dy:D}{key:MK}
  (hc:c.callee=.builtin .delete) (hg:eE F w B a get) (ha:getAll get c.args.toList=some [.mp k,dy]) (hkey:nI kk dy=some key) {o:Oper} (ho:o.op=.call c):aY P F w B M a o (.mdl k kk ag key):=by
 intro tt α d enc l hl
 obtain⟨_,de,_,_,hde,_,_,_,_,_,_,hkd⟩:=aW (hΓ _ _ ht).1
 obtain⟨kt,et,rfl,hkk,hsz⟩:=pz (by rw[hkd];exact hk)
 have hkd':=mW hkk
 obtain⟨u,v,hm,hu,hv⟩:=BQ hg ha
 obtain⟨rfl,hkok⟩:=pT hkey hv
 obtain⟨b,hB,_,_,_,ents,clock,hh,hst,hes⟩:=hb.map' hl
 have hxu:u=.map (some b):=by
  cases hu with
  |mp _ b' hB'=>rw[hB] at hB';cases hB';rfl
 subst hxu
 have hat':c.argTypes=#[t,t2]:=by apply Array.ext';simpa using hat
 have hfr:=qR (P:=P) hkd' hkok hes.keys hst.2.2 w
 have hck:∀em,(Instr.checkKey em 10000 kt (key.val kk)).run P w=.ok () w:=fun em=>MapKept.run_checkKey hkd' (MK.isKey hkok) em 9999
 refine⟨b,?_⟩
 rcases hes.del hkok with⟨h1,h2⟩|⟨j,e,h1,h2,h3⟩
 ·refine⟨{ w with heap:=w.heap.setIfInBounds b (.map ents clock) },hB,?_,⟨rfl,rfl,rfl,by simp,fun i hi=>(heap_set hh).2 i hi⟩,_,_,(heap_set hh).1,hst,h2⟩
  unfold execOp
  simp only[ho,resolve,hc,hm,hat',Sem.run_bind,Sem.run_pure,Result.andThen_ok,invoke,builtin,Builtin.delete_]
  simp[run_underlying hde,MapKept.run_getObj_map hh,hck,hfr.1 h1,MapKept.run_setObj_map _ hh]
 ·have hj:j<ents.size:=by
   have:=(List.getElem?_eq_some_iff.1 h1).1
   simpa using this
  refine⟨{ w with heap:=w.heap.setIfInBounds b (.map (ents.eraseIdxIfInBounds j) clock) },hB,?_,⟨rfl,rfl,rfl,by simp,fun i hi=>(heap_set hh).2 i hi⟩,_,_,(heap_set hh).1,stamped_erase hst j,?_⟩
  ·unfold execOp
   simp only[ho,resolve,hc,hm,hat',Sem.run_bind,Sem.run_pure,Result.andThen_ok,invoke,builtin,Builtin.delete_]
   simp[run_underlying hde,MapKept.run_getObj_map hh,hck,hfr.2 j e h1 h2,MapKept.run_setObj_map _ hh]
  ·have:(ents.eraseIdxIfInBounds j).toList=ents.toList.eraseIdx j:=by
    unfold Array.eraseIdxIfInBounds
    rw[dif_pos hj,Array.toList_eraseIdx]
   rw[this]
   exact h3
theorem xR{α:Type}{enc:α->List D}{z:Nat}(hz:∀x,(enc x).length=z):∀(m:Nat)(l:List α),(l.flatMap enc).take (m*z)=(l.take m).flatMap enc
 |0,l=>by simp
 |m+1,[]=>by simp
 |m+1,x::l=>by
  rw[List.flatMap_cons,List.take_succ_cons,List.flatMap_cons,Nat.add_mul,Nat.one_mul,Nat.add_comm,List.take_append,hz,List.take_of_length_le (by rw[hz];omega),Nat.add_sub_cancel_left,xR hz m l]
theorem yd{α:Type}{enc:α->List D}{z:Nat}(hz:∀x,(enc x).length=z):∀(m:Nat)(l:List α),(l.flatMap enc).drop (m*z)=(l.drop m).flatMap enc
 |0,l=>by simp
 |m+1,[]=>by simp
 |m+1,x::l=>by
  rw[List.flatMap_cons,List.drop_succ_cons,Nat.add_mul,Nat.one_mul,Nat.add_comm,List.drop_append,hz,List.drop_of_length_le (by rw[hz];omega),List.nil_append,Nat.add_sub_cancel_left,yd hz m l]
theorem E6(hΓ:ΓOK P Γ)(hb:Base F0 w0 B F M w)(hL:RowsIn M L){c:Call}{t t2:Nat}{ti:TI}(ht:Γ t=some ti){es:Nat}{ea:Bool}(hk:ti.kind=.slice es ea)(hat:c.argTypes.toList=[t,t2]){k:Nat}{x:D}{cs:List D}{n:Nat}
  (hc:c.callee=.builtin .copy) (hg:eE F w B a get) (ha:getAll get c.args.toList=some [.row k,x]) (hx:jh es L x=some (cs,n)) (hns:∀l,x≠.str l) {o:Oper} (ho:o.op=.call c):aY P F w B M a o (.cpy k es cs n):=by
 intro tt α d enc l xs hl hz hw hxn
 obtain⟨_,de,_,_,hde,_,_,_,_,_,_,hkd⟩:=aW (hΓ _ _ ht).1
 obtain⟨et,rfl,hsz⟩:=fC (by rw[hkd];exact hk)
 obtain⟨hsz1,_⟩:=dI hsz
 obtain⟨u,v,hm,hu,hv⟩:=BQ hg ha
 have hat':c.argTypes=#[t,t2]:=by apply Array.ext';simpa using hat
 obtain⟨p,nn,cap,hB,hrow⟩:=hb.jq hl
 obtain⟨hn0,hpos,hge,ys,hys,hown,hfz⟩:=hrow
 have hpos':0<es:=by omega
 obtain⟨news,hnews,hnl,hlen,hfull,hq⟩:=oG hb hL hpos' hx hv
 obtain⟨q,qcap,rfl,hcell⟩:∃q cap,v=.slice q n cap/\∀b,q=some b->∀j u,news[j]? = some u->w.cell? (b.add j)=some u:=by
  rcases hq with h|⟨l,h⟩
  ·exact h
  ·exact absurd h (hns l)
 have hlr:=hlen w
 generalize hmm:Nat.min n nn=m
 have hmn:m<=n:=by rw[<-hmm];exact Nat.min_le_left _ _
 have hmn2:m<=nn:=by rw[<-hmm];exact Nat.min_le_right _ _
 have hread:(Builtin.firstCells es m (.slice q n qcap)).run P w=.ok (news.take (m*es)).toArray w:=by
  cases q with
  |none =>
   have h0:n=0:=by
    have h1:=hfull w (fun _=>rfl)
    simp only[Builtin.firstCells,Sem.run_pure,Result.ok.injEq,and_true] at h1
    have h2:news.length=0:=by
     have:=congrArg Array.size h1
     simpa using this.symm
    rw[hnl] at h2
    rcases Nat.mul_eq_zero.1 h2 with h|h
    ·exact h
    ·omega
   subst h0
   have:m=0:=by omega
   subst this
   simp[Builtin.firstCells]
  |some b =>
   refine run_firstCells_some w es m b n qcap _ (by rw[List.length_take,hnl,Nat.min_eq_left (Nat.mul_le_mul_right _ hmn)]) fun j u hj=>hcell b rfl j u ?_
   rw[List.getElem?_take] at hj
   split at hj
   ·exact hj
   ·cases hj
 have hml:Nat.min n l.length=m:=by rw[<-hn0];exact hmm
 have hus:aA F w NB ((xs.take l.length).flatMap enc) (news.take (m*es)):=by
  have h1:=(hw.rep hnews).take (m*es)
  rw[xR (fun y=>(hge y).1.trans hz)] at h1
  have:xs.take m=xs.take l.length:=by
   rcases Nat.le_total n l.length with h|h
   ·have:m=n:=by rw[<-hml];exact Nat.min_eq_left h
    rw[this,List.take_of_length_le (by omega),List.take_of_length_le (by omega)]
   ·have:m=l.length:=by rw[<-hml];exact Nat.min_eq_right h
    rw[this]
  rwa[this] at h1
 have hone:∀y∈news.take (m*es),y.oneCell'=true:=by
  refine aA.mh hus ?_
  rw[List.all_flatMap,List.all_eq_true]
  intro y _
  exact(hge y).2
 rw[hml]
 have hrun:∀(base:Option Addr)(cp:Nat)(w':World),u=.slice base nn cp->(∀a',base=some a'->(storeCells a' (news.take (m*es)) 0).run P w=.ok () w')->(base=none->w'=w)->(execOp a.eval o).run P w=.ok (.value (.int .i64 (m:Nat))) w':=by
  rintro base cp w' rfl h1 h2
  unfold execOp
  simp only[ho,resolve,hc,hm,hat',Sem.run_bind,Sem.run_pure,Result.andThen_ok,invoke,builtin,Builtin.copy_]
  cases base with
  |none =>
   rw[h2 rfl]
   simp[run_underlying hde,hlr,hsz1,hmm,hread,goInt]
  |some a' =>
   simp[run_underlying hde,hlr,hsz1,hmm,hread,h1 a' rfl,goInt]
 rcases hown.2 with⟨hp,hnn,hcp⟩|⟨g,cur,fz,hp,hh,hfr,hnc,hcm,hcs,htk⟩
 ·subst hp
  refine⟨none,nn,cap,w,hB,?_,.inl ⟨rfl,rfl⟩⟩
  have hm0:m=0:=by omega
  cases hu with
  |row _ p' n' cap' hB' =>
   rw[hB] at hB';cases hB'
   exact hrun none _ w rfl (fun _ h=>by cases h) fun _=>rfl
  |dC _ q' hB' =>
   rw[hB] at hB'
   simp only[Option.some.injEq,Ref.row.injEq] at hB'
   obtain⟨_,rfl,rfl⟩:=hB'
   refine hrun q' 0 w rfl (fun a' _=>?_) fun _=>rfl
   rw[hm0,Nat.zero_mul,List.take_zero]
   rfl
 ·subst hp
  refine⟨some g,nn,cap,_,hB,?_,.inr ⟨g,cur,fz,_,rfl,hh,hus,rfl⟩⟩
  cases hu with
  |row _ p' n' cap' hB' =>
   rw[hB] at hB';cases hB'
   refine hrun _ _ _ rfl (fun a' h=>?_) fun h=>by cases h
   cases h
   have hle:m*es<=cur.size:=by
    rw[hcs,hz];exact Nat.mul_le_mul_right _ (by omega)
   have hst:=iO (P:=P) g 0 tt fz (news.take (m*es)) 0 cur w hh hfr (by rw[List.length_take];omega) hone
   rw[hst]
   simp[bW]
  |dC _ q' hB'=>rw[hB] at hB';cases hB'
theorem C9(hΓ:ΓOK P Γ)(hb:Base F0 w0 B F M w)(hR:RowsIn M L)(hg:eE F w B a get){o:Oper}{out:Out}(he:evX Γ L get o.op=some out):aY P F w B M a o out:=by
 generalize ho:o.op=op at he
 unfold evX at he
 split at he
 ·split at he
  ·rename_i ti dx dy ht hx hy
   split at he
   ·rename_i hk
    obtain⟨b,h1,rfl⟩:=Option.map_eq_some_iff.1 he
    exact Gn hΓ ht hk (hg _ _ hx) (hg _ _ hy) h1 ho
   ·cases he
  ·cases he
 ·split at he
  ·rename_i hc ha hat
   split at he
   ·rename_i ti ht
    split at he
    ·rename_i hk
     obtain⟨key,h1,rfl⟩:=Option.map_eq_some_iff.1 he
     exact Di hΓ hb ht hk hat hc hg ha h1 ho
    ·cases he
   ·cases he
  ·rename_i k x t t2 hc ha hat
   split at he
   ·rename_i ti ht
    split at he
    ·rename_i es ea hk
     split at he
     ·cases he
     ·split at he
      ·cases he
      ·rename_i hns
       obtain⟨⟨cs,n⟩,h1,rfl⟩:=Option.map_eq_some_iff.1 he
       exact E6 hΓ hb hR ht hk hat hc hg ha h1 hns ho
    ·cases he
   ·cases he
  ·cases he
 ·cases he
end
end Go.Proofs.YtpmmhhmhckpnfaaDoor.RX
namespace Go.Proofs.YtpmmhhmhckpnfaaDoor.RX
open Go.RowKit
section
variable {P:Program} {F0:Fz} {w0:Pt P} {B:Env} {F:Fz} {M:Mem} {L:ay} {w:World} {a:Act} {get:Operand->Option D} {Γ:Nat->Option TI}
theorem A7{l:Bs}{lo hi:Option D}{r:D×List Bool}(h:qP l lo hi=some r)(hc:∀c∈r.2,c=true):nJ l.length lo hi/\r.1=.str ((l.drop (eX lo)).take (dh l.length hi-eX lo)):=by
 unfold qP at h
 split at h<;>first|(cases h;done)|skip
 ·cases h
  refine⟨⟨trivial,trivial⟩,?_⟩
  simp[eX,dh]
 ·rename_i k n
  cases h
  have h1:=of_decide_eq_true (hc _ (List.mem_singleton.2 rfl))
  refine⟨⟨trivial,by simpa[dh] using h1⟩,?_⟩
  simp only[eX,dh]
  congr 1
  rw[List.take_of_length_le (by simp)]
 ·rename_i k n
  cases h
  have h1:=of_decide_eq_true (hc _ (List.mem_singleton.2 rfl))
  refine⟨⟨h1,trivial⟩,?_⟩
  simp[eX,dh]
 ·rename_i k n k' n'
  cases h
  have h1:=of_decide_eq_true (hc _ (by simp:decide (0<=n'/\n'<=(l.length:Int))∈_))
  have h2:=of_decide_eq_true (hc _ (by simp:decide (0<=n/\n<=n')∈_))
  refine⟨⟨h1,?_⟩,?_⟩
  ·simp only[dh];omega
  ·simp[eX,dh]
theorem pY{α:Type}{d:α}{enc:α->List D}{l:List α}{lo hi:Option D}{r:D×List Bool}(h:jN d enc l lo hi=some r)(hc:∀c∈r.2,c=true):nJ l.length lo hi/\r.1=.recs d enc ((l.drop (eX lo)).take (dh l.length hi-eX lo)):=by
 unfold jN at h
 split at h<;>first|(cases h;done)|skip
 ·cases h
  refine⟨⟨trivial,trivial⟩,?_⟩
  simp[eX,dh]
 ·rename_i k n
  cases h
  have h1:=of_decide_eq_true (hc _ (List.mem_singleton.2 rfl))
  refine⟨⟨trivial,by simpa[dh] using h1⟩,?_⟩
  simp only[eX,dh]
  congr 1
  rw[List.take_of_length_le (by simp)]
 ·rename_i k n
  cases h
  have h1:=of_decide_eq_true (hc _ (List.mem_singleton.2 rfl))
  refine⟨⟨h1,trivial⟩,?_⟩
  simp[eX,dh]
 ·rename_i k n k' n'
  cases h
  have h1:=of_decide_eq_true (hc _ (by simp:decide (0<=n'/\n'<=(l.length:Int))∈_))
  have h2:=of_decide_eq_true (hc _ (by simp:decide (0<=n/\n<=n')∈_))
  refine⟨⟨h1,?_⟩,?_⟩
  ·simp only[dh];omega
  ·simp[eX,dh]
def Reads(get:Operand->Option D)(op:Op)(k:Nat):Prop:=∃t x off,(op=.load t x\/∃y,op=.store t x y)/\get x=some (.own k off)
theorem zp(hΓ:ΓOK P Γ)(hb:Base F0 w0 B F M w)(hR:RowsIn M L)(hg:eE F w B a get){o:Oper}{out:Out}{cs:List Bool}(hL:∀k t ds,Reads get o.op k->L.lookup k=some (t,ds)->M k t ds)(he:jw Γ L get o.dst o.op=some (out,cs))(hc:∀c∈cs,c=true):aY P F w B M a o out:=by
 generalize ho:o.op=op at he
 unfold jw at he
 split at he
 ·
  rename_i x
  cases hx:get x with
  |none=>rw[hx] at he;cases he
  |some d=>rw[hx] at he;cases he;exact Ae (hg _ _ hx) (.inl ho)
 ·rename_i x
  cases hx:get x with
  |none=>rw[hx] at he;cases he
  |some d=>rw[hx] at he;cases he;exact Ae (hg _ _ hx) (.inr ho)
 ·
  rename_i t
  cases ht:Γ t with
  |none=>rw[ht] at he;cases he
  |some ti=>rw[ht] at he;cases he;exact Dy hΓ ht ho
 ·
  rename_i t x
  split at he
  ·rename_i ti α d enc l ht hx
   split at he
   ·cases he;exact B6 (hg _ _ hx) ho
   ·cases he
  ·rename_i ti d _ ht hx
   split at he
   ·cases he;exact FP (hg _ _ hx) ho
   ·cases he
  ·cases he
 ·
  rename_i t parts
  split at he
  ·rename_i ti ps ht hp
   split at he
   ·rename_i fs hk
    cases hf:gZ (fun i=>(fs[i]?).map fun f=>(f.1,f.2.1)) (ti.zero.map ofValue) ps with
    |none=>rw[hf] at he;cases he
    |some r=>rw[hf] at he;cases he;exact yD hΓ ht hg hp ho (by rw[hk];exact hf)
   ·rename_i n es ea hk
    cases hf:gZ (fun i=>some (i*es,es)) (ti.zero.map ofValue) ps with
    |none=>rw[hf] at he;cases he
    |some r=>rw[hf] at he;cases he;exact yD hΓ ht hg hp ho (by rw[hk];exact hf)
   ·cases he
  ·cases he
 ·
  rename_i t x
  split at he
  ·rename_i ti k off ht hx
   split at he
   ·rename_i ty ds hl
    cases hp:partOf ti.agg ti.size off ds with
    |none=>rw[hp] at he;cases he
    |some d=>rw[hp] at he;cases he;exact Fg hΓ hb ht (hg _ _ hx) (hL _ _ _ ⟨t,x,off,.inl ho,hx⟩ hl) hp ho
   ·cases he
  ·rename_i ti ds ht hx
   cases hp:partOf ti.agg ti.size 0 ds with
   |none=>rw[hp] at he;cases he
   |some d=>rw[hp] at he;cases he;exact BZ hΓ ht (hg _ _ hx) hp ho
  ·rename_i ti k n z off ht hx
   split at he
   ·rename_i mm es ea tt m α dz enc l hk hl
    split at he
    ·rename_i h
     cases he;exact Bv hΓ hb hR ht hl (hg _ _ hx) h (of_decide_eq_true (hc _ (List.mem_singleton.2 rfl))) ho
    ·cases he
   ·rename_i tt m α dz enc l hl _
    split at he
    ·rename_i hz
     cases hp:partOf ti.agg ti.size off (enc (l[n.toNat]?.getD dz)) with
     |none=>rw[hp] at he;cases he
     |some d=>rw[hp] at he;cases he;exact Bh hΓ hb hR ht hl (hg _ _ hx) hz hp (of_decide_eq_true (hc _ (List.mem_singleton.2 rfl))) ho
    ·cases he
   ·cases he
  ·cases he
 ·
  rename_i t x y
  split at he
  ·rename_i ti k n z off d ht hx hy
   split at he
   ·split at he
    ·rename_i h
     cases he;exact E7 hΓ hb ht (hg _ _ hx) (hg _ _ hy) h ho
    ·cases he
   ·rename_i tt α dz enc l _ hl
    split at he
    ·rename_i h
     cases he;exact zU hΓ hb hR ht (hg _ _ hx) (hg _ _ hy) h.1 h.2 ho
    ·cases he
   ·cases he
  ·rename_i ti k off α d enc l ht hx hy
   split at he
   ·rename_i m es ea ty ds hk hl
    split at he
    ·rename_i h
     cases he;exact FH hΓ hb ht (hg _ _ hx) (hg _ _ hy) (hL _ _ _ ⟨t,x,off,.inr ⟨y,ho⟩,hx⟩ hl) h ho
    ·cases he
   ·cases he
  ·rename_i ti k off d _ ht hx hy
   split at he
   ·rename_i ty ds hl
    split at he
    ·rename_i h
     cases he;exact Ef hΓ hb ht (hg _ _ hx) (hg _ _ hy) (hL _ _ _ ⟨t,x,off,.inr ⟨y,ho⟩,hx⟩ hl) h.1 h.2 ho
    ·cases he
   ·cases he
  ·cases he
 ·
  rename_i x
  split at he
  ·rename_i hx;cases he;exact nZ (hg _ _ hx) (.inl ⟨_,_,rfl⟩) ho
  ·rename_i hx;cases he;exact nZ (hg _ _ hx) (.inr (.inl ⟨_,rfl⟩)) ho
  ·rename_i hx;cases he;exact nZ (hg _ _ hx) (.inr (.inr (.inl ⟨_,_,rfl⟩))) ho
  ·rename_i hx;cases he;exact nZ (hg _ _ hx) (.inr (.inr (.inr ⟨_,_,_,_,rfl⟩))) ho
  ·cases he;exact absurd (hc false (by simp)) (by decide)
  ·cases he
 ·
  rename_i bop t x y yt
  split at he
  ·rename_i p q hx hy
   split at he
   ·rename_i ti ht
    split at he
    ·cases he
    ·rename_i hq
     obtain⟨r,hcc,he⟩:=Option.map_eq_some_iff.1 he
     cases he;exact xO hΓ ht hq (hg _ _ hx) (hg _ _ hy) hcc (.inl ⟨rfl,rfl⟩) ho
   ·rename_i ti ht
    split at he
    ·cases he
    ·rename_i hq
     obtain⟨r,hcc,he⟩:=Option.map_eq_some_iff.1 he
     cases he;exact xO hΓ ht hq (hg _ _ hx) (hg _ _ hy) hcc (.inr ⟨rfl,rfl⟩) ho
   ·cases he
  ·rename_i hx hy
   split at he
   ·rename_i ti ht
    split at he
    ·cases he
    ·rename_i hq
     cases he;exact zl hΓ ht hq (hg _ _ hx) (hg _ _ hy) (.inl ⟨rfl,rfl⟩) ho
   ·rename_i ti ht
    split at he
    ·cases he
    ·rename_i hq
     cases he;exact zl hΓ ht hq (hg _ _ hx) (hg _ _ hy) (.inr ⟨rfl,rfl⟩) ho
   ·cases he
  ·rename_i p q hx hy
   split at he
   ·rename_i ti ht
    split at he
    ·rename_i hk;cases he;exact vK hΓ ht hk (hg _ _ hx) (hg _ _ hy) (.inl ⟨rfl,rfl⟩) ho
    ·rename_i hk;cases he;exact vK hΓ ht hk (hg _ _ hx) (hg _ _ hy) (.inr ⟨rfl,rfl⟩) ho
    ·cases he
   ·cases he
  ·rename_i dx dy _ _ _ hx hy
   cases hr:oC bop dx dy with
   |none=>rw[hr] at he;cases he
   |some r=>rw[hr] at he;cases he;exact F7 (hg _ _ hx) (hg _ _ hy) hr hc ho
  ·cases he
 ·
  rename_i uop t x
  split at he
  ·rename_i dx hx
   cases hr:unD uop dx with
   |none=>rw[hr] at he;cases he
   |some r=>rw[hr] at he;cases he;exact GH (hg _ _ hx) hr ho
  ·cases he
 ·
  rename_i s t x
  split at he
  ·rename_i si ti k n hs ht hx
   split at he
   ·rename_i k' k'' hk hk'
    cases he;exact Bi hΓ hs ht (hg _ _ hx) hk hk' ho
   ·cases he
  ·rename_i si ti l hs ht hx
   split at he
   ·rename_i hk hk'
    cases he;exact As hΓ hs ht (hg _ _ hx) hk hk' ho
   ·rename_i ea hk hk'
    split at he
    ·rename_i h
     cases he;exact Ao hΓ hs ht (hg _ _ hx) hk hk' h.1 h.2 (of_decide_eq_true (hc _ (List.mem_singleton.2 rfl))) ho _
    ·cases he
   ·cases he
  ·rename_i si ti hs ht hx
   split at he
   ·rename_i es ea hk hk'
    split at he
    ·rename_i h
     cases he;exact CY hΓ hs ht (hg _ _ hx) hk hk' h ho
    ·cases he
   ·cases he
  ·rename_i si ti d _ _ _ hs ht hx
   split at he
   ·rename_i ea hk hk'
    split at he
    ·rename_i h
     cases hcc:jh 1 L d with
     |none=>rw[hcc] at he;cases he
     |some c =>
      rw[hcc] at he
      obtain⟨cs',n⟩:=c
      cases he;exact Ec hΓ hb hR hs ht (hg _ _ hx) hk hk' h hcc ho
    ·cases he
   ·cases he
  ·cases he
 ·
  rename_i t len parts
  split at he
  ·rename_i ti ps ht hp
   split at he
   ·rename_i es ea hk
    split at he
    ·rename_i cs' hf
     split at he
     ·rename_i h
      cases he;exact yj hΓ hb hR ht hk hg hp hf h.1 h.2.1 h.2.2.1 h.2.2.2 ho _
     ·cases he
    ·cases he
   ·cases he
  ·cases he
 ·
  rename_i t x y
  split at he
  ·rename_i ti k n k' c ht hx hy
   split at he
   ·rename_i es ea hk
    split at he
    ·rename_i h
     cases he
     exact Fj hΓ ht hk (hg _ _ hx) (hg _ _ hy) h.1 h.2 (of_decide_eq_true (hc _ List.mem_cons_self)) (of_decide_eq_true (hc _ (List.mem_cons_of_mem _ (List.mem_singleton.2 rfl)))) ho _
    ·cases he
   ·cases he
  ·cases he
 ·
  rename_i t x lo hi
  split at he
  ·rename_i ti l dlo dhi ht hx hlo hhi
   split at he
   ·rename_i hk
    cases hr:qP l dlo dhi with
    |none=>rw[hr] at he;cases he
    |some r =>
     rw[hr] at he;cases he
     obtain⟨h1,h2⟩:=A7 hr hc
     rw[h2]
     exact zE hΓ ht hg (hg _ _ hx) hlo hhi hk h1 ho
   ·cases he
  ·rename_i ti α dz enc l dlo dhi ht hx hlo hhi
   split at he
   ·rename_i es ea hk
    split at he
    ·rename_i hlen
     cases hr:jN dz enc l dlo dhi with
     |none=>rw[hr] at he;cases he
     |some r =>
      rw[hr] at he;cases he
      obtain⟨h1,h2⟩:=pY hr hc
      rw[h2]
      exact sC hΓ ht hg (hg _ _ hx) hlo hhi hk hlen h1 ho
    ·cases he
   ·cases he
  ·rename_i ti k n z off dlo dhi ht hx hlo hhi
   split at he
   ·rename_i m es ea tt α dz enc l hk hl
    split at he
    ·rename_i hlen
     cases hr:jN dz enc l dlo dhi with
     |none=>rw[hr] at he;cases he
     |some r =>
      rw[hr] at he;cases he
      obtain⟨h1,h2⟩:=pY hr fun c h=>hc c (List.mem_cons_of_mem _ h)
      rw[h2]
      exact zr hΓ hb hR ht hl hg (hg _ _ hx) hlo hhi hk hlen (of_decide_eq_true (hc _ List.mem_cons_self)) h1 ho
    ·cases he
   ·cases he
  ·rename_i ti k dlo dhi ht hx hlo hhi
   split at he
   ·rename_i es ea tt α dz enc l hk hl
    split at he
    ·rename_i hlen
     cases hr:jN dz enc l dlo dhi with
     |none=>rw[hr] at he;cases he
     |some r =>
      rw[hr] at he;cases he
      obtain⟨h1,h2⟩:=pY hr hc
      rw[h2]
      exact sC hΓ ht hg ((hg _ _ hx).xA hb (hR _ _ _ _ _ _ _ hl)) hlo hhi hk hlen h1 ho
    ·cases he
   ·cases he
  ·cases he
 ·
  rename_i t x f
  split at he
  ·rename_i ti k off ht hx
   split at he
   ·rename_i fs hk
    cases hf:fs[f]? with
    |none=>rw[hf] at he;cases he
    |some g =>
     rw[hf] at he
     simp only[Option.bind] at he
     split at he
     ·cases he
     ·rename_i h0;cases he;exact pg hΓ ht (hg _ _ hx) hk hf h0 (.inl ⟨_,_,rfl,rfl⟩) ho
   ·cases he
  ·rename_i ti ds ht hx
   split at he
   ·rename_i fs hk
    cases hf:fs[f]? with
    |none=>rw[hf] at he;cases he
    |some g =>
     rw[hf] at he
     simp only[Option.bind] at he
     split at he
     ·cases he
     ·rename_i h0;cases he;exact pg hΓ ht (hg _ _ hx) hk hf h0 (.inr (.inl ⟨_,rfl,rfl⟩)) ho
   ·cases he
  ·rename_i ti k n z off ht hx
   split at he
   ·rename_i fs hk
    cases hf:fs[f]? with
    |none=>rw[hf] at he;cases he
    |some g =>
     rw[hf] at he
     simp only[Option.bind] at he
     split at he
     ·cases he
     ·rename_i h0;cases he;exact pg hΓ ht (hg _ _ hx) hk hf h0 (.inr (.inr ⟨_,_,_,_,rfl,rfl⟩)) ho
   ·cases he
  ·cases he
 ·
  rename_i t x f
  split at he
  ·rename_i ti ds ht hx
   split at he
   ·rename_i fs hk
    cases hf:fs[f]? with
    |none=>rw[hf] at he;cases he
    |some g =>
     rw[hf] at he
     simp only[Option.bind] at he
     cases hp:partOf g.2.2 g.2.1 g.1 ds with
     |none=>rw[hp] at he;cases he
     |some d=>rw[hp] at he;cases he;exact Ek hΓ ht (hg _ _ hx) hk hf hp ho
   ·cases he
  ·cases he
 ·
  rename_i t x i
  split at he
  ·rename_i ti α dz enc l k n ht hx hi
   split at he
   ·rename_i es ea hk
    split at he
    ·rename_i hlen
     cases he
     exact zm hΓ ht (hg _ _ hx) (hg _ _ hi) hk hlen (of_decide_eq_true (hc _ (List.mem_singleton.2 rfl))) ho
    ·cases he
   ·cases he
  ·rename_i ti k kk n ht hx hi
   split at he
   ·rename_i es ea tt α m dz enc l hk hl
    split at he
    ·rename_i hlen
     cases he
     exact zJ hΓ hb hR ht hl (hg _ _ hx) (hg _ _ hi) hk (of_decide_eq_true (hc _ (List.mem_singleton.2 rfl))) ho
    ·cases he
   ·cases he
  ·rename_i ti key n0 z off k n ht hx hi
   split at he
   ·rename_i m es ea hk
    split at he
    ·rename_i h
     cases he
     exact zy hΓ ht (hg _ _ hx) (hg _ _ hi) hk h (of_decide_eq_true (hc _ (List.mem_singleton.2 rfl))) ho
    ·cases he
   ·cases he
  ·rename_i ti key off k n ht hx hi
   split at he
   ·rename_i m es ea hk
    split at he
    ·cases he
     exact zI hΓ ht (hg _ _ hx) (hg _ _ hi) hk (of_decide_eq_true (hc _ (List.mem_singleton.2 rfl))) ho
    ·cases he
   ·cases he
  ·cases he
 ·
  rename_i t x i
  split at he
  ·rename_i ti l k n ht hx hi
   split at he
   ·rename_i hk
    cases he
    exact zC hΓ ht (hg _ _ hx) (hg _ _ hi) hk (of_decide_eq_true (hc _ (List.mem_singleton.2 rfl))) ho
   ·cases he
  ·rename_i ti α dz enc l k n ht hx hi
   split at he
   ·rename_i m es ea hk
    split at he
    ·rename_i hes
     cases hp:partOf ea es 0 (enc (l[n.toNat]?.getD dz)) with
     |none=>rw[hp] at he;cases he
     |some d =>
      rw[hp] at he;cases he
      exact ze hΓ ht (hg _ _ hx) (hg _ _ hi) hk hes hp (of_decide_eq_true (hc _ List.mem_cons_self)) (of_decide_eq_true (hc _ (List.mem_cons_of_mem _ (List.mem_singleton.2 rfl)))) ho
    ·cases he
   ·cases he
  ·rename_i ti ds k n ht hx hi
   split at he
   ·rename_i m es ea hk
    cases hp:partOf ea es (n.toNat*es) ds with
    |none=>rw[hp] at he;cases he
    |some d =>
     rw[hp] at he;cases he
     exact zG hΓ ht (hg _ _ hx) (hg _ _ hi) hk hp (of_decide_eq_true (hc _ (List.mem_singleton.2 rfl))) ho
   ·cases he
  ·cases he
 ·
  rename_i f first cap
  split at he
  ·rename_i hf
   cases hr:getAll get cap.toList with
   |none=>rw[hr] at he;cases he
   |some ds=>rw[hr] at he;cases he;exact zQ hg hf hr ho
  ·cases he
 ·
  rename_i x i
  split at he
  ·rename_i ds hx
   cases hd:ds[i]? with
   |none=>rw[hd] at he;cases he
   |some d=>rw[hd] at he;cases he;exact Ar (hg _ _ hx) hd ho
  ·cases he
 ·
  rename_i c
  cases out with
  |call f args=>exact EV hb hR hg he ho
  |val d =>
   unfold gu at he
   split at he<;>first|(cases he;done)|skip
   ·split at he<;>cases he
   ·split at he
    ·rename_i t t' hat
     cases ht:Γ t with
     |none=>rw[ht] at he;cases he
     |some ti =>
      cases ht':Γ t' with
      |none=>rw[ht,ht'] at he;cases he
      |some ti' =>
       rw[ht,ht'] at he
       simp only[Option.bind] at he
       split at he
       ·split at he
        ·simp only[Option.map] at he;split at he<;>cases he
        ·cases he
       ·split at he
        ·simp only[Option.map] at he;split at he<;>cases he
        ·cases he
       ·cases he
    ·cases he
   ·rename_i k hcal ha
    split at he
    ·rename_i t hat
     cases ht:Γ t with
     |none=>rw[ht] at he;cases he
     |some ti =>
      rw[ht] at he
      simp only[Option.bind] at he
      split at he
      ·rename_i hk hl;cases he;exact Dl hΓ hb hR ht hk hat hl hcal hg ha ho
      ·cases he
    ·cases he
   ·exfalso
    repeat' (first|(cases he;done)|(simp only[Option.bind,Option.map] at he)|split at he)
   ·rename_i l hcal ha
    split at he
    ·rename_i t hat
     cases ht:Γ t with
     |none=>rw[ht] at he;cases he
     |some ti =>
      rw[ht] at he
      simp only[Option.bind] at he
      split at he
      ·rename_i hk;cases he;exact Dc hΓ ht hk hat hcal hg ha ho
      ·cases he
    ·cases he
   ·rename_i α dz enc l hcal ha
    split at he
    ·rename_i t hat
     cases ht:Γ t with
     |none=>rw[ht] at he;cases he
     |some ti =>
      rw[ht] at he
      simp only[Option.bind] at he
      split at he
      ·rename_i hk;cases he;exact Bl hΓ ht hk hat hcal hg ha ho
      ·cases he
    ·cases he
   ·rename_i hcal ha;cases he;exact Gu hcal hg ha ho
   ·rename_i hcal ha;cases he;exact Gx hcal hg ha ho
  |box t cells =>
   exfalso
   unfold gu at he
   repeat' (first|(cases he;done)|(simp only[Option.bind,Option.map] at he)|split at he)
  |store k off cells =>
   exfalso
   unfold gu at he
   repeat' (first|(cases he;done)|(simp only[Option.bind,Option.map] at he)|split at he)
  |upd k n z off cells =>
   exfalso
   unfold gu at he
   repeat' (first|(cases he;done)|(simp only[Option.bind,Option.map] at he)|split at he)
  |known spec =>
   exfalso
   unfold gu at he
   repeat' (first|(cases he;done)|(simp only[Option.bind,Option.map] at he)|split at he)
  |sD t z m d =>
   exfalso
   unfold gu at he
   repeat' (first|(cases he;done)|(simp only[Option.bind,Option.map] at he)|split at he)
  |fill k z m d =>
   exfalso
   unfold gu at he
   repeat' (first|(cases he;done)|(simp only[Option.bind,Option.map] at he)|split at he)
  |turn k z m d =>
   exfalso
   unfold gu at he
   repeat' (first|(cases he;done)|(simp only[Option.bind,Option.map] at he)|split at he)
  |nO t kk ag =>
   exfalso
   unfold gu at he
   repeat' (first|(cases he;done)|(simp only[Option.bind,Option.map] at he)|split at he)
  |pd k kk ag key cells =>
   exfalso
   unfold gu at he
   repeat' (first|(cases he;done)|(simp only[Option.bind,Option.map] at he)|split at he)
  |mlk k kk ag key ok ez =>
   exfalso
   unfold gu at he
   repeat' (first|(cases he;done)|(simp only[Option.bind,Option.map] at he)|split at he)
  |mdl k kk ag key =>
   exfalso
   unfold gu at he
   repeat' (first|(cases he;done)|(simp only[Option.bind,Option.map] at he)|split at he)
  |cpy k z cells n =>
   exfalso
   unfold gu at he
   repeat' (first|(cases he;done)|(simp only[Option.bind,Option.map] at he)|split at he)
  |sG k =>
   unfold gu at he
   split at he<;>first|(cases he;done)|skip
   all_goals first
    |(exfalso;(repeat' (first|(cases he;done)|(simp only[Option.bind,Option.map] at he)|split at he));done)
    |skip
   rename_i k' hcal ha
   split at he
   ·rename_i t hat
    cases ht:Γ t with
    |none=>rw[ht] at he;cases he
    |some ti =>
     rw[ht] at he
     simp only[Option.bind] at he
     split at he
     ·rename_i hk;cases he;exact Cb hΓ hb ht hk hat hcal hg ha ho
     ·cases he
   ·cases he
  |row e m old spec =>
   unfold gu at he
   split at he<;>first|(cases he;done)|skip
   ·split at he<;>cases he
   ·rename_i s x hcal ha
    split at he
    ·rename_i t t' hat
     cases ht:Γ t with
     |none=>rw[ht] at he;cases he
     |some ti =>
      cases ht':Γ t' with
      |none=>rw[ht,ht'] at he;cases he
      |some ti' =>
       rw[ht,ht'] at he
       simp only[Option.bind] at he
       split at he
       ·rename_i es ea es' ea' hk hk'
        split at he
        ·rename_i h
         cases hr:appSpec es ti.elt L s x with
         |none=>rw[hr] at he;cases he
         |some r =>
          obtain⟨old',m',N,spec'⟩:=r
          rw[hr] at he
          cases he
          exact xH hΓ hb hR hcal hat ht ht' hk (.inl ⟨_,_,hk'⟩) hg ha hr (of_decide_eq_true (hc _ (List.mem_singleton.2 rfl))) h.2.1 h.2.2 ho
        ·cases he
       ·rename_i es ea hk hk'
        split at he
        ·rename_i h
         cases hr:appSpec es ti.elt L s x with
         |none=>rw[hr] at he;cases he
         |some r =>
          obtain⟨old',m',N,spec'⟩:=r
          rw[hr] at he
          cases he
          exact xH hΓ hb hR hcal hat ht ht' hk (.inr hk') hg ha hr (of_decide_eq_true (hc _ (List.mem_singleton.2 rfl))) h.1 h.2 ho
        ·cases he
       ·cases he
    ·cases he
   all_goals (exfalso;(repeat' (first|(cases he;done)|(simp only[Option.bind,Option.map] at he)|split at he)))
 ·
  rename_i t
  cases ht:Γ t with
  |none=>rw[ht] at he;cases he
  |some ti =>
   rw[ht] at he
   simp only[Option.bind] at he
   split at he
   ·cases he;exact DY ho
   ·cases he
 ·
  rename_i t x y ok
  split at he
  ·rename_i ti k dy ht hx hy
   split at he
   ·rename_i kk es ag hk
    split at he
    ·rename_i h
     cases hkey:nI kk dy with
     |none=>rw[hkey] at he;cases he
     |some key =>
      rw[hkey] at he
      cases he
      exact Dq hΓ hb ht hk (hg _ _ hx) (hg _ _ hy) hkey h.1 h.2 ho
    ·cases he
   ·cases he
  ·rename_i ti kk' ag' α d enc l dy ht hx hy
   split at he
   ·rename_i kk es ag hk
    split at he
    ·rename_i h
     obtain⟨h1,h2,rfl,rfl⟩:=h
     cases hkey:nI kk' dy with
     |none=>rw[hkey] at he;cases he
     |some key =>
      rw[hkey] at he
      cases he
      exact DN hΓ hb ht hk (hg _ _ hx) (hg _ _ hy) hkey h1 h2 ho
    ·cases he
   ·cases he
  ·cases he
 ·
  rename_i t x y z
  split at he
  ·rename_i ti k dy dz ht hx hy hz
   split at he
   ·rename_i kk es ag hk
    split at he
    ·rename_i ag' cs' hcs
     split at he
     ·rename_i h
      cases hkey:nI kk dy with
      |none=>rw[hkey] at he;cases he
      |some key =>
       rw[hkey] at he
       cases he
       exact E4 hΓ hb hR ht hk (hg _ _ hx) (hg _ _ hy) hkey (hg _ _ hz) (by rw[hcs,h.2]) ho
     ·cases he
    ·cases he
   ·cases he
  ·cases he
 ·cases he
theorem Ft{d:D}{k off:Nat}(h:d.opn=.own k off):d=.own k off:=by
 cases d<;>first|exact h|(simp[D.opn] at h)
theorem br(hΓ:ΓOK P Γ)(hb:Base F0 w0 B F M w)(hR:RowsIn M L)(hg:eE F w B a get){o:Oper}{out:Out}{cs:List Bool}(hL:∀k t ds,Reads get o.op k->L.lookup k=some (t,ds)->M k t ds)(he:gw Γ L get o.dst o.op=some (out,cs))(hc:∀c∈cs,c=true):aY P F w B M a o out:=by
 unfold gw at he
 split at he
 ·rename_i out' hx
  cases he
  exact C9 hΓ hb hR hg hx
 refine zp hΓ hb hR (get:=fun x=>(get x).map D.opn) (fun x d hx=>?_) (fun k t ds hr=>hL k t ds ?_) he hc
 ·obtain⟨d',h1,rfl⟩:=Option.map_eq_some_iff.1 hx
  exact(hg x d' h1).opn
 ·obtain⟨t,x,off,h1,h2⟩:=hr
  obtain⟨d',h3,h4⟩:=Option.map_eq_some_iff.1 h2
  exact⟨t,x,off,h1,by rw[h3,Ft h4]⟩
end
end Go.Proofs.YtpmmhhmhckpnfaaDoor.RX
namespace Go.Proofs.YtpmmhhmhckpnfaaDoor.RX
open Go.RowKit
def je(F:Fz)(w w':World):Fz:=fun g k=>F g k\/(w.heap.size<=g/\g<w'.heap.size)
def bq(P:Program)(f:Nat)(ds:List D)(r:D):Prop :=
 FOK P f/\∀(F:Fz)(w:World)(args:List Value),Shp P w->(∀g k,F g k->g<w.heap.size)->aA F w NB ds args ->
  Calls P f args.toArray w fun e w'=>∃v,e=.returned v/\Rep (je F w w') w' NB r v/\Below w.heap.size w w'
def G4(P:Program)(f:Nat)(ds:List D)(r:D):Prop:=∀(F:Fz)(w:World)(B:Env)(args:List Value),aA F w B ds args->∃v,(callFunc f args.toArray).run P w=.ok (.value v) w/\Rep F w NB r v
def CX(P:Program)(f:Nat)(ds:List D)(r:D):Prop:=bq P f ds r\/G4 P f ds r
section
variable {P:Program} {F0:Fz} {w0:Pt P} {B:Env} {F:Fz} {M:Mem} {w:World} {a:Act} {Q:Exit->Act->World->Prop}
def setB(B:Env)(t:Nat)(r:Ref):Env:=fun i=>if i=t then some r else B i
theorem fF(B:Env)(t:Nat)(r:Ref):setB B t r t=some r:=by simp[setB]
theorem bJ(B:Env)(t:Nat)(r:Ref)(i:Nat)(h:i≠t):setB B t r i=B i:=by simp[setB,h]
theorem gQ{B B':Env}{i:Nat}(h:B' i=B i):bM B' i=bM B i:=by simp[bM,h]
theorem Base.callee(hb:Base F0 w0 B F M w){w':World}(h:Below w.heap.size w w'):Base F0 w0 B (je F w w') M w'/\Grow F (je F w w') w w':=by
 have hg:Grow F (je F w w') w w':=⟨fun g k hF=>.inl hF,fun g k hF=>h.cell (p:=⟨g,k,none⟩) (hb.frz g k hF),fun g k hF es c hh=>(h.block g (hb.frz g k hF)).trans hh⟩
 refine⟨⟨fun k t ds hl=>?_,hb.new,hb.inj,fun g k hF=>?_,fun g k hF=>?_,hb.grow.trans hg,hb.below.trans (.of (h.mono hb.below.size)),hb.env⟩,hg⟩
 ·have hh:=hb.boxes _ _ _ hl
  refine hh.grow hg rfl (fun _ _ _ h=>h) fun b hbk=>?_
  have hlt:=hh.lt hbk
  refine⟨h.block b hlt,fun j hj=>?_⟩
  rcases hj with hj|⟨hj,_⟩
  ·exact hj
  ·omega
 ·rcases hF with hF|⟨_,hF⟩
  ·have:=hb.frz g k hF;have:=h.size;omega
  ·exact hF
 ·rcases hF with hF|⟨hF,_⟩
  ·exact hb.more g k hF
  ·have:=hb.below.size;exact .inr (.inl (by omega))
theorem Base.draw(hb:Base F0 w0 B F M w):Base F0 w0 B F M w.drew:=by
 have hg:Grow F F w w.drew:=⟨fun _ _ h=>h,fun _ _ _=>rfl,fun _ _ _ _ _ h=>h⟩
 refine⟨fun k t ds hl=>?_,hb.new,hb.inj,hb.frz,hb.more,hb.grow.trans hg,hb.below.trans (.of (Below.refl _ w).drew),hb.env⟩
 exact(hb.boxes _ _ _ hl).grow hg rfl (fun _ _ _ h=>h) fun b _=>⟨rfl,fun _ h=>h⟩
def lK(t ty:Nat)(cells:List D)(M:Mem):Mem:=fun k t' ds=>(k=t/\t'=ty/\ds=cells)\/M k t' ds
def ve(k off:Nat)(cells:List D)(M:Mem):Mem:=fun j t ds=>∃es,M j t es/\ds=if j=k then setCells es off cells else es
theorem Base.qA(hb:Base F0 w0 B F M w){t ty:Nat}{ds:List D}{F':Fz}{w':World}{B':Env}{M':Mem}(hg:Grow F F' w w')
  (hheld:jM F' w' B' t ty ds) (hblk:∀b,bM B' t=some b->w0.fresh b/\∀k,(∃t' ds,M' k t' ds)->k≠t->bM B k≠some b)
  (hM:∀k t' ds,M' k t' ds->M k t' ds/\k≠t/\B' k=B k/\∀F w vs,aA F w B ds vs->aA F w B' ds vs)
  (hkeep:∀b,(∃k,(∃t' ds,M' k t' ds)/\bM B k=some b)->w'.heap[b]? = w.heap[b]?/\∀j,F' b j->F b j)
  (hfrz:∀g k,F' g k->g<w'.heap.size) (hmore:∀g k,F' g k->F g k\/w0.fresh g) (hbel:dP w0.own w0.w.heap.size w w') (henv:∀k,LIM<=k->B' k=B k):Base F0 w0 B' F' (lK t ty ds M') w':=by
 refine⟨fun k t' ds' hl=>?_,fun k t' ds' b hl hbk=>?_,fun i j b hi hj hBi hBj=>?_,hfrz,fun g k hF=>?_,hb.grow.trans hg,hb.below.trans hbel,fun k b h=>(henv k (w0.low k (by rw[h];exact fun e=>by cases e))).trans (hb.env k b h)⟩
 ·rcases hl with⟨rfl,rfl,rfl⟩|h
  ·exact hheld
  ·obtain⟨h1,h2,h3,h4⟩:=hM _ _ _ h
   exact(hb.boxes _ _ _ h1).grow hg h3 h4 fun b hbk=>hkeep b ⟨k,⟨_,_,h⟩,hbk⟩
 ·rcases hl with⟨rfl,_,_⟩|h
  ·exact(hblk b hbk).1
  ·obtain⟨h1,h2,h3,_⟩:=hM _ _ _ h
   rw[gQ h3] at hbk
   exact hb.new _ _ _ _ h1 hbk
 ·have key:∀i b,(∃t' ds',lK t ty ds M' i t' ds')->bM B' i=some b->i=t\/(i≠t/\(∃t' ds',M' i t' ds')/\(∃t' ds',M i t' ds')/\bM B i=some b):=by
   rintro i b ⟨t',ds',h⟩ hBi
   rcases h with⟨rfl,_,_⟩|h
   ·exact .inl rfl
   ·obtain⟨h1,h2,h3,_⟩:=hM _ _ _ h
    rw[gQ h3] at hBi
    exact .inr ⟨h2,⟨_,_,h⟩,⟨_,_,h1⟩,hBi⟩
  rcases key i b hi hBi with h1|⟨h1,h2,h3,h4⟩
  ·rcases key j b hj hBj with h1'|⟨h1',h2',h3',h4'⟩
   ·rw[h1,h1']
   ·subst h1;exact absurd h4' ((hblk b hBi).2 j h2' h1')
  ·rcases key j b hj hBj with h1'|⟨h1',h2',h3',h4'⟩
   ·subst h1';exact absurd h4 ((hblk b hBj).2 i h2 h1)
   ·exact hb.inj i j b h3 h3' h4 h4'
 ·rcases hmore g k hF with h|h
  ·exact hb.more g k h
  ·exact .inr h
theorem Base.box(hb:Base F0 w0 B F M w){t ty:Nat}{cells:List D}{vs:List Value}(hr:aA F w B cells vs)(hfl:cells.all D.flat=true){B':Env}(hB':B' t=some (.box w.heap.size))(henv:∀k,LIM<=k->B' k=B k){M':Mem}
  (hcells:∀F w vs,aA F w B cells vs->aA F w B' cells vs)
  (hM:∀k t' ds,M' k t' ds->M k t' ds/\k≠t/\B' k=B k/\∀F w vs,aA F w B ds vs->aA F w B' ds vs) :
  Base F0 w0 B' F (lK t ty cells M') (w.alloc (.cells vs.toArray ty))/\Grow F F w (w.alloc (.cells vs.toArray ty)):=by
 have hg:Grow F F w (w.alloc (.cells vs.toArray ty)):=⟨fun _ _ h=>h,fun g k hF=>World.cell?_alloc_lt _ _ _ (hb.frz g k hF),fun g k hF=>lW (Below.heap_alloc _ _ _ (hb.frz g k hF))⟩
 have hsz:=hb.below.size
 have hlt:∀b,(∃k,(∃t' ds,M' k t' ds)/\bM B k=some b)->b<w.heap.size:=by
  rintro b ⟨k,⟨t',ds,h⟩,hbk⟩
  exact(hb.boxes _ _ _ (hM _ _ _ h).1).lt hbk
 refine⟨hb.qA hg (.box _ w.heap.size vs hB' ((hcells _ _ _ hr).grow hg) hfl ?_ fun j hj=>?_) (fun b hbk=>?_) hM (fun b hbk=>⟨Below.heap_alloc _ _ _ (hlt b hbk),fun _ h=>h⟩) (fun g k hF=>?_) (fun g k h=>.inl h) (.of ((Below.refl _ w).alloc hsz _)) henv,hg⟩
 ·show(w.heap.push _)[w.heap.size]? = _
  simp
 ·have:=hb.frz _ _ hj;omega
 ·rw[ia hB'] at hbk;cases hbk
  exact⟨.inl hsz,fun k hk _ hbk=>by have:=hlt _ ⟨k,hk,hbk⟩;omega⟩
 ·have:=hb.frz g k hF;simp;omega
def uS(F:Fz)(m:Bool)(p:Option Nat)(N:Nat):Fz:=fun g k=>F g k\/(m=true/\p=some g/\k<N)
theorem Base.row(hb:Base F0 w0 B F M w){t e:Nat}{m:Bool}{α:Type}{d:α}{enc:α->List D}{l:List α}{p p0:Option Nat}{n cap pre:Nat}{xs:List Value}{w':World}(hn:n=l.length)(hr:aA F w NB (l.flatMap enc) xs)(hgood:bP (.recs d enc l))
  (hown:gk w' e (enc d).length p n cap xs) (hstep:Aj w w' p p0 pre) (hpre:pre<=n*(enc d).length)
  (hp0:∀b,p0=some b->w0.fresh b/\b<w.heap.size/\(∀j,F b j->m=true/\j<pre)) {B':Env} (hB':B' t=some (.row p n cap)) (henv:∀k,LIM<=k->B' k=B k) {M':Mem}
  (hM:∀k t' ds,M' k t' ds->M k t' ds/\k≠t/\B' k=B k/\∀F w vs,aA F w B ds vs->aA F w B' ds vs) (hno:∀b,p0=some b->∀k,(∃t' ds,M' k t' ds)->bM B k≠some b) :
  Base F0 w0 B' (uS F m p (n*(enc d).length)) (lK t e [.aR m d enc l] M') w'/\Grow F (uS F m p (n*(enc d).length)) w w':=by
 have hsz:=hb.below.size
 have hblocks:∀b,b<w.heap.size->p0≠some b->w'.heap[b]? = w.heap[b]?:=by
  intro b hlt hne
  rcases hstep with⟨_,hgr,_⟩|⟨_,hgr⟩
  ·exact hgr.block b hlt fun e=>hne e.symm
  ·exact hgr.block b hlt (by simp)
 have hgs:w.heap.size<=w'.heap.size:=by rcases hstep with⟨_,hgr,_⟩|⟨_,hgr⟩<;>exact hgr.size
 have hg:Grow F (uS F m p (n*(enc d).length)) w w':=by
  refine⟨fun _ _ h=>.inl h,fun g k hF=>?_,fun g k hF es c hh=>?_⟩
  rotate_left
  ·by_cases hpe:p0=some g
   ·rcases hstep with⟨h1,_,hk⟩|⟨_,hgr⟩
    ·have hkp:=((hp0 g hpe).2.2 k hF).2
     have hlen:=hown.1
     have hlt2:k<xs.length:=by omega
     have hp':p=some g:=by rw[h1];exact hpe
     subst hp'
     have h3:=hown.cells (List.getElem?_eq_getElem hlt2)
     rw[hk g hpe k hkp] at h3
     simp[World.cell?,hh] at h3
    ·exact(hgr.block g (hb.frz g k hF) (by simp)).trans hh
   ·exact(hblocks g (hb.frz g k hF) hpe).trans hh
  have hlt:=hb.frz g k hF
  by_cases hpe:p0=some g
  ·rcases hstep with⟨_,_,hk⟩|⟨_,hgr⟩
   ·exact hk g hpe k ((hp0 g hpe).2.2 k hF).2
   ·simp[World.cell?,hgr.block g hlt (by simp)]
  ·simp[World.cell?,hblocks g hlt hpe]
 have hpb:∀b,p=some b->(p0=some b\/b=w.heap.size):=by
  intro b hb
  rcases hstep with⟨h,_⟩|⟨h,_⟩
  ·exact .inl (h▸hb)
  ·rw[h] at hb;exact .inr (Option.some.inj hb).symm
 have hplt:∀b,p=some b->b<w'.heap.size:=by
  intro b hpb'
  rcases hown.2 with⟨h,_⟩|⟨g,cur,fz,h,hh,_⟩
  ·rw[h] at hpb';cases hpb'
  ·rw[h] at hpb';cases hpb';exact(Array.getElem?_eq_some_iff.1 hh).1
 have hlt:∀b,(∃k,(∃t' ds,M' k t' ds)/\bM B k=some b)->b<w.heap.size:=by
  rintro b ⟨k,⟨t',ds,h⟩,hbk⟩
  exact(hb.boxes _ _ _ (hM _ _ _ h).1).lt hbk
 have hbel:dP w0.own w0.w.heap.size w w':=by
  have hall:∀k,k<w0.w.heap.size->¬w0.own k->w'.heap[k]? = w.heap[k]?:=by
   intro k hk hs
   refine hblocks k (by omega) fun hpe=>?_
   rcases(hp0 k hpe).1 with h|h
   ·omega
   ·exact hs h
  rcases hstep with⟨_,hgr,_⟩|⟨_,hgr⟩<;>exact⟨hgr.os,hgr.tape,hgr.output,hgr.size,hall⟩
 refine⟨hb.qA hg (.row m d enc l p n cap hB' ⟨hn,hgood.1,hgood.2,xs,hr.grow hg,hown,fun b hpb' j=>?_⟩) (fun b hbk=>?_) hM (fun b hbk=>?_) (fun g k hF=>?_) (fun g k hF=>?_) hbel henv,hg⟩
 ·constructor
  ·rintro(h|⟨h1,_,h2⟩)
   ·rcases hpb b hpb' with h3|h3
    ·have:=(hp0 b h3).2.2 j h;exact⟨this.1,by omega⟩
    ·have:=hb.frz b j h;omega
   ·exact⟨h1,h2⟩
  ·rintro⟨h1,h2⟩;exact .inr ⟨h1,hpb',h2⟩
 ·rw[dY hB'] at hbk
  rcases hpb b hbk with h|h
  ·exact⟨(hp0 b h).1,fun k hk _=>hno b h k hk⟩
  ·subst h;exact⟨.inl hsz,fun k hk _ hbk=>by have:=hlt _ ⟨k,hk,hbk⟩;omega⟩
 ·have hl:=hlt b hbk
  have hne:p0≠some b:=by
   obtain⟨k,hk,hkb⟩:=hbk
   intro h;exact hno b h k hk hkb
  refine⟨hblocks b hl hne,fun j hj=>?_⟩
  rcases hj with h|⟨_,h,_⟩
  ·exact h
  ·rcases hpb b h with h|h
   ·exact absurd h hne
   ·omega
 ·rcases hF with h|⟨_,h,_⟩
  ·have:=hb.frz g k h;omega
  ·exact hplt g h
 ·rcases hF with h|⟨_,h,_⟩
  ·exact .inl h
  ·rcases hpb g h with h|h
   ·exact .inr (hp0 g h).1
   ·subst h;exact .inr (.inl hsz)
theorem Base.turn(hb:Base F0 w0 B F M w){k b:Nat}{w':World}{M':Mem}(hkb:bM B k=some b)(hk:∃t ds,M k t ds)(hnf:∀j,¬F b j){cs:Array Value}(hw:w'=w.setRow b cs)
  (hM:∀j t ds,M' j t ds->(∃t ds,M j t ds)/\(j=k->jM F w' B k t ds)/\(j≠k->M j t ds)):Base F0 w0 B F M' w'/\Grow F F w w':=by
 subst hw
 obtain⟨t0,ds0,hk0⟩:=hk
 have hn:=hb.new _ _ _ _ hk0 hkb
 have hg:Grow F F w (w.setRow b cs):=⟨fun _ _ h=>h,fun g j hF=>cell_setRow_other _ _ _ _ (fun e=>by simp only at e;subst e;exact hnf j hF),fun g j hF=>lW (setRow_other _ _ _ _ fun e=>by subst e;exact hnf j hF)⟩
 refine⟨⟨fun j t ds hl=>?_,fun j t ds b' hl hbk=>?_,fun i j c hi hj hBi hBj=>?_,fun g j hF=>?_,hb.more,hb.grow.trans hg,hb.below.trans ⟨rfl,rfl,rfl,by simp,fun i hi hs=>?_⟩,hb.env⟩,hg⟩
 ·obtain⟨h1,h2,h3⟩:=hM _ _ _ hl
  by_cases hjk:j=k
  ·subst hjk;exact h2 rfl
  ·have hmj:=h3 hjk
   refine(hb.boxes _ _ _ hmj).grow hg rfl (fun _ _ _ h=>h) fun b' hbk=>⟨setRow_other _ _ _ _ fun e=>hjk ?_,fun _ h=>h⟩
   subst e
   exact hb.inj j k _ ⟨_,_,hmj⟩ ⟨_,_,hk0⟩ hbk hkb
 ·obtain⟨⟨t1,ds1,h1⟩,_,_⟩:=hM _ _ _ hl
  exact hb.new _ _ _ _ h1 hbk
 ·obtain⟨t1,d1,h1⟩:=hi
  obtain⟨t2,d2,h2⟩:=hj
  exact hb.inj i j c (hM _ _ _ h1).1 (hM _ _ _ h2).1 hBi hBj
 ·have:=hb.frz g j hF;simp;omega
 ·refine setRow_other _ _ _ _ fun e=>?_
  subst e
  rcases hn with h|h
  ·omega
  ·exact hs h
theorem Base.store(hb:Base F0 w0 B F M w){k off b t:Nat}{cells ds:List D}{vs us:List Value}(hB:B k=some (.box b))(hkL:M k t ds)(hh:w.heap[b]? = some (.cells vs.toArray t (0,0)))
  (hu:aA F w B cells us) (hfl:cells.all D.flat=true) :
  Base F0 w0 B F (ve k off cells M) (w.setRow b (bW vs off us).toArray)/\Grow F F w (w.setRow b (bW vs off us).toArray):=by
 obtain⟨vs',hr',hfl',hh',hn',hnf'⟩:=hb.wP hkL hB
 have hg:Grow F F w (w.setRow b (bW vs off us).toArray):=⟨fun _ _ h=>h,fun g j hF=>cell_setRow_other _ _ _ _ (fun e=>by simp only at e;subst e;exact hnf' j hF),fun g j hF=>lW (setRow_other _ _ _ _ fun e=>by subst e;exact hnf' j hF)⟩
 refine hb.turn (ia hB) ⟨_,_,hkL⟩ hnf' rfl fun j t' es hl=>?_
 obtain⟨y,hy,hx⟩:=hl
 refine⟨⟨_,_,hy⟩,fun hjk=>?_,fun hjk=>by simp only[hjk,if_false] at hx;rw[hx];exact hy⟩
 subst hjk
 obtain⟨zs,hrc,hflc,hhc,hnc,hnfc⟩:=hb.wP hy hB
 rw[hh] at hhc
 simp only[Option.some.injEq,Obj.cells.injEq] at hhc
 obtain⟨hv,ht,_⟩:=hhc
 have hv':vs=zs:=by simpa using hv
 subst hv'
 simp only[if_true] at hx
 subst hx
 refine .box _ b (bW vs off us) hB ((aA.sets hu off hrc).grow hg) ?_ ?_ hnfc
 ·unfold setCells
  simp only[List.all_append,Bool.and_eq_true]
  exact⟨⟨List.all_eq_true.2 fun x hx=>List.all_eq_true.1 hflc x (List.mem_of_mem_take hx),hfl⟩,List.all_eq_true.2 fun x hx=>List.all_eq_true.1 hflc x (List.mem_of_mem_drop hx)⟩
 ·rw[setRow_heap _ _ _ _ _ _ hh,ht]
theorem uF{α:Type}{enc:α->List D}{z off:Nat}(hz:∀x,(enc x).length=z){cells:List D}(hoff:off+cells.length<=z){x:α}:∀(l:List α)(n:Nat)(y:α),l[n]? = some y->bf (setCells (enc y) off cells) (enc x) ->
  bf (setCells (l.flatMap enc) (n*z+off) cells) ((l.set n x).flatMap enc)
 |[],n,y,hy,_=>by simp at hy
 |q::l,0,y,hy,he=>by
  simp only[List.getElem?_cons_zero,Option.some.injEq] at hy
  subst hy
  have e:setCells ((q::l).flatMap enc) (0*z+off) cells=setCells (enc q) off cells++l.flatMap enc:=by
   simp only[List.flatMap_cons,Nat.zero_mul,Nat.zero_add]
   unfold setCells
   have h1:(enc q++l.flatMap enc).take off=(enc q).take off:=List.take_append_of_le_length (by rw[hz];omega)
   have h2:(enc q++l.flatMap enc).drop (off+cells.length)=(enc q).drop (off+cells.length)++l.flatMap enc:=List.drop_append_of_le_length (by rw[hz];omega)
   rw[h1,h2];simp only[List.append_assoc]
  rw[e]
  simp only[List.set_cons_zero,List.flatMap_cons]
  exact he.append (.refl _)
 |q::l,n+1,y,hy,he=>by
  have e:setCells ((q::l).flatMap enc) ((n+1)*z+off) cells=enc q++setCells (l.flatMap enc) (n*z+off) cells:=by
   simp only[List.flatMap_cons]
   unfold setCells
   have e1:(n+1)*z+off=(enc q).length+(n*z+off):=by rw[hz,Nat.add_mul];omega
   rw[e1,List.take_length_add_append,Nat.add_assoc (enc q).length,List.drop_length_add_append]
   simp only[List.append_assoc]
  rw[e]
  simp only[List.set_cons_succ,List.flatMap_cons]
  exact(bf.refl _).append (uF hz hoff l n y (by simpa using hy) he)
def kR(k t:Nat)(r:D)(M:Mem):Mem:=fun j t' ds=>(j=k/\t'=t/\ds=[r])\/(j≠k/\M j t' ds)
theorem Base.upd(hb:Base F0 w0 B F M w){k b off t:Nat}{n:Int}{α:Type}{d:α}{enc:α->List D}{l:List α}{x:α}{cells:List D}{us:List Value}{cur:Array Value}{nn cap:Nat}{fz:Nat×Nat}(hm:M k t [.aR false d enc l])
  (hB:B k=some (.row (some b) nn cap)) (hh:w.heap[b]? = some (.cells cur t fz)) (hoff:off+cells.length<=(enc d).length) (h0:0<=n) (hn:n<(l.length:Int))
  (hu:aA F w B cells us) (hno:D.bU cells=true) (hx:bf (setCells (enc (l[n.toNat]?.getD d)) off cells) (enc x)) :
  Base F0 w0 B F (kR k t (.aR false d enc (l.set n.toNat x)) M) (w.setRow b (bW cur.toList (n.toNat*(enc d).length+off) us).toArray)/\Grow F F w (w.setRow b (bW cur.toList (n.toNat*(enc d).length+off) us).toArray):=by
 obtain⟨p,n0,cap0,hB',hrow⟩:=hb.jq hm
 rw[hB] at hB';cases hB'
 obtain⟨hn0,hpos,hge,xs,hxs,hown,hfz⟩:=hrow
 have hnf:∀j,¬F b j:=fun j hj=>by have:=(hfz b rfl j).1 hj;simp at this
 have hg:Grow F F w (w.setRow b (bW cur.toList (n.toNat*(enc d).length+off) us).toArray):=⟨fun _ _ h=>h,fun g j hF=>cell_setRow_other _ _ _ _ (fun e=>by simp only at e;subst e;exact hnf j hF),fun g j hF=>lW (setRow_other _ _ _ _ fun e=>by subst e;exact hnf j hF)⟩
 have hlt:n.toNat<l.length:=by omega
 have hul:=aA.length hu
 refine hb.turn (dY hB) ⟨_,_,hm⟩ hnf rfl fun j t' es hl=>?_
 rcases hl with⟨rfl,rfl,rfl⟩|⟨hjk,hy⟩
 rotate_left
 ·exact⟨⟨_,_,hy⟩,fun h=>absurd h hjk,fun _=>hy⟩
 refine⟨⟨_,_,hm⟩,fun _=>?_,fun h=>absurd rfl h⟩
 rcases hown.2 with⟨hp,_⟩|⟨g,cur',fz',hp,hh',hfr,hnc,hcm,hcs,htk⟩
 ·cases hp
 ·cases hp
  rw[hh] at hh'
  cases hh'
  have hle:n.toNat*(enc d).length+(enc d).length<=nn*(enc d).length:=by rw[<-Nat.succ_mul];exact Nat.mul_le_mul_right _ (by omega)
  have hcl:nn*(enc d).length<=cur.size:=by rw[hcs];exact Nat.mul_le_mul_right _ hnc
  have hsl:(bW cur.toList (n.toNat*(enc d).length+off) us).length=cur.size:=by
   unfold bW;simp;omega
  refine .row false d enc _ (some b) nn cap hB ⟨by rw[List.length_set,hn0],hpos,hge,bW xs (n.toNat*(enc d).length+off) us,?_,⟨?_,.inr ⟨b,_,fz,rfl,setRow_heap _ _ _ _ _ _ hh,?_,hnc,hcm,by simpa using hsl.trans hcs,?_⟩⟩,fun b' hb' j=>?_⟩
  ·have hx':bf (setCells (enc (l[n.toNat])) off cells) (enc x):=by rw[List.getElem?_eq_getElem hlt] at hx;exact hx
   exact(uF (fun x=>(hge x).1) hoff l n.toNat _ (List.getElem?_eq_getElem hlt) hx').rep ((aA.sets (hu.bare hno) _ hxs).grow hg)
  ·have:=hown.1
   unfold bW;simp;omega
  ·intro j hj;exact hfr j (by simpa[hsl] using hj)
  ·rw[<-htk]
   unfold bW
   simp only[List.toList_toArray]
   have e1:n.toNat*(enc d).length+off+us.length<=nn*(enc d).length:=by omega
   rw[List.take_append,List.take_append]
   have l1:(cur.toList.take (n.toNat*(enc d).length+off)).length=n.toNat*(enc d).length+off:=by simp;omega
   rw[l1,List.take_of_length_le (by rw[l1];omega),List.take_of_length_le (l:=us) (by omega)]
   rw[List.take_take,List.length_append,l1,List.drop_take]
   rw[Nat.min_eq_left (by omega)]
  ·have hb2:b'=b:=by cases hb';rfl
   subst hb2
   exact hfz b' rfl j
theorem Base.keep(hb:Base F0 w0 B F M w){k t:Nat}{ds:List D}(hk:M k t ds){F':Fz}(hF:∀g j,F g j->F' g j)(hF':∀g j,F' g j->F g j\/bM B k=some g){M':Mem}
  (hM:∀j t' es,M' j t' es->(∃t es,M j t es)/\(j=k->jM F' w B j t' es)/\(j≠k->jM F w B j t' es)):Base F0 w0 B F' M' w/\Grow F F' w w:=by
 have hg:Grow F F' w w:=⟨hF,fun _ _ _=>rfl,fun _ _ _ _ _ h=>h⟩
 refine⟨⟨fun j t' es hl=>?_,fun j t' es b hl hbk=>?_,fun i j c hi hj hBi hBj=>?_,fun g j h=>?_,fun g j h=>?_,hb.grow.trans hg,hb.below,hb.env⟩,hg⟩
 ·obtain⟨⟨t1,e1,h1⟩,h2,h3⟩:=hM _ _ _ hl
  by_cases hjk:j=k
  ·exact h2 hjk
  ·refine(h3 hjk).grow hg rfl (fun _ _ _ h=>h) fun b hbj=>⟨rfl,fun i hi=>?_⟩
   rcases hF' _ _ hi with h|h
   ·exact h
   ·exact absurd (hb.inj j k b ⟨_,_,h1⟩ ⟨_,_,hk⟩ hbj h) hjk
 ·obtain⟨⟨t1,e1,h1⟩,_,_⟩:=hM _ _ _ hl
  exact hb.new _ _ _ _ h1 hbk
 ·obtain⟨t1,d1,h1⟩:=hi
  obtain⟨t2,d2,h2⟩:=hj
  exact hb.inj i j c (hM _ _ _ h1).1 (hM _ _ _ h2).1 hBi hBj
 ·rcases hF' _ _ h with h|h
  ·exact hb.frz _ _ h
  ·exact(hb.boxes _ _ _ hk).lt h
 ·rcases hF' _ _ h with h|h
  ·exact hb.more _ _ h
  ·exact .inr (hb.new _ _ _ _ hk h)
theorem Base.rU(hb:Base F0 w0 B F M w){k t:Nat}{m:Bool}{α:Type}{d:α}{enc:α->List D}{l:List α}(hk:M k t [.aR m d enc l]) :
  ∃F',Base F0 w0 B F' (kR k t (.aR true d enc l) M) w/\Grow F F' w w:=by
 obtain⟨p,n,cap,hB,hrow⟩:=hb.jq hk
 obtain⟨hn,hpos,hge,xs,hxs,hown,hfz⟩:=hrow
 refine⟨uS F true p (n*(enc d).length),hb.keep hk (fun g j h=>.inl h) (fun g j h=>?_) fun j t' es hl=>?_⟩
 ·rcases h with h|⟨_,h,_⟩
  ·exact .inl h
  ·exact .inr (by rw[dY hB,h])
 ·rcases hl with⟨rfl,rfl,rfl⟩|⟨hjk,hy⟩
  ·refine⟨⟨_,_,hk⟩,fun _=>.row true d enc l p n cap hB ⟨hn,hpos,hge,xs,hxs.grow ⟨fun _ _ h=>.inl h,fun _ _ _=>rfl,fun _ _ _ _ _ h=>h⟩,hown,fun b hb' i=>⟨?_,fun⟨h1,h2⟩=>.inr ⟨h1,hb',h2⟩⟩⟩,fun h=>absurd rfl h⟩
   rintro(h|⟨h1,_,h2⟩)
   ·exact⟨rfl,((hfz b hb' i).1 h).2⟩
   ·exact⟨h1,h2⟩
  ·exact⟨⟨_,_,hy⟩,fun h=>absurd h hjk,fun _=>hb.boxes _ _ _ hy⟩
theorem Cm{k:Nat}{cs:List D}:∀d r,oV k cs d=some r->r.flat=true:=by
 intro d r h
 cases d<;>simp only[oV] at h<;>first|(cases h;done)|(split at h<;>cases h<;>rfl)
theorem Es{k:Nat}{cs:List D}:∀d v,oV k cs d≠some (.val v):=by
 intro d v h
 cases d<;>simp only[oV] at h<;>first|(cases h;done)|(split at h<;>cases h)
theorem yX{s:D->Option D}{m:Bool}{α:Type}{d:α}{enc:α->List D}{l:List α}:D.subs s [.aR m d enc l]=[.aR m d enc l]:=rfl
theorem Base.ground(hb:Base F0 w0 B F M w){L:ay}(hL:RowsIn M L){k t:Nat}{ds:List D}(hk:M k t ds)(hno:D.bU (D.ig L ds)=true)(hfl0:ds.all D.flat=true) :
  ∃F',Base F0 w0 B F' (fun j t' es=>∃es',j≠k/\M j t' es'/\es=D.subs (oV k (D.ig L ds)) es') w/\Grow F F' w w/\jR F' w B B (oV k (D.ig L ds)):=by
 have hh:=hb.boxes _ _ _ hk
 cases hh with
 |row m d enc l p n cap hB h=>simp[D.flat] at hfl0
 |map kk ag d enc l b hB h=>simp[D.flat] at hfl0
 |obj b o S hB=>simp[D.flat] at hfl0
 |box _ b vs hB hr hfl hh hnf =>
  have hcs:=(hr.jf hb hL).bare (B':=NB) hno
  have hF:∀g j,F g j->F g j\/(g=b/\j<vs.length):=fun g j h=>.inl h
  have hgr:Grow F (fun g j=>F g j\/(g=b/\j<vs.length)) w w:=⟨hF,fun _ _ _=>rfl,fun _ _ _ _ _ h=>h⟩
  have hsub:jR (fun g j=>F g j\/(g=b/\j<vs.length)) w B B (oV k (D.ig L ds)):=by
   refine⟨fun d r v h hv=>?_,fun _ _ _=>rfl,fun _ _=>rfl,fun _ _=>rfl,fun _ _=>rfl,fun _ _ _ _ _=>rfl,fun _ _=>rfl⟩
   cases d<;>simp only[oV] at h<;>first|(cases h;done)|skip
   ·rename_i j off
    split at h
    ·rename_i hjk
     subst hjk
     cases h
     cases hv with
     |own _ _ b' hB' =>
      rw[hB] at hB';cases hB'
      refine .el _ (vs.drop off) b off ((hcs.grow hgr).drop off) fun i hi=>?_
      have hi':off+i<vs.length:=by simp at hi;omega
      refine⟨.inr ⟨rfl,hi'⟩,?_⟩
      rw[rq hh]
      simp
    ·cases h
   ·rename_i j
    split at h
    ·cases h;cases hv;rename_i hv;rcases hv with rfl|rfl<;>exact .hole _ rfl
    ·cases h
   ·rename_i j
    split at h
    ·cases h;cases hv<;>exact .hole _ rfl
    ·cases h
   ·rename_i j
    split at h
    ·cases h;cases hv<;>exact .hole _ rfl
    ·cases h
   ·rename_i j
    split at h
    ·cases h;cases hv<;>exact .hole _ rfl
    ·cases h
   ·rename_i j i z off
    split at h
    ·cases h;cases hv<;>exact .hole _ rfl
    ·cases h
  have hsub0:∀es us,aA F w B es us->aA (fun g j=>F g j\/(g=b/\j<vs.length)) w B (D.subs (oV k (D.ig L ds)) es) us:=fun es us h=>(h.grow hgr).sub hsub
  refine⟨fun g j=>F g j\/(g=b/\j<vs.length),?_,hgr,hsub⟩
  have hblk:∀g j,(F g j\/(g=b/\j<vs.length))->F g j\/bM B k=some g:=by
   rintro g j (h|⟨rfl,_⟩)
   ·exact .inl h
   ·exact .inr (ia hB)
  have hkk:M k t ds:=hk
  refine⟨fun j t' es hl=>?_,fun j t' es c hl hbk=>?_,fun i j c hi hj hBi hBj=>?_,fun g j h=>?_,fun g j h=>?_,hb.grow.trans hgr,hb.below,hb.env⟩
  ·obtain⟨es',hjk,hm,rfl⟩:=hl
   have hold:=hb.boxes _ _ _ hm
   have hkeep:∀c,bM B j=some c->w.heap[c]? = w.heap[c]?/\∀i,(F c i\/(c=b/\i<vs.length))->F c i:=by
    intro c hc
    refine⟨rfl,fun i hi=>?_⟩
    rcases hblk _ _ hi with h|h
    ·exact h
    ·exact absurd (hb.inj j k c ⟨_,_,hm⟩ ⟨_,_,hk⟩ hc h) hjk
   cases hold with
   |box _ c us hB' hr' hfl' hh' hnf'=>exact .box _ c us hB' (hsub0 _ _ hr') (kP Cm hfl') hh' fun i hi=>hnf' i ((hkeep c (ia hB')).2 i hi)
   |row m d enc l p n cap hB' h=>rw[yX];exact .row m d enc l p n cap hB' (h.grow hgr fun c hc=>hkeep c (by rw[dY hB',hc]))
   |map kk ag d enc l c hB' h=>exact .map kk ag d enc l c hB' (h.grow hgr (hkeep c (gp hB')))
   |obj c o S hB' h2 h3 h4 h5=>exact .obj c o S hB' h2 (fun i hi=>h3 i ((hkeep c (gp hB')).2 i hi)) (h5 _ _ _ _ hgr h4) h5
  ·obtain⟨es',hjk,hm,rfl⟩:=hl
   exact hb.new _ _ _ _ hm hbk
  ·obtain⟨t1,d1,_,_,h1,_⟩:=hi
   obtain⟨t2,d2,_,_,h2,_⟩:=hj
   exact hb.inj i j c ⟨_,_,h1⟩ ⟨_,_,h2⟩ hBi hBj
  ·rcases hblk _ _ h with h|h
   ·exact hb.frz _ _ h
   ·exact(hb.boxes _ _ _ hk).lt h
  ·rcases hblk _ _ h with h|h
   ·exact hb.more _ _ h
   ·exact .inr (hb.new _ _ _ _ hk h)
theorem Da{o:Oper}{d:D}{K:Act->World->Prop}(h:aY P F w B M a o (.val d))(hK:∀v,Rep F w B d v->K (a.put o.dst v) w):o.wp P a w K Q:=by
 obtain⟨v,hrun,hr⟩:=h
 unfold Oper.wp
 rw[hrun]
 exact hK v hr
theorem xw{o:Oper}{f:Nat}{args:List D}{r:D}{K:Act->World->Prop}(h:aY P F w B M a o (.call f args))(hb:Base F0 w0 B F M w)(hn:D.bU args=true)(hc:CX P f args r)
  (hK:∀v w' F',Base F0 w0 B F' M w'->Grow F F' w w'->Rep F' w' B r v->K (a.put o.dst v) w'):o.wp P a w K Q:=by
 obtain⟨vs,hr,hrun⟩:=h
 unfold Oper.wp
 rw[hrun]
 rcases hc with⟨hf,hcalls⟩|hext
 rotate_left
 ·obtain⟨v,h1,h2⟩:=hext F w B vs hr
  rw[h1]
  exact hK v w F hb (Grow.refl _ _) (h2.lift fun _=>rfl)
 rw[ni hf]
 refine(hcalls F w vs hb.shp hb.frz (hr.bare hn)).mono ?_
 rintro e w' ⟨v,rfl,hrep,hbel⟩
 obtain⟨h1,h2⟩:=hb.callee hbel
 exact hK v w' _ h1 h2 (hrep.lift fun _=>rfl)
theorem Eo{o:Oper}{e:Nat}{m:Bool}{spec:D->Prop}{r:D}{K:Act->World->Prop}(h:aY P F w B M a o (.row e m none spec))(hb:Base F0 w0 B F M w)(hs:spec r)(hgood:bP r)
  (hK:∀v w' F',Base F0 w0 B F' M w'->Grow F F' w w'->Rep F' w' B r v->K (a.put o.dst v) w'):o.wp P a w K Q:=by
 cases r<;>first|(cases hgood;done)|skip
 rename_i α d enc l
 obtain⟨p,n,cap,w',xs,p0,pre,v,hrun,hv,hn,hr,hown,hstep,hpre,hp0⟩:=h α d enc l hs hgood
 simp only at hp0
 subst hp0
 unfold Oper.wp
 rw[hrun]
 have hsz:=hb.below.size
 have hgr:w.grownBy w' none:=by rcases hstep with⟨_,h,_⟩|⟨_,h⟩<;>exact h
 have hp:∀b,p=some b->b=w.heap.size:=by
  intro b hb'
  rcases hstep with⟨h,_⟩|⟨h,_⟩<;>rw[h] at hb'<;>cases hb'
  rfl
 have hblocks:∀b,b<w.heap.size->w'.heap[b]? = w.heap[b]?:=fun b hlt=>hgr.block b hlt (by simp)
 have hg:Grow F (uS F true p (n*(enc d).length)) w w':=⟨fun _ _ h=>.inl h,fun g k hF=>by simp[World.cell?,hblocks g (hb.frz g k hF)],fun g k hF=>lW (hblocks g (hb.frz g k hF))⟩
 have hplt:∀b,p=some b->b<w'.heap.size:=by
  intro b hpb'
  rcases hown.2 with⟨h,_⟩|⟨g,cur,fz,h,hh,_⟩
  ·rw[h] at hpb';cases hpb'
  ·rw[h] at hpb';cases hpb';exact(Array.getElem?_eq_some_iff.1 hh).1
 refine hK _ w' (uS F true p (n*(enc d).length)) ⟨fun k t ds hl=>?_,hb.new,hb.inj,fun g k hF=>?_,fun g k hF=>?_,hb.grow.trans hg,hb.below.trans ⟨hgr.os,hgr.tape,hgr.output,hgr.size,fun k hk _=>hblocks k (by omega)⟩,hb.env⟩ hg ?_
 ·have hh:=hb.boxes _ _ _ hl
  refine hh.grow hg rfl (fun _ _ _ h=>h) fun b hbk=>?_
  have hlt:=hh.lt hbk
  refine⟨hblocks b hlt,fun j hj=>?_⟩
  rcases hj with hj|⟨_,hj,_⟩
  ·exact hj
  ·have:=hp b hj;omega
 ·rcases hF with h|⟨_,h,_⟩
  ·have:=hb.frz g k h;have:=hgr.size;omega
  ·exact hplt g h
 ·rcases hF with h|⟨_,h,_⟩
  ·exact hb.more g k h
  ·have:=hp g h;exact .inr (.inl (by omega))
 ·have hrow:nN (uS F true p (n*(enc d).length)) w' p n cap e true d enc l:=by
   refine⟨hn,hgood.1,hgood.2,xs,hr.grow hg,hown,fun b hb' j=>⟨?_,fun⟨h1,h2⟩=>.inr ⟨h1,hb',h2⟩⟩⟩
   rintro(h|⟨h1,_,h2⟩)
   ·have:=hb.frz b j h;have:=hp b hb';omega
   ·exact⟨h1,h2⟩
  exact hrow.EU hv
theorem zh{o:Oper}{t e:Nat}{m:Bool}{old:Option Nat}{spec:D->Prop}{α:Type}{d:α}{enc:α->List D}{l:List α}{K:Act->World->Prop}(h:aY P F w B M a o (.row e m old spec))(hb:Base F0 w0 B F M w)
  (hs:spec (.recs d enc l)) (hgood:bP (.recs d enc l)) {M':Mem} (ht:t<LIM) (hold:∀k,old=some k->∃(tt:Nat)(α:Type)(d:α)(enc:α->List D)(l:List α),M k tt [.aR m d enc l])
  (hM:∀k t' ds,M' k t' ds->M k t' ds/\k≠t/\some k≠old/\D.bD t ds=false)
  (hK:∀v w' F' r,Base F0 w0 (setB B t r) F' (lK t e [.aR m d enc l] M') w'->Grow F F' w w'->Rep F' w' (setB B t r) (.row t) v->K (a.put o.dst v) w'):o.wp P a w K Q:=by
 obtain⟨p,n,cap,w',xs,p0,pre,v,hrun,hv,hn,hr,hown,hstep,hpre,hp0⟩:=h α d enc l hs hgood
 unfold Oper.wp
 rw[hrun]
 have hbase:=hb.row (t:=t) (e:=e) (m:=m) hn hr hgood hown hstep hpre (fun b hb'=>?_) (B':=setB B t (.row p n cap)) (fF _ _ _) (fun k hk=>bJ _ _ _ _ (by omega)) (M':=M')
  (fun k t' ds hm=>⟨(hM _ _ _ hm).1,(hM _ _ _ hm).2.1,bJ _ _ _ _ (hM _ _ _ hm).2.1,fun F w vs hr=>hr.fO t (bJ _ _ _) (hM _ _ _ hm).2.2.2⟩) (fun b hb' k hk hbk=>?_)
 ·exact hK _ w' _ _ hbase.1 hbase.2 (.row_of (fF _ _ _) hv)
 ·cases old with
  |none=>simp only at hp0;rw[hp0] at hb';cases hb'
  |some k =>
   obtain⟨n0,cap0,hB,hfr⟩:=hp0
   obtain⟨tt,α',d',enc',l',hm⟩:=hold k rfl
   have hbk:bM B k=some b:=by rw[dY hB,hb']
   refine⟨hb.new _ _ _ _ hm hbk,(hb.boxes _ _ _ hm).lt hbk,fun j hj=>⟨?_,hfr b hb' j hj⟩⟩
   obtain⟨p1,n1,c1,hB1,hrow⟩:=hb.jq hm
   rw[hB] at hB1;cases hB1
   obtain⟨_,_,_,_,_,_,h6⟩:=hrow
   exact((h6 b hb' j).1 hj).1
 ·cases old with
  |none=>simp only at hp0;rw[hp0] at hb';cases hb'
  |some k0 =>
   obtain⟨n0,cap0,hB,hfr⟩:=hp0
   obtain⟨tt,α',d',enc',l',hm⟩:=hold k0 rfl
   obtain⟨t',ds,hk'⟩:=hk
   have:=hb.inj k k0 b ⟨_,_,(hM _ _ _ hk').1⟩ ⟨_,_,hm⟩ hbk (by rw[dY hB,hb'])
   exact(hM _ _ _ hk').2.2.1 (by rw[this])
theorem Gi{o:Oper}{k off:Nat}{n:Int}{z t:Nat}{α:Type}{d:α}{enc:α->List D}{l:List α}{x:α}{cells:List D}{K:Act->World->Prop}(h:aY P F w B M a o (.upd k n z off cells))(hb:Base F0 w0 B F M w)
  (hm:M k t [.aR false d enc l]) (hz:z=(enc d).length) (h0:0<=n) (hn:n<(l.length:Int)) (hfl:cells.all D.flat=true) (hno:D.bU cells=true) (hx:bf (setCells (enc (l[n.toNat]?.getD d)) off cells) (enc x))
  (hK:∀w',Base F0 w0 B F (kR k t (.aR false d enc (l.set n.toNat x)) M) w'->Grow F F w w'->K (a.put o.dst undef) w'):o.wp P a w K Q:=by
 obtain⟨us,hu,hall⟩:=h
 obtain⟨b,nn,cap,cur,fz,hB,hh,hoff,hrun⟩:=hall t α d enc l hm hz h0 hn hfl
 subst hz
 unfold Oper.wp
 rw[hrun]
 obtain⟨h1,h2⟩:=hb.upd hm hB hh hoff h0 hn hu hno hx
 exact hK _ h1 h2
theorem zf{o:Oper}{spec:D->Prop}{d:D}{K:Act->World->Prop}(h:aY P F w B M a o (.known spec))(hs:spec d)(hK:∀v,Rep F w B d v->K (a.put o.dst v) w):o.wp P a w K Q:=by
 obtain⟨v,hrun,hr⟩:=h d hs
 unfold Oper.wp
 rw[hrun]
 exact hK v hr
theorem CO{o:Oper}{t ty:Nat}{cells:List D}{K:Act->World->Prop}(h:aY P F w B M a o (.box ty cells))(hb:Base F0 w0 B F M w)(hfl:cells.all D.flat=true){B':Env}(hB':B' t=some (.box w.heap.size))(henv:∀k,LIM<=k->B' k=B k){M':Mem}
  (hcells:∀F w vs,aA F w B cells vs->aA F w B' cells vs)
  (hM:∀k t' ds,M' k t' ds->M k t' ds/\k≠t/\B' k=B k/\∀F w vs,aA F w B ds vs->aA F w B' ds vs)
  (hK:∀w',Base F0 w0 B' F (lK t ty cells M') w'->Grow F F w w'->K (a.put o.dst (.pointer (some ⟨w.heap.size,0,none⟩))) w'):o.wp P a w K Q:=by
 obtain⟨vs,hr,hrun⟩:=h
 unfold Oper.wp
 rw[hrun]
 obtain⟨h1,h2⟩:=hb.box hr hfl hB' henv hcells hM
 exact hK _ h1 h2
theorem zo{o:Oper}{k off:Nat}{cells:List D}{K:Act->World->Prop}(h:aY P F w B M a o (.store k off cells))(hb:Base F0 w0 B F M w)(hfl:cells.all D.flat=true)
  (hK:∀w',Base F0 w0 B F (ve k off cells M) w'->Grow F F w w'->K (a.put o.dst undef) w'):o.wp P a w K Q:=by
 obtain⟨b,t,ds,vs,us,hB,hl,hr,hh,hu,hlen,hrun⟩:=h
 unfold Oper.wp
 rw[hrun hfl]
 obtain⟨h1,h2⟩:=hb.store (off:=off) hB hl hh hu hfl
 exact hK _ h1 h2
theorem Base.sub{M':Mem}(hb:Base F0 w0 B F M w)(h:∀k t ds,M' k t ds->M k t ds):Base F0 w0 B F M' w :=
 ⟨fun k t ds hl=>hb.boxes k t ds (h _ _ _ hl),fun k t ds b hl=>hb.new k t ds b (h _ _ _ hl),fun i j b hi hj=>hb.inj i j b (hi.imp fun _ h1=>h1.imp fun _ hx=>h _ _ _ hx) (hj.imp fun _ h1=>h1.imp fun _ hx=>h _ _ _ hx),hb.frz,hb.more,hb.grow,hb.below,hb.env⟩
theorem Bd{k off:Nat}{cells:List D}{L:ay}{j t:Nat}{ds:List D}(h:aJ (vd k off cells L) j t ds):ve k off cells (aJ L) j t ds:=by
 unfold aJ vd at h
 obtain⟨y,hy,he⟩:=List.mem_map.1 h
 obtain⟨j',y1,y2⟩:=y
 simp only at he
 split at he
 ·cases he;exact⟨y2,hy,by simp[*]⟩
 ·cases he;exact⟨_,hy,by simp[*]⟩
def iN(F:Fz)(w:World)(B:Env)(tab:List (Nat×Bool))(a:Act)(e:Ent):Prop :=
 (holds tab e.cnd=true->∃v,a.tmps[e.slot]? = some v/\Rep F w B e.d v)/\(holds tab e.cnd=false->a.tmps[e.slot]? = some undef)
theorem iN.grow{F':Fz}{w':World}{tab}{e:Ent}(h:iN F w B tab a e)(g:Grow F F' w w'):iN F' w' B tab a e :=
 ⟨fun hh=>let ⟨v,h1,h2⟩:=h.1 hh;⟨v,h1,h2.grow g⟩,h.2⟩
structure ft{P:Program}(nt:Nat)(ops:List Oper)(F0:Fz)(w0:Pt P)(B:Env)(F:Fz)(s:ES)(S:Nat->Prop)(a:Act)(w:World):Prop where
 base:Base F0 w0 B F (aJ s.L) w
 defers:a.defers=w0.defs
 size:a.tmps.size=nt
 ents:∀e∈s.K,iN F w B s.tab a e
 keys:∀e∈s.K,∀x∈e.cnd,S x.1
 srcs:∀e∈s.K,e.src=0\/S (e.src-1)
 kF:∀e∈s.K,∀j,e.src=j+1->((ops[j]?).bind (·.dst))=some e.slot/\∀b,e.d=.val (.bool b)->tv s.tab j=b
theorem qB{tab:List (Nat×Bool)}{i j:Nat}{b:Bool}(h:j≠i):tv ((i,b)::tab) j=tv tab j:=by
 unfold tv
 rw[List.lookup_cons]
 have:(j==i)=false:=by simpa using h
 simp[this]
theorem xe{tab:List (Nat×Bool)}{i:Nat}{b:Bool}:tv ((i,b)::tab) i=b:=by simp[tv]
theorem j3(tab:List (Nat×Bool))(x:Nat×Bool)(c:Cnd):holds tab (x::c)=((tv tab x.1==x.2)&&holds tab c):=by
 cases c with
 |nil=>simp[holds]
 |cons y c=>rfl
theorem nY{tab tab':List (Nat×Bool)}:∀{c:Cnd},(∀x∈c,tv tab' x.1=tv tab x.1)->holds tab' c=holds tab c
 |[],_=>rfl
 |x::c,h=>by
  rw[j3,j3,h x (by simp),nY (fun y hy=>h y (by simp[hy]))]
theorem xI{tab:List (Nat×Bool)}:∀{c:Cnd},holds tab c=true↔∀x∈c,tv tab x.1=x.2
 |[]=>by simp[holds]
 |x::c=>by
  rw[j3,Bool.and_eq_true,xI]
  simp
theorem vg{tab:List (Nat×Bool)}{c c':Cnd}(h:c.le c'=true)(h':holds tab c'=true):holds tab c=true:=by
 rw[xI] at *
 intro x hx
 unfold Cnd.le at h
 have:=List.all_eq_true.1 h x hx
 obtain⟨y,hy,he⟩:=List.any_eq_true.1 this
 simp only[Bool.and_eq_true,beq_iff_eq] at he
 rw[he.1,he.2]
 exact h' y hy
theorem ox{i j:Nat}{d:D}{tab}(h:j≠i):tv (di i d tab) j=tv tab j:=by
 unfold di;split
 ·exact qB h
 ·rfl
theorem fA{i:Nat}{b:Bool}{tab}:tv (di i (.val (.bool b)) tab) i=b:=by simp[di,xe]
theorem oO{e x:Ent}{K:List Ent}(h:x∈fJ e K):x=e\/(x∈K/\x.slot≠e.slot):=by
 unfold fJ at h
 rcases List.mem_cons.1 h with h|h
 ·exact .inl h
 ·obtain⟨h1,h2⟩:=List.mem_filter.1 h
  exact .inr ⟨h1,by simpa using h2⟩
theorem qY{a:Act}{t:Nat}{v:Value}(h:t<a.tmps.size):(a.put (some t) v).tmps[t]? = some v:=by
 simp[Act.put,h]
theorem ye{a:Act}{t u:Nat}{v:Value}(h:u≠t):(a.put (some t) v).tmps[u]? = a.tmps[u]?:=by
 simp only[Act.put]
 rw[Array.getElem?_setIfInBounds_ne (by omega)]
theorem yB{a:Act}{t:Option Nat}{v:Value}:(a.put t v).tmps.size=a.tmps.size:=by cases t<;>simp[Act.put]
theorem put_defers{a:Act}{t:Option Nat}{v:Value}:(a.put t v).defers=a.defers:=by cases t<;>rfl
theorem jV{K:List Ent}{t:Nat}{e:Ent}(h:ju K t=some e):e∈K/\e.slot=t:=by
 unfold ju at h
 exact⟨List.mem_of_find?_eq_some h,by simpa using List.find?_some h⟩
theorem nC{a:Act}{t:Nat}{v:Value}(h:a.tmps[t]? = some v):a.eval (.tmp t)=v:=by
 simp[Act.eval,Array.getD_eq_getD_getElem?,h]
theorem bF{tab}{K:List Ent}(hE:∀e∈K,iN F w B tab a e){g:Cnd}(hg:holds tab g=true):eE F w B a (getOp K g):=by
 intro x d h
 cases x with
 |tmp t =>
  simp only[getOp] at h
  split at h
  ·rename_i e he
   split at h
   ·rename_i hle
    cases h
    obtain⟨hm,rfl⟩:=jV he
    obtain⟨v,h1,h2⟩:=(hE e hm).1 (vg hle hg)
    rw[nC h1];exact h2
   ·cases h
  ·cases h
 |const v =>
  simp only[getOp] at h
  unfold C4 at h
  split at h
  ·cases h;exact Rep.ofValue v (by assumption)
  ·split at h
   ·rename_i vs _
    split at h
    ·rename_i hall
     cases h
     exact Rep.agg _ _ (ofValues (F:=F) (w:=w) (B:=B) vs.toList hall)
    ·cases h
   ·cases h
 |global g=>simp[getOp] at h
 |func f =>
  simp only[getOp] at h
  cases h
  exact .fn f [] [] .nil
theorem uM{nt:Nat}{ops:List Oper}{s:ES}{S:Nat->Prop}{g:Cnd}{gd:Option (Nat×Bool)}(hi:ft nt ops F0 w0 B F s S a w)(h:gV ops s.K gd=some g){o:Oper}(ho:o.guard=gd) :
  Region.wanted o (yielded ops.toArray a.tmps)=holds s.tab g/\∀x∈g,S x.1:=by
 unfold gV at h
 split at h
 ·cases h
  exact⟨by simp[Region.wanted,ho,holds],by simp⟩
 ·rename_i j want
  split at h
  ·cases h
  ·rename_i t ht
   split at h
   ·cases h
   ·rename_i e he
    split at h
    ·rename_i hsrc
     obtain⟨hm,hslot⟩:=jV he
     obtain⟨hd1,hd2⟩:=hi.kF e hm j hsrc
     split at h
     ·rename_i b hb
      cases h
      refine⟨?_,fun x hx=>?_⟩
      ·rw[j3]
       simp only[Region.wanted,ho]
       have hy:yielded ops.toArray a.tmps j=match a.tmps[t]? with|some (.bool b)=>some b|_=>none:=by
        unfold yielded
        simp only[List.getElem?_toArray,ht]
        rfl
       rw[hd2 b hb]
       cases hc:holds s.tab e.cnd with
       |true =>
        obtain⟨v,h1,h2⟩:=(hi.ents e hm).1 hc
        rw[hb] at h2;cases h2
        rw[hy,<-hslot,h1]
        cases b<;>cases want<;>rfl
       |false =>
        have h1:=(hi.ents e hm).2 hc
        rw[hy,<-hslot,h1]
        simp[undef]
      ·rcases List.mem_cons.1 hx with rfl|hx
       ·have:=hi.srcs e hm
        rw[hsrc] at this
        simpa using this
       ·exact hi.keys e hm x hx
     ·cases h
    ·cases h
end
end Go.Proofs.YtpmmhhmhckpnfaaDoor.RX
namespace Go.Proofs.YtpmmhhmhckpnfaaDoor.RX
open Go.RowKit
mutual
theorem Rep.lU{F:Fz}{w:World}{B B':Env}:∀{d v},Rep F w B d v->(∀k,D.names k d=true->B' k=B k)->Rep F w B' d v
 |_,_,.val v hv,_=>.val v hv
 |_,_,.str l,_=>.str l
 |_,_,.own i off b h,hn=>.own i off b ((hn i (by simp[D.names])).trans h)
 |_,_,.opt i b v h hv,hn=>.opt i b v ((hn i (by simp[D.names])).trans h) hv
 |_,_,.dq j p n cap h,hn=>.dq j p n cap ((hn j (by simp[D.names])).trans h)
 |_,_,.mp i b h,hn=>.mp i b ((hn i (by simp[D.names])).trans h)
 |_,_,.agg ds vs h,hn=>.agg ds vs (aA.lU h hn)
 |_,_,.tup ds vs h,hn=>.tup ds vs (aA.lU h hn)
 |_,_,.bV d enc p,_=>.bV d enc p
 |_,_,.recs d enc l gb off cap size vs hz h1 h2 h3 hc,_=>.recs d enc l gb off cap size vs hz h1 h2 h3 hc
 |_,_,.el ds vs gb off h h2,_=>.el ds vs gb off h h2
 |_,_,.fn f ds vs h,hn=>.fn f ds vs (aA.lU h hn)
 |_,_,.row j p n cap h,hn=>.row j p n cap ((hn j (by simp[D.names])).trans h)
 |_,_,.dC j q h,hn=>.dC j q ((hn j (by simp[D.names])).trans h)
 |_,_,.elm j n z off b nn cap h,hn=>.elm j n z off b nn cap ((hn j (by simp[D.names])).trans h)
 |_,_,.tree d pre kids l v h,_=>.tree d pre kids l v (Rep.lU h fun k hk=>by simp[D.names] at hk)
 |_,_,.arr d enc l vs hg h,_=>.arr d enc l vs hg h
 |_,_,.aI kk ag d enc l b clock es ds hf hh hs hl h1 h2,_=>.aI kk ag d enc l b clock es ds hf hh hs hl h1 h2
 |_,_,.hole v hv,_=>.hole v hv
theorem aA.lU{F:Fz}{w:World}{B B':Env}:∀{ds vs},aA F w B ds vs->(∀k,D.bD k ds=true->B' k=B k)->aA F w B' ds vs
 |_,_,.nil,_=>.nil
 |_,_,.cons d v ds vs h hs,hn=>.cons d v ds vs (Rep.lU h fun k hk=>hn k (by simp[D.bD,hk])) (aA.lU hs fun k hk=>hn k (by simp[D.bD,hk]))
end
theorem nG{F:Fz}{w:World}{B:Env}{v:Value}(h:Rep F w B never v):False:=by
 unfold never at h
 cases h with
 |agg ds vs h=>cases h with
  |cons d v ds vs h hs=>cases h
def pull(ren:List (Nat×Nat))(B:Env):Env:=fun j=>(ren.lookup j).bind B
mutual
theorem Rep.pull{F:Fz}{w:World}{B:Env}{ren:List (Nat×Nat)}:∀(d:D){v},Rep F w B (D.sub (bX never ren) d) v->Rep F w (RX.pull ren B) d v
 |.val _,_,.val v hv=>.val v hv
 |.str _,_,.str l=>.str l
 |.own i off,v,h=>by
  unfold D.sub at h
  simp only[bX] at h
  cases he:ren.lookup i with
  |none=>rw[he] at h;exact(nG h).elim
  |some k =>
   rw[he] at h
   simp only[Option.getD_some] at h
   cases h with
   |own _ _ b hB=>exact .own i off b (by simp[RX.pull,he,hB])
 |.opt i,v,h=>by
  unfold D.sub at h
  simp only[bX] at h
  cases he:ren.lookup i with
  |none=>rw[he] at h;exact(nG h).elim
  |some k =>
   rw[he] at h
   simp only[Option.getD_some] at h
   cases h with
   |opt _ b v hB hv=>exact .opt i b v (by simp[RX.pull,he,hB]) hv
 |.dq i,v,h=>by
  unfold D.sub at h
  simp only[bX] at h
  cases he:ren.lookup i with
  |none=>rw[he] at h;exact(nG h).elim
  |some k =>
   rw[he] at h
   simp only[Option.getD_some] at h
   cases h with
   |dq _ p n cap hB=>exact .dq i p n cap (by simp[RX.pull,he,hB])
 |.mp i,v,h=>by
  unfold D.sub at h
  simp only[bX] at h
  cases he:ren.lookup i with
  |none=>rw[he] at h;exact(nG h).elim
  |some k =>
   rw[he] at h
   simp only[Option.getD_some] at h
   cases h with
   |mp _ b hB=>exact .mp i b (by simp[RX.pull,he,hB])
 |.row i,v,h=>by
  unfold D.sub at h
  simp only[bX] at h
  cases he:ren.lookup i with
  |none=>rw[he] at h;exact(nG h).elim
  |some k =>
   rw[he] at h
   simp only[Option.getD_some] at h
   cases h with
   |row _ p n cap hB=>exact .row i p n cap (by simp[RX.pull,he,hB])
   |dC _ q hB=>exact .dC i q (by simp[RX.pull,he,hB])
 |.elm i n z off,v,h=>by
  unfold D.sub at h
  simp only[bX] at h
  cases he:ren.lookup i with
  |none=>rw[he] at h;exact(nG h).elim
  |some k =>
   rw[he] at h
   simp only[Option.getD_some] at h
   cases h with
   |elm _ _ _ _ b nn cap hB=>exact .elm i n z off b nn cap (by simp[RX.pull,he,hB])
 |.agg ds,v,h=>by
  simp only[D.sub] at h
  cases h with
  |agg _ vs h=>exact .agg ds vs (aA.pull ds h)
 |.tup ds,v,h=>by
  simp only[D.sub] at h
  cases h with
  |tup _ vs h=>exact .tup ds vs (aA.pull ds h)
 |.fn f ds,v,h=>by
  simp only[D.sub] at h
  cases h with
  |fn _ _ vs h=>exact .fn f ds vs (aA.pull ds h)
 |.recs d enc l,v,h=>by
  simp only[D.sub] at h
  exact h.bare rfl
 |.el ds,v,h=>by
  simp only[D.sub] at h
  exact h.bare rfl
 |.aR m d enc l,v,h=>by
  simp only[D.sub] at h
  cases h
 |.dH kk ag d enc l,v,h=>by
  simp only[D.sub] at h
  cases h
 |.aI kk ag d enc l,v,h=>by
  simp only[D.sub] at h
  exact h.bare rfl
 |.tree d pre kids l,v,h=>by
  simp only[D.sub] at h
  exact h.bare rfl
 |.arr d enc l,v,h=>by
  simp only[D.sub] at h
  exact h.bare rfl
 |.hole,v,h=>by
  simp only[D.sub] at h
  exact h.bare rfl
theorem aA.pull{F:Fz}{w:World}{B:Env}{ren:List (Nat×Nat)}:∀(ds:List D){vs},aA F w B (D.subs (bX never ren) ds) vs->aA F w (RX.pull ren B) ds vs
 |[],_,h=>by cases h;exact .nil
 |d::ds,vs,h=>by
  simp only[D.subs] at h
  cases h with
  |cons _ v _ vs' h hs=>exact .cons d v ds vs' (Rep.pull d h) (aA.pull ds hs)
end
theorem Fv{F:Fz}{w:World}{B B':Env}{ren:List (Nat×Nat)}(h:∀j k,ren.lookup j=some k->B' k=B j):jR F w B B' (bX .hole ren):=by
 refine⟨fun d r v he hv=>?_,fun k off he=>?_,fun k he=>?_,fun k he=>?_,fun k he=>?_,fun k n z off he=>?_,fun k he=>?_⟩
 ·cases hv<;>simp only[bX] at he<;>first|(cases he;done)|skip
  all_goals
   split at he
   ·rename_i k hk
    cases he
    have:=h _ _ hk
    first
     |exact .own _ _ _ (by rw[this];assumption)
     |exact .opt _ _ _ (by rw[this];assumption) (by assumption)
     |exact .dq _ _ _ _ (by rw[this];assumption)
     |exact .mp _ _ (by rw[this];assumption)
     |exact .row _ _ _ _ (by rw[this];assumption)
     |exact .dC _ _ (by rw[this];assumption)
     |exact .elm _ _ _ _ _ _ _ (by rw[this];assumption)
   ·cases he
    first
     |exact .hole _ rfl
     |(rcases ‹_\/_› with rfl|rfl<;>exact .hole _ rfl)
 all_goals
  simp only[bX] at he
  split at he<;>cases he
theorem AQ{s:D->Option D}:∀{d:D},(D.sub s d).flat=true->d.flat=true:=by
 intro d h
 cases d<;>first|rfl|(simp[D.sub,D.flat] at h)
theorem uy{s:D->Option D}:∀{ds:List D},(D.subs s ds).all D.flat=true->ds.all D.flat=true
 |[],_=>rfl
 |d::ds,h=>by
  simp only[D.subs,List.all_cons,Bool.and_eq_true] at h
  simp only[List.all_cons,Bool.and_eq_true]
  exact⟨AQ h.1,uy h.2⟩
theorem Dk{ren:List (Nat×Nat)}:∀d r,bX .hole ren d=some r->r.flat=true:=by
 intro d r h
 cases d<;>simp only[bX] at h<;>first|(cases h;done)|(split at h<;>cases h<;>rfl)
theorem qj{l:List (Nat×Nat)}{j k:Nat}(h:l.lookup j=some k):(j,k)∈l:=aB h
theorem vJ{l:List (Nat×Nat)}(h:nodupB (l.map (·.2))=true):∀{i j k:Nat},(i,k)∈l->(j,k)∈l->i=j:=by
 induction l with
 |nil=>intro i j k h1;simp at h1
 |cons x l ih =>
  simp only[List.map_cons,nodupB,Bool.and_eq_true,Bool.not_eq_true'] at h
  intro i j k h1 h2
  have hx:∀i,(i,x.2)∈l->False:=fun i hi=>by
   have:(l.map (·.2)).contains x.2=true:=by
    rw[List.contains_iff_mem];exact List.mem_map.2 ⟨_,hi,rfl⟩
   rw[h.1] at this;cases this
  rcases List.mem_cons.1 h1 with h3|h3
  ·rcases List.mem_cons.1 h2 with h4|h4
   ·rw[<-h3] at h4;cases h4;rfl
   ·rw[<-h3] at hx;exact(hx j h4).elim
  ·rcases List.mem_cons.1 h2 with h4|h4
   ·rw[<-h4] at hx;exact(hx i h3).elim
   ·exact ih h.2 h3 h4
def cY(P:Program)(f:Nat)(ds:List D)(Lin:ay)(r:D)(dN:ay):Prop :=
 FOK P f/\∀(F:Fz)(w1:Pt P)(B:Env)(args:List Value),Base F w1 B F (aJ Lin) w1.w->aA F w1.w B ds args ->
  Calls P f args.toArray w1.w fun e w'=>∃v F' B',e=.returned v/\Rep F' w' B' r v/\Base F w1 B' F' (aJ dN) w'
section
variable {P:Program} {F0:Fz} {w0:Pt P} {B:Env} {F:Fz} {L:ay} {w:World} {a:Act} {Q:Exit->Act->World->Prop}
def pN(dW:List (Nat×Nat))(B B':Env):Env:=fun k=>match dW.find? fun p=>p.2==k with|some p=>B' p.1|none=>B k
theorem xU{dW:List (Nat×Nat)}(h:nodupB (dW.map (·.2))=true){B B':Env}{j k:Nat}(hm:(j,k)∈dW):pN dW B B' k=B' j:=by
 unfold pN
 cases he:dW.find? fun p=>p.2==k with
 |none=>have:=List.find?_eq_none.1 he _ hm;simp at this
 |some p =>
  have h1:=List.mem_of_find?_eq_some he
  have h2:p.2=k:=by simpa using List.find?_some he
  obtain⟨p1,p2⟩:=p
  simp only at h2
  subst h2
  have:p1=j:=vJ h h1 hm
  simp only[this]
theorem BW{dW:List (Nat×Nat)}{B B':Env}{k:Nat}(h:∀j,(j,k)∉dW):pN dW B B' k=B k:=by
 unfold pN
 cases he:dW.find? fun p=>p.2==k with
 |none=>rfl
 |some p =>
  have h1:=List.mem_of_find?_eq_some he
  have h2:p.2=k:=by simpa using List.find?_some he
  exact absurd (by rw[<-h2];exact h1) (h p.1)
def jK(c:CBd)(L:ay):ay:=tq c.dW c.dN++L.filter fun x=>!((handed c).contains x.1)&&(dm c).all fun k=>!(x.1==k)&&!(D.bD k x.2.2)
theorem BA{ren:List (Nat×Nat)}{L:ay}{k t:Nat}{ds:List D}(h:aJ (tq ren L) k t ds):∃j ds',aJ L j t ds'/\ren.lookup j=some k/\ds=D.subs (bX .hole ren) ds':=by
 unfold aJ tq at h
 obtain⟨⟨j,t',ds'⟩,hx,he⟩:=List.mem_filterMap.1 h
 cases hl:ren.lookup j with
 |none=>simp[hl] at he
 |some k'=>simp[hl] at he;obtain⟨rfl,rfl,rfl⟩:=he;exact⟨j,ds',hx,hl,rfl⟩
theorem rS{c:CBd}(hb:Base F0 w0 B F (aJ L) w)(hok:qU c=true)(hLin:found c L=c.Lin.map fun x=>some (x.2.1,D.subs (bX never c.ren) x.2.2)) :
  ∃w1:Pt P,w1.w=w/\Base F w1 (pull c.ren B) F (aJ c.Lin) w/\(∀j t ds,aJ c.Lin j t ds->w1.env j=pull c.ren B j)/\∀F' B' w',Base F w1 B' F' (aJ c.dN) w'->∃B2,Base F0 w0 B2 F' (aJ (jK c L)) w'/\Grow F F' w w'/\(∀k,(dm c).contains k=false->B2 k=B k)/\(∀j k,c.dW.lookup j=some k->B2 k=B' j)/\jR F' w' B' B2 (bX .hole c.dW):=by
 simp only[qU,Bool.and_eq_true] at hok
 obtain⟨⟨⟨⟨hlim,hnd⟩,hnd2⟩,hnd1⟩,hlow⟩:=hok
 have hmine:∀j t ds,aJ c.Lin j t ds->LIM<=j/\∃k,c.ren.lookup j=some k/\aJ L k t (D.subs (bX never c.ren) ds):=by
  intro j t ds hm
  obtain⟨i,hi⟩:=List.getElem?_of_mem hm
  have h1:=congrArg (·[i]?) hLin
  unfold found at h1
  simp only[List.getElem?_map,hi,Option.map_some,Option.some.injEq] at h1
  refine⟨by simpa using List.all_eq_true.1 hlim _ hm,?_⟩
  cases hl:c.ren.lookup j with
  |none=>rw[hl] at h1;cases h1
  |some k=>rw[hl] at h1;exact⟨k,rfl,aB h1⟩
 have hlt:∀k t ds,aJ L k t ds->∀b,bM B k=some b->b<w.heap.size:=fun k t ds hm b hbk=>(hb.boxes _ _ _ hm).lt hbk
 let Bc:Env:=fun j=>if(c.Lin.map (·.1)).contains j then pull c.ren B j else none
 have hBc:∀j t ds,aJ c.Lin j t ds->Bc j=pull c.ren B j:=by
  intro j t ds hm
  have:(c.Lin.map (·.1)).contains j=true:=by rw[List.contains_iff_mem];exact List.mem_map.2 ⟨_,hm,rfl⟩
  simp only[Bc,this,if_true]
 let w1:Pt P:=⟨w,fun b=>∃j t ds,aJ c.Lin j t ds/\bM (pull c.ren B) j=some b,Bc,fun k hk=>by
  by_cases hc:(c.Lin.map (·.1)).contains k=true
  ·rw[List.contains_iff_mem] at hc
   obtain⟨⟨j,t,ds⟩,hm,rfl⟩:=List.mem_map.1 hc
   exact(hmine _ _ _ hm).1
  ·simp only[Bc,hc] at hk;exact absurd rfl hk,hb.shp,fun b hbo=>by
  obtain⟨j,t,ds,hm,hbk⟩:=hbo
  obtain⟨_,k,hl,hmk⟩:=hmine _ _ _ hm
  exact Pt.mZ (hb.new _ _ _ b hmk (by simpa[bM,pull,hl] using hbk)),none,[]⟩
 have hown:∀b,w1.own b->∃j k t ds t' ds',aJ c.Lin j t' ds'/\c.ren.lookup j=some k/\aJ L k t ds/\bM B k=some b:=by
  rintro b ⟨j,t,ds,hm,hbk⟩
  obtain⟨_,k,hl,hmk⟩:=hmine _ _ _ hm
  refine⟨j,k,_,_,_,_,hm,hl,hmk,?_⟩
  simpa[bM,pull,hl] using hbk
 have hbase:Base F w1 (pull c.ren B) F (aJ c.Lin) w:=by
  refine⟨fun j t ds hm=>?_,fun j t ds b hm hbk=>.inr ⟨j,t,ds,hm,hbk⟩,fun i j b hi hj hBi hBj=>?_,hb.frz,fun g k h=>.inl h,Grow.refl _ _,dP.refl _ _ _,fun k b h=>?_⟩
  ·obtain⟨_,k,hl,hmk⟩:=hmine _ _ _ hm
   have hpk:pull c.ren B j=B k:=by simp[pull,hl]
   have hh:=hb.boxes _ _ _ hmk
   obtain⟨es,hes⟩:∃es,D.subs (bX never c.ren) ds=es:=⟨_,rfl⟩
   rw[hes] at hh
   cases hh with
   |box _ b us hB hr' hfl hh hnf =>
    subst hes
    exact .box ds b us (hpk.trans hB) (aA.pull ds hr') (uy hfl) hh hnf
   |row m d enc l p n cap hB hrow =>
    clear hmk hm
    match ds,hes with
    |[.dH _ _ _ _ _],hes=>simp[D.subs,D.sub] at hes
    |[.pG _ _ _],hes=>simp[D.subs,D.sub] at hes
    |[.mp i],hes=>simp only[D.subs,D.sub,bX] at hes;split at hes<;>simp[never] at hes
    |[.aR _ _ _ _],hes =>
     simp only[D.subs,D.sub,List.cons.injEq,and_true] at hes
     rw[hes]
     exact .row m d enc l p n cap (hpk.trans hB) hrow
    |[.own i off],hes=>simp only[D.subs,D.sub,bX] at hes;split at hes<;>simp[never] at hes
    |[.opt i],hes=>simp only[D.subs,D.sub,bX] at hes;split at hes<;>simp[never] at hes
    |[.dq i],hes=>simp only[D.subs,D.sub,bX] at hes;split at hes<;>simp[never] at hes
    |[.row i],hes=>simp only[D.subs,D.sub,bX] at hes;split at hes<;>simp[never] at hes
    |[.elm i n z off],hes=>simp only[D.subs,D.sub,bX] at hes;split at hes<;>simp[never] at hes
    |x::y::zs,hes=>simp[D.subs] at hes
    |[.val _],hes|[.str _],hes|[.agg _],hes|[.tup _],hes|[.recs _ _ _],hes|[.el _],hes|[.fn _ _],hes|[.tree _ _ _ _],hes|[.arr _ _ _],hes|[.aI _ _ _ _ _],hes|[.hole],hes|[],hes=>simp[D.subs,D.sub] at hes
   |map kk ag d enc l b hB hmap =>
    clear hmk hm
    match ds,hes with
    |[.dH _ _ _ _ _],hes =>
     simp only[D.subs,D.sub,List.cons.injEq,and_true] at hes
     rw[hes]
     exact .map kk ag d enc l b (hpk.trans hB) hmap
    |[.pG _ _ _],hes=>simp[D.subs,D.sub] at hes
    |[.aR _ _ _ _],hes=>simp[D.subs,D.sub] at hes
    |[.own i off],hes=>simp only[D.subs,D.sub,bX] at hes;split at hes<;>simp[never] at hes
    |[.opt i],hes=>simp only[D.subs,D.sub,bX] at hes;split at hes<;>simp[never] at hes
    |[.dq i],hes=>simp only[D.subs,D.sub,bX] at hes;split at hes<;>simp[never] at hes
    |[.mp i],hes=>simp only[D.subs,D.sub,bX] at hes;split at hes<;>simp[never] at hes
    |[.row i],hes=>simp only[D.subs,D.sub,bX] at hes;split at hes<;>simp[never] at hes
    |[.elm i n z off],hes=>simp only[D.subs,D.sub,bX] at hes;split at hes<;>simp[never] at hes
    |x::y::zs,hes=>simp[D.subs] at hes
    |[.val _],hes|[.str _],hes|[.agg _],hes|[.tup _],hes|[.recs _ _ _],hes|[.el _],hes|[.fn _ _],hes|[.tree _ _ _ _],hes|[.arr _ _ _],hes|[.aI _ _ _ _ _],hes|[.hole],hes|[],hes=>simp[D.subs,D.sub] at hes
   |obj b o S hB o1 o2 o3 o4 =>
    clear hmk hm
    match ds,hes with
    |[.pG _ _ _],hes =>
     simp only[D.subs,D.sub,List.cons.injEq,and_true] at hes
     rw[hes]
     exact .obj b o S (hpk.trans hB) o1 o2 o3 o4
    |[.aR _ _ _ _],hes=>simp[D.subs,D.sub] at hes
    |[.dH _ _ _ _ _],hes=>simp[D.subs,D.sub] at hes
    |[.own i off],hes=>simp only[D.subs,D.sub,bX] at hes;split at hes<;>simp[never] at hes
    |[.opt i],hes=>simp only[D.subs,D.sub,bX] at hes;split at hes<;>simp[never] at hes
    |[.dq i],hes=>simp only[D.subs,D.sub,bX] at hes;split at hes<;>simp[never] at hes
    |[.mp i],hes=>simp only[D.subs,D.sub,bX] at hes;split at hes<;>simp[never] at hes
    |[.row i],hes=>simp only[D.subs,D.sub,bX] at hes;split at hes<;>simp[never] at hes
    |[.elm i n z off],hes=>simp only[D.subs,D.sub,bX] at hes;split at hes<;>simp[never] at hes
    |x::y::zs,hes=>simp[D.subs] at hes
    |[.val _],hes|[.str _],hes|[.agg _],hes|[.tup _],hes|[.recs _ _ _],hes|[.el _],hes|[.fn _ _],hes|[.tree _ _ _ _],hes|[.arr _ _ _],hes|[.aI _ _ _ _ _],hes|[.hole],hes|[],hes=>simp[D.subs,D.sub] at hes
  ·obtain⟨t1,d1,h1⟩:=hi
   obtain⟨t2,d2,h2⟩:=hj
   obtain⟨_,k1,hl1,hm1⟩:=hmine _ _ _ h1
   obtain⟨_,k2,hl2,hm2⟩:=hmine _ _ _ h2
   have e:=hb.inj k1 k2 b ⟨_,_,hm1⟩ ⟨_,_,hm2⟩ (by simpa[bM,pull,hl1] using hBi) (by simpa[bM,pull,hl2] using hBj)
   subst e
   exact vJ hnd (qj hl1) (qj hl2)
  ·simp only[w1,Bc] at h
   split at h
   ·exact h
   ·cases h
 refine⟨w1,rfl,hbase,hBc,fun F' B' w' hb'=>?_⟩
 have hg:Grow F F' w w':=hb'.grow
 have hsz:=hb.below.size
 have hsame:∀p,p∈c.dW->vM c p=true->B' p.1=B p.2:=by
  intro p hp hs
  simp only[vM,Bool.and_eq_true,beq_iff_eq] at hs
  have hm:=hs.2
  rw[List.contains_iff_mem] at hm
  obtain⟨⟨j,t,ds⟩,hm,hj⟩:=List.mem_map.1 hm
  simp only at hj
  subst hj
  obtain⟨_,k,hl,hmk⟩:=hmine _ _ _ hm
  rw[hs.1] at hl;cases hl
  have hpk:pull c.ren B p.1=B p.2:=by simp[pull,hs.1]
  cases hB:B p.2 with
  |none =>
   have hh:=hb.boxes _ _ _ hmk
   obtain⟨es,hes⟩:∃es,D.subs (bX never c.ren) ds=es:=⟨_,rfl⟩
   rw[hes] at hh
   cases hh with
   |box _ b us hB'=>rw[hB] at hB';cases hB'
   |row m d enc l p n cap hB'=>rw[hB] at hB';cases hB'
   |map kk ag d enc l b hB'=>rw[hB] at hB';cases hB'
   |obj b o S hB'=>rw[hB] at hB';cases hB'
  |some r=>exact hb'.env p.1 r (by simp only[w1];rw[hBc _ _ _ hm,hpk,hB])
 have hold:∀k,(dm c).contains k=false->pN c.dW B B' k=B k:=by
  intro k hk
  by_cases hex:∃j,(j,k)∈c.dW
  ·obtain⟨j,hj⟩:=hex
   rw[xU hnd2 hj]
   by_cases hs:vM c (j,k)=true
   ·exact hsame _ hj hs
   ·have:k∈dm c:=List.mem_map.2 ⟨(j,k),List.mem_filter.2 ⟨hj,by simpa using hs⟩,rfl⟩
    rw[<-List.contains_iff_mem,hk] at this;cases this
  ·exact BW fun j hj=>hex ⟨j,hj⟩
 have hren:∀j k,c.dW.lookup j=some k->pN c.dW B B' k=B' j:=fun j k hl=>xU hnd2 (qj hl)
 have hsub:jR F' w' B' (pN c.dW B B') (bX .hole c.dW):=Fv hren
 have hrest:∀k t ds,(k,t,ds)∈(L.filter fun x=>!((handed c).contains x.1)&&(dm c).all fun k=>!(x.1==k)&&!(D.bD k x.2.2)) ->
   aJ L k t ds/\pN c.dW B B' k=B k/\(∀j,D.bD j ds=true->pN c.dW B B' j=B j)/\∀b,bM B k=some b->¬w1.own b:=by
  intro k t ds hx
  obtain⟨hm,hcnd⟩:=List.mem_filter.1 hx
  simp only[Bool.and_eq_true,Bool.not_eq_true',List.all_eq_true] at hcnd
  obtain⟨hnh,hnk⟩:=hcnd
  have hn1:∀j,D.bD j ds=true->(dm c).contains j=false:=by
   intro j hj
   cases hcc:(dm c).contains j with
   |false=>rfl
   |true=>rw[List.contains_iff_mem] at hcc;have:=(hnk j hcc).2;rw[hj] at this;cases this
  refine⟨hm,hold k ?_,fun j hj=>hold j (hn1 j hj),fun b hbk hob=>?_⟩
  ·cases hcc:(dm c).contains k with
   |false=>rfl
   |true=>rw[List.contains_iff_mem] at hcc;have:=(hnk k hcc).1;simp at this
  ·obtain⟨j,k',t',ds',_,_,hmj,hl,hmk',hbk'⟩:=hown b hob
   have:=hb.inj k k' b ⟨_,_,hm⟩ ⟨_,_,hmk'⟩ hbk hbk'
   subst this
   have:(handed c).contains k=true:=by
    rw[List.contains_iff_mem]
    exact List.mem_filterMap.2 ⟨_,hmj,hl⟩
   rw[hnh] at this;cases this
 have hfresh:∀b,w1.fresh b->w0.fresh b:=by
  rintro b (h|h)
  ·exact .inl (Nat.le_trans hsz h)
  ·obtain⟨j,k,t,ds,_,_,_,_,hmk,hbk⟩:=hown b h
   exact hb.new _ _ _ _ hmk hbk
 refine⟨pN c.dW B B',?_,hg,hold,hren,hsub⟩
 have hcase:∀k t ds,aJ (jK c L) k t ds->(∃j ds',aJ c.dN j t ds'/\c.dW.lookup j=some k/\ds=D.subs (bX .hole c.dW) ds')\/(k,t,ds)∈(L.filter fun x=>!((handed c).contains x.1)&&(dm c).all fun k=>!(x.1==k)&&!(D.bD k x.2.2)):=by
  intro k t ds hm
  rcases List.mem_append.1 hm with h|h
  ·exact .inl (BA h)
  ·exact .inr h
 refine⟨fun k t ds hm=>?_,fun k t ds b hm hbk=>?_,fun i j b hi hj hBi hBj=>?_,hb'.frz,fun g k hF=>?_,hb.grow.trans hg,?_,fun k b hk=>?_⟩
 ·rcases hcase _ _ _ hm with⟨j,ds',hm',hl,rfl⟩|hx
  ·have hB2:=hren _ _ hl
   cases hb'.boxes _ _ _ hm' with
   |box _ b us hB hr' hfl hh hnf=>exact .box _ b us (hB2.trans hB) (hr'.sub hsub) (kP Dk hfl) hh hnf
   |row m d enc l p n cap hB hrow=>exact .row m d enc l p n cap (hB2.trans hB) hrow
   |map kk ag d enc l b hB hmap=>exact .map kk ag d enc l b (hB2.trans hB) hmap
   |obj b o S hB h2 h3 h4 h5=>exact .obj b o S (hB2.trans hB) h2 h3 h4 h5
  ·obtain⟨hm',hk,hn,hno⟩:=hrest _ _ _ hx
   have hh:=hb.boxes _ _ _ hm'
   refine hh.grow hg hk (fun F w vs hr=>hr.lU hn) fun b hbk=>?_
   have hlb:=hh.lt hbk
   refine⟨hb'.below.block b hlb (hno b hbk),fun j hj=>?_⟩
   rcases hb'.more _ _ hj with h|h|h
   ·exact h
   ·exact absurd hlb (Nat.not_lt.2 h)
   ·exact absurd h (hno b hbk)
 ·rcases hcase _ _ _ hm with⟨j,ds',hm',hl,rfl⟩|hx
  ·rw[gQ (B:=fun _=>B' j) (hren _ _ hl)] at hbk
   exact hfresh b (hb'.new _ _ _ _ hm' hbk)
  ·obtain⟨hm',hk,_,_⟩:=hrest _ _ _ hx
   rw[gQ hk] at hbk
   exact hb.new _ _ _ _ hm' hbk
 ·obtain⟨t1,d1,h1⟩:=hi
  obtain⟨t2,d2,h2⟩:=hj
  have hdis:∀(i j:Nat)(t1:Nat)(d1:List D)(t2:Nat)(d2:List D)(jc:Nat)(ds':List D),aJ c.dN jc t1 ds'->bM B' jc=some b->(j,t2,d2)∈(L.filter fun x=>!((handed c).contains x.1)&&(dm c).all fun k=>!(x.1==k)&&!(D.bD k x.2.2))->bM (pN c.dW B B') j=some b->False:=by
   intro i j t1 d1 t2 d2 jc ds' hm1 hb1 hx hb2
   obtain⟨hm',hk,_,hno⟩:=hrest _ _ _ hx
   rw[gQ hk] at hb2
   rcases hb'.new _ _ _ _ hm1 hb1 with h|h
   ·exact absurd (hlt _ _ _ hm' _ hb2) (Nat.not_lt.2 h)
   ·exact hno b hb2 h
  rcases hcase _ _ _ h1 with⟨j1,ds1,hm1,hl1,rfl⟩|hx1
  ·rw[gQ (B:=fun _=>B' j1) (hren _ _ hl1)] at hBi
   rcases hcase _ _ _ h2 with⟨j2,ds2,hm2,hl2,rfl⟩|hx2
   ·rw[gQ (B:=fun _=>B' j2) (hren _ _ hl2)] at hBj
    have e:j1=j2:=hb'.inj j1 j2 b ⟨_,_,hm1⟩ ⟨_,_,hm2⟩ hBi hBj
    subst e
    rw[hl1] at hl2;exact Option.some.inj hl2
   ·exact(hdis i j _ [] _ _ _ _ hm1 hBi hx2 hBj).elim
  ·rcases hcase _ _ _ h2 with⟨j2,ds2,hm2,hl2,rfl⟩|hx2
   ·rw[gQ (B:=fun _=>B' j2) (hren _ _ hl2)] at hBj
    exact(hdis j i _ [] _ _ _ _ hm2 hBj hx1 hBi).elim
   ·obtain⟨hm1',hk1,_,_⟩:=hrest _ _ _ hx1
    obtain⟨hm2',hk2,_,_⟩:=hrest _ _ _ hx2
    rw[gQ hk1] at hBi
    rw[gQ hk2] at hBj
    exact hb.inj i j b ⟨_,_,hm1'⟩ ⟨_,_,hm2'⟩ hBi hBj
 ·rcases hb'.more _ _ hF with h|h
  ·exact hb.more _ _ h
  ·exact .inr (hfresh _ h)
 ·refine hb.below.trans ⟨hb'.below.os,hb'.below.tape,hb'.below.output,hb'.below.size,fun k hk hno=>?_⟩
  refine hb'.below.block k (Nat.lt_of_lt_of_le hk hsz) fun ho=>?_
  rcases hfresh k (.inr ho) with h|h
  ·exact absurd hk (Nat.not_lt.2 h)
  ·exact hno h
 ·have hkl:LIM<=k:=w0.low k (by rw[hk];exact fun e=>by cases e)
  rw[<-hb.env k b hk]
  refine hold k ?_
  cases hcc:(dm c).contains k with
  |false=>rfl
  |true =>
   rw[List.contains_iff_mem] at hcc
   obtain⟨p,hp,rfl⟩:=List.mem_map.1 hcc
   obtain⟨hp1,hp2⟩:=List.mem_filter.1 hp
   have:=List.all_eq_true.1 hlow p hp1
   simp only[Bool.or_eq_true,decide_eq_true_eq] at this
   rcases this with h|h
   ·exact absurd hkl (Nat.not_le.2 h)
   ·rw[h] at hp2;cases hp2
theorem vk{o:Oper}{f:Nat}{args:List D}{c:CBd}{K:Act->World->Prop}(h:aY P F w B (aJ L) a o (.call f args))(hb:Base F0 w0 B F (aJ L) w)(hok:qU c=true)(hc:qb (cY P) f args (found c L) c)
  (hK:∀v w' F' B2,Base F0 w0 B2 F' (aJ (jK c L)) w'->Grow F F' w w'->(∀k,(dm c).contains k=false->B2 k=B k)->Rep F' w' B2 (c.r.sub (bX .hole c.dW)) v->K (a.put o.dst v) w'):o.wp P a w K Q:=by
 obtain⟨vs,hr,hrun⟩:=h
 obtain⟨⟨hf,hcalls⟩,hargs,hLin⟩:=hc
 subst hargs
 obtain⟨w1,rfl,hbase,_,hafter⟩:=rS hb hok hLin
 unfold Oper.wp
 rw[hrun,ni hf]
 refine(hcalls F w1 (pull c.ren B) vs hbase (aA.pull c.ds hr)).mono ?_
 rintro e w' ⟨v,F',B',rfl,hv,hb'⟩
 obtain⟨B2,h1,h2,h3,_,h4⟩:=hafter F' B' w' hb'
 exact hK v w' F' B2 h1 h2 h3 (hv.sub h4)
end
end Go.Proofs.YtpmmhhmhckpnfaaDoor.RX
namespace Go.Proofs.YtpmmhhmhckpnfaaDoor.RX
open Go.RowKit
section
variable {P:Program} {F0:Fz} {w0:Pt P} {B:Env} {F:Fz} {M:Mem} {w:World} {a:Act} {Q:Exit->Act->World->Prop}
theorem uZ{z m:Nat}{cs:List D}{α:Type}{d:α}{enc:α->List D}{l:List α}(h:iC z cs m (.recs d enc l)):bf cs (l.flatMap enc)/\l.length=m/\(enc d).length=z:=by
 obtain⟨α',d',enc',l',h1,h2,h3,h4⟩:=h
 cases h4
 exact⟨h1,h2,h3⟩
theorem mr{α:Type}{d:α}{enc:α->List D}{l:List α}(h:bP (.recs d enc l)):(l.flatMap enc).all D.flat=true:=by
 rw[List.all_eq_true]
 intro x hx
 obtain⟨y,_,h2⟩:=List.mem_flatMap.1 hx
 exact List.all_eq_true.1 (h.2 y).2 x h2
theorem C6{k z:Nat}:∀d v,ik k z d≠some (.val v):=by
 intro d v h
 cases d<;>simp only[ik] at h<;>first|(cases h;done)|(split at h<;>first|(cases h;done)|skip)
 ·simp only[Option.some.injEq] at h;split at h<;>cases h
theorem E8{o:Oper}{t ty z m:Nat}{dd:D}{α:Type}{d:α}{enc:α->List D}{l:List α}{K:Act->World->Prop}(h:aY P F w B M a o (.sD ty z m dd))(hb:Base F0 w0 B F M w)
  (hs:iC z dd.cells m (.recs d enc l)) (hgood:bP (.recs d enc l)) (hm:m<=maxLen) (ht:t<LIM) {M':Mem} (hM:∀k t' ds,M' k t' ds->M k t' ds/\k≠t/\D.bD t ds=false)
  (hK:∀v w' r,Base F0 w0 (setB B t r) F (lK t ty [.aR false d enc l] M') w'->Grow F F w w'->Rep F w' (setB B t r) (.elm t 0 z 0) v->K (a.put o.dst v) w'):o.wp P a w K Q:=by
 obtain⟨vs,hr,hrun⟩:=h
 obtain⟨h1,h2,h3⟩:=uZ hs
 unfold Oper.wp
 rw[hrun]
 have hvl:vs.length=m*z:=by rw[aA.length hr,h1.length,fB (fun x=>(hgood.2 x).1),h2,h3]
 have hg:Grow F F w (w.alloc (.cells vs.toArray ty)):=⟨fun _ _ h=>h,fun g k hF=>World.cell?_alloc_lt _ _ _ (hb.frz g k hF),fun g k hF=>lW (Below.heap_alloc _ _ _ (hb.frz g k hF))⟩
 have hsz:=hb.below.size
 have hlt:∀b,(∃k,(∃t' ds,M' k t' ds)/\bM B k=some b)->b<w.heap.size:=by
  rintro b ⟨k,⟨t',ds,h⟩,hbk⟩
  exact(hb.boxes _ _ _ (hM _ _ _ h).1).lt hbk
 have hB':=fF B t (.row (some w.heap.size) m m)
 have hh:(w.alloc (.cells vs.toArray ty)).heap[w.heap.size]? = some (.cells vs.toArray ty (0,0)):=by
  show(w.heap.push _)[w.heap.size]? = _
  simp
 refine hK _ _ (.row (some w.heap.size) m m) (hb.qA hg (.row false d enc l _ _ _ hB' ⟨h2.symm,hgood.1,hgood.2,vs,by exact h1.rep (hr.grow hg),⟨by rw[hvl,h3],.inr ⟨_,vs.toArray,(0,0),rfl,hh,fun j hj=>by simp,Nat.le_refl _,hm,by simp[hvl,h3],?_⟩⟩,fun b hb' j=>?_⟩) (fun b hbk=>?_) (fun k t' ds hm'=>?_) (fun b hbk=>⟨Below.heap_alloc _ _ _ (hlt b hbk),fun _ h=>h⟩) (fun g k hF=>?_) (fun g k h=>.inl h) (.of ((Below.refl _ w).alloc hsz _)) (fun k hk=>bJ _ _ _ _ (by omega))) hg ?_
 ·simp only[h3,<-hvl,List.toList_toArray,List.take_length]
 ·cases hb'
  exact⟨fun hF=>by have:=hb.frz _ _ hF;omega,fun⟨h,_⟩=>by cases h⟩
 ·rw[dY hB'] at hbk;cases hbk
  exact⟨.inl hsz,fun k hk _ hbk=>by have:=hlt _ ⟨k,hk,hbk⟩;omega⟩
 ·obtain⟨h4,h5,h6⟩:=hM _ _ _ hm'
  exact⟨h4,h5,bJ _ _ _ _ h5,fun F w vs hr=>hr.fO t (bJ _ _ _) h6⟩
 ·have:=hb.frz g k hF;simp;omega
 ·have:=Rep.elm (F:=F) (w:=w.alloc (.cells vs.toArray ty)) (B:=setB B t (.row (some w.heap.size) m m)) t 0 z 0 w.heap.size m m hB'
  simpa using this
theorem Fb{o:Oper}{k z m t:Nat}{dd:D}{α:Type}{d:α}{enc:α->List D}{l:List α}{β:Type}{d0:β}{enc0:β->List D}{l0:List β}{K:Act->World->Prop}(h:aY P F w B M a o (.fill k z m dd))(hb:Base F0 w0 B F M w)
  (hm:M k t [.aR false d0 enc0 l0]) (hz:(enc0 d0).length=z) (hlm:l0.length=m) (hpos:0<m) (hs:iC z dd.cells m (.recs d enc l)) (hgood:bP (.recs d enc l))
  (hK:∀w',Base F0 w0 B F (kR k t (.aR false d enc l) M) w'->Grow F F w w'->K (a.put o.dst undef) w'):o.wp P a w K Q:=by
 obtain⟨us,hu,hall⟩:=h
 obtain⟨h1,h2,h3⟩:=uZ hs
 have hul:us.length=m*z:=by rw[aA.length hu,h1.length,fB (fun x=>(hgood.2 x).1),h2,h3]
 obtain⟨b,nn,cap,cur,fz,hB,hh,hrun⟩:=hall t β d0 enc0 l0 hm hz hlm hul (h1.qZ (mr hgood)) hpos
 unfold Oper.wp
 rw[hrun]
 obtain⟨p,n0,cap0,hB',hrow⟩:=hb.jq hm
 rw[hB] at hB';cases hB'
 obtain⟨hn0,hpos',hge,xs,hxs,hown,hfz⟩:=hrow
 have hnf:∀j,¬F b j:=fun j hj=>by have:=(hfz b rfl j).1 hj;simp at this
 have hg:Grow F F w (w.setRow b (bW cur.toList 0 us).toArray):=⟨fun _ _ h=>h,fun g j hF=>cell_setRow_other _ _ _ _ (fun e=>by simp only at e;subst e;exact hnf j hF),fun g j hF=>lW (setRow_other _ _ _ _ fun e=>by subst e;exact hnf j hF)⟩
 refine(fun hT=>hK _ (And.left hT) (And.right hT)) (hb.turn (w':=w.setRow b (bW cur.toList 0 us).toArray) (M':=kR k t (.aR false d enc l) M) (dY hB) ⟨_,_,hm⟩ hnf rfl fun j t' es hl=>?_)
 rcases hl with⟨rfl,rfl,rfl⟩|⟨hjk,hy⟩
 rotate_left
 ·exact⟨⟨_,_,hy⟩,fun h=>absurd h hjk,fun _=>hy⟩
 refine⟨⟨_,_,hm⟩,fun _=>?_,fun h=>absurd rfl h⟩
 rcases hown.2 with⟨hp,_⟩|⟨g,cur',fz',hp,hh',hfr,hnc,hcm,hcs,htk⟩
 ·cases hp
 ·cases hp
  rw[hh] at hh'
  cases hh'
  have hle:m*z<=cur.size:=by rw[hcs,hz];exact Nat.mul_le_mul_right _ (by omega)
  have hsl:(bW cur.toList 0 us).length=cur.size:=by
   unfold bW;simp;omega
  have hnm:nn=m:=by omega
  refine .row false d enc _ (some b) nn cap hB ⟨by omega,hgood.1,hgood.2,us,h1.rep (hu.grow hg),⟨by rw[hul,h3,hnm],.inr ⟨b,_,fz,rfl,setRow_heap _ _ _ _ _ _ hh,?_,hnc,hcm,by rw[h3,<-hz];simpa using hsl.trans hcs,?_⟩⟩,fun b' hb' j=>?_⟩
  ·intro j hj;exact hfr j (by simpa[hsl] using hj)
  ·unfold bW
   simp only[List.take_zero,List.nil_append,Nat.zero_add]
   rw[h3,hnm,<-hul,List.take_left]
  ·have hb2:b'=b:=by cases hb';rfl
   subst hb2
   exact⟨fun hF=>absurd hF (hnf j),fun⟨h,_⟩=>by cases h⟩
theorem Base.Br(hb:Base F0 w0 B F M w){k t b m z:Nat}{ds:List D}{vs:Array Value}{us:List Value}{α:Type}{d:α}{enc:α->List D}{l:List α}(hk:M k t ds)(hkl:k<LIM)(hB:B k=some (.box b))(hh:w.heap[b]? = some (.cells vs t (0,0)))(hnf:∀j,¬F b j)
  (hu:aA F w NB (l.flatMap enc) us) (hgood:bP (.recs d enc l)) (hl:l.length=m) (hz:(enc d).length=z) (hm:m<=maxLen) :
  Base F0 w0 (setB B k (.row (some b) m m)) F (fun j t' es=>(j=k/\t'=t/\es=[.aR false d enc l])\/(j≠k/\∃es',M j t' es'/\es=D.subs (ik k z) es')) (w.setRow b us.toArray)/\Grow F F w (w.setRow b us.toArray)/\jR F (w.setRow b us.toArray) B (setB B k (.row (some b) m m)) (ik k z):=by
 have hul:us.length=m*z:=by rw[aA.length hu,fB (fun x=>(hgood.2 x).1),hl,hz]
 obtain⟨h1,h2⟩:=hb.turn (w':=w.setRow b us.toArray) (M':=fun j t' es=>(j=k/\t'=t/\es=l.flatMap enc)\/(j≠k/\M j t' es)) (ia hB) ⟨_,_,hk⟩ hnf rfl fun j t' es hl=>by
  rcases hl with⟨rfl,rfl,rfl⟩|⟨hjk,hy⟩
  rotate_left
  ·exact⟨⟨_,_,hy⟩,fun h=>absurd h hjk,fun _=>hy⟩
  refine⟨⟨_,_,hk⟩,fun _=>?_,fun h=>absurd rfl h⟩
  have hg:Grow F F w (w.setRow b us.toArray):=⟨fun _ _ h=>h,fun g j hF=>cell_setRow_other _ _ _ _ (fun e=>by simp only at e;subst e;exact hnf j hF),fun g j hF=>lW (setRow_other _ _ _ _ fun e=>by subst e;exact hnf j hF)⟩
  exact .box _ b us hB ((hu.grow hg).lift fun _=>rfl) (mr hgood) (setRow_heap _ _ _ _ _ _ hh) hnf
 have hg:Grow F F w (w.setRow b us.toArray):=h2
 have hsub:jR F (w.setRow b us.toArray) B (setB B k (.row (some b) m m)) (ik k z):=by
  refine⟨fun e r v h hv=>?_,fun j off h=>?_,fun j h=>?_,fun j h=>?_,fun j h=>?_,fun j n z off h=>?_,fun j h=>?_⟩
  ·cases e<;>simp only[ik] at h<;>first|(cases h;done)|skip
   ·rename_i j off
    split at h
    ·rename_i hjk
     subst hjk
     cases h
     cases hv with
     |own _ _ b' hB' =>
      rw[hB] at hB';cases hB'
      split
      ·rename_i h0
       subst h0
       have:=Rep.elm (F:=F) (w:=w.setRow b us.toArray) (B:=setB B j (.row (some b) m m)) j 0 z 0 b m m (fF _ _ _)
       simpa using this
      ·exact .hole _ rfl
    ·cases h
   ·rename_i j
    split at h
    ·cases h;cases hv;rename_i hv;rcases hv with rfl|rfl<;>exact .hole _ rfl
    ·cases h
   ·rename_i j
    split at h
    ·cases h;cases hv<;>exact .hole _ rfl
    ·cases h
   ·rename_i j
    split at h
    ·cases h;cases hv<;>exact .hole _ rfl
    ·cases h
   ·rename_i j
    split at h
    ·cases h;cases hv<;>exact .hole _ rfl
    ·cases h
   ·rename_i j i z off
    split at h
    ·cases h;cases hv<;>exact .hole _ rfl
    ·cases h
  ·simp only[ik] at h
   split at h
   ·cases h
   ·rename_i hne;exact bJ _ _ _ _ hne
  ·simp only[ik] at h
   split at h
   ·cases h
   ·rename_i hne;exact bJ _ _ _ _ hne
  ·simp only[ik] at h
   split at h
   ·cases h
   ·rename_i hne;exact bJ _ _ _ _ hne
  ·simp only[ik] at h
   split at h
   ·cases h
   ·rename_i hne;exact bJ _ _ _ _ hne
  ·simp only[ik] at h
   split at h
   ·cases h
   ·rename_i hne;exact bJ _ _ _ _ hne
  ·simp only[ik] at h
   split at h
   ·cases h
   ·rename_i hne;exact bJ _ _ _ _ hne
 have hblk:∀j,bM (setB B k (.row (some b) m m)) j=bM B j:=by
  intro j
  by_cases hj:j=k
  ·subst hj;rw[dY (fF _ _ _),ia hB]
  ·exact gQ (bJ _ _ _ _ hj)
 have hflat:∀e r,ik k z e=some r->r.flat=true:=by
  intro e r h
  cases e<;>simp only[ik] at h<;>first|(cases h;done)|(split at h<;>first|(cases h;done)|skip)
  ·cases h;split<;>rfl
  ·cases h;rfl
  ·cases h;rfl
  ·cases h;rfl
  ·cases h;rfl
  ·cases h;rfl
 have hdom:∀j t' es,((j=k/\t'=t/\es=[.aR false d enc l])\/(j≠k/\∃es',M j t' es'/\es=D.subs (ik k z) es'))->∃t es,((j=k/\t=t'/\es=l.flatMap enc)\/(j≠k/\M j t es)):=by
  rintro j t' es (⟨rfl,rfl,rfl⟩|⟨hjk,es',h4,rfl⟩)
  ·exact⟨_,_,.inl ⟨rfl,rfl,rfl⟩⟩
  ·exact⟨_,_,.inr ⟨hjk,h4⟩⟩
 have hdom2:∀j,(∃t' es,(j=k/\t'=t/\es=[.aR false d enc l])\/(j≠k/\∃es',M j t' es'/\es=D.subs (ik k z) es'))->∃t' es,(j=k/\t'=t/\es=l.flatMap enc)\/(j≠k/\M j t' es):=by
  rintro j ⟨t',es,⟨rfl,rfl,rfl⟩|⟨hjk,es',h4,rfl⟩⟩
  ·exact⟨_,_,.inl ⟨rfl,rfl,rfl⟩⟩
  ·exact⟨_,_,.inr ⟨hjk,h4⟩⟩
 refine⟨⟨fun j t' es hm'=>?_,fun j t' es c hm' hbk=>?_,fun i j c hi hj hBi hBj=>?_,h1.frz,h1.more,h1.grow,h1.below,fun j c hj=>?_⟩,hg,hsub⟩
 ·rcases hm' with⟨rfl,rfl,rfl⟩|⟨hjk,es',h4,rfl⟩
  ·refine .row false d enc l _ _ _ (fF _ _ _) ⟨hl.symm,hgood.1,hgood.2,us,hu.grow hg,⟨by rw[hul,hz],.inr ⟨b,us.toArray,(0,0),rfl,setRow_heap _ _ _ _ _ _ hh,fun j hj=>by simp,Nat.le_refl _,hm,by simp[hul,hz],?_⟩⟩,fun b' hb' j=>?_⟩
   ·simp only[hz,<-hul,List.toList_toArray,List.take_length]
   ·cases hb'
    exact⟨fun hF=>absurd hF (hnf j),fun⟨h,_⟩=>by cases h⟩
  ·have hold:=h1.boxes j t' es' (.inr ⟨hjk,h4⟩)
   cases hold with
   |box _ c us' hB' hr' hfl' hh' hnf'=>exact .box _ c us' ((bJ _ _ _ _ hjk).trans hB') (hr'.sub hsub) (kP hflat hfl') hh' hnf'
   |row mm d' enc' l' p n cap hB' h=>rw[yX];exact .row mm d' enc' l' p n cap ((bJ _ _ _ _ hjk).trans hB') h
   |map kk ag d' enc' l' c hB' h=>exact .map kk ag d' enc' l' c ((bJ _ _ _ _ hjk).trans hB') h
   |obj c o S hB' q2 q3 q4 q5=>exact .obj c o S ((bJ _ _ _ _ hjk).trans hB') q2 q3 q4 q5
 ·rw[hblk] at hbk
  obtain⟨t1,e1,h4⟩:=hdom2 _ ⟨_,_,hm'⟩
  exact h1.new _ _ _ _ h4 hbk
 ·rw[hblk] at hBi hBj
  exact h1.inj i j c (hdom2 _ hi) (hdom2 _ hj) hBi hBj
 ·have hge:=w0.low j (by rw[hj];exact fun e=>by cases e)
  rw[bJ _ _ _ _ (by omega)]
  exact hb.env j c hj
theorem E0{o:Oper}{k z m t:Nat}{ds:List D}{dd:D}{α:Type}{d:α}{enc:α->List D}{l:List α}{K:Act->World->Prop}(h:aY P F w B M a o (.turn k z m dd))(hb:Base F0 w0 B F M w)
  (hk:M k t ds) (hkl:k<LIM) (hm:m<=maxLen) (hs:iC z dd.cells m (.recs d enc l)) (hgood:bP (.recs d enc l))
  (hK:∀w' r,Base F0 w0 (setB B k r) F (fun j t' es=>(j=k/\t'=t/\es=[.aR false d enc l])\/(j≠k/\∃es',M j t' es'/\es=D.subs (ik k z) es')) w'->Grow F F w w'->jR F w' B (setB B k r) (ik k z)->K (a.put o.dst undef) w'):o.wp P a w K Q:=by
 obtain⟨us,hu,hall⟩:=h
 obtain⟨h1,h2,h3⟩:=uZ hs
 have hul:us.length=m*z:=by rw[aA.length hu,h1.length,fB (fun x=>(hgood.2 x).1),h2,h3]
 obtain⟨b,t',ds',vs,hB,hm',hh,hsz,hnf,hrun⟩:=hall hul (h1.qZ (mr hgood))
 unfold Oper.wp
 rw[hrun]
 have htt:t'=t:=by
  have hh1:=hb.boxes _ _ _ hm'
  have hh2:=hb.boxes _ _ _ hk
  cases hh2 with
  |box _ b2 vs2 hB2 hr2 hfl2 hhh2 hnf2 =>
   rw[hB] at hB2;cases hB2
   rw[hh] at hhh2;cases hhh2;rfl
  |row mm d2 enc2 l2 p n cap hB2 h=>rw[hB] at hB2;cases hB2
  |map kk ag d2 enc2 l2 c hB2 h=>rw[hB] at hB2;cases hB2
  |obj c o S hB2=>rw[hB] at hB2;cases hB2
 subst htt
 have hu:=h1.rep hu
 obtain⟨h4,h5,h6⟩:=hb.Br hk hkl hB hh hnf hu hgood h2 h3 hm
 exact hK _ _ h4 h5 h6
end
end Go.Proofs.YtpmmhhmhckpnfaaDoor.RX
namespace Go.Proofs.YtpmmhhmhckpnfaaDoor.RX
open Go.RowKit
section
variable {P:Program} {F0:Fz} {w0:Pt P} {B:Env} {F:Fz} {M:Mem} {w:World} {a:Act} {Q:Exit->Act->World->Prop}
theorem Base.pd(hb:Base F0 w0 B F M w){k t:Nat}{kk:Option IntKind}{ag:Bool}{α:Type}{d:α}{enc:α->List D}{l l':List (MK×α)}(hk:M k t [.dH kk ag d enc l]){b:Nat}{w':World}(hB:B k=some (.map b))(hs:yz w w' b)
  (hnew:∃es clock,w'.heap[b]? = some (.map es clock)/\MapKept.Stamped es clock/\dc F w kk ag enc l' es.toList):Base F0 w0 B F (kR k t (.dH kk ag d enc l') M) w'/\Grow F F w w':=by
 obtain⟨b',hB',hfr,hgood,hnf,_⟩:=hb.map' hk
 rw[hB] at hB';cases hB'
 have hkb:=gp hB
 have hg:Grow F F w w':=⟨fun _ _ h=>h,fun g j hF=>by
  have hne:g≠b:=fun e=>by subst e;exact hnf j hF
  simp[World.cell?,hs.block g hne],fun g j hF=>lW (hs.block g fun e=>by subst e;exact hnf j hF)⟩
 obtain⟨es,clock,hh,hst,hes⟩:=hnew
 have hback:∀j t' ds,kR k t (.dH kk ag d enc l') M j t' ds->∃t' ds,M j t' ds:=by
  rintro j t' ds (⟨rfl,_,_⟩|⟨_,h⟩)
  ·exact⟨_,_,hk⟩
  ·exact⟨_,_,h⟩
 refine⟨⟨fun j t' ds hl=>?_,fun j t' ds b' hl hbk=>?_,fun i j c hi hj hBi hBj=>?_,fun g j hF=>?_,hb.more,hb.grow.trans hg,hb.below.trans ⟨hs.os,hs.tape,hs.output,Nat.le_of_eq hs.size.symm,fun i hi hsn=>?_⟩,hb.env⟩,hg⟩
 ·rcases hl with⟨rfl,rfl,rfl⟩|⟨hjk,hy⟩
  ·exact .map kk ag d enc l' b hB ⟨hgood,hnf,es,clock,hh,hst,hes.grow hg⟩
  ·refine(hb.boxes _ _ _ hy).grow hg rfl (fun _ _ _ h=>h) fun b' hbk=>⟨hs.block b' fun e=>hjk ?_,fun _ h=>h⟩
   subst e
   exact hb.inj j k _ ⟨_,_,hy⟩ ⟨_,_,hk⟩ hbk hkb
 ·obtain⟨t1,ds1,h1⟩:=hback _ _ _ hl
  exact hb.new _ _ _ _ h1 hbk
 ·obtain⟨t1,d1,h1⟩:=hi
  obtain⟨t2,d2,h2⟩:=hj
  exact hb.inj i j c (hback _ _ _ h1) (hback _ _ _ h2) hBi hBj
 ·rw[hs.size];exact hb.frz g j hF
 ·refine hs.block i fun e=>?_
  subst e
  rcases hfr with h|h
  ·omega
  ·exact hsn h
theorem Base.nO(hb:Base F0 w0 B F M w){t ty:Nat}{kk:Option IntKind}{ag:Bool}{α:Type}{d:α}{enc:α->List D}(hgood:pP ag enc){B':Env}(hB':B' t=some (.map w.heap.size))(henv:∀k,LIM<=k->B' k=B k){M':Mem}
  (hM:∀k t' ds,M' k t' ds->M k t' ds/\k≠t/\B' k=B k/\∀F w vs,aA F w B ds vs->aA F w B' ds vs) :
  Base F0 w0 B' F (lK t ty [.dH kk ag d enc []] M') (w.alloc (.map #[] 0))/\Grow F F w (w.alloc (.map #[] 0)):=by
 have hg:Grow F F w (w.alloc (.map #[] 0)):=⟨fun _ _ h=>h,fun g k hF=>World.cell?_alloc_lt _ _ _ (hb.frz g k hF),fun g k hF=>lW (Below.heap_alloc _ _ _ (hb.frz g k hF))⟩
 have hsz:=hb.below.size
 have hlt:∀b,(∃k,(∃t' ds,M' k t' ds)/\bM B k=some b)->b<w.heap.size:=by
  rintro b ⟨k,⟨t',ds,h⟩,hbk⟩
  exact(hb.boxes _ _ _ (hM _ _ _ h).1).lt hbk
 refine⟨hb.qA hg (.map kk ag d enc [] w.heap.size hB' ⟨hgood,fun j hj=>?_,#[],0,?_,MapKept.stamped_empty 0,.nil⟩) (fun b hbk=>?_) hM (fun b hbk=>⟨Below.heap_alloc _ _ _ (hlt b hbk),fun _ h=>h⟩) (fun g k hF=>?_) (fun g k h=>.inl h) (.of ((Below.refl _ w).alloc hsz _)) henv,hg⟩
 ·have:=hb.frz _ _ hj;omega
 ·show(w.heap.push _)[w.heap.size]? = _
  simp
 ·rw[gp hB'] at hbk;cases hbk
  exact⟨.inl hsz,fun k hk _ hbk=>by have:=hlt _ ⟨k,hk,hbk⟩;omega⟩
 ·have:=hb.frz g k hF;simp;omega
theorem D3{o:Oper}{t ty:Nat}{kk:Option IntKind}{ag:Bool}{α:Type}{d:α}{enc:α->List D}{K:Act->World->Prop}(h:aY P F w B M a o (.nO ty kk ag))(hb:Base F0 w0 B F M w)(hgood:pP ag enc){B':Env}(hB':B' t=some (.map w.heap.size))(henv:∀k,LIM<=k->B' k=B k){M':Mem}
  (hM:∀k t' ds,M' k t' ds->M k t' ds/\k≠t/\B' k=B k/\∀F w vs,aA F w B ds vs->aA F w B' ds vs)
  (hK:∀w',Base F0 w0 B' F (lK t ty [.dH kk ag d enc []] M') w'->Grow F F w w'->K (a.put o.dst (.map (some w.heap.size))) w'):o.wp P a w K Q:=by
 have hrun:(execOp a.eval o).run P w=.ok (.value (.map (some w.heap.size))) (w.alloc (.map #[] 0)):=h
 unfold Oper.wp
 rw[hrun]
 obtain⟨h1,h2⟩:=hb.nO (kk:=kk) (d:=d) (ty:=ty) hgood hB' henv hM
 exact hK _ h1 h2
theorem EX{o:Oper}{k t:Nat}{kk:Option IntKind}{ag:Bool}{key:MK}{cells:List D}{α:Type}{d:α}{enc:α->List D}{l l':List (MK×α)}{K:Act->World->Prop}(h:aY P F w B M a o (.pd k kk ag key cells))(hb:Base F0 w0 B F M w)
  (hno:D.bU cells=true) (hk:M k t [.dH kk ag d enc l]) (hx:qC enc l key cells l')
  (hK:∀w',Base F0 w0 B F (kR k t (.dH kk ag d enc l') M) w'->Grow F F w w'->K (a.put o.dst undef) w'):o.wp P a w K Q:=by
 obtain⟨v,hv,rfl⟩:=hx
 obtain⟨b,w',hB,hrun,hs,hnew⟩:=h hno t α d enc l v hk hv
 unfold Oper.wp
 rw[hrun]
 obtain⟨h1,h2⟩:=hb.pd (d:=d) hk hB hs hnew
 exact hK _ h1 h2
theorem Gq{o:Oper}{k t:Nat}{kk:Option IntKind}{ag:Bool}{key:MK}{α:Type}{d:α}{enc:α->List D}{l:List (MK×α)}{K:Act->World->Prop}(h:aY P F w B M a o (.mdl k kk ag key))(hb:Base F0 w0 B F M w)
  (hk:M k t [.dH kk ag d enc l]) (hK:∀w',Base F0 w0 B F (kR k t (.dH kk ag d enc (qW l key)) M) w'->Grow F F w w'->K (a.put o.dst (.tuple #[])) w'):o.wp P a w K Q:=by
 obtain⟨b,w',hB,hrun,hs,hnew⟩:=h t α d enc l hk
 unfold Oper.wp
 rw[hrun]
 obtain⟨h1,h2⟩:=hb.pd (d:=d) hk hB hs hnew
 exact hK _ h1 h2
theorem BR{o:Oper}{k es t:Nat}{α:Type}{d:α}{enc:α->List D}{l xs:List α}{cells:List D}{n:Nat}{K:Act->World->Prop}(h:aY P F w B M a o (.cpy k es cells n))(hb:Base F0 w0 B F M w)
  (hm:M k t [.aR false d enc l]) (hz:(enc d).length=es) (hw:bf cells (xs.flatMap enc)) (hn:xs.length=n)
  (hK:∀w',Base F0 w0 B F (kR k t (.aR false d enc (mT l xs)) M) w'->Grow F F w w'->K (a.put o.dst (.int .i64 (Nat.min n l.length:Nat))) w'):o.wp P a w K Q:=by
 obtain⟨p,nn,cap,w',hB,hrun,hcase⟩:=h t α d enc l xs hm hz hw hn
 unfold Oper.wp
 rw[hrun]
 obtain⟨p',n0,cap0,hB',hrow⟩:=hb.jq hm
 rw[hB] at hB';cases hB'
 obtain⟨hn0,hpos',hge,ys,hys,hown,hfz⟩:=hrow
 rcases hcase with⟨rfl,rfl⟩|⟨b,cur,fz,us,rfl,hh,hus,rfl⟩
 ·have h0:l=[]:=by
   rcases hown.2 with⟨_,h7,_⟩|⟨g,cur,fz,hp,_⟩
   ·exact List.eq_nil_of_length_eq_zero (by omega)
   ·cases hp
  subst h0
  have hco:mT ([]:List α) xs=[]:=by simp[mT]
  rw[hco] at hK
  refine hK _ (hb.sub fun j t' ds hj=>?_) (Grow.refl _ _)
  rcases hj with⟨rfl,rfl,rfl⟩|⟨_,h⟩
  ·exact hm
  ·exact h
 have hnf:∀j,¬F b j:=fun j hj=>by have:=(hfz b rfl j).1 hj;simp at this
 have hg:Grow F F w (w.setRow b (bW cur.toList 0 us).toArray):=⟨fun _ _ h=>h,fun g j hF=>cell_setRow_other _ _ _ _ (fun e=>by simp only at e;subst e;exact hnf j hF),fun g j hF=>lW (setRow_other _ _ _ _ fun e=>by subst e;exact hnf j hF)⟩
 have hul:us.length=(xs.take l.length).length*es:=by rw[aA.length hus,fB (fun x=>(hge x).1.trans hz)]
 have hlen:(mT l xs).length=l.length:=by
  simp only[mT,List.length_append,List.length_take,List.length_drop];omega
 refine(fun hT=>hK _ (And.left hT) (And.right hT)) (hb.turn (w':=w.setRow b (bW cur.toList 0 us).toArray) (M':=kR k t (.aR false d enc (mT l xs)) M) (dY hB) ⟨_,_,hm⟩ hnf rfl fun j t' ds hl=>?_)
 rcases hl with⟨rfl,rfl,rfl⟩|⟨hjk,hy⟩
 rotate_left
 ·exact⟨⟨_,_,hy⟩,fun h=>absurd h hjk,fun _=>hy⟩
 refine⟨⟨_,_,hm⟩,fun _=>?_,fun h=>absurd rfl h⟩
 rcases hown.2 with⟨hp,_⟩|⟨g,cur',fz',hp,hh',hfr,hnc,hcm,hcs,htk⟩
 ·cases hp
 ·cases hp
  rw[hh] at hh'
  cases hh'
  have hle:us.length<=cur.size:=by
   rw[hul,hcs,hz];exact Nat.mul_le_mul_right _ (by rw[List.length_take];omega)
  have hsl:(bW cur.toList 0 us).length=cur.size:=by
   unfold bW;simp;omega
  have hvals:aA F w NB ((mT l xs).flatMap enc) (us++ys.drop us.length):=by
   unfold mT
   rw[List.flatMap_append]
   refine hus.append ?_
   have h1:=hys.drop us.length
   rw[hul,yd (fun x=>(hge x).1.trans hz)] at h1
   rw[hul]
   have:l.drop (xs.take l.length).length=l.drop xs.length:=by
    rw[List.length_take]
    rcases Nat.le_total l.length xs.length with h|h
    ·rw[Nat.min_eq_left h,List.drop_of_length_le (Nat.le_refl _),List.drop_of_length_le h]
    ·rw[Nat.min_eq_right h]
   rwa[this] at h1
  refine .row false d enc _ (some b) nn cap hB ⟨by omega,hpos',hge,_,hvals.grow hg,⟨?_,.inr ⟨b,_,fz,rfl,setRow_heap _ _ _ _ _ _ hh,?_,hnc,hcm,by simpa using hsl.trans hcs,?_⟩⟩,fun b' hb' j=>?_⟩
  ·rw[aA.length hvals,fB (fun x=>(hge x).1),hlen,hn0]
  ·intro j hj;exact hfr j (by simpa[hsl] using hj)
  ·unfold bW
   simp only[List.take_zero,List.nil_append,Nat.zero_add]
   have hu2:us.length<=nn*(enc d).length:=by
    rw[hul,hz];exact Nat.mul_le_mul_right _ (by rw[List.length_take];omega)
   rw[List.take_append,List.take_of_length_le hu2,<-htk,List.drop_take]
  ·have hb2:b'=b:=by cases hb';rfl
   subst hb2
   exact⟨fun hF=>absurd hF (hnf j),fun⟨h,_⟩=>by cases h⟩
theorem Gp{o:Oper}{k t:Nat}{kk:Option IntKind}{ag:Bool}{key:MK}{ok:Bool}{ez:List D}{α:Type}{d:α}{enc:α->List D}{l:List (MK×α)}{r:D}{K:Act->World->Prop}(h:aY P F w B M a o (.mlk k kk ag key ok ez))
  (hk:M k t [.dH kk ag d enc l]) (hr:if ok then pJ ag enc l key ez r else iY ag enc l key ez r) (hK:∀v,Rep F w B r v->K (a.put o.dst v) w):o.wp P a w K Q:=by
 obtain⟨v,hrun,hv⟩:=h t α d enc l hk r hr
 unfold Oper.wp
 rw[hrun]
 exact hK v hv
theorem Fh{o:Oper}{k t:Nat}{kk:Option IntKind}{ag:Bool}{α:Type}{d:α}{enc:α->List D}{l:List (MK×α)}{K:Act->World->Prop}(h:aY P F w B M a o (.sG k))
  (hk:M k t [.dH kk ag d enc l]) (hK:K (a.put o.dst (.int .i64 l.length)) w):o.wp P a w K Q:=by
 have hrun:=h t kk ag α d enc l hk
 unfold Oper.wp
 rw[hrun]
 exact hK
end
end Go.Proofs.YtpmmhhmhckpnfaaDoor.RX
