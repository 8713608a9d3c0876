import Derived.Test.YtefojkdckfidcaaGreatDoorQRxStep
import Derived.OrdersIn
import Derived.TacticsIn
import Derived.Scope
set_option linter.all false
namespace Go.Proofs.YtefojkdckfidcaaGreatDoor.RX
open Go.RowKit
section
variable {P:Program} {F0:Fz} {w0:Pt P} {B:Env} {F:Fz} {w:World} {a:Act} {Q:Exit->Act->World->Prop} {Γ:Nat->Option TI} {nt:Nat} {ops:List Oper} {s:ES} {i:Nat} {S S':Nat->Prop}
theorem iJ.tab{tab tab':List (Nat×Bool)}{e:Ent}(h:iJ F w B tab a e)(hk:∀x∈e.cnd,tv tab' x.1=tv tab x.1):iJ F w B tab' a e:=by
 unfold iJ at *
 rw[pF hk];exact h
theorem iJ.put{tab:List (Nat×Bool)}{e:Ent}{t:Nat}{v:Value}(h:iJ F w B tab a e)(hne:e.slot≠t):iJ F w B tab (a.put (some t) v) e:=by
 unfold iJ at *
 rw[Be hne];exact h
theorem fG(hi:fC nt ops F0 w0 B F s S a w)(hni:¬S i)(hS:∀j,S j->S' j)(hSi:S' i){B':Env}{F':Fz}{w':World}{L':ax}{K0:List Ent}(hK0:∀e∈K0,e∈s.K/\iJ F' w' B' s.tab a e)(hb:Base F0 w0 B' F' (aN L') w')
  {t:Nat} {g:Cnd} {d:D} {v:Value} {tab':List (Nat×Bool)} {ob:List Prop} (ht:t<nt) (hg:∀x∈g,S x.1) (htab:∀j,j≠i->tv tab' j=tv s.tab j) (hself:∀b,d=.val (.bool b)->tv tab' i=b)
  (ho:(ops[i]?).bind (·.dst)=some t) (hv:(holds s.tab g=true->Rep F' w' B' d v)/\(holds s.tab g=false->v=undef)) :
  fC nt ops F0 w0 B' F' { K:=gu ⟨t,i+1,g,d⟩ K0,L:=L',tab:=tab',obl:=ob } S' (a.put (some t) v) w':=by
 have hsz:t<a.tmps.size:=by rw[hi.size];exact ht
 have hne:∀j,S j->j≠i:=fun j hj e=>hni (e▸hj)
 refine⟨hb,by rw[put_defers];exact hi.defers,by rw[CM];exact hi.size,fun e he=>?_,fun e he x hx=>?_,fun e he=>?_,fun e he j hj=>?_⟩
 ·rcases qE he with rfl|⟨h1,h2⟩
  ·have hc:holds tab' g=holds s.tab g:=pF fun x hx=>htab _ (hne _ (hg x hx))
   refine⟨fun hh=>⟨v,uA hsz,hv.1 (by rw[<-hc];exact hh)⟩,fun hh=>?_⟩
   rw[<-hv.2 (by rw[<-hc];exact hh)]
   exact uA hsz
  ·obtain⟨h3,h4⟩:=hK0 e h1
   exact(h4.tab fun x hx=>htab _ (hne _ (hi.keys e h3 x hx))).put h2
 ·rcases qE he with rfl|⟨h1,h2⟩
  ·exact hS _ (hg x hx)
  ·exact hS _ (hi.keys e (hK0 e h1).1 x hx)
 ·rcases qE he with rfl|⟨h1,h2⟩
  ·exact .inr hSi
  ·exact(hi.srcs e (hK0 e h1).1).imp id (hS _)
 ·rcases qE he with rfl|⟨h1,h2⟩
  ·have:j=i:=by simp only at hj;omega
   subst this
   exact⟨ho,fun b hb=>hself b hb⟩
  ·obtain⟨h3,h4⟩:=hi.lJ e (hK0 e h1).1 j hj
   have hsj:S j:=by
    have:=hi.srcs e (hK0 e h1).1
    rw[hj] at this
    simpa using this
   exact⟨h3,fun b hb=>by rw[htab j (hne j hsj)];exact h4 b hb⟩
theorem lW(hi:fC nt ops F0 w0 B F s S a w)(hS:∀j,S j->S' j){F':Fz}{w':World}{L':ax}(hgr:Grow F F' w w')(hb:Base F0 w0 B F' (aN L') w'){v:Value}{ob:List Prop} :
  fC nt ops F0 w0 B F' { K:=s.K,L:=L',tab:=s.tab,obl:=ob } S' (a.put none v) w' :=
 ⟨hb,hi.defers,hi.size,fun e he=>(hi.ents e he).grow hgr,fun e he x hx=>hS _ (hi.keys e he x hx),fun e he=>(hi.srcs e he).imp id (hS _),hi.lJ⟩
theorem GR(hi:fC nt ops F0 w0 B F s S a w)(hS:∀j,S j->S' j){B':Env}{F':Fz}{w':World}{L':ax}{K0:List Ent}(hK0:∀e∈K0,e∈s.K/\iJ F' w' B' s.tab a e)(hb:Base F0 w0 B' F' (aN L') w'){v:Value}{ob:List Prop} :
  fC nt ops F0 w0 B' F' { K:=K0,L:=L',tab:=s.tab,obl:=ob } S' (a.put none v) w' :=
 ⟨hb,hi.defers,hi.size,fun e he=>(hK0 e he).2,fun e he x hx=>hS _ (hi.keys e (hK0 e he).1 x hx),fun e he=>(hi.srcs e (hK0 e he).1).imp id (hS _),fun e he=>hi.lJ e (hK0 e he).1⟩
theorem Jj(hi:fC nt ops F0 w0 B F s S a w)(hS:∀j,S j->S' j){B':Env}{F':Fz}{w':World}{L':ax}{sb:D->Option D}(hgr:Grow F F' w w')(hs:mj F' w' B B' sb)(hb:Base F0 w0 B' F' (aN L') w'){v:Value}{ob:List Prop}(hsv:∀d v,sb d≠some (.val v)) :
  fC nt ops F0 w0 B' F' { K:=Fj sb s.K,L:=L',tab:=s.tab,obl:=ob } S' (a.put none v) w':=by
 have hm:∀e∈Fj sb s.K,∃e'∈s.K,e={ e' with d:=e'.d.sub sb }:=by
  intro e he
  obtain⟨e',h1,h2⟩:=List.mem_map.1 he
  exact⟨e',h1,h2.symm⟩
 refine⟨hb,hi.defers,hi.size,fun e he=>?_,fun e he x hx=>?_,fun e he=>?_,fun e he j hj=>?_⟩
 ·obtain⟨e',h1,rfl⟩:=hm e he
  have h2:=(hi.ents e' h1).grow hgr
  exact⟨fun hq=>by obtain⟨v,h3,h4⟩:=h2.1 hq;exact⟨v,h3,h4.sub hs⟩,h2.2⟩
 ·obtain⟨e',h1,rfl⟩:=hm e he
  exact hS _ (hi.keys e' h1 x hx)
 ·obtain⟨e',h1,rfl⟩:=hm e he
  exact(hi.srcs e' h1).imp id (hS _)
 ·obtain⟨e',h1,rfl⟩:=hm e he
  obtain⟨h2,h3⟩:=hi.lJ e' h1 j hj
  exact⟨h2,fun b hb=>h3 b (Ep hsv hb)⟩
theorem tV{tab:List (Nat×Bool)}{g:Cnd}{cs:List Bool}{obl:List Prop}(h:∀p∈obl++cs.map fun c=>j4 tab g c=true,p)(hh:holds tab g=true):∀c∈cs,c=true:=by
 intro c hc
 have:=h (j4 tab g c=true) (List.mem_append_right _ (List.mem_map.2 ⟨c,hc,rfl⟩))
 unfold j4 at this
 split at this
 ·exact this
 ·rw[hh] at this;simpa using this
theorem iC{d:D}{tab:List (Nat×Bool)}:∀j,j≠i->tv (dV i d tab) j=tv tab j:=fun _ h=>pW h
theorem DY{L:ax}{old:Option Nat}{x:Nat×Nat×List D}(h:x∈dropKey L old):x∈L/\some x.1≠old:=by
 cases old with
 |none=>exact⟨h,by simp⟩
 |some k =>
  obtain⟨h1,h2⟩:=List.mem_filter.1 h
  exact⟨h1,by simpa using h2⟩
theorem wV{L:ax}{es el:Nat}{x y:D}{k N:Nat}{m:Bool}{spec:D->Prop}(h:appSpec es el L x y=some (some k,m,N,spec)):∃(tt:Nat)(α:Type)(d:α)(enc:α->List D)(l:List α),aN L k tt [.aO m d enc l]:=by
 unfold appSpec at h
 split at h
 ·split at h
  ·rename_i hl
   split at h
   ·cases h;exact⟨_,_,_,_,_,aB hl⟩
   ·cases h
  ·cases h
 ·cases h
 ·cases h
theorem JZ{Γ:Nat->Option TI}{L:ax}{get:Operand->Option D}{op:Op}(e:Nat)(m:Bool)(old:Option Nat)(spec:D->Prop)(_ _:Unit):evX Γ L get op≠some (.row e m old spec):=by
 intro h
 unfold evX at h
 repeat' (first|(cases h;done)|(simp only[Option.map] at h)|split at h)
theorem JL{Γ:Nat->Option TI}{L:ax}{get:Operand->Option D}{op:Op}(k:Nat)(n:Int)(z off:Nat)(cells:List D)(_:Unit):evX Γ L get op≠some (.upd k n z off cells):=by
 intro h
 unfold evX at h
 repeat' (first|(cases h;done)|(simp only[Option.map] at h)|split at h)
theorem EC{L:ax}{get:Operand->Option D}{dst:Option Nat}{op:Op}{e:Nat}{m:Bool}{old:Option Nat}{spec:D->Prop}{cs:List Bool}{k:Nat}(h:fV Γ L get dst op=some (.row e m old spec,cs))(hk:old=some k) :
  ∃(tt:Nat)(α:Type)(d:α)(enc:α->List D)(l:List α),aN L k tt [.aO m d enc l]:=by
 subst hk
 unfold fV at h
 split at h
 ·rename_i out' hx
  cases h
  exact absurd hx (JZ _ _ _ _ () ())
 unfold jV at h
 split at h<;>first|(cases h;done)|skip
 case h_21 =>
  unfold fO at h
  split at h<;>first|(cases h;done)|skip
  ·split at h<;>cases h
  ·rename_i s x _ _
   split at h
   ·rename_i t t' _
    cases ht:Γ t with
    |none=>rw[ht] at h;cases h
    |some ti =>
     cases ht':Γ t' with
     |none=>rw[ht,ht'] at h;cases h
     |some ti' =>
      rw[ht,ht'] at h
      simp only[Option.bind] at h
      split at h
      ·rename_i es ea es' ea' hk hk'
       split at h
       ·cases hr:appSpec es ti.elt L s x with
        |none=>rw[hr] at h;cases h
        |some r=>rw[hr] at h;obtain⟨q1,q2,q3,q4⟩:=r;cases h;exact wV hr
       ·cases h
      ·rename_i es ea hk hk'
       split at h
       ·cases hr:appSpec es ti.elt L s x with
        |none=>rw[hr] at h;cases h
        |some r=>rw[hr] at h;obtain⟨q1,q2,q3,q4⟩:=r;cases h;exact wV hr
       ·cases h
      ·cases h
   ·cases h
  all_goals (exfalso;(repeat' (first|(cases h;done)|(simp only[Option.bind,Option.map] at h)|split at h)))
 all_goals (exfalso;(repeat' (first|(cases h;done)|(simp only[Option.bind,Option.map] at h)|split at h)))
theorem FR{L:ax}{get:Operand->Option D}{dst:Option Nat}{op:Op}{k:Nat}{n:Int}{z off t:Nat}{cells:List D}{cs:List Bool}{α:Type}{d:α}{enc:α->List D}{l:List α}(h:fV Γ L get dst op=some (.upd k n z off cells,cs))
  (hl:L.lookup k=some (t,[.aO false d enc l])):cs=[decide (0<=n/\n<(l.length:Int))]:=by
 unfold fV at h
 split at h
 ·rename_i out' hx
  cases h
  exact absurd hx (JL _ _ _ _ _ ())
 unfold jV at h
 split at h<;>first|(cases h;done)|skip
 case h_7 =>
  split at h
  ·split at h
   ·split at h<;>cases h
   ·rename_i hl' _
    split at h
    ·cases h
     rw[hl] at hl'
     cases hl'
     rfl
    ·cases h
   ·cases h
  ·split at h
   ·split at h<;>cases h
   ·cases h
  ·split at h
   ·split at h<;>cases h
   ·cases h
  ·cases h
 all_goals (exfalso;(repeat' (first|(cases h;done)|(simp only[fO,Option.bind,Option.map] at h)|split at h)))
theorem fC.settle(hi:fC nt ops F0 w0 B F s S a w)(k:Nat):∃F',fC nt ops F0 w0 B F' (RX.settle s k) S a w:=by
 unfold RX.settle
 split
 ·rename_i t m α d enc l hl
  obtain⟨F',h1,h2⟩:=hi.base.vC (aB hl)
  refine⟨F',h1.sub fun j t' es hm=>?_,hi.defers,hi.size,fun e he=>(hi.ents e he).grow h2,hi.keys,hi.srcs,hi.lJ⟩
  unfold aN setRow at hm
  rcases List.mem_cons.1 hm with hm|hm
  ·cases hm;exact .inl ⟨rfl,rfl,rfl⟩
  ·obtain⟨h3,h4⟩:=List.mem_filter.1 hm
   exact .inr ⟨by simpa using h4,h3⟩
 ·rename_i t ds hnr hl
  split
  ·rename_i hno
   rw[Bool.and_eq_true] at hno
   obtain⟨F',h1,h2,h3⟩:=hi.base.ground (L:=s.L) (fun _ _ _ _ _ _ _ h=>aB h) (aB hl) hno.1 hno.2
   refine⟨F',h1.sub fun j t' es hm=>?_,hi.defers,hi.size,fun e he=>?_,fun e he=>?_,fun e he=>?_,fun e he j hj=>?_⟩
   ·unfold aN zM at hm
    obtain⟨x,hx,he⟩:=List.mem_map.1 hm
    obtain⟨hx1,hx2⟩:=List.mem_filter.1 hx
    cases he
    exact⟨x.2.2,by simpa using hx2,hx1,rfl⟩
   all_goals
    obtain⟨x,hx,rfl⟩:=List.mem_map.1 he
   ·have h5:=(hi.ents x hx).grow h2
    exact⟨(fun hq=>by obtain⟨v,h6,h7⟩:=h5.1 hq;exact⟨v,h6,h7.sub h3⟩),h5.2⟩
   ·exact hi.keys x hx
   ·exact hi.srcs x hx
   ·obtain⟨h6,h7⟩:=hi.lJ x hx j hj
    exact⟨h6,fun b hb=>h7 b (Ep IK hb)⟩
  ·exact⟨F,hi⟩
 ·exact⟨F,hi⟩
theorem fC.j5(hi:fC nt ops F0 w0 B F s S a w)(fz:List (Nat×List Nat)):∃F',fC nt ops F0 w0 B F' (RX.j5 fz i s) S a w:=by
 unfold RX.j5
 split
 ·rename_i ks hks
  clear hks
  induction ks generalizing s F with
  |nil=>exact⟨F,hi⟩
  |cons k ks ih =>
   obtain⟨F',h⟩:=hi.settle k
   exact ih h
 ·exact⟨F,hi⟩
theorem Fq(s:ES)(k:Nat):(RX.settle s k).obl=s.obl:=by
 unfold RX.settle
 split
 ·rfl
 ·split<;>rfl
 ·rfl
theorem xn(fz:List (Nat×List Nat))(i:Nat)(s:ES):(RX.j5 fz i s).obl=s.obl:=by
 unfold RX.j5
 split
 ·rename_i ks hks
  clear hks
  induction ks generalizing s with
  |nil=>rfl
  |cons k ks ih=>rw[List.foldl_cons,ih,Fq]
 ·rfl
theorem yU(hΓ:ΓOK P Γ){orc:List (Nat×D)}{orb:List (Nat×CBd)}{o:Oper}{s':ES}(hi:fC nt ops F0 w0 B F s S a w)(hni:¬S i)(hS:∀j,S j->S' j)(hSi:S' i)(ho:ops[i]? = some o)(h:qa (CX P) (aV P) Γ nt orc orb ops i o s=some s')(hobl:∀p∈s'.obl,p)
  {K:Act->World->Prop} (hK:∀B' F' a' w',fC nt ops F0 w0 B' F' s' S' a' w'->K a' w') :
  if Region.wanted o (yielded ops.toArray a.tmps)=true then o.wp P a w K Q else K (a.put o.dst undef) w:=by
 unfold qa at h
 split at h
 ·cases h
 ·rename_i g hg
  obtain⟨hw,hkeys⟩:=BO hi hg rfl
  have hdst:∀t,o.dst=some t->(ops[i]?).bind (·.dst)=some t:=by intro t ht;rw[ho];exact ht
  rw[hw]
  split at h
  ·
   rename_i c x y hop
   unfold yp at h
   split at h
   ·rename_i t tc hd
    split at h
    ·rename_i e he
     obtain⟨hm,hslot⟩:=kE he
     split at h
     ·rename_i hcond
      obtain⟨hle,hsrc,ht⟩:=hcond
      split at h
      ·rename_i bc ba bb hec hea heb
       cases h
       have hsrc':e.src=(e.src-1)+1:=by omega
       have htv:=(hi.lJ e hm (e.src-1) hsrc').2 bc hec
       have hnew:∀v,(holds s.tab g=true->v=.bool (bif bc then ba else bb))->(holds s.tab g=false->v=undef)->K (a.put o.dst v) w:=by
        intro v h1 h2
        rw[hd]
        refine hK B F _ _ (fG hi hni hS hSi (fun e he=>⟨he,hi.ents e he⟩) hi.base ht hkeys (fun j hj=>wC hj) (fun b hb=>?_) (hdst t hd) ⟨fun hh=>?_,h2⟩)
        ·cases hb;exact Ab
        ·rw[h1 hh];exact .val _ rfl
       cases hh:holds s.tab g with
       |false=>simp only[Bool.false_eq_true,if_false];exact hnew _ (fun h=>by rw[hh] at h;cases h) (fun _=>rfl)
       |true =>
        simp only[if_true]
        obtain⟨v,hv1,hv2⟩:=(hi.ents e hm).1 (ym hle hh)
        rw[hec] at hv2;cases hv2
        have hval:∀b',bc=b'->∀(z:Operand)(bz:Bool),getOp s.K ((e.src-1,b')::g) z=some (.val (.bool bz))->a.eval z=.bool bz:=by
         intro b' hb' z bz hz
         have hh':holds s.tab ((e.src-1,b')::g)=true:=by
          rw[ko,hh,htv,hb'];simp
         have:=bH hi.ents hh' z _ hz
         generalize a.eval z=vz at this
         cases this;rfl
        have hrun:(execOp a.eval o).run P w=.ok (.value (.bool (bif bc then ba else bb))) w:=by
         unfold execOp
         rw[hslot] at hv1
         simp only[hop,nc hv1,asBool,Sem.run_bind,Sem.run_pure,Result.andThen_ok]
         cases hbc:bc with
         |true=>rw[hval true hbc x ba hea];rfl
         |false=>rw[hval false hbc y bb heb];rfl
        unfold Oper.wp
        rw[hrun]
        exact hnew _ (fun _=>rfl) (fun h=>by rw[hh] at h;cases h)
      ·cases h
     ·cases h
    ·cases h
   ·cases h
  ·
   rename_i op hnp
   cases he:fV Γ s.L (getOp s.K g) o.dst o.op with
   |none=>rw[he] at h;cases h
   |some oc =>
    obtain⟨out,cs⟩:=oc
    rw[he] at h
    simp only[Option.bind] at h
    cases out with
    |val d =>
     simp only[fF] at h
     split at h
     ·rename_i t hd
      split at h
      ·rename_i ht
       cases h
       have hnew:∀v,(holds s.tab g=true->Rep F w B d v)->(holds s.tab g=false->v=undef)->K (a.put o.dst v) w:=by
        intro v h1 h2
        rw[hd]
        exact hK B F _ _ (fG hi hni hS hSi (fun e he=>⟨he,hi.ents e he⟩) hi.base ht hkeys iC (fun b hb=>by subst hb;exact fh) (hdst t hd) ⟨h1,h2⟩)
       cases hh:holds s.tab g with
       |false=>simp only[Bool.false_eq_true,if_false];exact hnew _ (fun h=>by rw[hh] at h;cases h) (fun _=>rfl)
       |true =>
        simp only[if_true]
        exact Gu (bp hΓ hi.base (fun _ _ _ _ _ _ _ h=>aB h) (bH hi.ents hh) (fun _ _ _ _ h=>aB h) he (tV hobl hh)) fun v hv=>hnew v (fun _=>hv) (fun h=>by rw[hh] at h;cases h)
      ·cases h
     ·cases h
    |call f args =>
     simp only[fF] at h
     split at h
     ·
      rename_i c hcb
      split at h
      rotate_left
      ·rename_i x g'
       split at h
       rotate_left
       ·cases h
       rename_i hcond
       obtain⟨hce,hcok,hnk⟩:=hcond
       have hcs:cs=[]:=by simpa using hce
       subst hcs
       have hnk':di c=[]:=by simpa using hnk
       split at h
       rotate_left
       ·cases h
       rename_i t hd
       split at h
       rotate_left
       ·cases h
       rename_i ht
       cases h
       have hc1:holds s.tab (x::g')=true->qp (aV P) f args (found c s.L) c:=hobl _ (List.mem_append_right _ List.mem_cons_self)
       have hc2:holds s.tab (x::g')=false->tK (Jn s.L c) c:=hobl _ (List.mem_append_right _ (List.mem_cons_of_mem _ (List.mem_singleton.2 rfl)))
       cases hh:holds s.tab (x::g') with
       |false =>
        simp only[Bool.false_eq_true,if_false]
        rw[hd]
        refine hK B F _ _ (fG hi hni hS hSi (fun e he=>⟨(List.mem_filter.1 he).1,hi.ents e (List.mem_filter.1 he).1⟩) (hi.base.sub fun k t' ds hm=>?_) ht hkeys iC (fun b hb=>by rw[hb];exact fh) (hdst t hd) ⟨(fun h=>by rw[hh] at h;cases h),fun _=>rfl⟩)
        unfold aN at hm
        rcases List.mem_append.1 hm with h|h
        ·have hk:=hc2 hh
         unfold tK at hk
         rw[hk] at h
         obtain⟨y,hy,he'⟩:=List.mem_filterMap.1 h
         obtain⟨k',hk',h2⟩:=Option.bind_eq_some_iff.1 he'
         obtain⟨z,hz,h3⟩:=Option.map_eq_some_iff.1 h2
         cases h3
         exact aB hz
        ·exact(List.mem_filter.1 h).1
       |true =>
        simp only[if_true]
        refine yw (bp hΓ hi.base (fun _ _ _ _ _ _ _ h=>aB h) (bH hi.ents hh) (fun _ _ _ _ h=>aB h) he (by simp)) hi.base hcok (hc1 hh) fun v w' F' B2 h1 h2 h3 h4=>?_
        rw[hd]
        refine hK B2 F' _ _ (fG hi hni hS hSi (fun e he=>?_) h1 ht hkeys iC (fun b hb=>by rw[hb];exact fh) (hdst t hd) ⟨fun _=>h4,fun h=>by rw[hh] at h;cases h⟩)
        have h5:=(List.mem_filter.1 he).1
        refine⟨h5,?_⟩
        have h6:=(hi.ents e h5).grow h2
        refine⟨fun hq=>?_,h6.2⟩
        obtain⟨v,h7,h8⟩:=h6.1 hq
        exact⟨v,h7,h8.mV fun k _=>h3 k (by rw[hnk'];rfl)⟩
      split at h
      rotate_left
      ·cases h
      rename_i hcond
      obtain⟨hce,hcok⟩:=hcond
      have hcs:cs=[]:=by simpa using hce
      subst hcs
      have hh:holds s.tab []=true:=rfl
      rw[hh]
      simp only[if_true]
      have hent:∀(F':Fz)(w':World)(B2:Env),Grow F F' w w'->(∀k,(di c).contains k=false->B2 k=B k)->∀e∈s.K.filter (fun e=>(di c).all fun k=>!(D.names k e.d)),e∈s.K/\iJ F' w' B2 s.tab a e:=by
       intro F' w' B2 hg hB e he
       obtain⟨h1,h2⟩:=List.mem_filter.1 he
       refine⟨h1,?_⟩
       have h3:=(hi.ents e h1).grow hg
       refine⟨fun hc=>?_,h3.2⟩
       obtain⟨v,h4,h5⟩:=h3.1 hc
       refine⟨v,h4,h5.mV fun k hk=>hB k ?_⟩
       cases hcc:(di c).contains k with
       |false=>rfl
       |true =>
        rw[List.contains_iff_mem] at hcc
        have:=List.all_eq_true.1 h2 k hcc
        rw[hk] at this;cases this
      split at h
      ·rename_i t hd
       split at h
       ·rename_i ht
        cases h
        have hc:=hobl _ (List.mem_append_right _ (List.mem_singleton.2 rfl))
        refine yw (bp hΓ hi.base (fun _ _ _ _ _ _ _ h=>aB h) (bH hi.ents hh) (fun _ _ _ _ h=>aB h) he (by simp)) hi.base hcok hc fun v w' F' B2 h1 h2 h3 h4=>?_
        rw[hd]
        exact hK B2 F' _ _ (fG hi hni hS hSi (hent F' w' B2 h2 h3) h1 ht (by simp) iC (fun b hb=>by rw[hb];exact fh) (hdst t hd) ⟨fun _=>h4,fun h=>by cases h⟩)
       ·cases h
      ·rename_i hd
       cases h
       have hc:=hobl _ (List.mem_append_right _ (List.mem_singleton.2 rfl))
       refine yw (bp hΓ hi.base (fun _ _ _ _ _ _ _ h=>aB h) (bH hi.ents hh) (fun _ _ _ _ h=>aB h) he (by simp)) hi.base hcok hc fun v w' F' B2 h1 h2 h3 h4=>?_
       rw[hd]
       exact hK B2 F' _ _ (GR hi hS (hent F' w' B2 h2 h3) h1)
     split at h
     ·rename_i r t hr hd
      split at h
      ·rename_i hcond
       obtain⟨ht,hna,hnr,hce⟩:=hcond
       cases h
       have hc:=hobl _ (List.mem_append_right _ (List.mem_singleton.2 rfl))
       cases hh:holds s.tab g with
       |false =>
        simp only[Bool.false_eq_true,if_false]
        rw[hd]
        exact hK B F _ _ (fG hi hni hS hSi (fun e he=>⟨he,hi.ents e he⟩) hi.base ht hkeys iC (fun b hb=>by subst hb;exact fh) (hdst t hd) ⟨(fun h=>by rw[hh] at h;cases h),fun _=>rfl⟩)
       |true =>
        simp only[if_true]
        have hcs:cs=[]:=by simpa using hce
        subst hcs
        refine zu (bp hΓ hi.base (fun _ _ _ _ _ _ _ h=>aB h) (bH hi.ents hh) (fun _ _ _ _ h=>aB h) he (by simp)) hi.base hna (hc hh) fun v w' F' h1 h2 h3=>?_
        rw[hd]
        exact hK B F' _ _ (fG hi hni hS hSi (fun e he=>⟨he,(hi.ents e he).grow h2⟩) h1 ht hkeys iC (fun b hb=>by subst hb;exact fh) (hdst t hd) ⟨fun _=>h3,fun h=>by rw[hh] at h;cases h⟩)
      ·cases h
     ·rename_i r hr hd
      split at h
      ·rename_i hcond
       obtain⟨hna,hce⟩:=hcond
       cases h
       have hc:=hobl _ (List.mem_append_right _ (List.mem_singleton.2 rfl))
       cases hh:holds s.tab g with
       |false =>
        simp only[Bool.false_eq_true,if_false]
        rw[hd]
        exact hK B F _ _ (lW hi hS (Grow.refl _ _) hi.base)
       |true =>
        simp only[if_true]
        have hcs:cs=[]:=by simpa using hce
        subst hcs
        refine zu (bp hΓ hi.base (fun _ _ _ _ _ _ _ h=>aB h) (bH hi.ents hh) (fun _ _ _ _ h=>aB h) he (by simp)) hi.base hna (hc hh) fun v w' F' h1 h2 h3=>?_
        rw[hd]
        exact hK B F' _ _ (lW hi hS h2 h1)
      ·cases h
     ·cases h
    |box ty cells =>
     simp only[fF] at h
     split at h
     ·rename_i t hd
      split at h
      ·rename_i hcond
       obtain⟨ht,htl,hfl,hn,hce⟩:=hcond
       cases h
       have hn':D.bu t cells=false:=by simpa using hn
       have hh:holds s.tab []=true:=rfl
       simp only[hh,if_true]
       have hcs:cs=[]:=by simpa using hce
       subst hcs
       have hB':=br B t (.box w.heap.size)
       refine G6 (bp hΓ hi.base (fun _ _ _ _ _ _ _ h=>aB h) (bH hi.ents hh) (fun _ _ _ _ h=>aB h) he (by simp)) hi.base hfl (t:=t) (dY B t (.box w.heap.size)) (fun k hk=>br _ _ _ _ (by unfold LIM at hk;omega)) (M':=aN ((s.L.filter fun x=>!D.bu t x.2.2).filter fun x=>!(x.1==t)))
        (fun F w vs hr=>hr.fB t hB' hn') (fun k t' ds hx=>?_) fun w' h1 h2=>?_
       ·obtain⟨hx1,hx2⟩:=List.mem_filter.1 hx
        obtain⟨hx3,hx4⟩:=List.mem_filter.1 hx1
        have hk:k≠t:=by simpa using hx2
        exact⟨hx3,hk,hB' k hk,fun F w vs hr=>hr.fB t hB' (by simpa using hx4)⟩
       ·rw[hd]
        refine hK _ F _ _ (fG hi hni hS hSi (fun e he=>?_) (h1.sub fun k t' ds h=>?_) ht (by simp) (fun j hj=>rfl) (fun b hb=>by cases hb) (hdst t hd) ⟨fun _=>.own _ _ _ (dY _ _ _),fun h=>by cases h⟩)
        rotate_left
        ·unfold aN qb at h
         rcases List.mem_cons.1 h with h|h
         ·cases h;exact .inl ⟨rfl,rfl,rfl⟩
         ·exact .inr h
        obtain⟨h3,h4⟩:=List.mem_filter.1 he
        refine⟨h3,?_⟩
        have h5:=(hi.ents e h3).grow h2
        exact⟨(fun hq=>by obtain⟨v,h6,h7⟩:=h5.1 hq;exact⟨v,h6,h7.fB t (br _ _ _) (by simpa using h4)⟩),h5.2⟩
      ·cases h
     ·cases h
    |known spec =>
     simp only[fF] at h
     split at h
     ·rename_i t r hd hr
      split at h
      ·rename_i hcond
       obtain⟨ht,hce⟩:=hcond
       cases h
       have hcs:cs=[]:=by simpa using hce
       subst hcs
       have hc:=hobl _ (List.mem_append_right _ (List.mem_singleton.2 rfl))
       have hnew:∀v,(holds s.tab g=true->Rep F w B r v)->(holds s.tab g=false->v=undef)->K (a.put o.dst v) w:=by
        intro v h1 h2
        rw[hd]
        exact hK B F _ _ (fG hi hni hS hSi (fun e he=>⟨he,hi.ents e he⟩) hi.base ht hkeys iC (fun b hb=>by subst hb;exact fh) (hdst t hd) ⟨h1,h2⟩)
       cases hh:holds s.tab g with
       |false=>simp only[Bool.false_eq_true,if_false];exact hnew _ (fun h=>by rw[hh] at h;cases h) (fun _=>rfl)
       |true =>
        simp only[if_true]
        exact B9 (bp hΓ hi.base (fun _ _ _ _ _ _ _ h=>aB h) (bH hi.ents hh) (fun _ _ _ _ h=>aB h) he (by simp)) (hc hh) fun v hv=>hnew v (fun _=>hv) (fun h=>by rw[hh] at h;cases h)
      ·cases h
     ·cases h
    |pL ty kk ag =>
     simp only[fF] at h
     split at h
     ·rename_i t kk' ag' α d enc hd hr
      split at h
      ·rename_i hcond
       obtain⟨ht,htl,hce,rfl,rfl⟩:=hcond
       cases h
       have hh:holds s.tab []=true:=rfl
       simp only[hh,if_true]
       have hcs:cs=[]:=by simpa using hce
       subst hcs
       have hgood:wo ag' enc:=hobl _ (List.mem_append_right _ (List.mem_singleton.2 rfl))
       have hB':=br B t (.map w.heap.size)
       refine IB (bp hΓ hi.base (fun _ _ _ _ _ _ _ h=>aB h) (bH hi.ents hh) (fun _ _ _ _ h=>aB h) he (by simp)) hi.base hgood (d:=d) (t:=t) (dY B t (.map w.heap.size)) (fun k hk=>br _ _ _ _ (by unfold LIM at hk;omega)) (M':=aN ((s.L.filter fun x=>!D.bu t x.2.2).filter fun x=>!(x.1==t))) (fun k t' ds hx=>?_) fun w' h1 h2=>?_
       ·obtain⟨hx1,hx2⟩:=List.mem_filter.1 hx
        obtain⟨hx3,hx4⟩:=List.mem_filter.1 hx1
        have hk:k≠t:=by simpa using hx2
        exact⟨hx3,hk,hB' k hk,fun F w vs hr=>hr.fB t hB' (by simpa using hx4)⟩
       ·rw[hd]
        refine hK _ F _ _ (fG hi hni hS hSi (fun e he=>?_) (h1.sub fun k t' ds h=>?_) ht (by simp) (fun j hj=>rfl) (fun b hb=>by cases hb) (hdst t hd) ⟨fun _=>.mp _ _ (dY _ _ _),fun h=>by cases h⟩)
        rotate_left
        ·unfold aN qb at h
         rcases List.mem_cons.1 h with h|h
         ·cases h;exact .inl ⟨rfl,rfl,rfl⟩
         ·exact .inr h
        obtain⟨h3,h4⟩:=List.mem_filter.1 he
        refine⟨h3,?_⟩
        have h5:=(hi.ents e h3).grow h2
        exact⟨(fun hq=>by obtain⟨v,h6,h7⟩:=h5.1 hq;exact⟨v,h6,h7.fB t (br _ _ _) (by simpa using h4)⟩),h5.2⟩
      ·cases h
     ·cases h
    |mlk k kk ag key ok ez =>
     simp only[fF] at h
     split at h
     ·rename_i t r tt kk' ag' α d enc l hd hr hl
      split at h
      ·rename_i hcond
       obtain⟨ht,hce,rfl,rfl⟩:=hcond
       cases h
       have hcs:cs=[]:=by simpa using hce
       subst hcs
       have hc:=hobl _ (List.mem_append_right _ (List.mem_singleton.2 rfl))
       have hnew:∀v,(holds s.tab g=true->Rep F w B r v)->(holds s.tab g=false->v=undef)->K (a.put o.dst v) w:=by
        intro v h1 h2
        rw[hd]
        exact hK B F _ _ (fG hi hni hS hSi (fun e he=>⟨he,hi.ents e he⟩) hi.base ht hkeys iC (fun b hb=>by subst hb;exact fh) (hdst t hd) ⟨h1,h2⟩)
       cases hh:holds s.tab g with
       |false=>simp only[Bool.false_eq_true,if_false];exact hnew _ (fun h=>by rw[hh] at h;cases h) (fun _=>rfl)
       |true =>
        simp only[if_true]
        exact LP (bp hΓ hi.base (fun _ _ _ _ _ _ _ h=>aB h) (bH hi.ents hh) (fun _ _ _ _ h=>aB h) he (by simp)) (aB hl) (hc hh) fun v hv=>hnew v (fun _=>hv) (fun h=>by rw[hh] at h;cases h)
      ·cases h
     ·cases h
    |uT k =>
     simp only[fF] at h
     split at h
     ·rename_i t tt kk ag α d enc l hd hl
      split at h
      ·rename_i hcond
       obtain⟨ht,hce⟩:=hcond
       cases h
       have hcs:cs=[]:=by simpa using hce
       subst hcs
       have hnew:∀v,(holds s.tab g=true->Rep F w B (.val (.int .i64 l.length)) v)->(holds s.tab g=false->v=undef)->K (a.put o.dst v) w:=by
        intro v h1 h2
        rw[hd]
        exact hK B F _ _ (fG hi hni hS hSi (fun e he=>⟨he,hi.ents e he⟩) hi.base ht hkeys (fun j hj=>rfl) (fun b hb=>by cases hb) (hdst t hd) ⟨h1,h2⟩)
       cases hh:holds s.tab g with
       |false=>simp only[Bool.false_eq_true,if_false];exact hnew _ (fun h=>by rw[hh] at h;cases h) (fun _=>rfl)
       |true =>
        simp only[if_true]
        exact KC (bp hΓ hi.base (fun _ _ _ _ _ _ _ h=>aB h) (bH hi.ents hh) (fun _ _ _ _ h=>aB h) he (by simp)) (aB hl) (hnew _ (fun _=>.val _ rfl) (fun h=>by rw[hh] at h;cases h))
      ·cases h
     ·cases h
    |qO k kk ag key cells =>
     simp only[fF] at h
     split at h
     ·rename_i t kk' ag' α d enc l hd hl
      split at h
      ·rename_i hcond
       obtain⟨hno,hce,rfl,rfl⟩:=hcond
       split at h
       ·rename_i r hr
        cases h
        have hh:holds s.tab []=true:=rfl
        simp only[hh,if_true]
        have hcs:cs=[]:=by simpa using hce
        subst hcs
        obtain⟨l',rfl,hx⟩:=hobl _ (List.mem_append_right _ (List.mem_singleton.2 rfl))
        refine Kt (bp hΓ hi.base (fun _ _ _ _ _ _ _ h=>aB h) (bH hi.ents hh) (fun _ _ _ _ h=>aB h) he (by simp)) hi.base hno (aB hl) hx fun w' h1 h2=>?_
        rw[hd]
        refine hK B F _ _ (lW hi hS h2 (h1.sub fun j t' es hm=>?_))
        unfold aN setRow at hm
        rcases List.mem_cons.1 hm with hm|hm
        ·cases hm;exact .inl ⟨rfl,rfl,rfl⟩
        ·obtain⟨h3,h4⟩:=List.mem_filter.1 hm
         exact .inr ⟨by simpa using h4,h3⟩
       ·cases h
      ·cases h
     ·cases h
    |mdl k kk ag key =>
     simp only[fF] at h
     split at h
     ·rename_i t kk' ag' α d enc l hd hl
      split at h
      ·rename_i hcond
       obtain⟨hce,rfl,rfl⟩:=hcond
       cases h
       have hh:holds s.tab []=true:=rfl
       simp only[hh,if_true]
       have hcs:cs=[]:=by simpa using hce
       subst hcs
       refine K5 (bp hΓ hi.base (fun _ _ _ _ _ _ _ h=>aB h) (bH hi.ents hh) (fun _ _ _ _ h=>aB h) he (by simp)) hi.base (aB hl) fun w' h1 h2=>?_
       rw[hd]
       refine hK B F _ _ (lW hi hS h2 (h1.sub fun j t' es hm=>?_))
       unfold aN setRow at hm
       rcases List.mem_cons.1 hm with hm|hm
       ·cases hm;exact .inl ⟨rfl,rfl,rfl⟩
       ·obtain⟨h3,h4⟩:=List.mem_filter.1 hm
        exact .inr ⟨by simpa using h4,h3⟩
      ·cases h
     ·cases h
    |cpy k z cells n =>
     simp only[fF] at h
     split at h
     ·rename_i α' d' enc' l' t α d enc l hd hr hl
      split at h
      ·rename_i hcond
       obtain⟨hce,hz⟩:=hcond
       cases h
       have hh:holds s.tab []=true:=rfl
       simp only[hh,if_true]
       have hcs:cs=[]:=by simpa using hce
       subst hcs
       have hc:yT d enc l cells n (.recs d' enc' l'):=hobl _ (List.mem_append_right _ (List.mem_singleton.2 rfl))
       obtain⟨xs,hx1,hx2,hx3⟩:=hc
       cases hx3
       refine GU (bp hΓ hi.base (fun _ _ _ _ _ _ _ h=>aB h) (bH hi.ents hh) (fun _ _ _ _ h=>aB h) he (by simp)) hi.base (aB hl) hz hx1 hx2 fun w' h1 h2=>?_
       rw[hd]
       refine hK B F _ _ (lW hi hS h2 (h1.sub fun j t' es hm=>?_))
       unfold aN setRow at hm
       rcases List.mem_cons.1 hm with hm|hm
       ·cases hm;exact .inl ⟨rfl,rfl,rfl⟩
       ·obtain⟨h3,h4⟩:=List.mem_filter.1 hm
        exact .inr ⟨by simpa using h4,h3⟩
      ·cases h
     ·rename_i tt α' d' enc' l' t α d enc l hd hr hl
      split at h
      ·rename_i hcond
       obtain⟨htt,hce,hz⟩:=hcond
       cases h
       have hh:holds s.tab []=true:=rfl
       simp only[hh,if_true]
       have hcs:cs=[]:=by simpa using hce
       subst hcs
       have hc:yT d enc l cells n (.recs d' enc' l'):=hobl _ (List.mem_append_right _ (List.mem_singleton.2 rfl))
       obtain⟨xs,hx1,hx2,hx3⟩:=hc
       cases hx3
       refine GU (bp hΓ hi.base (fun _ _ _ _ _ _ _ h=>aB h) (bH hi.ents hh) (fun _ _ _ _ h=>aB h) he (by simp)) hi.base (aB hl) hz hx1 hx2 fun w' h1 h2=>?_
       rw[hd]
       refine hK B F _ _ (fG hi hni hS hSi (fun e he=>⟨he,(hi.ents e he).grow h2⟩) (h1.sub fun j t' es hm=>?_) htt (by simp) (fun j hj=>rfl) (fun b hb=>by cases hb) (hdst tt hd) ⟨fun _=>.val _ rfl,fun h=>by cases h⟩)
       unfold aN setRow at hm
       rcases List.mem_cons.1 hm with hm|hm
       ·cases hm;exact .inl ⟨rfl,rfl,rfl⟩
       ·obtain⟨h3,h4⟩:=List.mem_filter.1 hm
        exact .inr ⟨by simpa using h4,h3⟩
      ·cases h
     ·cases h
    |upd k n z off cells =>
     simp only[fF] at h
     split at h
     ·rename_i α' d' enc' l' t α d enc l hd hr hl
      split at h
      ·rename_i hcond
       obtain⟨hfl,hno,hz⟩:=hcond
       cases h
       have hh:holds s.tab []=true:=rfl
       simp only[hh,if_true]
       have hc:BL d enc l n off cells (.recs d' enc' l'):=hobl _ (List.mem_append_right _ (List.mem_singleton.2 rfl))
       obtain⟨x,hx,he'⟩:=hc
       cases he'
       have hcs:=tV (tab:=s.tab) (g:=[]) (cs:=cs) (obl:=s.obl) (fun p hp=>hobl p (List.mem_append_left _ hp)) rfl
       have hrng:0<=n/\n<(l.length:Int):=by
        refine of_decide_eq_true (hcs _ ?_)
        have:=FR he hl
        rw[this];exact List.mem_singleton.2 rfl
       refine LG (bp hΓ hi.base (fun _ _ _ _ _ _ _ h=>aB h) (bH hi.ents hh) (fun _ _ _ _ h=>aB h) he hcs) hi.base (aB hl) hz hrng.1 hrng.2 hfl hno hx fun w' h1 h2=>?_
       rw[hd]
       refine hK B F _ _ (lW hi hS h2 (h1.sub fun j t' es hm=>?_))
       unfold aN setRow at hm
       rcases List.mem_cons.1 hm with hm|hm
       ·cases hm;exact .inl ⟨rfl,rfl,rfl⟩
       ·obtain⟨h3,h4⟩:=List.mem_filter.1 hm
        exact .inr ⟨by simpa using h4,h3⟩
      ·cases h
     ·cases h
    |row e m old spec =>
     simp only[fF] at h
     split at h
     ·rename_i x g' t α d enc l hd hr
      split at h
      ·rename_i hcond
       obtain⟨ht,htl⟩:=hcond
       cases h
       have hc:holds s.tab (x::g')=true->spec (.recs d enc l)/\aQ (.recs d enc l):=hobl _ (List.mem_append_right _ (List.mem_singleton.2 rfl))
       have hmem:∀k t' ds,aN ((s.L.filter fun x=>!D.bu t x.2.2).filter fun x=>!(x.1==t)) k t' ds->aN s.L k t' ds/\k≠t/\D.bu t ds=false:=by
        intro k t' ds hx
        obtain⟨hx1,hx2⟩:=List.mem_filter.1 hx
        obtain⟨hx3,hx4⟩:=List.mem_filter.1 hx1
        exact⟨hx3,by simpa using hx2,by simpa using hx4⟩
       cases hh:holds s.tab (x::g') with
       |false =>
        simp only[Bool.false_eq_true,if_false]
        rw[hd]
        exact hK B F _ _ (fG hi hni hS hSi (fun e he=>⟨(List.mem_filter.1 he).1,hi.ents e (List.mem_filter.1 he).1⟩) (hi.base.sub fun k t' ds h=>(hmem k t' ds h).1) ht hkeys (fun j hj=>rfl) (fun b hb=>by cases hb) (hdst t hd) ⟨(fun h=>by rw[hh] at h;cases h),fun _=>rfl⟩)
       |true =>
        simp only[if_true]
        have hcs:=tV (tab:=s.tab) (g:=x::g') (cs:=cs) (obl:=s.obl) (fun p hp=>hobl p (List.mem_append_left _ hp)) hh
        refine B7 (bp hΓ hi.base (fun _ _ _ _ _ _ _ h=>aB h) (bH hi.ents hh) (fun _ _ _ _ h=>aB h) he hcs) hi.base (hc hh).1 (hc hh).2 (t:=t) (M':=aN ((s.L.filter fun x=>!D.bu t x.2.2).filter fun x=>!(x.1==t)))
         htl (fun k hk=>by cases hk) (fun k t' ds hx=>?_) fun v w' F' r h1 h2 h3=>?_
        ·obtain⟨h5,h6,h7⟩:=hmem k t' ds hx
         exact⟨h5,h6,by simp,h7⟩
        ·obtain⟨F2,h4,h5⟩:=h1.vC (k:=t) (.inl ⟨rfl,rfl,rfl⟩)
         have h6:Rep F2 w' _ (.recs d enc l) v:=Rep.Ac h4 (k:=t) (.inl ⟨rfl,rfl,rfl⟩) (h3.grow h5)
         rw[hd]
         refine hK _ F2 _ _ (fG hi hni hS hSi (fun e he=>?_) (h4.sub fun k t' ds h=>.inr ⟨(hmem k t' ds h).2.1,.inr h⟩) ht hkeys (fun j hj=>rfl) (fun b hb=>by cases hb) (hdst t hd) ⟨fun _=>h6,fun h=>by rw[hh] at h;cases h⟩)
         obtain⟨h7,h8⟩:=List.mem_filter.1 he
         refine⟨h7,?_⟩
         have h9:=((hi.ents e h7).grow h2).grow h5
         exact⟨(fun hq=>by obtain⟨v,h10,h11⟩:=h9.1 hq;exact⟨v,h10,h11.fB t (br _ _ _) (by simpa using h8)⟩),h9.2⟩
      ·cases h
     ·rename_i old g2 dst2 x2 old2 t α d enc l hd hr
      split at h
      ·rename_i hcond
       obtain⟨ht,htl⟩:=hcond
       cases h
       have hh:holds s.tab []=true:=rfl
       simp only[hh,if_true]
       have hc:spec (.recs d enc l)/\aQ (.recs d enc l):=hobl _ (List.mem_append_right _ (List.mem_singleton.2 rfl))
       have hcs:=tV (tab:=s.tab) (g:=[]) (cs:=cs) (obl:=s.obl) (fun p hp=>hobl p (List.mem_append_left _ hp)) rfl
       refine B7 (bp hΓ hi.base (fun _ _ _ _ _ _ _ h=>aB h) (bH hi.ents hh) (fun _ _ _ _ h=>aB h) he hcs) hi.base hc.1 hc.2 (t:=t) (M':=aN ((((dropKey s.L old).filter fun x=>!D.bu t x.2.2)).filter fun x=>!(x.1==t)))
        htl (fun k hk=>EC he hk) (fun k t' ds hx=>?_) fun v w' F' r h1 h2 h3=>?_
       ·obtain⟨hx1,hx2⟩:=List.mem_filter.1 hx
        obtain⟨hx3,hx4⟩:=List.mem_filter.1 hx1
        obtain⟨hx5,hx6⟩:=DY hx3
        exact⟨hx5,by simpa using hx2,hx6,by simpa using hx4⟩
       ·rw[hd]
        refine hK _ F' _ _ (fG hi hni hS hSi (fun e he=>?_) (h1.sub fun k t' ds h=>?_) ht (by simp) (fun j hj=>rfl) (fun b hb=>by cases hb) (hdst t hd) ⟨fun _=>h3,fun h=>by cases h⟩)
        rotate_left
        ·unfold aN qb at h
         rcases List.mem_cons.1 h with h|h
         ·cases h;exact .inl ⟨rfl,rfl,rfl⟩
         ·exact .inr h
        obtain⟨h4,h5⟩:=List.mem_filter.1 he
        refine⟨h4,?_⟩
        have h6:=(hi.ents e h4).grow h2
        exact⟨(fun hq=>by obtain⟨v,h7,h8⟩:=h6.1 hq;exact⟨v,h7,h8.fB t (br _ _ _) (by simpa using h5)⟩),h6.2⟩
      ·cases h
     ·cases h
    |vS ty z m dd =>
     simp only[fF] at h
     split at h
     ·rename_i t α d enc l hd hr
      split at h
      ·rename_i hcond
       obtain⟨ht,htl,hm,hce⟩:=hcond
       cases h
       have hh:holds s.tab []=true:=rfl
       simp only[hh,if_true]
       have hcs:cs=[]:=by simpa using hce
       subst hcs
       have hc:dC z dd.cells m (.recs d enc l)/\aQ (.recs d enc l):=hobl _ (List.mem_append_right _ (List.mem_singleton.2 rfl))
       refine Ky (bp hΓ hi.base (fun _ _ _ _ _ _ _ h=>aB h) (bH hi.ents hh) (fun _ _ _ _ h=>aB h) he (by simp)) hi.base hc.1 hc.2 (by simp only[maxLen];omega) (t:=t) htl
        (M':=aN ((s.L.filter fun x=>!D.bu t x.2.2).filter fun x=>!(x.1==t))) (fun k t' ds hx=>?_) fun v w' r h1 h2 h3=>?_
       ·obtain⟨hx1,hx2⟩:=List.mem_filter.1 hx
        obtain⟨hx3,hx4⟩:=List.mem_filter.1 hx1
        exact⟨hx3,by simpa using hx2,by simpa using hx4⟩
       ·rw[hd]
        refine hK _ F _ _ (fG hi hni hS hSi (fun e he=>?_) (h1.sub fun k t' ds h=>?_) ht (by simp) (fun j hj=>rfl) (fun b hb=>by cases hb) (hdst t hd) ⟨fun _=>h3,fun h=>by cases h⟩)
        rotate_left
        ·unfold aN qb at h
         rcases List.mem_cons.1 h with h|h
         ·cases h;exact .inl ⟨rfl,rfl,rfl⟩
         ·exact .inr h
        obtain⟨h4,h5⟩:=List.mem_filter.1 he
        refine⟨h4,?_⟩
        have h6:=(hi.ents e h4).grow h2
        exact⟨(fun hq=>by obtain⟨v,h7,h8⟩:=h6.1 hq;exact⟨v,h7,h8.fB t (br _ _ _) (by simpa using h5)⟩),h6.2⟩
      ·cases h
     ·cases h
    |fill k z m dd =>
     simp only[fF] at h
     split at h
     ·rename_i α' d' enc' l' t α d0 enc l hd hr hl
      split at h
      ·rename_i hcond
       obtain⟨hce,hz,hpos⟩:=hcond
       cases h
       have hh:holds s.tab []=true:=rfl
       simp only[hh,if_true]
       have hcs:cs=[]:=by simpa using hce
       subst hcs
       have hlm:l.length=m:=of_decide_eq_true (hobl _ (List.mem_append_right _ List.mem_cons_self))
       have hc:dC z dd.cells m (.recs d' enc' l')/\aQ (.recs d' enc' l'):=hobl _ (List.mem_append_right _ (List.mem_cons_of_mem _ (List.mem_singleton.2 rfl)))
       refine KF (bp hΓ hi.base (fun _ _ _ _ _ _ _ h=>aB h) (bH hi.ents hh) (fun _ _ _ _ h=>aB h) he (by simp)) hi.base (aB hl) hz hlm hpos hc.1 hc.2 fun w' h1 h2=>?_
       rw[hd]
       refine hK B F _ _ (lW hi hS h2 (h1.sub fun j t' es hm=>?_))
       unfold aN setRow at hm
       rcases List.mem_cons.1 hm with hm|hm
       ·cases hm;exact .inl ⟨rfl,rfl,rfl⟩
       ·obtain⟨h3,h4⟩:=List.mem_filter.1 hm
        exact .inr ⟨by simpa using h4,h3⟩
      ·cases h
     ·cases h
    |turn k z m dd =>
     simp only[fF] at h
     split at h
     ·rename_i α' d' enc' l' t ds hd hr hl
      split at h
      ·rename_i hcond
       obtain⟨hce,hkl,hm⟩:=hcond
       cases h
       have hh:holds s.tab []=true:=rfl
       simp only[hh,if_true]
       have hcs:cs=[]:=by simpa using hce
       subst hcs
       have hc:dC z dd.cells m (.recs d' enc' l')/\aQ (.recs d' enc' l'):=hobl _ (List.mem_append_right _ (List.mem_singleton.2 rfl))
       refine JG (bp hΓ hi.base (fun _ _ _ _ _ _ _ h=>aB h) (bH hi.ents hh) (fun _ _ _ _ h=>aB h) he (by simp)) hi.base (aB hl) hkl (by simp only[maxLen];omega) hc.1 hc.2 fun w' r h1 h2 h3=>?_
       rw[hd]
       refine hK _ F _ _ (Jj hi hS h2 h3 (h1.sub fun j t' es hm=>?_) G5)
       unfold aN setRow at hm
       rcases List.mem_cons.1 hm with hm|hm
       ·cases hm;exact .inl ⟨rfl,rfl,rfl⟩
       ·obtain⟨h4,h5⟩:=List.mem_filter.1 hm
        unfold zM at h4
        obtain⟨y,h6,h7⟩:=List.mem_map.1 h4
        obtain⟨h8,h9⟩:=List.mem_filter.1 h6
        cases h7
        exact .inr ⟨by simpa using h5,_,h8,rfl⟩
      ·cases h
     ·cases h
    |store k off cells =>
     simp only[fF] at h
     split at h
     ·rename_i hd
      split at h
      ·rename_i hcond
       obtain⟨hfl,hce⟩:=hcond
       cases h
       have hh:holds s.tab []=true:=rfl
       simp only[hh,if_true]
       have hcs:cs=[]:=by simpa using hce
       subst hcs
       refine Cj (bp hΓ hi.base (fun _ _ _ _ _ _ _ h=>aB h) (bH hi.ents hh) (fun _ _ _ _ h=>aB h) he (by simp)) hi.base hfl fun w' h1 h2=>?_
       rw[hd]
       exact hK B F _ _ (lW hi hS h2 (h1.sub fun _ _ _=>Gm))
      ·cases h
     ·cases h
theorem II{C CB}{orc:List (Nat×D)}{orb:List (Nat×CBd)}{o:Oper}{s':ES}(h:qa C CB Γ nt orc orb ops i o s=some s'):∀p∈s.obl,p∈s'.obl:=by
 unfold qa at h
 split at h
 ·cases h
 ·split at h
  ·unfold yp at h
   repeat' (first|(cases h;done)|(cases h;exact fun p hp=>hp)|split at h)
  ·rename_i op _
   generalize fV Γ s.L (getOp s.K _) o.dst o.op=r at h
   cases r with
   |none=>cases h
   |some oc =>
    obtain⟨out,cs⟩:=oc
    simp only[Option.bind] at h
    cases out<;>simp only[fF] at h<;>repeat' (first|(cases h;done)|(cases h;exact fun p hp=>hp)|(cases h;exact fun p hp=>List.mem_append_left _ hp)|(cases h;exact fun p hp=>List.mem_append_left _ (List.mem_append_left _ hp))|split at h)
theorem rW{C CB}{orc:List (Nat×D)}{orb:List (Nat×CBd)}{fz:List (Nat×List Nat)}:∀(l:List Oper)(i:Nat){s s':ES},lD C CB Γ nt orc orb ops fz l i s=some s'->∀p∈s.obl,p∈s'.obl
 |[],i,s,s',h,p,hp=>by cases h;rw[xn];exact hp
 |o::l,i,s,s',h,p,hp=>by
  unfold lD at h
  split at h
  ·rename_i s1 h1
   exact rW l (i+1) h p (II h1 p (by rw[xn];exact hp))
  ·cases h
theorem qZ(hΓ:ΓOK P Γ){orc:List (Nat×D)}{orb:List (Nat×CBd)}{fz:List (Nat×List Nat)}(l2:List Oper):∀(l:List Oper)(i:Nat){s s':ES}{B:Env}{F:Fz}{a:Act}{w:World},(∀j,j<l.length->l[j]? = ops[i+j]?)->lD (CX P) (aV P) Γ nt orc orb ops fz l i s=some s'->(∀p∈s'.obl,p) ->
  fC nt ops F0 w0 B F s (fun j=>j<i) a w->(∀B' F' a' w',fC nt ops F0 w0 B' F' s' (fun j=>j<i+l.length) a' w'->wpList P ops.toArray Q l2 a' w')->wpList P ops.toArray Q (l++l2) a w
 |[],i,s,s',B,F,a,w,hl,h,hobl,hi,hQ=>by
  cases h
  obtain⟨F',hi'⟩:=hi.j5 fz
  exact hQ B F' a w hi'
 |o::l,i,s,s',B,F,a,w,hl,h,hobl,hi,hQ=>by
  unfold lD at h
  split at h
  ·rename_i s1 h1
   have ho:ops[i]? = some o:=by have:=hl 0 (by simp);simpa using this.symm
   obtain⟨F',hi'⟩:=hi.j5 fz
   have hst:=yU (Q:=Q) (S':=fun j=>j<i+1) hΓ hi' (by simp) (fun j hj=>by omega) (by simp) ho h1 (fun p hp=>hobl p (rW l (i+1) h p hp)) (K:=wpList P ops.toArray Q (l++l2)) (fun B' F' a' w' hi' =>
    qZ hΓ l2 l (i+1) (fun j hj=>by have:=hl (j+1) (by simp;omega);simpa[Nat.add_assoc,Nat.add_comm 1 j] using this) h hobl hi' (fun B'' F'' a'' w'' hi''=>hQ B'' F'' a'' w'' (by simpa[Nat.add_assoc,Nat.add_comm 1 l.length] using hi'')))
   rw[List.cons_append]
   unfold wpList
   split
   ·rename_i hw
    rw[if_pos hw] at hst;exact .inl hst
   ·rename_i hw
    rw[if_neg hw] at hst;exact hst
  ·cases h
theorem pM(hΓ:ΓOK P Γ){orc:List (Nat×D)}{orb:List (Nat×CBd)}{fz:List (Nat×List Nat)}(l:List Oper)(i:Nat){s s':ES}{B:Env}{F:Fz}{a:Act}{w:World}(hl:∀j,l[j]? = ops[i+j]?)(h:lD (CX P) (aV P) Γ nt orc orb ops fz l i s=some s')(hobl:∀p∈s'.obl,p)
  (hi:fC nt ops F0 w0 B F s (fun j=>j<i) a w) (hQ:∀B' F' a' w',fC nt ops F0 w0 B' F' s' (fun j=>j<i+l.length) a' w'->Q .normal a' w'):wpList P ops.toArray Q l a w:=by
 have:=qZ (Q:=Q) hΓ [] l i (fun j _=>hl j) h hobl hi (fun B' F' a' w' hi'=>wpList_nil (hQ B' F' a' w' hi'))
 simpa using this
end
end Go.Proofs.YtefojkdckfidcaaGreatDoor.RX
namespace Go.Proofs.YtefojkdckfidcaaGreatDoor.RX
open Go.RowKit
def Fr(ro:Option Nat):Fence:={ Fence.wide with round:=ro }
def XC(ro:Option Nat)(P:Program)(c:Code)(Q:Exit->Act->World->Prop)(a:Act)(w:World):Prop:=c.wpIn (Fr ro) 0 P Q a w
theorem XC.wp{P:Program}{c:Code}{Q:Exit->Act->World->Prop}{a:Act}{w:World}(h:XC none P c Q a w):c.wp P Q a w:=wpIn_wide.1 h
theorem XC.of{P:Program}{c:Code}{Q:Exit->Act->World->Prop}{a:Act}{w:World}(h:c.wp P Q a w):XC none P c Q a w:=wpIn_wide.2 h
theorem Fr.room(ro:Option Nat)(n:Nat):(Fr ro).room n:=fun _ h=>by cases h
theorem iZ{ro:Option Nat}{P:Program}(m:Machine):m.fenced P (Fr ro):=fenced_wide P m
theorem jS{P:Program}{b:Frame}{a:Act}{k:List Item}{cs:List Frame}{w:World}{c:Code}:step P (lone (b.atR a (.code (.scope c)::k)) cs w)=.next (lone (b.atR a (.code c::.inScope c::k)) cs w) :=
 step_lone_go (by simp[stepG,stepG.exec,Frame.atR])
theorem uL{P:Program}{b:Frame}{a:Act}{k:List Item}{cs:List Frame}{w:World}{c:Code}:step P (lone (b.atR a (.inScope c::k)) cs w)=.next (lone (b.atR a k) cs w) :=
 step_lone_go (by simp[stepG,stepG.exec,Frame.atR])
theorem XC.scope{ro:Option Nat}{P:Program}{c:Code}{Q:Exit->Act->World->Prop}{a:Act}{w:World}(h:XC ro P c (Exit.noGoto Q) a w):XC ro P (.scope c) Q a w:=by
 intro b k cs hro _ _
 obtain⟨e,a₁,w₁,hq,harr⟩:=h b (.inScope c::k) cs hro trivial (Fr.room _ _)
 cases e with
 |normal=>exact⟨.normal,a₁,w₁,hq,.head (iZ _) jS (StepsIn.trans harr (.one (iZ _) uL))⟩
 |exit id=>exact⟨.exit id,a₁,w₁,hq,fun k' hk=>.head (iZ _) jS (harr.1 k' (by simp[exitTo,hk])),fun hr hk=>let ⟨k₁,h1,h2⟩:=harr.2 hr (by simp[exitTo,hk]);⟨k₁,h1,.head (iZ _) jS h2⟩⟩
 |goto l=>exact hq.elim
 |ret=>exact⟨_,a₁,w₁,hq,.of_steps (.one (iZ _) jS) harr⟩
 |panic ch=>exact⟨_,a₁,w₁,hq,.of_steps (.one (iZ _) jS) harr⟩
 |outgrown=>exact⟨_,a₁,w₁,hq,.of_steps (.one (iZ _) jS) harr⟩
def nrm(Q:Exit->Act->World->Prop):Exit->Act->World->Prop
 |.normal,a,w=>Q .normal a w
 |_,_,_=>False
theorem wG{Q:Exit->Act->World->Prop}:¬LetsOut (nrm Q):=fun⟨_,_,h⟩=>h
theorem XC.nrm{ro:Option Nat}{P:Program}{c:Code}{Q:Exit->Act->World->Prop}{a:Act}{w:World}(h:XC ro P c (RX.nrm Q) a w):XC ro P c Q a w :=
 wpIn_mono h fun e a w h=>by cases e<;>first|exact h|exact h.elim
def _root_.Go.Oper.nd(o:Oper):Prop:=∀c,o.op≠.defer c
section
variable {ro:Option Nat} {P:Program} {o:Oper} {ops:Array Oper} {a:Act} {w:World} {K:Act->World->Prop} {Q:Exit->Act->World->Prop}
theorem Fe{n:Nat}{f:FuncId}{args:Array Value}{R:Ending->World->Prop}(h:Calls P f args w R):CallsIn (Fr ro) n P f args w R:=callsIn_wide.2 h
theorem GY{n:Nat}{row:String}{args:Array Value}{R:Value->World->Prop}(h:Rows P row args w R):Go.RowsIn (Fr ro) n P row args w R:=fun c cs _ =>
 let ⟨v,w',r,s⟩:=h c cs
 ⟨v,w',r,stepsIn_wide.2 s⟩
theorem JV(hQ:¬LetsOut Q){r:Result Next}(h:o.upon P a K Q r):o.uponIn (Fr ro) 0 P a K Q r:=by
 have hd:((Fr ro).depth.isSome=true->1<=0):=fun h=>by cases h
 cases r with
 |ok x w' =>
  cases x<;>first
   |exact h
   |exact h.elim
   |exact⟨hd,(Fe h)⟩
   |exact⟨hd,GY h⟩
 |halt x w'=>cases x<;>first|exact h|exact h.elim
theorem zW(hQ:¬LetsOut Q)(hn:o.nd)(h:o.wp P a w K Q):o.wpIn (Fr ro) 0 P a w K Q:=by
 unfold Oper.wpIn
 rw[Oper.semAt_eq _ _ _ hn]
 exact⟨fun _ _=>trivial,JV hQ h⟩
theorem tH(hQ:¬LetsOut Q):∀{l:List Oper}{a:Act}{w:World},(∀o∈l,o.nd)->wpList P ops Q l a w->wpListIn (Fr ro) 0 P ops Q l a w
 |[],_,_,_,h=>h
 |o::l,a,w,hn,h=>by
  unfold wpList at h
  unfold wpListIn
  split at h
  ·rename_i hw
   rw[if_pos hw]
   rcases h with h|h
   ·refine zW hQ (hn o List.mem_cons_self) ?_
    exact Oper.wp_mono (fun a w h=>tH hQ (fun o ho=>hn o (List.mem_cons_of_mem _ ho)) h) h
   ·exact absurd h.2 hQ
  ·rename_i hw
   rw[if_neg hw]
   exact⟨fun _ _=>trivial,tH hQ (fun o ho=>hn o (List.mem_cons_of_mem _ ho)) h⟩
theorem yB{md:Region.Mode}(hQ:¬LetsOut Q)(hn:∀o∈ops.toList,o.nd):∀{fuel:Nat}{listed:Array Bool}{a:Act}{w:World},wpAny P md ops Q fuel listed a w->wpAnyIn (Fr ro) 0 P md ops Q fuel listed a w
 |0,_,_,_,h=>h
 |fuel+1,listed,a,w,h=>by
  unfold wpAny at h
  unfold wpAnyIn
  refine⟨h.1,fun i hi=>?_⟩
  have h1:=h.2 i hi
  unfold wpOp at h1
  unfold wpOpIn
  split at h1
  ·rename_i hi';simp only[hi'];exact yB hQ hn h1
  ·rename_i o ho
   simp only[ho]
   split at h1
   ·rename_i hw
    rw[if_pos hw]
    rcases h1 with h1|h1
    ·refine zW hQ (hn o (Array.mem_toList_iff.2 (Array.mem_of_getElem? ho))) ?_
     exact Oper.wp_mono (fun a w h=>yB hQ hn h) h1
    ·exact absurd h1.2 hQ
   ·rename_i hw
    rw[if_neg hw]
    exact⟨fun _ _=>trivial,yB hQ hn h1⟩
theorem GK{id:Nat}{l:List Oper}(hn:∀o∈l,o.nd)(h:wpList P l.toArray (nrm Q) l a w):XC ro P (.region id l.toArray false) Q a w :=
 XC.nrm (wpIn_region_lit (tH wG hn h))
theorem qq(hm:P.follows .mixedOrders=true){id:Nat}(hn:∀o∈ops.toList,o.nd)(h:wpAny P .any ops (nrm Q) ops.size (Array.replicate ops.size false) a { w with drawn:=w.drawn+1 }):XC ro P (.region id ops true) Q a w :=
 XC.nrm (wpIn_region_draw fun t=>by
  simp only[Region.schedule,hm,Bool.true_or,if_true]
  exact wpAnyIn_sound ops.size t _ a _ (yB wG hn h))
end
section
variable {C:Nat->List D->D->Prop} {CB:Nat->List D->ax->D->ax->Prop} {Γ:Nat->Option TI} {nt:Nat} {orc:List (Nat×D)} {orb:List (Nat×CBd)} {ops:List Oper}
theorem Em{L:ax}{get:Operand->Option D}{dst:Option Nat}{op:Op}{r:Out×List Bool}(h:fV Γ L get dst op=some r):∀c,op≠.defer c:=by
 rintro c rfl
 unfold fV evX jV at h
 cases h
theorem JQ{i:Nat}{o:Oper}{s s':ES}(h:qa C CB Γ nt orc orb ops i o s=some s'):o.nd:=by
 intro c hc
 unfold qa at h
 split at h
 ·cases h
 ·rw[hc] at h
  simp only[Option.bind_eq_some_iff] at h
  obtain⟨r,h,_⟩:=h
  exact Em h c rfl
theorem xA{fz:List (Nat×List Nat)}:∀(l:List Oper)(i:Nat){s s':ES},lD C CB Γ nt orc orb ops fz l i s=some s'->∀o∈l,o.nd
 |[],_,_,_,_=>fun o ho=>by simp at ho
 |o::l,i,s,s',h=>by
  unfold lD at h
  split at h
  ·rename_i s1 h1
   intro x hx
   rcases List.mem_cons.1 hx with rfl|hx
   ·exact JQ h1
   ·exact xA l (i+1) h x hx
  ·cases h
theorem Jb{L0:ax}{i:Nat}{o:Oper}{s s':DS}(h:stepD C Γ nt orc ops L0 i o s=some s'):o.nd:=by
 intro c hc
 unfold stepD at h
 simp only at h
 split at h
 ·cases h
 ·rw[hc] at h
  simp only at h
  split at h
  ·simp only[Option.map_eq_some_iff,Option.bind_eq_some_iff] at h
   obtain⟨_,⟨r,h,_⟩,_⟩:=h
   exact Em h c rfl
  ·cases h
theorem vk{L0:ax}:∀(l:List Oper)(i:Nat){s s':DS},rq C Γ nt orc ops L0 l i s=some s'->∀o∈l,o.nd
 |[],_,_,_,_=>fun o ho=>by simp at ho
 |o::l,i,s,s',h=>by
  unfold rq at h
  split at h
  ·rename_i s1 h1
   intro x hx
   rcases List.mem_cons.1 hx with rfl|hx
   ·exact Jb h1
   ·exact vk l (i+1) h x hx
  ·cases h
end
end Go.Proofs.YtefojkdckfidcaaGreatDoor.RX
namespace Go.Proofs.YtefojkdckfidcaaGreatDoor.RX
open Go.RowKit
def St{P:Program}(nt:Nat)(F0:Fz)(w0:Pt P)(K:List (Nat×D))(L:ax)(a:Act)(w:World):Prop :=
 ∃B F,Base F0 w0 B F (aN L) w/\a.defers=w0.defs/\a.tmps.size=nt/\∀x∈K,∃v,a.tmps[x.1]? = some v/\Rep F w B x.2 v
def Wp(P:Program)(nt:Nat)(F0:Fz)(w0:Pt P)(K:List (Nat×D))(L:ax)(c:Code)(Q:Exit->Act->World->Prop):Prop :=
 ∀a w,St nt F0 w0 K L a w->XC w0.rnd P c Q a w
def To{P:Program}(nt:Nat)(F0:Fz)(w0:Pt P)(K:List (Nat×D))(L:ax)(e:Exit)(Q:Exit->Act->World->Prop):Prop :=
 ∀a w,St nt F0 w0 K L a w->Q e a w
def aj:List Prop->Prop
 |[]=>True
 |[p]=>p
 |p::ps=>p/\aj ps
theorem aj.mem:∀{l:List Prop},aj l->∀p∈l,p
 |[],_,p,hp=>by simp at hp
 |[q],h,p,hp=>by rw[List.mem_singleton.1 hp];exact h
 |q::r::l,h,p,hp=>by
  rcases List.mem_cons.1 hp with rfl|hp
  ·exact h.1
  ·exact aj.mem h.2 p hp
section
variable {P:Program} {Γ:Nat->Option TI} {nt:Nat} {F0:Fz} {w0:Pt P} {K K':List (Nat×D)} {L L':ax} {Q:Exit->Act->World->Prop}
theorem rQ{ops:List Oper}{a:Act}{w:World}{B F}(hb:Base F0 w0 B F (aN L) w)(hd:a.defers=w0.defs)(hs:a.tmps.size=nt)(hK:∀x∈K,∃v,a.tmps[x.1]? = some v/\Rep F w B x.2 v) :
  fC nt ops F0 w0 B F (nu K L) (fun j=>j<0) a w:=by
 refine⟨hb,hd,hs,fun e he=>?_,fun e he=>?_,fun e he=>?_,fun e he j hj=>?_⟩
 all_goals
  obtain⟨x,hx,rfl⟩:=List.mem_map.1 he
 ·exact⟨fun _=>hK x hx,fun h=>by simp[holds] at h⟩
 ·simp
 ·exact .inl rfl
 ·simp at hj
theorem AX{K0:List Ent}:∀{ts:List Nat}{r:List (Nat×D)},pJ K0 ts=some r->∀x∈r,∃e∈K0,e.slot=x.1/\e.d=x.2/\e.cnd=[]
 |[],r,h,x,hx=>by cases h;simp at hx
 |t::ts,r,h,x,hx=>by
  unfold pJ at h
  split at h
  ·rename_i e r' he hr
   split at h
   ·rename_i hc
    cases h
    rcases List.mem_cons.1 hx with rfl|hx
    ·obtain⟨h1,h2⟩:=kE he
     exact⟨e,h1,h2,rfl,by simpa using hc⟩
    ·exact AX hr x hx
   ·cases h
  ·cases h
theorem kh{L0:ax}:∀{ks:List Nat}{r:ax},ia L0 ks=some r->∀x∈r,x∈L0
 |[],r,h,x,hx=>by cases h;simp at hx
 |k::ks,r,h,x,hx=>by
  unfold ia at h
  split at h
  ·rename_i y r' hy hr
   cases h
   rcases List.mem_cons.1 hx with rfl|hx
   ·exact aB hy
   ·exact kh hr x hx
  ·cases h
theorem qJ{ops:List Oper}{s:ES}{S:Nat->Prop}{a:Act}{w:World}{B F}{kk kl:List Nat}(hi:fC nt ops F0 w0 B F s S a w)(hk:pJ s.K kk=some K')(hl:ia s.L kl=some L'):St nt F0 w0 K' L' a w:=by
 refine⟨B,F,hi.base.sub (fun _ _ _ h=>kh hl _ h),hi.defers,hi.size,fun x hx=>?_⟩
 obtain⟨e,he,h1,h2,h3⟩:=AX hk x hx
 have:=(hi.ents e he).1 (by rw[h3];rfl)
 rw[h1,h2] at this
 exact this
theorem Wp.region(hΓ:ΓOK P Γ){id:Nat}{l:List Oper}(fz:List (Nat×List Nat))(orc:List (Nat×D))(orb:List (Nat×CBd))(kk kl:List Nat){ob:List Prop}(h:ng (CX P) (aV P) Γ nt orc orb l fz K L kk kl=some (K',L',ob))(hob:aj ob)(hn:To nt F0 w0 K' L' .normal Q) :
  Wp P nt F0 w0 K L (.region id l.toArray false) Q:=by
 rintro a w ⟨B,F,hb,hd,hs,hK⟩
 unfold ng at h
 split at h
 ·rename_i s hs'
  split at h
  ·rename_i K1 L1 hk hl
   cases h
   refine GK (xA _ _ hs') ?_
   exact pM hΓ l 0 (by simp) hs' (aj.mem hob) (rQ hb hd hs hK) fun B' F' a' w' hi=>hn a' w' (qJ hi hk hl)
  ·cases h
 ·cases h
theorem Wp.seq{x y:Code}(h:Wp P nt F0 w0 K L x (Exit.then (fun a w=>XC w0.rnd P y Q a w) Q)):Wp P nt F0 w0 K L (.seq x y) Q:=fun a w hs=>wpIn_seq (h a w hs)
theorem Wp.block{id:Nat}{c:Code}(h:Wp P nt F0 w0 K L c (Exit.inBlock id Q)):Wp P nt F0 w0 K L (.block id c) Q:=fun a w hs=>wpIn_block (h a w hs)
theorem Wp.skip(h:To nt F0 w0 K L .normal Q):Wp P nt F0 w0 K L .skip Q:=fun a w hs=>wpIn_skip (h a w hs)
theorem Wp.ret(h:To nt F0 w0 K L .ret Q):Wp P nt F0 w0 K L .ret Q:=fun a w hs=>wpIn_ret (h a w hs)
theorem Wp.exit{id:Nat}(h:To nt F0 w0 K L (.exit id) Q):Wp P nt F0 w0 K L (.exit id) Q:=fun a w hs=>wpIn_exit (h a w hs)
theorem Wp.label{l:Nat}(h:To nt F0 w0 K L .normal Q):Wp P nt F0 w0 K L (.label l) Q:=fun a w hs=>wpIn_label (h a w hs)
theorem Wp.cond{t:Nat}{x y:Code}{b:Bool}(hc:K.lookup t=some (.val (.bool b)))(h1:b=true->Wp P nt F0 w0 K L x Q)(h2:b=false->Wp P nt F0 w0 K L y Q):Wp P nt F0 w0 K L (.cond (.tmp t) x y) Q:=by
 intro a w hs
 obtain⟨B,F,hb,hd,hsz,hK⟩:=hs
 obtain⟨v,hv,hr⟩:=hK _ (aB hc)
 cases hr
 exact wpIn_cond_split (nc hv) (fun h=>h1 h a w ⟨B,F,hb,hd,hsz,hK⟩) (fun h=>h2 h a w ⟨B,F,hb,hd,hsz,hK⟩)
theorem Wp.sub{c:Code}(hK:∀x∈K',x∈K)(hL:∀x∈L',x∈L)(h:Wp P nt F0 w0 K' L' c Q):Wp P nt F0 w0 K L c Q:=by
 rintro a w ⟨B,F,hb,hd,hs,hk⟩
 exact h a w ⟨B,F,hb.sub (fun _ _ _ h=>hL _ h),hd,hs,fun x hx=>hk x (hK x hx)⟩
theorem To.sub{e:Exit}(hK:∀x∈K',x∈K)(hL:∀x∈L',x∈L)(h:To nt F0 w0 K' L' e Q):To nt F0 w0 K L e Q:=by
 rintro a w ⟨B,F,hb,hd,hs,hk⟩
 exact h a w ⟨B,F,hb.sub (fun _ _ _ h=>hL _ h),hd,hs,fun x hx=>hk x (hK x hx)⟩
theorem To.eq{e:Exit}(hK:K=K')(hL:L=L')(h:To nt F0 w0 K' L' e Q):To nt F0 w0 K L e Q:=by subst hK;subst hL;exact h
theorem To.ah{y:Code}(h:Wp P nt F0 w0 K L y Q):To nt F0 w0 K L .normal (Exit.then (fun a w=>XC w0.rnd P y Q a w) Q):=h
theorem To.aL{N:Act->World->Prop}(h:To nt F0 w0 K L .ret Q):To nt F0 w0 K L .ret (Exit.then N Q):=h
theorem To.bU{N:Act->World->Prop}{id:Nat}(h:To nt F0 w0 K L (.exit id) Q):To nt F0 w0 K L (.exit id) (Exit.then N Q):=h
theorem To.aS{id:Nat}(h:To nt F0 w0 K L .normal Q):To nt F0 w0 K L .normal (Exit.inBlock id Q):=h
theorem To.aR{id:Nat}(h:To nt F0 w0 K L .ret Q):To nt F0 w0 K L .ret (Exit.inBlock id Q):=h
theorem To.dW{id:Nat}(h:To nt F0 w0 K L .normal Q):To nt F0 w0 K L (.exit id) (Exit.inBlock id Q):=by
 intro a w hs;simp only[Exit.inBlock,if_true];exact h a w hs
theorem To.vO{id id':Nat}(hne:id'≠id)(h:To nt F0 w0 K L (.exit id') Q):To nt F0 w0 K L (.exit id') (Exit.inBlock id Q):=by
 intro a w hs;simp only[Exit.inBlock,if_neg hne];exact h a w hs
theorem Wp.loop{c:Code}{β:Type}(KI:β->List (Nat×D))(LI:β->ax)(I:Nat->β->Prop)(n:Nat)(x:β)(h0:I n x)
  (round:∀n x,I n x->Wp P nt F0 w0 (KI x) (LI x) c (Exit.then (fun a w=>∃m y,m<n/\I m y/\St nt F0 w0 (KI y) (LI y) a w) Q)):Wp P nt F0 w0 (KI x) (LI x) (.loop c) Q:=by
 have key:∀n x,I n x->∀a w,St nt F0 w0 (KI x) (LI x) a w->∀(b:Frame)(k:List Item)(cs:List Frame),b.roundOf=w0.rnd ->
   ∃e a' w',Q e a' w'/\ArrivesIn (Machine.fenced P (Fr w0.rnd)) P (lone (b.atR a (.code c::.inLoop c::k)) cs w) b k cs e a' w':=by
  intro n
  induction n using Nat.strongRecOn with
  |_ n ih =>
   intro x hI a w hs b k cs hro
   obtain⟨e,a₁,w₁,hq,harr⟩:=round n x hI a w hs b (.inLoop c::k) cs hro trivial (Fr.room _ _)
   cases e with
   |normal =>
    obtain⟨m,y,hlt,hIy,hsy⟩:=hq
    obtain⟨e₂,a₂,w₂,hq₂,harr₂⟩:=ih m hlt y hIy a₁ w₁ hsy b k cs hro
    exact⟨e₂,a₂,w₂,hq₂,.of_steps (StepsIn.trans harr (.one (iZ _) stepR_inLoop)) harr₂⟩
   |exit id=>exact⟨_,a₁,w₁,hq,.pass (x:=.inLoop c) rfl (fun _ _=>.inl (by simp)) harr⟩
   |goto l=>exact⟨_,a₁,w₁,hq,.pass (x:=.inLoop c) rfl (fun _ _=>.inl (by simp)) harr⟩
   |ret=>exact⟨_,a₁,w₁,hq,.pass (x:=.inLoop c) rfl (fun _ _=>.inl (by simp)) harr⟩
   |panic ch=>exact⟨_,a₁,w₁,hq,.pass (x:=.inLoop c) rfl (fun _ _=>.inl (by simp)) harr⟩
   |outgrown=>exact⟨_,a₁,w₁,hq,.pass (x:=.inLoop c) rfl (fun _ _=>.inl (by simp)) harr⟩
 intro a w hs b k cs hro _ _
 obtain⟨e,a',w',hq,harr⟩:=key n x h0 a w hs b k cs hro
 exact⟨e,a',w',hq,.of_steps (.one (iZ _) stepR_loop) harr⟩
def rV(F0:Fz)(w0:World)(r:D)(e:Ending)(w':World):Prop:=∃v,e=.returned v/\Rep (pg F0 w0 w') w' NB r v/\Below w0.heap.size w0 w'
def tf(tmps:Array Value):ResultVar->Sem Value
 |.tmp t=>pure (tmps.getD t undef)
 |.cell t ty=>do loadVar ty (<-asAddr (tmps.getD t undef))
theorem yZ(fn:Func)(tmps:Array Value):results fn tmps=(do let vs <-fn.results.mapM (tf tmps);pure (if h:vs.size=1 then vs[0] else .tuple vs)):=by
 unfold results
 congr 2
theorem kV{F:Fz}{w:World}{B:Env}{a:Act}(hΓ:ΓOK P Γ)(hb:Base F0 w0 B F (aN L) w)(hK:∀x∈K,∃v,a.tmps[x.1]? = some v/\Rep F w B x.2 v):∀(rs:List ResultVar)(ds:List D),lZ Γ K L rs=some ds ->
  ∃vs,(rs.mapM (tf a.tmps)).run P w=.ok vs w/\aA F w B ds vs
 |[],ds,h=>by cases h;exact⟨[],rfl,.nil⟩
 |.tmp t::rs,ds,h=>by
  unfold lZ at h
  split at h
  ·rename_i d ds' hd hds
   cases h
   obtain⟨v,hv,hr⟩:=hK _ (aB hd)
   obtain⟨vs,h1,h2⟩:=kV hΓ hb hK rs ds' hds
   refine⟨v::vs,?_,.cons _ _ _ _ hr h2⟩
   rw[List.mapM_cons]
   have hv':a.tmps.getD t undef=v:=by simp[Array.getD_eq_getD_getElem?,hv]
   simp only[Sem.run_bind,tf,Sem.run_pure,Result.andThen_ok,hv']
   rw[h1]
   simp
  ·cases h
 |.cell t ty::rs,ds,h=>by
  unfold lZ at h
  split at h
  ·rename_i k off ti ds' hd hti hds
   split at h
   ·rename_i ty' cs hl
    cases hp:partOf ti.agg ti.size off cs with
    |none=>rw[hp] at h;cases h
    |some d =>
     rw[hp] at h
     cases h
     obtain⟨v,hv,hr⟩:=hK _ (aB hd)
     cases hr with
     |own _ _ b hB =>
      obtain⟨us,hru,hfl,hh,hn,hnf⟩:=hb.vo (aB hl) hB
      have hlen:=aA.length hru
      have hoff:off<=us.length:=by
       unfold partOf at hp
       split at hp
       ·split at hp
        ·omega
        ·cases hp
       ·have:=(List.getElem?_eq_some_iff.1 hp).1;omega
      obtain⟨v',hrun,hrep⟩:=og (hΓ _ _ hti).1 hru hp (b:=b) (o:=0) (fun j v hj=>by rw[uo hh];simpa using hj) hoff
      obtain⟨vs,h1,h2⟩:=kV hΓ hb hK rs ds' hds
      refine⟨v'::vs,?_,.cons _ _ _ _ hrep h2⟩
      rw[List.mapM_cons]
      have hv':a.tmps.getD t undef=.pointer (some ⟨b,off,none⟩):=by simp[Array.getD_eq_getD_getElem?,hv]
      simp only[Nat.zero_add] at hrun
      have hA:(asAddr (.pointer (some ⟨b,off,none⟩))).run P w=.ok ⟨b,off,none⟩ w:=rfl
      simp only[Sem.run_bind,tf,Sem.run_pure,Result.andThen_ok,hv',hA,hrun]
      rw[h1]
      simp
   ·cases h
  ·cases h
theorem To.done(hΓ:ΓOK P Γ){fn:Func}{r:D}{w1:World}{hsh:Shp P w1}(h:um Γ K L fn.results.toList=some r):To nt F0 (.top w1 hsh) K L .ret (bodyPost P fn (rV F0 w1 r)):=by
 rintro a w ⟨B,F,hb,hd,hs,hK⟩
 unfold um at h
 have hgrow:Grow F (pg F0 w1 w) w w:=⟨fun g k hF=>(hb.more g k hF).imp id fun h=>⟨h.resolve_right id,hb.frz g k hF⟩,fun _ _ _=>rfl⟩
 have hL:RowsIn (aN L) L:=fun _ _ _ _ _ _ _ h=>aB h
 have hres:∀ds vs,(fn.results.toList.mapM (tf a.tmps)).run P w=.ok vs w->aA F w B ds vs ->
   (results fn a.tmps).run P w=.ok (if h:vs.toArray.size=1 then vs.toArray[0] else .tuple vs.toArray) w:=by
  intro ds vs h1 h2
  rw[yZ,Array.mapM_eq_mapM_toList]
  simp only[Sem.run_bind,Sem.run_map]
  rw[h1]
  simp only[Result.andThen_ok,Sem.run_pure]
 split at h
 ·rename_i d hds
  obtain⟨vs,h1,h2⟩:=kV hΓ hb hK _ _ hds
  split at h
  ·rename_i hno
   cases h
   have hrr:=hres _ _ h1 h2
   cases h2 with
   |cons _ v _ vs' hdv hs' =>
    cases hs'
    refine⟨hd,v,?_,v,rfl,((hdv.jD hb hL).bare hno).grow hgrow,hb.below.below⟩
    rw[hrr];rfl
  ·cases h
 ·rename_i ds hne hds
  obtain⟨vs,h1,h2⟩:=kV hΓ hb hK _ _ hds
  split at h
  ·rename_i hno
   cases h
   have hrr:=hres _ _ h1 h2
   have hlen:=aA.length h2
   refine⟨hd,.tuple vs.toArray,?_,_,rfl,(Rep.tup _ _ ((h2.jD hb hL).bare hno)).grow hgrow,hb.below.below⟩
   rw[hrr,dif_neg]
   intro h9
   have:ds.length=1:=by rw[<-hlen];simpa using h9
   match ds,this with
   |[d],_=>exact hne d rfl
  ·cases h
 ·cases h
theorem Base.cl{B:Env}{F:Fz}{w:World}{M:Mem}(h:Base F0 w0 B F M w):Base F0 w0.cl B F M w:=⟨h.boxes,h.new,h.inj,h.frz,h.more,h.grow,h.below,h.env⟩
theorem Base.MI{B:Env}{F:Fz}{w:World}{M:Mem}(h:Base F0 w0.cl B F M w):Base F0 w0 B F M w:=⟨h.boxes,h.new,h.inj,h.frz,h.more,h.grow,h.below,h.env⟩
def GM(Γ:Nat->Option TI)(K:List (Nat×D))(L:ax)(rs:List ResultVar):Option D :=
 match lZ Γ K L rs with
 |some [d]=>some (d.shut L)
 |some ds=>some (.tup (D.ic L ds))
 |none=>none
def PostB{P:Program}(F0:Fz)(w0:Pt P)(r:D)(dT:ax)(e:Ending)(w':World):Prop:=∃v F' B',e=.returned v/\Rep F' w' B' r v/\Base F0 w0 B' F' (aN dT) w'
theorem To.dL(hΓ:ΓOK P Γ){fn:Func}{r:D}(kl:List Nat){dT:ax}(h:GM Γ K L fn.results.toList=some r)(hl:ia L kl=some dT):To nt F0 w0.cl K L .ret (bodyPost P fn (PostB F0 w0.cl r dT)):=by
 rintro a w ⟨B,F,hb,hd,hs,hK⟩
 unfold GM at h
 have hL:RowsIn (aN L) L:=fun _ _ _ _ _ _ _ h=>aB h
 have hbo:Base F0 w0.cl B F (aN dT) w:=hb.sub fun _ _ _ h=>kh hl _ h
 have hres:∀ds vs,(fn.results.toList.mapM (tf a.tmps)).run P w=.ok vs w->aA F w B ds vs ->
   (results fn a.tmps).run P w=.ok (if h:vs.toArray.size=1 then vs.toArray[0] else .tuple vs.toArray) w:=by
  intro ds vs h1 h2
  rw[yZ,Array.mapM_eq_mapM_toList]
  simp only[Sem.run_bind,Sem.run_map]
  rw[h1]
  simp only[Result.andThen_ok,Sem.run_pure]
 split at h
 ·rename_i d hds
  obtain⟨vs,h1,h2⟩:=kV hΓ hb hK _ _ hds
  cases h
  have hrr:=hres _ _ h1 h2
  cases h2 with
  |cons _ v _ vs' hdv hs' =>
   cases hs'
   refine⟨hd,v,?_,v,F,B,rfl,hdv.jD hb hL,hbo⟩
   rw[hrr];rfl
 ·rename_i ds hne hds
  obtain⟨vs,h1,h2⟩:=kV hΓ hb hK _ _ hds
  cases h
  have hrr:=hres _ _ h1 h2
  have hlen:=aA.length h2
  refine⟨hd,.tuple vs.toArray,?_,_,F,B,rfl,Rep.tup _ _ (h2.jD hb hL),hbo⟩
  rw[hrr,dif_neg]
  intro h9
  have:ds.length=1:=by rw[<-hlen];simpa using h9
  match ds,this with
  |[d],_=>exact hne d rfl
 ·cases h
theorem Gy{f : Nat}{fn : Func}{c : Code}{ds : List D}{Lin : ax}{r : D}{dT : ax}(hf : P.funcs[f]? = some fn)(hbody : fn.body=some c)(hname : (fn.name == "runtime.NumGoroutine")=false)(hn : ds.length<=fn.ntmps)
  (h:∀(F0:Fz)(w0:Pt P),Wp P fn.ntmps F0 w0.cl (ds.zipIdx.map fun x=>(x.2,x.1)) Lin c (bodyPost P fn (PostB F0 w0.cl r dT))):aV P f ds Lin r dT:=by
 refine⟨⟨fn,hf,hname,by rw[hbody];rfl⟩,fun F w1 B args hb hr=>?_⟩
 have hlen:=aA.length hr
 refine(calls_of_wp hf hbody (h F w1 _ w1.w ⟨B,F,hb.cl,rfl,?_,fun x hx=>?_⟩).wp).mono fun e w' h=>?_
 rotate_right
 ·obtain⟨v,F',B',h1,h2,h3⟩:=h
  exact⟨v,F',B',h1,h2,h3.MI⟩
 ·simp;omega
 ·obtain⟨y,hy,rfl⟩:=List.mem_map.1 hx
  obtain⟨d,i⟩:=y
  have hd:ds[i]? = some d:=by
   have:=List.mem_zipIdx_iff_getElem?.1 hy
   simpa using this
  obtain⟨v,hv,hrep⟩:=hr.get i hd
  refine⟨v,?_,hrep⟩
  have hi:i<args.length:=(List.getElem?_eq_some_iff.1 hv).1
  simp only
  rw[Array.getElem?_append_left (by simpa using hi)]
  simpa using hv
theorem Bd{f : Nat}{fn : Func}{c : Code}{ds : List D}{r : D}(hf : P.funcs[f]? = some fn)(hbody : fn.body=some c)(hname : (fn.name == "runtime.NumGoroutine")=false)(hn : ds.length<=fn.ntmps)
  (h:∀(F0:Fz)(w0:World)(hsh:Shp P w0),Wp P fn.ntmps F0 (.top w0 hsh) (ds.zipIdx.map fun x=>(x.2,x.1)) [] c (bodyPost P fn (rV F0 w0 r))):aT P f ds r:=by
 refine⟨⟨fn,hf,hname,by rw[hbody];rfl⟩,fun F w args hsh hF hr=>?_⟩
 have hlen:=aA.length hr
 refine calls_of_wp hf hbody (h F w hsh _ w ⟨NB,F,?_,rfl,?_,fun x hx=>?_⟩).wp
 ·exact⟨(fun k t ds hl=>by simp[aN] at hl),(fun k t ds b hl=>by simp[aN] at hl),(fun i j b hi=>by obtain⟨t,ds,hx⟩:=hi;simp[aN] at hx),hF,fun g k h=>.inl h,Grow.refl _ _,du.refl _ _ _,fun k b h=>by cases h⟩
 ·simp;omega
 ·obtain⟨y,hy,rfl⟩:=List.mem_map.1 hx
  obtain⟨d,i⟩:=y
  have hd:ds[i]? = some d:=by
   have:=List.mem_zipIdx_iff_getElem?.1 hy
   simpa using this
  obtain⟨v,hv,hrep⟩:=hr.get i hd
  refine⟨v,?_,hrep⟩
  have hi:i<args.length:=(List.getElem?_eq_some_iff.1 hv).1
  simp only
  rw[Array.getElem?_append_left (by simpa using hi)]
  simpa using hv
end
end Go.Proofs.YtefojkdckfidcaaGreatDoor.RX
namespace Go.Proofs.YtefojkdckfidcaaGreatDoor.RX
open Go.RowKit
section
variable {C : Nat->List D->D->Prop} {P : Program} {F0 : Fz} {w0 : Pt P} {B : Env} {F : Fz} {w : World} {a : Act} {Q : Exit->Act->World->Prop} {Γ : Nat->Option TI} {nt : Nat} {ops : List Oper} {L0 : ax} {orc : List (Nat×D)}
structure vw(i : Nat)(s s' : DS) : Prop where
  K : ∃K1,s'.K=K1++s.K/\∀e∈K1,i+1<=e.src
  A : ∃A1,s'.A=A1++s.A/\∀x∈A1,i<=x.1
  T : ∃T1,s'.T=T1++s.T/\∀x∈T1,i<=x.1
  R : ∃R1,s'.R=R1++s.R/\∀x∈R1,i<=x.1
  N : (∀n,s.N=some n->s'.N=some n)/\(∀n,s'.N=some n->s.N=some n\/(s.N=none/\i<=n.i))
  Q : ∀x∈s.Q,x∈s'.Q
  tab : ∀j,j<i->tv s'.tab j=tv s.tab j
  obl : ∀p∈s.obl,p∈s'.obl
theorem vw.refl(i : Nat)(s : DS) : vw i s s:=⟨⟨[],rfl,by simp⟩,⟨[],rfl,by simp⟩,⟨[],rfl,by simp⟩,⟨[],rfl,by simp⟩,⟨fun _ h=>h,fun _ h=>.inl h⟩,fun _ h=>h,fun _ _=>rfl,fun _ h=>h⟩
theorem vw.trans{i j : Nat}{s s' s'' : DS}(hij : i<=j)(h : vw i s s')(h' : vw j s' s'') : vw i s s'':=by
  obtain⟨⟨K1,hK,hK1⟩,⟨A1,hA,hA1⟩,⟨T1,hT,hT1⟩,⟨R1,hR,hR1⟩,⟨hN1,hN2⟩,hQ,ht,ho⟩:=h
  obtain⟨⟨K2,hK',hK2⟩,⟨A2,hA',hA2⟩,⟨T2,hT',hT2⟩,⟨R2,hR',hR2⟩,⟨hN1',hN2'⟩,hQ',ht',ho'⟩:=h'
  refine⟨⟨K2++K1,by rw[hK',hK,List.append_assoc],fun e he=>?_⟩,⟨A2++A1,by rw[hA',hA,List.append_assoc],fun e he=>?_⟩,⟨T2++T1,by rw[hT',hT,List.append_assoc],fun e he=>?_⟩,⟨R2++R1,by rw[hR',hR,List.append_assoc],fun e he=>?_⟩,
    ⟨fun n h=>hN1' n (hN1 n h),fun n h=>?_⟩,fun x hx=>hQ' x (hQ x hx),fun k hk=>by rw[ht' k (by omega),ht k hk],fun p hp=>ho' p (ho p hp)⟩
  · rcases List.mem_append.1 he with h|h
    · have:=hK2 e h;omega
    · exact hK1 e h
  · rcases List.mem_append.1 he with h|h
    · have:=hA2 e h;omega
    · exact hA1 e h
  · rcases List.mem_append.1 he with h|h
    · have:=hT2 e h;omega
    · exact hT1 e h
  · rcases List.mem_append.1 he with h|h
    · have:=hR2 e h;omega
    · exact hR1 e h
  · rcases hN2' n h with h1|⟨h1,h2⟩
    · exact hN2 n h1
    · refine .inr ⟨?_,by omega⟩
      cases hs : s.N with
      |none=>rfl
      |some m=>rw[hN1 m hs] at h1;cases h1
inductive BI(C : Nat->List D->D->Prop)(Γ : Nat->Option TI)(nt : Nat)(orc : List (Nat×D))(ops : List Oper)(L0 : ax)(i : Nat)(o : Oper)(s s' : DS)(g : Cnd)(Kr : List Ent) : Prop
  |pick (c a b : Operand) (t tc : Nat) (e : Ent) (bc ba bb : Bool) (hop : o.op=.pick c a b) (hd : o.dst=some t) (hc : c=.tmp tc) (he : jR Kr tc=some e) (hle : e.cnd.le g=true) (hsrc : e.src≠0) (ht : t<nt)
      (hec : e.d=.val (.bool bc)) (hea : getOp Kr ((e.src-1,true)::g) a=some (.val (.bool ba))) (heb : getOp Kr ((e.src-1,false)::g) b=some (.val (.bool bb)))
      (hs : s'={ s with K:=⟨t,i+1,g,.val (.bool (bif bc then ba else bb))⟩::s.K,tab:=(i,bif bc then ba else bb)::s.tab })
  |val (d : D) (cs : List Bool) (t : Nat) (hd : o.dst=some t) (ht : t<nt) (he : fV Γ (viewAt L0 s (keysOf (getOp Kr g) o.op) (kX ops i)) (getOp Kr g) o.dst o.op=some (.val d,cs)) (hbx : pw (onL o) s (jU (getOp Kr g) o.op)=true)
      (hs : s'={ s with K:=⟨t,i+1,g,d⟩::s.K,tab:=dV i d s.tab,obl:=s.obl++cs.map (fun c=>j4 s.tab g c=true),R:=match jU (getOp Kr g) o.op with|some k=>(i,k)::s.R|none=>s.R,Q:=(keysOf (getOp Kr g) o.op).map (fun k=>(i,k))++s.Q })
  |call (f : Nat) (args : List D) (r : D) (t : Nat) (hd : o.dst=some t) (ht : t<nt) (hr : orc.lookup i=some r) (hna : D.bP args=true) (he : fV Γ (viewAt L0 s (keysOf (getOp Kr g) o.op) (kX ops i)) (getOp Kr g) o.dst o.op=some (.call f args,[])) (hbx : pw (onL o) s (jU (getOp Kr g) o.op)=true)
      (hs : s'={ s with K:=⟨t,i+1,g,r⟩::s.K,tab:=dV i r s.tab,obl:=s.obl++[holds s.tab g=true->C f args r],Q:=(keysOf (getOp Kr g) o.op).map (fun k=>(i,k))++s.Q })
  |box (ty : Nat) (cells : List D) (t : Nat) (hg : g=[]) (hd : o.dst=some t) (ht : t<nt/\t<1000000) (hfl : cells.all D.flat=true) (hK : (s.K.all fun x=>!(x.src==0)||!D.names t x.d)=true) (hL : (L0.all fun x=>!(x.1==t)&&!D.bu t x.2.2)=true) (hA : (s.A.all fun x=>!(x.2.1==t))=true)
      (he : fV Γ (viewAt L0 s (keysOf (getOp Kr g) o.op) (kX ops i)) (getOp Kr g) o.dst o.op=some (.box ty cells,[])) (hbx : pw (onL o) s (jU (getOp Kr g) o.op)=true)
      (hs : s'={ s with K:=⟨t,i+1,[],.own t 0⟩::s.K,A:=(i,t,ty,cells)::s.A,Q:=(keysOf (getOp Kr g) o.op).map (fun k=>(i,k))++s.Q })
  |store (k off : Nat) (cells : List D) (hg : g=[]) (hd : o.dst=none) (hfl : cells.all D.flat=true) (hR : (s.R.all fun x=>!(x.2==k)||(onL o).contains x.1)=true) (hbk : jU (getOp Kr g) o.op=some k)
      (he : fV Γ (viewAt L0 s (keysOf (getOp Kr g) o.op) (kX ops i)) (getOp Kr g) o.dst o.op=some (.store k off cells,[])) (hbx : pw (onL o) s (jU (getOp Kr g) o.op)=true)
      (hs : s'={ s with T:=(i,k,off,cells)::s.T,Q:=(keysOf (getOp Kr g) o.op).map (fun k=>(i,k))++s.Q })
  |fresh (e : Nat) (m : Bool) (spec : D->Prop) (cs : List Bool) (r : D) (t : Nat) (hd : o.dst=some t) (ht : t<nt) (he : fV Γ (viewAt L0 s (keysOf (getOp Kr g) o.op) (kX ops i)) (getOp Kr g) o.dst o.op=some (.row e m none spec,cs)) (hbx : pw (onL o) s (jU (getOp Kr g) o.op)=true)
      (hs : s'={ s with K:=⟨t,i+1,g,r⟩::s.K,tab:=dV i r s.tab,obl:=s.obl++(cs.map fun c=>j4 s.tab g c=true)++[holds s.tab g=true->spec r/\aQ r],Q:=(keysOf (getOp Kr g) o.op).map (fun k=>(i,k))++s.Q })
  |known (spec : D->Prop) (r : D) (t : Nat) (hd : o.dst=some t) (ht : t<nt) (he : fV Γ (viewAt L0 s (keysOf (getOp Kr g) o.op) (kX ops i)) (getOp Kr g) o.dst o.op=some (.known spec,[])) (hbx : pw (onL o) s (jU (getOp Kr g) o.op)=true)
      (hs : s'={ s with K:=⟨t,i+1,g,r⟩::s.K,tab:=dV i r s.tab,obl:=s.obl++[holds s.tab g=true->spec r],Q:=(keysOf (getOp Kr g) o.op).map (fun k=>(i,k))++s.Q })
  |app (e : Nat) (m : Bool) (k : Nat) (spec : D->Prop) (cs : List Bool) {α : Type} (d : α) (enc : α->List D) (l : List α) (t : Nat) (hg : g=[]) (hd : o.dst=some t) (ht : t<nt/\t<1000000) (hN : s.N=none) (hQ : (s.Q.all fun x=>!(x.2==k)||(kX ops i).contains x.1)=true)
      (hK : (s.K.all fun x=>!(x.src==0)||!D.names t x.d)=true) (hL : (L0.all fun x=>!(x.1==t)&&!D.bu t x.2.2)=true) (hA : (s.A.all fun x=>!(x.2.1==t)&&!D.bu t x.2.2.2)=true)
      (he : fV Γ (viewAt L0 s (keysOf (getOp Kr g) o.op) (kX ops i)) (getOp Kr g) o.dst o.op=some (.row e m (some k) spec,cs)) (hbx : pw (onL o) s (jU (getOp Kr g) o.op)=true)
      (hs : s'={ s with K:=⟨t,i+1,[],.row t⟩::s.K,N:=some ⟨i,some k,t,e,.aO m d enc l⟩,obl:=s.obl++(cs.map fun c=>j4 s.tab [] c=true)++[spec (.recs d enc l)/\aQ (.recs d enc l)],Q:=(keysOf (getOp Kr g) o.op).map (fun k=>(i,k))++s.Q })
theorem H7{i : Nat}{o : Oper}{s s' : DS}(h : stepD C Γ nt orc ops L0 i o s=some s') :
    ∃g,iP ops (s.K.filter (dX ops i (onL o))) o.guard=some g/\BI C Γ nt orc ops L0 i o s s' g (s.K.filter (dX ops i (onL o))):=by
  unfold stepD at h
  simp only at h
  split at h
  · cases h
  · rename_i g hg
    refine⟨g,hg,?_⟩
    split at h
    · rename_i c x y hop
      unfold Ju at h
      split at h
      · rename_i t tc hd
        split at h
        · rename_i e he
          split at h
          · rename_i hcond
            split at h
            · rename_i bc ba bb hec hea heb
              cases h
              exact .pick _ _ _ t tc e bc ba bb hop hd rfl he hcond.1 hcond.2.1 hcond.2.2 hec hea heb rfl
            · cases h
          · cases h
        · cases h
      · cases h
    · split at h
      · rename_i hbx
        cases he : fV Γ (viewAt L0 s (keysOf (getOp (s.K.filter (dX ops i (onL o))) g) o.op) (kX ops i)) (getOp (s.K.filter (dX ops i (onL o))) g) o.dst o.op with
        |none=>rw[he] at h;cases h
        |some oc =>
          obtain⟨out,cs⟩:=oc
          rw[he] at h
          simp only[Option.bind] at h
          cases out with
          |val d =>
            simp only[lY] at h
            split at h
            · rename_i t hd
              split at h
              · rename_i ht
                cases h
                exact .val d cs t hd ht he hbx rfl
              · cases h
            · cases h
          |call f args =>
            simp only[lY] at h
            split at h
            · rename_i r t hr hd
              split at h
              · rename_i hcond
                obtain⟨ht,hna,hnr,hce⟩:=hcond
                cases h
                have hcs : cs=[]:=by simpa using hce
                subst hcs
                exact .call f args r t hd ht hr hna he hbx rfl
              · cases h
            · cases h
          |box ty cells =>
            simp only[lY] at h
            split at h
            · rename_i t hd
              split at h
              · rename_i hcond
                obtain⟨ht,htl,hfl,hce,hK,hL,hA⟩:=hcond
                cases h
                have hcs : cs=[]:=by simpa using hce
                subst hcs
                exact .box ty cells t rfl hd ⟨ht,htl⟩ hfl hK hL hA he hbx rfl
              · cases h
            · cases h
          |store k off cells =>
            simp only[lY] at h
            split at h
            · rename_i hd
              split at h
              · rename_i hcond
                obtain⟨hfl,hce,hR,hbk⟩:=hcond
                cases h
                have hcs : cs=[]:=by simpa using hce
                subst hcs
                exact .store k off cells rfl hd hfl hR hbk he hbx rfl
              · cases h
            · cases h
          |upd k n z off cells=>simp only[lY] at h;cases h
          |vS ty z m dd=>simp only[lY] at h;cases h
          |fill k z m dd=>simp only[lY] at h;cases h
          |turn k z m dd=>simp only[lY] at h;cases h
          |pL ty kk ag=>simp only[lY] at h;cases h
          |qO k kk ag key cells=>simp only[lY] at h;cases h
          |mlk k kk ag key ok ez=>simp only[lY] at h;cases h
          |uT k=>simp only[lY] at h;cases h
          |mdl k kk ag key=>simp only[lY] at h;cases h
          |cpy k z cells n=>simp only[lY] at h;cases h
          |known spec =>
            simp only[lY] at h
            split at h
            · rename_i t r hd hr
              split at h
              · rename_i hcond
                cases h
                have hcs : cs=[]:=by simpa using hcond.2
                subst hcs
                exact .known spec r t hd hcond.1 he hbx rfl
              · cases h
            · cases h
          |row e m old spec =>
            simp only[lY] at h
            split at h
            · rename_i t k' k hd hr
              split at h
              · rename_i α d enc l hr2
                split at h
                · rename_i hcond
                  obtain⟨ht,htl,hN,hQ,hK,hL,hA⟩:=hcond
                  cases h
                  exact .app e m k spec cs d enc l t rfl hd ⟨ht,htl⟩ (by simpa using hN) hQ hK hL hA he hbx rfl
                · cases h
              · cases h
            · rename_i t r hd hr
              split at h
              · rename_i ht
                cases h
                exact .fresh e m spec cs r t hd ht he hbx rfl
              · cases h
            · cases h
      · cases h
theorem BI.ext{i : Nat}{o : Oper}{s s' : DS}{g : Cnd}{Kr : List Ent}(h : BI C Γ nt orc ops L0 i o s s' g Kr) : vw i s s':=by
  have hN : (∀n,s.N=some n->s.N=some n)/\(∀n,s.N=some n->s.N=some n\/(s.N=none/\i<=n.i)):=⟨fun _ h=>h,fun _ h=>.inl h⟩
  cases h with
  |pick c a b t tc e bc ba bb hop hd hc he hle hsrc ht hec hea heb hs =>
    subst hs
    exact⟨⟨[_],rfl,by simp⟩,⟨[],rfl,by simp⟩,⟨[],rfl,by simp⟩,⟨[],rfl,by simp⟩,hN,fun _ h=>h,fun j hj=>wC (by omega),fun _ h=>h⟩
  |val d cs t hd ht he hbx hs =>
    subst hs
    refine⟨⟨[_],rfl,by simp⟩,⟨[],rfl,by simp⟩,⟨[],rfl,by simp⟩,?_,hN,fun _ h=>List.mem_append_right _ h,fun j hj=>pW (by omega),fun _ h=>List.mem_append_left _ h⟩
    simp only
    split
    · exact⟨[_],rfl,by simp⟩
    · exact⟨[],rfl,by simp⟩
  |call f args r t hd ht hr hna he hbx hs =>
    subst hs
    exact⟨⟨[_],rfl,by simp⟩,⟨[],rfl,by simp⟩,⟨[],rfl,by simp⟩,⟨[],rfl,by simp⟩,hN,fun _ h=>List.mem_append_right _ h,fun j hj=>pW (by omega),fun _ h=>List.mem_append_left _ h⟩
  |box ty cells t hg hd ht hfl hK hL hA he hbx hs =>
    subst hs
    exact⟨⟨[_],rfl,by simp⟩,⟨[_],rfl,by simp⟩,⟨[],rfl,by simp⟩,⟨[],rfl,by simp⟩,hN,fun _ h=>List.mem_append_right _ h,fun _ _=>rfl,fun _ h=>h⟩
  |store k off cells hg hd hfl hR hbk he hbx hs =>
    subst hs
    exact⟨⟨[],rfl,by simp⟩,⟨[],rfl,by simp⟩,⟨[_],rfl,by simp⟩,⟨[],rfl,by simp⟩,hN,fun _ h=>List.mem_append_right _ h,fun _ _=>rfl,fun _ h=>h⟩
  |fresh e m spec cs r t hd ht he hbx hs =>
    subst hs
    exact⟨⟨[_],rfl,by simp⟩,⟨[],rfl,by simp⟩,⟨[],rfl,by simp⟩,⟨[],rfl,by simp⟩,hN,fun _ h=>List.mem_append_right _ h,fun j hj=>pW (by omega),fun _ h=>List.mem_append_left _ (List.mem_append_left _ h)⟩
  |known spec r t hd ht he hbx hs =>
    subst hs
    exact⟨⟨[_],rfl,by simp⟩,⟨[],rfl,by simp⟩,⟨[],rfl,by simp⟩,⟨[],rfl,by simp⟩,hN,fun _ h=>List.mem_append_right _ h,fun j hj=>pW (by omega),fun _ h=>List.mem_append_left _ h⟩
  |app e m k spec cs d enc l t hg hd ht hNn hQ hK hL hA he hbx hs =>
    subst hs
    refine⟨⟨[_],rfl,by simp⟩,⟨[],rfl,by simp⟩,⟨[],rfl,by simp⟩,⟨[],rfl,by simp⟩,⟨fun n h=>?_,fun n h=>?_⟩,fun _ h=>List.mem_append_right _ h,fun _ _=>rfl,fun _ h=>List.mem_append_left _ (List.mem_append_left _ h)⟩
    · rw[hNn] at h;cases h
    · cases h;exact .inr ⟨hNn,Nat.le_refl _⟩
structure Trace(C : Nat->List D->D->Prop)(Γ : Nat->Option TI)(nt : Nat)(orc : List (Nat×D))(ops : List Oper)(L0 : ax)(K : List (Nat×D))(st : Nat->DS) : Prop where
  zero : st 0=qI K
  step : ∀i o,ops[i]? = some o->stepD C Γ nt orc ops L0 i o (st i)=some (st (i+1))
theorem xG : ∀(l : List Oper)(i : Nat){s s' : DS},rq C Γ nt orc ops L0 l i s=some s'->∃st : Nat->DS,st i=s/\st (i+l.length)=s'/\∀j o,l[j]? = some o->stepD C Γ nt orc ops L0 (i+j) o (st (i+j))=some (st (i+j+1))
  |[],i,s,s',h=>by
    cases h
    exact⟨fun _=>s,rfl,rfl,fun j o hj=>by simp at hj⟩
  |o::l,i,s,s',h=>by
    unfold rq at h
    split at h
    · rename_i s1 h1
      obtain⟨st,hst0,hst1,hst2⟩:=xG l (i+1) h
      refine⟨fun k=>if k=i then s else st k,by simp,?_,fun j o' hj=>?_⟩
      · simp only[List.length_cons]
        rw[if_neg (by omega),<-hst1]
        congr 1;omega
      · cases j with
        |zero =>
          simp only[List.getElem?_cons_zero,Option.some.injEq] at hj
          subst hj
          simp only[Nat.add_zero,if_true]
          rw[if_neg (by omega),hst0];exact h1
        |succ j =>
          have:=hst2 j o' (by simpa using hj)
          show stepD C Γ nt orc ops L0 (i+(j+1)) o' (if i+(j+1)=i then s else st (i+(j+1)))=some (if i+(j+1)+1=i then s else st (i+(j+1)+1))
          rw[if_neg (by omega),if_neg (by omega)]
          rw[show i+(j+1)=i+1+j by omega];exact this
    · cases h
variable {K : List (Nat×D)} {st : Nat->DS}
theorem Trace.inv(h : Trace C Γ nt orc ops L0 K st){i : Nat}{o : Oper}(ho : ops[i]? = some o) : ∃g,iP ops ((st i).K.filter (dX ops i (onL o))) o.guard=some g/\BI C Γ nt orc ops L0 i o (st i) (st (i+1)) g ((st i).K.filter (dX ops i (onL o))) :=
  H7 (h.step i o ho)
theorem Trace.ext(h : Trace C Γ nt orc ops L0 K st){i : Nat} : ∀{j : Nat},i<=j->j<=ops.length->vw i (st i) (st j):=by
  intro j hij hj
  induction j with
  |zero =>
    have : i=0:=by omega
    subst this;exact .refl _ _
  |succ j ih =>
    by_cases he : i=j+1
    · subst he;exact .refl _ _
    · have hlt : j<ops.length:=by omega
      obtain⟨g,_,hs⟩:=h.inv (List.getElem?_eq_getElem hlt)
      exact(ih (by omega) (by omega)).trans (by omega) hs.ext
structure Jr(ops : List Oper)(i : Nat)(s : DS) : Prop where
  srcs : ∀e∈s.K,e.src<=i
  keys : ∀e∈s.K,∀x∈e.cnd,x.1+1<e.src
  lJ : ∀e∈s.K,∀j,e.src=j+1->(ops[j]?).bind (·.dst)=some e.slot/\∀b,e.d=.val (.bool b)->tv s.tab j=b
  A : ∀x∈s.A,x.1<i
  T : ∀x∈s.T,x.1<i
  N : ∀n,s.N=some n->n.i<i
def Gi(ops : List Oper)(i : Nat) : Option Nat:=(ops[i]?).bind (·.dst)
theorem yX{Kr : List Ent}{gd : Option (Nat×Bool)}{g : Cnd}(h : iP ops Kr gd=some g)(hk : ∀e∈Kr,∀x∈e.cnd,x.1+1<e.src){i : Nat}(hs : ∀e∈Kr,e.src<=i) : ∀x∈g,x.1<i:=by
  unfold iP at h
  split at h
  · cases h;simp
  · rename_i j want
    split at h
    · cases h
    · split at h
      · cases h
      · rename_i e he
        obtain⟨hm,_⟩:=kE he
        split at h
        · rename_i hsrc
          split at h
          · cases h
            intro x hx
            have:=hs e hm
            rcases List.mem_cons.1 hx with rfl|hx
            · simp only;omega
            · have:=hk e hm x hx;omega
          · cases h
        · cases h
theorem Trace.good(h : Trace C Γ nt orc ops L0 K st) : ∀i,i<=ops.length->Jr ops i (st i)
  |0,_=>by
    rw[h.zero]
    refine⟨fun e he=>?_,fun e he x hx=>?_,fun e he j hj=>?_,fun x hx=>by simp[qI] at hx,fun x hx=>by simp[qI] at hx,fun n hn=>by simp[qI] at hn⟩
    all_goals
      obtain⟨y,hy,rfl⟩:=List.mem_map.1 he
    · exact Nat.le_refl _
    · simp at hx
    · simp at hj
  |i+1,hi=>by
    have ih:=h.good i (by omega)
    have hlt : i<ops.length:=by omega
    have ho:=List.getElem?_eq_getElem hlt
    obtain⟨g,hg,hs⟩:=h.inv ho
    have hgk:=yX hg (fun e he=>ih.keys e (List.mem_filter.1 he).1) (fun e he=>ih.srcs e (List.mem_filter.1 he).1)
    have hext:=hs.ext
    have hold : ∀e∈(st i).K,∀j,e.src=j+1->(ops[j]?).bind (·.dst)=some e.slot/\∀b,e.d=.val (.bool b)->tv (st (i+1)).tab j=b:=by
      intro e he j hj
      obtain⟨h1,h2⟩:=ih.lJ e he j hj
      have:=ih.srcs e he
      exact⟨h1,fun b hb=>by rw[hext.tab j (by omega)];exact h2 b hb⟩
    have hA : ∀x∈(st (i+1)).A,x.1<i+1:=by
      intro x hx
      cases hs with
      |box ty cells t hg hd ht hfl hK hL hA he hbx hs =>
        rw[hs] at hx
        rcases List.mem_cons.1 hx with rfl|hx
        · simp only;omega
        · have:=ih.A x hx;omega
      |pick c a b t tc e bc ba bb hop hd hc he hle hsrc ht hec hea heb hs=>rw[hs] at hx;have:=ih.A x hx;omega
      |val d cs t hd ht he hbx hs=>rw[hs] at hx;have:=ih.A x hx;omega
      |call f args r t hd ht hr hna he hbx hs=>rw[hs] at hx;have:=ih.A x hx;omega
      |store k off cells hg hd hfl hR hbk he hbx hs=>rw[hs] at hx;have:=ih.A x hx;omega
      |fresh e m spec cs r t hd ht he hbx hs=>rw[hs] at hx;have:=ih.A x hx;omega
      |known spec r t hd ht he hbx hs=>rw[hs] at hx;have:=ih.A x hx;omega
      |app e m k spec cs d enc l t hg hd ht hNn hQ hK hL hA he hbx hs=>rw[hs] at hx;have:=ih.A x hx;omega
    have hT : ∀x∈(st (i+1)).T,x.1<i+1:=by
      intro x hx
      cases hs with
      |store k off cells hg hd hfl hR hbk he hbx hs =>
        rw[hs] at hx
        rcases List.mem_cons.1 hx with rfl|hx
        · simp only;omega
        · have:=ih.T x hx;omega
      |pick c a b t tc e bc ba bb hop hd hc he hle hsrc ht hec hea heb hs=>rw[hs] at hx;have:=ih.T x hx;omega
      |val d cs t hd ht he hbx hs=>rw[hs] at hx;have:=ih.T x hx;omega
      |call f args r t hd ht hr hna he hbx hs=>rw[hs] at hx;have:=ih.T x hx;omega
      |box ty cells t hg hd ht hfl hK hL hA he hbx hs=>rw[hs] at hx;have:=ih.T x hx;omega
      |fresh e m spec cs r t hd ht he hbx hs=>rw[hs] at hx;have:=ih.T x hx;omega
      |known spec r t hd ht he hbx hs=>rw[hs] at hx;have:=ih.T x hx;omega
      |app e m k spec cs d enc l t hg hd ht hNn hQ hK hL hA he hbx hs=>rw[hs] at hx;have:=ih.T x hx;omega
    have hNN : ∀n,(st (i+1)).N=some n->n.i<i+1:=by
      intro n hn
      have hold : ∀n,(st i).N=some n->n.i<i+1:=fun n h=>by have:=ih.N n h;omega
      cases hs with
      |pick c a b t tc e bc ba bb hop hd hc he hle hsrc ht hec hea heb hs=>rw[hs] at hn;exact hold n hn
      |val d cs t hd ht he hbx hs=>rw[hs] at hn;exact hold n hn
      |call f args r t hd ht hr hna he hbx hs=>rw[hs] at hn;exact hold n hn
      |box ty cells t hg hd ht hfl hK hL hA he hbx hs=>rw[hs] at hn;exact hold n hn
      |store k off cells hg hd hfl hR hbk he hbx hs=>rw[hs] at hn;exact hold n hn
      |fresh e m spec cs r t hd ht he hbx hs=>rw[hs] at hn;exact hold n hn
      |known spec r t hd ht he hbx hs=>rw[hs] at hn;exact hold n hn
      |app e m k spec cs d enc l t hg hd ht hNn hQ hK hL hA he hbx hs=>rw[hs] at hn;cases hn;exact Nat.lt_succ_self _
    have hnew : ∀(t : Nat)(gg : Cnd)(d : D),Gi ops i=some t->(∀x∈gg,x.1<i)->(∀b,d=.val (.bool b)->tv (st (i+1)).tab i=b)->(∀e∈(st (i+1)).K,e=⟨t,i+1,gg,d⟩\/e∈(st i).K)->Jr ops (i+1) (st (i+1)):=by
      intro t gg d hd hgg hb hmem
      refine⟨fun e he=>?_,fun e he x hx=>?_,fun e he j hj=>?_,hA,hT,hNN⟩
      · rcases hmem e he with rfl|he
        · exact Nat.le_refl _
        · have:=ih.srcs e he;omega
      · rcases hmem e he with rfl|he
        · have:=hgg x hx;simp only;omega
        · exact ih.keys e he x hx
      · rcases hmem e he with rfl|he
        · simp only at hj
          have : j=i:=by omega
          subst this
          exact⟨hd,hb⟩
        · exact hold e he j hj
    have hdst : ∀t,ops[i].dst=some t->Gi ops i=some t:=by intro t ht;unfold Gi;rw[ho];exact ht
    cases hs with
    |pick c a b t tc e bc ba bb hop hd hc he hle hsrc ht hec hea heb hs =>
      refine hnew t g (.val (.bool (bif bc then ba else bb))) (hdst t hd) hgk (fun b hb=>?_) (fun e he=>?_)
      · cases hb;rw[hs];exact Ab
      · rw[hs] at he;exact(List.mem_cons.1 he)
    |val d cs t hd ht he hbx hs =>
      refine hnew t g d (hdst t hd) hgk (fun b hb=>?_) (fun e he=>?_)
      · subst hb;rw[hs];exact fh
      · rw[hs] at he;exact(List.mem_cons.1 he)
    |call f args r t hd ht hr hna he hbx hs =>
      refine hnew t g r (hdst t hd) hgk (fun b hb=>?_) (fun e he=>?_)
      · subst hb;rw[hs];exact fh
      · rw[hs] at he;exact(List.mem_cons.1 he)
    |fresh e m spec cs r t hd ht he hbx hs =>
      refine hnew t g r (hdst t hd) hgk (fun b hb=>?_) (fun e he=>?_)
      · subst hb;rw[hs];exact fh
      · rw[hs] at he;exact(List.mem_cons.1 he)
    |known spec r t hd ht he hbx hs =>
      refine hnew t g r (hdst t hd) hgk (fun b hb=>?_) (fun e he=>?_)
      · subst hb;rw[hs];exact fh
      · rw[hs] at he;exact(List.mem_cons.1 he)
    |app e m k spec cs d enc l t hg hd ht hNn hQ hK hL hA he hbx hs =>
      refine hnew t [] (.row t) (hdst t hd) (by simp) (fun b hb=>by cases hb) (fun e he=>?_)
      rw[hs] at he;exact(List.mem_cons.1 he)
    |box ty cells t hg hd ht hfl hK hL hA he hbx hs =>
      refine hnew t [] (.own t 0) (hdst t hd) (by simp) (fun b hb=>by cases hb) (fun e he=>?_)
      rw[hs] at he;exact(List.mem_cons.1 he)
    |store k off cells hg hd hfl hR hbk he hbx hs =>
      refine⟨fun e he=>?_,fun e he=>?_,fun e he=>?_,hA,hT,hNN⟩
      all_goals rw[hs] at he
      · have:=ih.srcs e he;omega
      · exact ih.keys e he
      · exact hold e he
end
end Go.Proofs.YtefojkdckfidcaaGreatDoor.RX
