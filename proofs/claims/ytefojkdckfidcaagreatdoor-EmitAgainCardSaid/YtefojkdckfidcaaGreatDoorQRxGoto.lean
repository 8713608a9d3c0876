import Derived.Test.YtefojkdckfidcaaGreatDoorQRxAnyB
import Derived.Lib.LazyBuf
import Derived.ChangeKeysEq
import Derived.Recover
import Derived.RangeFuncSeq
set_option linter.all false
namespace Go.Proofs.YtefojkdckfidcaaGreatDoor.RX
open Go.RowKit
def cG(l:Nat)(c:Code):Code:=(findLabel (cI c) l).getD .skip
section
variable {P:Program} {nt:Nat} {F0:Fz} {w0:Pt P} {K:List (Nat×D)} {L:ay} {Q:Exit->Act->World->Prop}
def Lg(ro:Option Nat)(P:Program)(c rest:Code)(Q:Exit->Act->World->Prop)(a:Act)(w:World):Prop :=
 ∀(b:Frame)(k:List Item)(cs:List Frame),b.roundOf=ro->∃e a' w',Q e a' w'/\ArrivesIn (Machine.fenced P (Fr ro)) P (lone (b.atR a (.code rest::.inScope c::k)) cs w) b k cs e a' w'
def WG(P:Program)(nt:Nat)(F0:Fz)(w0:Pt P)(K:List (Nat×D))(L:ay)(c rest:Code)(Q:Exit->Act->World->Prop):Prop :=
 ∀a w,St nt F0 w0 K L a w->Lg w0.rnd P c rest Q a w
def goes(ro:Option Nat)(P:Program)(c:Code)(Q:Exit->Act->World->Prop):Exit->Act->World->Prop
 |.goto l,a,w=>∃rest,findLabel c l=some rest/\Lg ro P c rest Q a w
 |e,a,w=>Q e a w
theorem Wp.Fp{c:Code}(h:WG P nt F0 w0 K L c c Q):Wp P nt F0 w0 K L (.scope c) Q:=by
 intro a w hs b k cs hro _ _
 obtain⟨e,a',w',hq,harr⟩:=h a w hs b k cs hro
 exact⟨e,a',w',hq,.of_steps (.one (jR _) kz) harr⟩
theorem WG.pass{c rest:Code}(h:Wp P nt F0 w0 K L rest (goes w0.rnd P c Q)):WG P nt F0 w0 K L c rest Q:=by
 intro a w hs b k cs hro
 obtain⟨e,a₁,w₁,hq,harr⟩:=h a w hs b (.inScope c::k) cs hro trivial (Fr.room _ _)
 cases e with
 |normal=>exact⟨.normal,a₁,w₁,hq,StepsIn.trans harr (.one (jR _) wW)⟩
 |exit id=>exact⟨.exit id,a₁,w₁,hq,fun k' hk=>harr.1 k' (by simp[exitTo,hk]),fun hr hk=>harr.2 hr (by simp[exitTo,hk])⟩
 |goto l =>
  obtain⟨r,hf,hl⟩:=hq
  obtain⟨e₂,a₂,w₂,hq₂,harr₂⟩:=hl b k cs hro
  exact⟨e₂,a₂,w₂,hq₂,.of_steps (harr.1 _ (by simp[gotoIn,hf])) harr₂⟩
 |ret=>exact⟨_,a₁,w₁,hq,harr⟩
 |panic ch=>exact⟨_,a₁,w₁,hq,harr⟩
 |outgrown=>exact⟨_,a₁,w₁,hq,harr⟩
theorem Wp.goto{l:Nat}(h:To nt F0 w0 K L (.goto l) Q):Wp P nt F0 w0 K L (.goto l) Q:=fun a w hs=>wpIn_goto (h a w hs)
theorem To.goto{c rest:Code}{l:Nat}(hf:findLabel c l=some rest)(h:WG P nt F0 w0 K L c rest Q):To nt F0 w0 K L (.goto l) (goes w0.rnd P c Q):=fun a w hs=>⟨rest,hf,h a w hs⟩
theorem To.kF{c:Code}{e:Exit}(he:e=.normal\/e=.ret\/∃id,e=.exit id)(h:To nt F0 w0 K L e Q):To nt F0 w0 K L e (goes w0.rnd P c Q):=by
 rcases he with rfl|rfl|⟨id,rfl⟩<;>exact h
theorem To.yz{N:Act->World->Prop}{l:Nat}(h:To nt F0 w0 K L (.goto l) Q):To nt F0 w0 K L (.goto l) (Exit.then N Q):=h
theorem To.LM{id l:Nat}(h:To nt F0 w0 K L (.goto l) Q):To nt F0 w0 K L (.goto l) (Exit.inBlock id Q):=h
end
end Go.Proofs.YtefojkdckfidcaaGreatDoor.RX
namespace Go.Proofs.YtefojkdckfidcaaGreatDoor.RX
open Go.RowKit
section
variable {P:Program} {nt:Nat} {F0:Fz} {w0:Pt P} {K:List (Nat×D)} {L:ay} {Q:Exit->Act->World->Prop}
mutual
def D.plain:D->Bool
 |.val _=>true
 |.str _=>true
 |.agg ds=>D.xG ds
 |.tup ds=>D.xG ds
 |_=>false
def D.xG:List D->Bool
 |[]=>true
 |d::ds=>D.plain d&&D.xG ds
end
mutual
theorem Rep.plain{F F':Fz}{w w':World}{B B':Env}:∀{d:D}{v:Value},D.plain d=true->Rep F w B d v->Rep F' w' B' d v
 |.val _,_,_,hr=>by cases hr;exact .val _ (by assumption)
 |.str _,_,_,hr=>by cases hr;exact .str _
 |.agg ds,_,h,hr=>by cases hr with|agg _ vs hr=>exact .agg ds vs (aB.plain (ds:=ds) h hr)
 |.tup ds,_,h,hr=>by cases hr with|tup _ vs hr=>exact .tup ds vs (aB.plain (ds:=ds) h hr)
theorem aB.plain{F F':Fz}{w w':World}{B B':Env}:∀{ds:List D}{vs:List Value},D.xG ds=true->aB F w B ds vs->aB F' w' B' ds vs
 |[],_,_,.nil=>.nil
 |d::ds,_,h,.cons _ v _ vs hr hrs=>by
  simp only[D.xG,Bool.and_eq_true] at h
  exact .cons d v ds vs (Rep.plain h.1 hr) (aB.plain h.2 hrs)
end
def Hy(j k:Nat)(ds:List D):List D:=match ds[j]? with|some (.val (.slice none 0 0))=>ds.set j (.row k)|_=>ds
def Qz(b j k:Nat)(L:ay):ay:=L.map fun x=>bif x.1==b then(x.1,x.2.1,Hy j k x.2.2) else x
theorem aB.setAt{F:Fz}{w:World}{B:Env}:∀{ds:List D}{vs:List Value}{j:Nat}{d d':D},aB F w B ds vs->ds[j]? = some d->(∀v,Rep F w B d v->Rep F w B d' v)->aB F w B (ds.set j d') vs
 |[],_,j,d,d',_,h,_=>by simp at h
 |x::ds,_,0,d,d',.cons _ v _ vs hr hrs,h,hd=>by
  simp only[List.getElem?_cons_zero,Option.some.injEq] at h
  subst h
  exact .cons d' v ds vs (hd v hr) hrs
 |x::ds,_,j+1,d,d',.cons _ v _ vs hr hrs,h,hd=>by
  simp only[List.getElem?_cons_succ] at h
  exact .cons x v _ vs hr (aB.setAt hrs h hd)
theorem Ez:∀{ds:List D}{j:Nat}{d:D},ds.all D.flat=true->d.flat=true->(ds.set j d).all D.flat=true
 |[],_,_,_,_=>rfl
 |x::ds,0,d,h,hd=>by
  simp only[List.all_cons,Bool.and_eq_true] at h
  simp only[List.set_cons_zero,List.all_cons,Bool.and_eq_true]
  exact⟨hd,h.2⟩
 |x::ds,j+1,d,h,hd=>by
  simp only[List.all_cons,Bool.and_eq_true] at h
  simp only[List.set_cons_succ,List.all_cons,Bool.and_eq_true]
  exact⟨h.1,Ez h.2 hd⟩
theorem St.nF(b j k e:Nat){α:Type}{d:α}{enc:α->List D}(hg:aV (.recs d enc []))(hlt:k<1000000)(hf:ku k K L=true){L':ay}(hv:Qz b j k L=L'):∀a w,St nt F0 w0 K L a w->St nt F0 w0 K ((k,e,[.aN false d enc []])::L') a w:=by
 rintro a w ⟨B,F,hb,hd,hs,hK⟩
 subst hv
 simp only[ku,Bool.and_eq_true] at hf
 have hfK:∀x∈K,D.names k x.2=false:=fun x hx=>by simpa using List.all_eq_true.1 hf.1 x hx
 have hfL:∀x∈L,x.1≠k/\D.bH k x.2.2=false:=fun x hx=>by simpa using List.all_eq_true.1 hf.2 x hx
 have hB':setB B k (.row none 0 0) k=some (.row none 0 0):=fH _ _ _
 have hbase:=hb.sZ (t:=k) (ty:=e) (ds:=[.aN false d enc []]) (F':=F) (w':=w) (B':=setB B k (.row none 0 0)) (M':=aM L) (Grow.refl _ _)
  (.row false d enc [] none 0 0 hB' ⟨rfl,hg.1,hg.2,[],.nil,⟨by simp,.inl ⟨rfl,rfl,rfl⟩⟩,fun b hb=>by cases hb⟩) (fun b hbk=>by rw[dn hB'] at hbk;cases hbk)
  (fun j t' ds hm=>⟨hm,(hfL _ hm).1,bF _ _ _ _ (hfL _ hm).1,fun F w vs hr=>hr.gW k (bF _ _ _) (hfL _ hm).2⟩) (fun b _=>⟨rfl,fun _ h=>h⟩) hb.frz (fun g j h=>.inl h) (dX.refl _ _ _) (fun q hq=>bF _ _ _ _ (by unfold LIM at hq;omega))
 have hmem:∀q t es,aM ((k,e,[D.aN false d enc []])::Qz b j k L) q t es->∃ds,mT k e [.aN false d enc []] (aM L) q t ds/\(es=ds\/(ds[j]? = some (.val (.slice none 0 0))/\es=ds.set j (.row k))):=by
  intro q t es hm
  rcases List.mem_cons.1 hm with hm|hm
  ·cases hm;exact⟨_,.inl ⟨rfl,rfl,rfl⟩,.inl rfl⟩
  ·obtain⟨x,hx,he⟩:=List.mem_map.1 hm
   obtain⟨q',t',ds⟩:=x
   cases hc:q'==b with
   |false=>simp only[hc,cond_false] at he;cases he;exact⟨_,.inr hx,.inl rfl⟩
   |true =>
    simp only[hc,cond_true] at he
    cases he
    refine⟨ds,.inr hx,?_⟩
    unfold Hy
    split
    ·rename_i hcell;exact .inr ⟨hcell,rfl⟩
    ·exact .inl rfl
 refine⟨setB B k (.row none 0 0),F,⟨fun q t es hm=>?_,fun q t es c hm hbk=>?_,fun i i' c hi hi'=>hbase.inj i i' c ?_ ?_,hbase.frz,hbase.more,hbase.grow,hbase.below,hbase.env⟩,hd,hs,fun x hx=>?_⟩
 ·obtain⟨ds,h1,h2⟩:=hmem _ _ _ hm
  have hh:=hbase.boxes _ _ _ h1
  rcases h2 with rfl|⟨hcell,rfl⟩
  ·exact hh
  ·cases hh with
   |box _ b vs h3 h4 h5 h6 h7=>exact .box _ b vs h3 (h4.setAt hcell fun v hv=>by cases hv;exact .row k none 0 0 hB') (Ez h5 rfl) h6 h7
   |row m d enc l p n cap h3 h4 =>
    cases j with
    |zero=>simp at hcell
    |succ j=>simp at hcell
   |map kk ag d enc l b h3 h4 =>
    cases j with
    |zero=>simp at hcell
    |succ j=>simp at hcell
   |obj b o S h3 h4 =>
    cases j with
    |zero=>simp at hcell
    |succ j=>simp at hcell
 ·obtain⟨ds,h1,_⟩:=hmem _ _ _ hm
  exact hbase.new _ _ _ _ h1 hbk
 ·obtain⟨t,es,hm⟩:=hi
  obtain⟨ds,h1,_⟩:=hmem _ _ _ hm
  exact⟨_,_,h1⟩
 ·obtain⟨t,es,hm⟩:=hi'
  obtain⟨ds,h1,_⟩:=hmem _ _ _ hm
  exact⟨_,_,h1⟩
 ·obtain⟨v,h1,h2⟩:=hK x hx
  exact⟨v,h1,h2.gW k (bF _ _ _) (hfK x hx)⟩
end
end Go.Proofs.YtefojkdckfidcaaGreatDoor.RX
namespace Go.Proofs.YtefojkdckfidcaaGreatDoor.RX
open Go.RowKit
def rdy(ops:List Oper)(m i:Nat):Bool:=!(m.testBit i)&&(match ops[i]? with|some o=>(onL o).all fun j=>m.testBit j|none=>false)
def La(o:Oper):Bool:=match o.op,o.guard,o.dst with|.move _,none,some _=>true|_,_,_=>false
def Oa(ops:List Oper)(m i:Nat):Bool :=
 match ops[i]? with
 |some oi=>(List.range ops.length).all fun j=>j==i||m.testBit j||match ops[j]? with|some oj=>(onL oj).contains i||oi.apart ops.toArray oj|none=>true
 |none=>false
def vq(ops:List Oper)(m:Nat):Option Nat:=(List.range ops.length).find? fun i=>(match ops[i]? with|some o=>La o|none=>false)&&(rdy ops m i&&Oa ops m i)
def oZ(slots keys:List Nat)(n:Nat)(s:ES):ES :=
 { K:=slots.filterMap (kx s.K),L:=keys.filterMap fun k=>(s.L.lookup k).map fun x=>(k,x),tab:=(List.range n).filterMap fun j=>(s.tab.lookup j).map fun b=>(j,b),obl:=[] }
structure OA where
 lv:List (Nat×ES)
 ps:List (ES×ES)
 ob:List (Nat×List Prop)
 os:List (List Prop×List Prop)
def xZ(m:Nat)(s:ES)(A:OA):OA:=match A.lv.lookup m with|some s'=>{ A with ps:=(s,s')::A.ps }|none=>{ A with lv:=A.lv++[(m,s)] }
def Ce(i:Nat)(o:List Prop)(A:OA):OA:=match A.ob.lookup i with|some o'=>{ A with os:=(o,o')::A.os }|none=>{ A with ob:=A.ob++[(i,o)] }
section
variable (C:Nat->List D->D->Prop) (CB:Nat->List D->ay->D->ay->Prop) (Γ:Nat->Option TI) (nt:Nat) (orc:List (Nat×D)) (orb:List (Nat×CBd)) (ops:List Oper) (fz:List (Nat×List Nat)) (slots keys:List Nat)
def Jv(i:Nat)(s:ES):Option ES:=match ops[i]? with|some o=>qZ C CB Γ nt orc orb ops i o (kR fz i { s with obl:=[] })|none=>none
def qc(m:Nat)(s:ES):List Nat->OA->Option OA
 |[],A=>some A
 |i::is,A =>
  match rdy ops m i with
  |true=>match Jv C CB Γ nt orc orb ops fz i s with|some s'=>qc m s is (Ce i s'.obl (xZ (m ||| 1 <<< i) (oZ slots keys ops.length s') A))|none=>none
  |false=>qc m s is A
def expand:List (Nat×ES)->OA->Option OA
 |[],A=>some A
 |x::rest,A=>match qc C CB Γ nt orc orb ops fz slots keys x.1 x.2 (match vq ops x.1 with|some i=>[i]|none=>List.range ops.length) A with|some A'=>expand rest A'|none=>none
def levels:Nat->OA->Option OA
 |0,A=>some A
 |r+1,A=>match expand C CB Γ nt orc orb ops fz slots keys A.lv { A with lv:=[] } with|some A'=>levels r A'|none=>none
def He(K:List (Nat×D))(L:ay):OA:={ lv:=[(0,oZ slots keys ops.length (oJ K L))],ps:=[],ob:=[],os:=[] }
def N8(n:Nat)(ob:List (Nat×List Prop)):List Prop:=(List.range n).flatMap fun i=>(ob.lookup i).getD []
def ndB(o:Oper):Bool:=match o.op with|.defer _=>false|_=>true
def Bz(K:List (Nat×D))(L:ay):Option OA :=
 if lU ops&&Region.noSelect ops.toArray&&ops.all ndB then levels C CB Γ nt orc orb ops fz slots keys ops.length (He ops slots keys K L) else none
def MG(kk kl:List Nat):Option OA->Option (List (Nat×D)×ay×List Prop)
 |some A=>match A.lv with|[(_,s)]=>(match qC s.K kk,iZ s.L kl with|some K',some L'=>some (K',L',N8 ops.length A.ob)|_,_=>none)|_=>none
 |none=>none
end
def QP:Option OA->List ES×List (List Prop)
 |some A=>(A.ps.map (·.1),A.os.map (·.1))
 |none=>([],[])
def Qd:Option OA->List ES×List (List Prop)
 |some A=>(A.ps.map (·.2),A.os.map (·.2))
 |none=>([],[])
theorem BB{α:Type 1}:∀{l:List (α×α)},l.map (·.1)=l.map (·.2)->∀p∈l,p.1=p.2
 |[],_,p,hp=>by simp at hp
 |q::l,h,p,hp=>by
  simp only[List.map_cons,List.cons.injEq] at h
  rcases List.mem_cons.1 hp with rfl|hp
  ·exact h.1
  ·exact BB h.2 p hp
theorem y9{α:Type}:∀{l:List (α×α)},l.map (·.1)=l.map (·.2)->∀p∈l,p.1=p.2
 |[],_,p,hp=>by simp at hp
 |q::l,h,p,hp=>by
  simp only[List.map_cons,List.cons.injEq] at h
  rcases List.mem_cons.1 hp with rfl|hp
  ·exact h.1
  ·exact y9 h.2 p hp
theorem Aw{β:Type 1}:∀{l:List (Nat×β)}{m:Nat}{s:β}{r:List (Nat×β)},l.lookup m=some s->(l++r).lookup m=some s
 |[],m,s,r,h=>by simp at h
 |(k,x)::l,m,s,r,h=>by
  rw[List.cons_append,List.lookup_cons]
  rw[List.lookup_cons] at h
  split
  ·rename_i he;rw[he] at h;exact h
  ·rename_i he;rw[he] at h;exact Aw h
theorem zi{β:Type 1}:∀{l:List (Nat×β)}{m:Nat}{s:β},l.lookup m=none->(l++[(m,s)]).lookup m=some s
 |[],m,s,_=>by simp
 |(k,x)::l,m,s,h=>by
  rw[List.cons_append,List.lookup_cons]
  rw[List.lookup_cons] at h
  split
  ·rename_i he;rw[he] at h;cases h
  ·rename_i he;rw[he] at h;exact zi h
theorem yW{β:Type}:∀{l:List (Nat×β)}{m:Nat}{s:β}{r:List (Nat×β)},l.lookup m=some s->(l++r).lookup m=some s
 |[],m,s,r,h=>by simp at h
 |(k,x)::l,m,s,r,h=>by
  rw[List.cons_append,List.lookup_cons]
  rw[List.lookup_cons] at h
  split
  ·rename_i he;rw[he] at h;exact h
  ·rename_i he;rw[he] at h;exact yW h
theorem xx{β:Type}:∀{l:List (Nat×β)}{m:Nat}{s:β},l.lookup m=none->(l++[(m,s)]).lookup m=some s
 |[],m,s,_=>by simp
 |(k,x)::l,m,s,h=>by
  rw[List.cons_append,List.lookup_cons]
  rw[List.lookup_cons] at h
  split
  ·rename_i he;rw[he] at h;cases h
  ·rename_i he;rw[he] at h;exact xx h
structure pq(A A':OA):Prop where
 lv:∀m s,A.lv.lookup m=some s->A'.lv.lookup m=some s
 ob:∀i o,A.ob.lookup i=some o->A'.ob.lookup i=some o
 ps:∀p∈A.ps,p∈A'.ps
 os:∀p∈A.os,p∈A'.os
theorem pq.refl(A:OA):pq A A:=⟨fun _ _ h=>h,fun _ _ h=>h,fun _ h=>h,fun _ h=>h⟩
theorem pq.trans{A B C:OA}(h:pq A B)(h':pq B C):pq A C:=⟨fun m s x=>h'.lv m s (h.lv m s x),fun i o x=>h'.ob i o (h.ob i o x),fun p x=>h'.ps p (h.ps p x),fun p x=>h'.os p (h.os p x)⟩
theorem Ly(m:Nat)(s:ES)(A:OA):pq A (xZ m s A):=by
 unfold xZ
 split
 ·exact⟨fun _ _ h=>h,fun _ _ h=>h,fun _ h=>List.mem_cons_of_mem _ h,fun _ h=>h⟩
 ·exact⟨fun _ _ h=>Aw h,fun _ _ h=>h,fun _ h=>h,fun _ h=>h⟩
theorem MR(i:Nat)(o:List Prop)(A:OA):pq A (Ce i o A):=by
 unfold Ce
 split
 ·exact⟨fun _ _ h=>h,fun _ _ h=>h,fun _ h=>h,fun _ h=>List.mem_cons_of_mem _ h⟩
 ·exact⟨fun _ _ h=>h,fun _ _ h=>yW h,fun _ h=>h,fun _ h=>h⟩
theorem M9(m:Nat)(s:ES)(A:OA){A':OA}(h:pq (xZ m s A) A')(hp:∀p∈A'.ps,p.1=p.2):A'.lv.lookup m=some s:=by
 unfold xZ at h
 split at h
 ·rename_i s' hs
  have:=hp _ (h.ps _ List.mem_cons_self)
  simp only at this
  rw[this];exact h.lv m s' hs
 ·rename_i hs
  exact h.lv m s (zi hs)
theorem M8(i:Nat)(o:List Prop)(A:OA){A':OA}(h:pq (Ce i o A) A')(hp:∀p∈A'.os,p.1=p.2):A'.ob.lookup i=some o:=by
 unfold Ce at h
 split at h
 ·rename_i o' ho
  have:=hp _ (h.os _ List.mem_cons_self)
  simp only at this
  rw[this];exact h.ob i o' ho
 ·rename_i ho
  exact h.ob i o (xx ho)
section
variable {C:Nat->List D->D->Prop} {CB:Nat->List D->ay->D->ay->Prop} {P:Program} {F0:Fz} {w0:Pt P} {B:Env} {F:Fz} {w:World} {a:Act} {Q:Exit->Act->World->Prop} {Γ:Nat->Option TI} {nt:Nat} {ops:List Oper} {orc:List (Nat×D)} {orb:List (Nat×CBd)} {fz:List (Nat×List Nat)} {slots keys:List Nat}
def Next(C:Nat->List D->D->Prop)(CB:Nat->List D->ay->D->ay->Prop)(Γ:Nat->Option TI)(nt:Nat)(orc:List (Nat×D))(orb:List (Nat×CBd))(ops:List Oper)(fz:List (Nat×List Nat))(slots keys:List Nat)(m:Nat)(s:ES)(i:Nat)(lv:List (Nat×ES))(ob:List (Nat×List Prop)):Prop :=
 ∃s',Jv C CB Γ nt orc orb ops fz i s=some s'/\lv.lookup (m ||| 1 <<< i)=some (oZ slots keys ops.length s')/\ob.lookup i=some s'.obl
theorem wo{m:Nat}{s:ES}:∀{is:List Nat}{A A':OA},qc C CB Γ nt orc orb ops fz slots keys m s is A=some A' ->
  pq A A'/\∀A'',pq A' A''->(∀p∈A''.ps,p.1=p.2)->(∀p∈A''.os,p.1=p.2)->∀i∈is,rdy ops m i=true->Next C CB Γ nt orc orb ops fz slots keys m s i A''.lv A''.ob
 |[],A,A',h=>by cases h;exact⟨.refl _,fun _ _ _ _ i hi=>by simp at hi⟩
 |i::is,A,A',h=>by
  unfold qc at h
  split at h
  ·rename_i hr
   split at h
   ·rename_i s' hs
    obtain⟨h1,h2⟩:=wo h
    have hm1:=Ly (m ||| 1 <<< i) (oZ slots keys ops.length s') A
    have hm2:=MR i s'.obl (xZ (m ||| 1 <<< i) (oZ slots keys ops.length s') A)
    refine⟨hm1.trans (hm2.trans h1),fun A'' hA hp ho j hj hrj=>?_⟩
    rcases List.mem_cons.1 hj with rfl|hj
    ·exact⟨s',hs,M9 _ _ A (hm2.trans (h1.trans hA)) hp,M8 _ _ _ (h1.trans hA) ho⟩
    ·exact h2 A'' hA hp ho j hj hrj
   ·cases h
  ·rename_i hr
   obtain⟨h1,h2⟩:=wo h
   refine⟨h1,fun A'' hA hp ho j hj hrj=>?_⟩
   rcases List.mem_cons.1 hj with rfl|hj
   ·rw[hr] at hrj;cases hrj
   ·exact h2 A'' hA hp ho j hj hrj
theorem yc:∀{lv:List (Nat×ES)}{A A':OA},expand C CB Γ nt orc orb ops fz slots keys lv A=some A' ->
  pq A A'/\∀A'',pq A' A''->(∀p∈A''.ps,p.1=p.2)->(∀p∈A''.os,p.1=p.2)->∀x∈lv,∀i,i<ops.length->rdy ops x.1 i=true->(vq ops x.1=none\/vq ops x.1=some i)->Next C CB Γ nt orc orb ops fz slots keys x.1 x.2 i A''.lv A''.ob
 |[],A,A',h=>by cases h;exact⟨.refl _,fun _ _ _ _ x hx=>by simp at hx⟩
 |x::lv,A,A',h=>by
  unfold expand at h
  split at h
  ·rename_i A1 hA1
   obtain⟨h1,h2⟩:=wo hA1
   obtain⟨h3,h4⟩:=yc h
   refine⟨h1.trans h3,fun A'' hA hp ho y hy i hi hr ht=>?_⟩
   rcases List.mem_cons.1 hy with rfl|hy
   ·refine h2 A'' (h3.trans hA) hp ho i ?_ hr
    rcases ht with ht|ht
    ·rw[ht];exact List.mem_range.2 hi
    ·rw[ht];exact List.mem_singleton.2 rfl
   ·exact h4 A'' hA hp ho y hy i hi hr ht
  ·cases h
structure Rq(A A':OA):Prop where
 ob:∀i o,A.ob.lookup i=some o->A'.ob.lookup i=some o
 ps:∀p∈A.ps,p∈A'.ps
 os:∀p∈A.os,p∈A'.os
theorem yX:∀{r:Nat}{A A':OA},levels C CB Γ nt orc orb ops fz slots keys r A=some A'->Rq A A'
 |0,A,A',h=>by cases h;exact⟨fun _ _ h=>h,fun _ h=>h,fun _ h=>h⟩
 |r+1,A,A',h=>by
  unfold levels at h
  split at h
  ·rename_i A1 hA1
   have h1:=(yc hA1).1
   have h2:=yX h
   exact⟨fun i o x=>h2.ob i o (h1.ob i o x),fun p x=>h2.ps p (h1.ps p x),fun p x=>h2.os p (h1.os p x)⟩
  ·cases h
theorem xM(f:Nat->Option Bool)(j:Nat):∀l:List Nat,(l.filterMap fun j=>(f j).map fun b=>(j,b)).lookup j=if j∈l then f j else none
 |[]=>by simp
 |k::l=>by
  rw[List.filterMap_cons]
  cases hf:f k with
  |none =>
   simp only[Option.map_none]
   rw[xM f j l]
   by_cases hjk:j=k
   ·subst hjk
    rw[hf];simp
   ·simp[hjk]
  |some b =>
   simp only[Option.map_some,List.lookup_cons]
   by_cases hjk:j=k
   ·subst hjk;simp[hf]
   ·have:(j==k)=false:=by simpa using hjk
    rw[this]
    simp only
    rw[xM f j l]
    simp[hjk]
theorem Ha{tab:List (Nat×Bool)}{n j:Nat}(h:j<n):tv ((List.range n).filterMap fun j=>(tab.lookup j).map fun b=>(j,b)) j=tv tab j:=by
 unfold tv
 rw[xM (fun j=>tab.lookup j),if_pos (List.mem_range.2 h)]
theorem EG{s:ES}{S:Nat->Prop}(hi:gK nt ops F0 w0 B F s S a w){n:Nat}(hn:∀j,S j->j<n):gK nt ops F0 w0 B F (oZ slots keys n s) S a w:=by
 have hmem:∀e∈(oZ slots keys n s).K,e∈s.K:=by
  intro e he
  obtain⟨t,_,h⟩:=List.mem_filterMap.1 he
  exact(lq h).1
 refine⟨hi.base.sub fun k t ds h=>?_,hi.defers,hi.size,fun e he=>(hi.ents e (hmem e he)).tab fun x hx=>Ha (hn _ (hi.keys e (hmem e he) x hx)),fun e he=>hi.keys e (hmem e he),fun e he=>hi.srcs e (hmem e he),fun e he j hj=>?_⟩
 ·obtain⟨k',_,hk⟩:=List.mem_filterMap.1 h
  cases hl:s.L.lookup k' with
  |none=>rw[hl] at hk;cases hk
  |some x =>
   rw[hl] at hk
   cases hk
   exact aD hl
 ·obtain⟨h1,h2⟩:=hi.mW e (hmem e he) j hj
  refine⟨h1,fun b hb=>?_⟩
  have hsj:S j:=by
   have:=hi.srcs e (hmem e he)
   rw[hj] at this
   simpa using this
  rw[<-h2 b hb]
  exact Ha (hn j hsj)
theorem Pv{s:ES}{S:Nat->Prop}(hi:gK nt ops F0 w0 B F s S a w)(o:List Prop):gK nt ops F0 w0 B F { s with obl:=o } S a w:=⟨hi.base,hi.defers,hi.size,hi.ents,hi.keys,hi.srcs,hi.mW⟩
theorem ze:∀{l:List Nat}{i:Nat}{p p':Nat->Bool},l.Nodup->i∈l->p i=true->p' i=false->(∀j,j≠i->p' j=p j)->(l.filter p').length+1=(l.filter p).length
 |[],i,p,p',_,h,_,_,_=>by simp at h
 |x::l,i,p,p',hn,h,h1,h2,h3=>by
  have hn':=List.nodup_cons.1 hn
  by_cases hx:x=i
  ·subst hx
   have he:l.filter p'=l.filter p:=List.filter_congr fun j hj=>h3 j fun e=>hn'.1 (e▸hj)
   rw[List.filter_cons,List.filter_cons,h1,h2,he]
   simp
  ·have ih:=ze hn'.2 ((List.mem_cons.1 h).resolve_left fun e=>hx e.symm) h1 h2 h3
   rw[List.filter_cons,List.filter_cons,h3 x hx]
   split
   ·rw[List.length_cons,List.length_cons];omega
   ·exact ih
theorem left_eq{n i:Nat}{listed:Array Bool}(hi:i<n)(hsz:listed.size=n)(h:listed.getD i false=false):left n (listed.setIfInBounds i true)+1=left n listed:=by
 unfold left
 refine ze List.nodup_range (List.mem_range.2 hi) (by rw[h];rfl) ?_ fun j hj=>?_
 ·simp[Array.getD_eq_getD_getElem?,hsz,hi]
 ·rw[getD_set_ne false (fun e=>hj e.symm)]
theorem JX:∀{l:List (Nat×ES)}{m:Nat}{s:ES},l.lookup m=some s->(m,s)∈l:=fun h=>aD h
theorem LK(hΓ:ΓOK P Γ)(he:lU ops=true)(hsel:Region.noSelect ops.toArray=true)(hQp:∀c a w,¬Q (.panic c) a w){Af:OA}(hps:∀p∈Af.ps,p.1=p.2)(hos:∀p∈Af.os,p.1=p.2)(hob:∀i o,Af.ob.lookup i=some o->∀p∈o,p)
  {mf:Nat} {sf:ES} (hf:Af.lv=[(mf,sf)]) (hQ:∀B F a w (S:Nat->Prop),gK nt ops F0 w0 B F sf S a w->Q .normal a w) :
  ∀(r fuel:Nat)(A:OA)(m:Nat)(s:ES)(listed:Array Bool)(B:Env)(F:Fz)(a:Act)(w:World),levels (CX P) (aY P) Γ nt orc orb ops fz slots keys r A=some Af->(m,s)∈A.lv->listed.size=ops.length ->
   (∀j,j<ops.length->listed.getD j false=m.testBit j)->(∀j,m.testBit j=true->j<ops.length)->left ops.length listed=r->r<=fuel->gK nt ops F0 w0 B F s (fun j=>m.testBit j=true) a w->wpAny P .any ops.toArray Q fuel listed a w:=by
 have hnone:∀(listed:Array Bool),listed.size=ops.length->left ops.length listed=0->∀j,j<ops.length->listed.getD j false=true:=by
  intro listed hsz hl j hj
  cases hc:listed.getD j false with
  |true=>rfl
  |false =>
   have:j∈(List.range ops.length).filter fun j=>!(listed.getD j false):=List.mem_filter.2 ⟨List.mem_range.2 hj,by rw[hc];rfl⟩
   unfold left at hl
   rw[List.length_eq_zero_iff.1 hl] at this
   simp at this
 have hready0:∀(listed:Array Bool),listed.size=ops.length->(∀j,j<ops.length->listed.getD j false=true)->Region.ready .any ops.toArray listed=[]:=by
  intro listed hsz hall
  apply List.eq_nil_iff_forall_not_mem.2
  intro j hj
  obtain⟨h1,o,h2,_⟩:=mem_ready.1 hj
  rw[List.getElem?_toArray] at h2
  have hlt:=(List.getElem?_eq_some_iff.1 h2).1
  have h3:=hall j hlt
  have hj':j<listed.size:=by omega
  simp only[Array.getD_eq_getD_getElem?,Array.getElem?_eq_getElem hj',Option.getD_some] at h1 h3
  rw[h3] at h1;cases h1
 intro r
 induction r with
 |zero =>
  intro fuel A m s listed B F a w hl hm hsz hbit hlt hleft hfuel hi
  cases hl
  rw[hf] at hm
  cases List.mem_singleton.1 hm
  have hr:=hready0 listed hsz (hnone listed hsz hleft)
  have hq:=hQ B F a w _ hi
  cases fuel with
  |zero=>exact⟨hr,hq⟩
  |succ fuel=>exact⟨fun _=>hq,fun i hi=>by rw[hr] at hi;simp at hi⟩
 |succ r ih =>
  intro fuel A m s listed B F a w hl hm hsz hbit hlt hleft hfuel hi
  unfold levels at hl
  split at hl
  rotate_left
  ·cases hl
  rename_i A1 hA1
  obtain⟨_,hex⟩:=yc hA1
  have hmp:=yX hl
  obtain⟨fuel,rfl⟩:∃f,fuel=f+1:=⟨fuel-1,by omega⟩
  have hstep:∀i o,i<ops.length->ops[i]? = some o->rdy ops m i=true->(vq ops m=none\/vq ops m=some i) ->
    if Region.wanted o (yielded ops.toArray a.tmps)=true then o.wp P a w (wpAny P .any ops.toArray Q fuel (listed.setIfInBounds i true)) Q else wpAny P .any ops.toArray Q fuel (listed.setIfInBounds i true) (a.put o.dst undef) w:=by
   intro i o hil h2 hrdy htake
   have hni:m.testBit i=false:=by
    unfold rdy at hrdy
    rw[Bool.and_eq_true] at hrdy
    simpa using hrdy.1
   have hfalse:listed.getD i false=false:=by rw[hbit i hil];exact hni
   have hA1p:∀p∈A1.ps,p.1=p.2:=fun p hp=>hps p (hmp.ps p hp)
   have hA1o:∀p∈A1.os,p.1=p.2:=fun p hp=>hos p (hmp.os p hp)
   obtain⟨s',hs',hlv,hobl⟩:=hex A1 (.refl _) hA1p hA1o (m,s) hm i hil hrdy htake
   simp only at hs' hlv hobl
   unfold Jv at hs'
   rw[h2] at hs'
   simp only at hs'
   obtain⟨F1,hi1⟩:=(Pv hi []).kR fz (i:=i)
   have hobs:∀p∈s'.obl,p:=hob i _ (hmp.ob i _ hobl)
   have hbit':∀j,(m ||| 1 <<< i).testBit j=(m.testBit j||decide (i=j)):=by
    intro j
    rw[Nat.testBit_or,Nat.one_shiftLeft,Nat.testBit_two_pow]
   have hst:=BG (Q:=Q) (S:=fun j=>m.testBit j=true) (S':=fun j=>(m ||| 1 <<< i).testBit j=true) hΓ hi1 (by rw[hni];simp) (fun j hj=>by rw[hbit',hj];rfl) (by rw[hbit'];simp) h2 hs' hobs
    (K:=wpAny P .any ops.toArray Q fuel (listed.setIfInBounds i true)) (fun B' F' a' w' hi'=>by
     refine ih fuel A1 (m ||| 1 <<< i) (oZ slots keys ops.length s') _ B' F' a' w' hl (JX hlv) (by simp[hsz]) (fun j hj=>?_) (fun j hj=>?_) ?_ (by omega) (EG hi' fun j hj=>?_)
     ·rw[hbit']
      by_cases hji:j=i
      ·subst hji
       have hj':j<listed.size:=by omega
       simp[Array.getD_eq_getD_getElem?,hj']
      ·rw[getD_set_ne false (fun e=>hji e.symm),hbit j hj]
       have:decide (i=j)=false:=by simpa using fun e=>hji e.symm
       rw[this,Bool.or_false]
     ·rw[hbit'] at hj
      rw[Bool.or_eq_true] at hj
      rcases hj with h|h
      ·exact hlt j h
      ·have:=of_decide_eq_true h;omega
     ·have:=left_eq hil hsz hfalse;omega
     ·rw[hbit'] at hj
      rw[Bool.or_eq_true] at hj
      rcases hj with h|h
      ·exact hlt j h
      ·have:=of_decide_eq_true h;omega)
   exact hst
  cases htk:vq ops m with
  |some i =>
   have hfi:=List.find?_some htk
   have hil:i<ops.length:=List.mem_range.1 (List.mem_of_find?_eq_some htk)
   obtain⟨o,h2⟩:∃o,ops[i]? = some o:=⟨_,List.getElem?_eq_getElem hil⟩
   rw[h2] at hfi
   simp only[Bool.and_eq_true] at hfi
   obtain⟨hmv,hrdy,hfree⟩:=hfi
   have hst:=hstep i o hil h2 hrdy (.inr htk)
   obtain⟨x,hopx,hg⟩:∃x,o.op=.move x/\o.guard=none:=by
    unfold La at hmv
    split at hmv
    ·rename_i x _ h3 h4 h5;exact⟨x,h3,h4⟩
    ·cases hmv
   have hw:Region.wanted o (yielded ops.toArray a.tmps)=true:=by simp[Region.wanted,hg]
   have hrun:∀w,(execOp a.eval o).run P w=.ok (.value (a.eval x)) w:=by
    intro w
    unfold execOp
    simp only[hopx,Sem.run_pure]
   rw[if_pos hw] at hst
   unfold Oper.wp at hst
   rw[hrun] at hst
   have hdef:∀j,j<ops.length->listed.getD j true=m.testBit j:=by
    intro j hj
    have hj':j<listed.size:=by omega
    rw[<-hbit j hj]
    simp only[Array.getD_eq_getD_getElem?,Array.getElem?_eq_getElem hj',Option.getD_some]
   have hni:m.testBit i=false:=by
    unfold rdy at hrdy
    rw[Bool.and_eq_true] at hrdy
    simpa using hrdy.1
   refine wpAny_take (oi:=o) (i:=i) (v:=a.eval x) (by rw[List.getElem?_toArray];exact h2) hsel ?_ ?_ (fun c a w h=>absurd h (hQp c _ _)) (.inl ⟨hw,hrun⟩) hst
   ·unfold Region.free
    rw[List.getElem?_toArray,h2]
    simp only[List.all_eq_true,List.mem_range]
    intro j hj
    have hj:j<ops.length:=by simpa using hj
    unfold Oa at hfree
    rw[h2] at hfree
    have h5:=List.all_eq_true.1 hfree j (List.mem_range.2 hj)
    rw[hdef j hj,List.getElem?_toArray]
    simp only[Bool.or_eq_true] at h5 ⊢
    rcases h5 with h5|h5
    ·exact .inl h5
    ·refine .inr ?_
     cases hoj:ops[j]? with
     |none=>rfl
     |some oj =>
      rw[hoj] at h5
      simp only[Bool.or_eq_true] at h5 ⊢
      rcases h5 with h5|h5
      ·refine .inl ?_
       rw[List.contains_iff_mem] at h5
       unfold onL at h5
       obtain⟨e,he1,he2⟩:=List.mem_filterMap.1 h5
       split at he2
       ·rename_i hb
        cases he2
        refine Array.any_eq_true'.2 ⟨e,by simpa using he1,by simp[hb]⟩
       ·cases he2
      ·exact .inr h5
   ·rw[List.contains_iff_mem,mem_ready]
    refine⟨by rw[hdef i hil];exact hni,o,by rw[List.getElem?_toArray];exact h2,fun e he1 hb=>?_⟩
    have hz:(o,i)∈ops.zipIdx:=List.mem_zipIdx_iff_getElem?.2 h2
    have hon:e.on∈onL o:=by
     unfold onL
     exact List.mem_filterMap.2 ⟨e,by simpa using he1,by rw[if_pos hb]⟩
    have hji:e.on<i:=of_decide_eq_true (List.all_eq_true.1 (List.all_eq_true.1 he _ hz) _ hon)
    unfold rdy at hrdy
    rw[h2,Bool.and_eq_true] at hrdy
    have:=List.all_eq_true.1 hrdy.2 _ hon
    rw[hbit e.on (by omega)]
    exact this
  |none =>
  refine⟨fun hr=>?_,fun i him=>?_⟩
  ·exfalso
   have hall:=nu he hr hsz
   have:left ops.length listed=0:=by
    unfold left
    rw[List.length_eq_zero_iff,List.filter_eq_nil_iff]
    intro j hj
    rw[hall j (List.mem_range.1 hj)];simp
   omega
  ·obtain⟨h1,o,h2,h3⟩:=mem_ready.1 him
   rw[List.getElem?_toArray] at h2
   have hil:=(List.getElem?_eq_some_iff.1 h2).1
   have hfalse:listed.getD i false=false:=by
    have hj':i<listed.size:=by omega
    simp only[Array.getD_eq_getD_getElem?,Array.getElem?_eq_getElem hj',Option.getD_some] at h1 ⊢
    exact h1
   have hni:m.testBit i=false:=by rw[<-hbit i hil];exact hfalse
   have hrdy:rdy ops m i=true:=by
    unfold rdy
    rw[hni,h2]
    simp only[Bool.not_false,Bool.true_and]
    rw[List.all_eq_true]
    intro j hj
    have hz:(o,i)∈ops.zipIdx:=List.mem_zipIdx_iff_getElem?.2 h2
    have hji:j<i:=of_decide_eq_true (List.all_eq_true.1 (List.all_eq_true.1 he _ hz) j hj)
    unfold onL at hj
    obtain⟨e,he1,he2⟩:=List.mem_filterMap.1 hj
    split at he2
    ·rename_i hb
     cases he2
     have:=h3 e (by simpa using he1) hb
     rw[hbit e.on (by omega)] at this;exact this
    ·cases he2
   have hst:=hstep i o hil h2 hrdy (.inl htk)
   unfold wpOp
   rw[List.getElem?_toArray,h2]
   simp only
   split
   ·rename_i hw
    rw[if_pos hw] at hst;exact .inl hst
   ·rename_i hw
    rw[if_neg hw] at hst;exact hst
theorem Wp.sG(hm:P.follows .mixedOrders=true)(hΓ:ΓOK P Γ){id:Nat}{l:List Oper}{K K':List (Nat×D)}{L L':ay}(fz:List (Nat×List Nat))(orc:List (Nat×D))(orb:List (Nat×CBd))(slots keys kk kl:List Nat){ob:List Prop}
  (h:MG l kk kl (Bz (CX P) (aY P) Γ nt orc orb l fz slots keys K L)=some (K',L',ob)) (hp:QP (Bz (CX P) (aY P) Γ nt orc orb l fz slots keys K L)=Qd (Bz (CX P) (aY P) Γ nt orc orb l fz slots keys K L)) (hob:ax ob) (hn:To nt F0 w0 K' L' .normal Q) :
  Wp P nt F0 w0 K L (.region id l.toArray true) Q:=by
 have hn:To nt F0 w0 K' L' .normal (nrm Q):=hn
 rintro a w ⟨B,F,hb,hd,hs,hK⟩
 have hQp:∀c a w,¬nrm Q (.panic c) a w:=fun _ _ _ h=>h
 cases hA:Bz (CX P) (aY P) Γ nt orc orb l fz slots keys K L with
 |none=>rw[hA] at h;cases h
 |some Af =>
  rw[hA] at h hp
  unfold Bz at hA
  split at hA
  rotate_left
  ·cases hA
  rename_i hed2
  rw[Bool.and_eq_true,Bool.and_eq_true] at hed2
  obtain⟨hed2,hnd⟩:=hed2
  have hed:=hed2.1
  unfold MG at h
  simp only at h
  split at h
  rotate_left
  ·cases h
  rename_i mf sf hlv
  split at h
  rotate_left
  ·cases h
  rename_i K1 L1 hk hl
  cases h
  simp only[QP,Qd,Prod.mk.injEq] at hp
  refine rO hm (fun o ho c hc=>by have:=List.all_eq_true.1 hnd o (by simpa using ho);rw[ndB,hc] at this;cases this) ?_
  have hw:({ w with drawn:=w.drawn+1 }:World)=w.drew:=rfl
  rw[hw]
  have hobs:∀i o,Af.ob.lookup i=some o->i<l.length->∀p∈o,p:=by
   intro i o hio hil p hpo
   refine ax.mem hob p ?_
   unfold N8
   exact List.mem_flatMap.2 ⟨i,List.mem_range.2 hil,by rw[hio];exact hpo⟩
  have hlen:∀i o,Af.ob.lookup i=some o->¬i<l.length->∀p∈o,p:=by
   intro i o hio hil
   exfalso
   have hkeys:∀(r:Nat)(A A':OA),levels (CX P) (aY P) Γ nt orc orb l fz slots keys r A=some A'->(∀x∈A.ob,x.1<l.length)->∀x∈A'.ob,x.1<l.length:=by
    have h1:∀(m:Nat)(s:ES)(is:List Nat)(A A':OA),qc (CX P) (aY P) Γ nt orc orb l fz slots keys m s is A=some A'->(∀i∈is,i<l.length)->(∀x∈A.ob,x.1<l.length)->∀x∈A'.ob,x.1<l.length:=by
     intro m s is
     induction is with
     |nil=>intro A A' h _ hx;cases h;exact hx
     |cons i is ih =>
      intro A A' h his hx
      unfold qc at h
      split at h
      ·split at h
       ·refine ih _ _ h (fun j hj=>his j (List.mem_cons_of_mem _ hj)) fun x hxx=>?_
        unfold Ce at hxx
        have hS:∀(m:Nat)(s:ES)(A:OA),(xZ m s A).ob=A.ob:=by intro m s A;unfold xZ;split<;>rfl
        split at hxx
        ·simp only[hS] at hxx;exact hx x hxx
        ·simp only[hS] at hxx
         rcases List.mem_append.1 hxx with h|h
         ·exact hx x h
         ·rw[List.mem_singleton.1 h];exact his i List.mem_cons_self
       ·cases h
      ·exact ih _ _ h (fun j hj=>his j (List.mem_cons_of_mem _ hj)) hx
    have h2:∀(lv:List (Nat×ES))(A A':OA),expand (CX P) (aY P) Γ nt orc orb l fz slots keys lv A=some A'->(∀x∈A.ob,x.1<l.length)->∀x∈A'.ob,x.1<l.length:=by
     intro lv
     induction lv with
     |nil=>intro A A' h hx;cases h;exact hx
     |cons y lv ih =>
      intro A A' h hx
      unfold expand at h
      split at h
      ·rename_i A1 hA1
       exact ih _ _ h (h1 _ _ _ _ _ hA1 (fun i hi=>by
        split at hi
        ·rename_i j hj
         rw[List.mem_singleton.1 hi]
         exact List.mem_range.1 (List.mem_of_find?_eq_some hj)
        ·exact List.mem_range.1 hi) hx)
      ·cases h
    intro r
    induction r with
    |zero=>intro A A' h hx;cases h;exact hx
    |succ r ih =>
     intro A A' h hx
     unfold levels at h
     split at h
     ·rename_i A1 hA1
      exact ih _ _ h (h2 _ _ _ hA1 hx)
     ·cases h
   have hmem:∀(q:List (Nat×List Prop))(i:Nat)(o:List Prop),q.lookup i=some o->(i,o)∈q:=by
    intro q i o hq
    induction q with
    |nil=>simp at hq
    |cons x q ih =>
     obtain⟨k,y⟩:=x
     rw[List.lookup_cons] at hq
     split at hq
     ·rename_i he
      have:i=k:=by simpa using he
      cases hq;rw[this];exact List.mem_cons_self
     ·exact List.mem_cons_of_mem _ (ih hq)
   exact hil (hkeys _ _ _ hA (by simp[He]) _ (hmem _ _ _ hio))
  have hsz:l.toArray.size=l.length:=by simp
  rw[hsz]
  have hK':∀x∈K,∃v,a.tmps[x.1]? = some v/\Rep F w.drew B x.2 v:=fun x hx=>by
   obtain⟨v,h3,h4⟩:=hK x hx
   have hgr:Grow F F w w.drew:=⟨fun _ _ h=>h,fun _ _ _=>rfl⟩
   exact⟨v,h3,h4.grow hgr⟩
  have hinv:=uw (ops:=l) hb.draw hd hs hK'
  have hz:∀j,(0:Nat).testBit j=false:=fun j=>Nat.zero_testBit j
  have hinv':gK nt l F0 w0 B F (oZ slots keys l.length (oJ K L)) (fun j=>(0:Nat).testBit j=true) a w.drew:=by
   refine EG ⟨hinv.base,hinv.defers,hinv.size,hinv.ents,fun e he x hx=>?_,fun e he=>?_,hinv.mW⟩ fun j hj=>by rw[hz] at hj;cases hj
   ·have:=hinv.keys e he x hx;omega
   ·rcases hinv.srcs e he with h|h
    ·exact .inl h
    ·omega
  refine LK (F0:=F0) (w0:=w0) (Q:=nrm Q) hΓ hed hed2.2 hQp (BB hp.1) (y9 hp.2) (fun i o hio=>if hil:i<l.length then hobs i o hio hil else hlen i o hio hil) hlv (fun B' F' a' w' S hi=>hn a' w' (sC hi hk hl))
   l.length l.length _ 0 _ (Array.replicate l.length false) B F a w.drew hA List.mem_cons_self (by simp) (fun j hj=>?_) (fun j hj=>by rw[hz] at hj;cases hj) ?_ (Nat.le_refl _) hinv'
  ·rw[hz];simp only[Array.getD_eq_getD_getElem?,Array.getElem?_replicate];split<;>rfl
  ·unfold left
   rw[List.filter_eq_self.2]
   ·simp
   ·intro j hj;simp only[Array.getD_eq_getD_getElem?,Array.getElem?_replicate];split<;>rfl
end
end Go.Proofs.YtefojkdckfidcaaGreatDoor.RX
namespace Go.Proofs.YtefojkdckfidcaaGreatDoor.RX
open Go.RowKit
section
variable {P:Program}
end
end Go.Proofs.YtefojkdckfidcaaGreatDoor.RX
namespace Go.Proofs.YtefojkdckfidcaaGreatDoor.RX
open Go Go.Proofs Go.RowKit
variable {P:Program} {nt:Nat} {F0:Fz} {w0:Pt P} {K:List (Nat×D)} {L:ay}
theorem To.fin{fn:Func}{R:Ending->World->Prop}(h:To nt F0 w0 K L .ret (bodyPost P fn R)):To nt F0 w0 K L .normal (bodyPost P fn R):=fun a w hs=>h a w hs
end Go.Proofs.YtefojkdckfidcaaGreatDoor.RX
namespace Go.Proofs.YtefojkdckfidcaaGreatDoor.RX
open Go.RowKit
theorem Qq{l:List Oper}(h:l.all ndB=true):∀o∈l,o.nd:=fun o ho c hc=>by
 have:=List.all_eq_true.1 h o ho
 rw[ndB,hc] at this;cases this
section
variable (C:Nat->List D->D->Prop) (CB:Nat->List D->ay->D->ay->Prop) (Γ:Nat->Option TI) (nt:Nat) (orc:List (Nat×D)) (orb:List (Nat×CBd)) (l:List Oper)
end
section
variable {P:Program} {Γ:Nat->Option TI} {nt:Nat} {F0:Fz} {w0:Pt P} {K K':List (Nat×D)} {L L':ay} {Q:Exit->Act->World->Prop}
end
end Go.Proofs.YtefojkdckfidcaaGreatDoor.RX
namespace Go.Proofs.YtefojkdckfidcaaGreatDoor.RX
open Go.RowKit
section
variable {P:Program} {Γ:Nat->Option TI} {nt:Nat} {F0:Fz} {w0:Pt P} {K K':List (Nat×D)} {L L':ay} {Q:Exit->Act->World->Prop}
theorem Base.defs{B:Env}{F:Fz}{w:World}{M:Mem}{ro:Option Nat}{ds:List Deferred}(h:Base F0 w0 B F M w):Base F0 { w0 with rnd:=ro,defs:=ds } B F M w:=⟨h.boxes,h.new,h.inj,h.frz,h.more,h.grow,h.below,h.env⟩
mutual
theorem D.QL{s:D->Option D}:∀(d:D),d.fA=true->D.sub s d=d
 |.own _ _,h=>by simp[D.fA] at h
 |.opt _,h=>by simp[D.fA] at h
 |.bf _,h=>by simp[D.fA] at h
 |.mp _,h=>by simp[D.fA] at h
 |.row _,h=>by simp[D.fA] at h
 |.elm _ _ _ _,h=>by simp[D.fA] at h
 |.agg ds,h=>by simp only[D.sub];rw[D.yL ds (by simpa[D.fA] using h)]
 |.tup ds,h=>by simp only[D.sub];rw[D.yL ds (by simpa[D.fA] using h)]
 |.fn f ds,h=>by simp only[D.sub];rw[D.yL ds (by simpa[D.fA] using h)]
 |.val _,_=>rfl
 |.str _,_=>rfl
 |.fL _ _ _ _ _,_=>rfl
 |.recs _ _ _,_=>rfl
 |.el _,_=>rfl
 |.aN _ _ _ _,_=>rfl
 |.tree _ _ _ _,_=>rfl
 |.arr _ _ _,_=>rfl
 |.hole,_=>rfl
 |.sN _ _ _,_=>rfl
theorem D.yL{s:D->Option D}:∀(ds:List D),D.cH ds=true->D.subs s ds=ds
 |[],_=>rfl
 |d::ds,h=>by
  have h':D.fA d=true/\D.cH ds=true:=by simpa[D.cH] using h
  simp only[D.subs]
  rw[D.QL d h'.1,D.yL ds h'.2]
end
end
end Go.Proofs.YtefojkdckfidcaaGreatDoor.RX
namespace Go.Proofs.YtefojkdckfidcaaGreatDoor.RX
open Go.RowKit
section
variable {P:Program} {F0 F1:Fz} {w0 w1:Pt P} {B:Env} {F:Fz} {M:Mem} {w:World}
def Pt.oD(w1:Pt P)(W:World)(sh:Shp P W)(ex:List Nat)(ro:Option Nat)(ds:List Deferred):Pt P :=
 { w:=W,own:=fun b=>w1.fresh b/\b∉ex,env:=w1.env,low:=w1.low,sh:=sh,high:=fun _ h=>Pt.sq h.1,rnd:=ro,defs:=ds }
theorem Base.oD(hb:Base F1 w1 B F M w)(sh:Shp P w){ex:List Nat}{ro:Option Nat}{ds:List Deferred}(hex:∀k t c b,M k t c->bT B k=some b->b∉ex):Base F (w1.oD w sh ex ro ds) B F M w :=
 ⟨hb.boxes,fun k t c b h hk=>.inr ⟨hb.new k t c b h hk,hex k t c b h hk⟩,hb.inj,hb.frz,fun _ _ h=>.inl h,Grow.refl _ _,dX.refl _ _ _,hb.env⟩
theorem Base.comes(hb:Base F1 w1 B F M w){sh:Shp P w}{ex:List Nat}{ro:Option Nat}{ds:List Deferred}{B':Env}{F':Fz}{M':Mem}{w':World}(h:Base F (w1.oD w sh ex ro ds) B' F' M' w'):Base F1 w1 B' F' M' w':=by
 have hsz:=hb.below.size
 have hfr:∀b,(w1.oD w sh ex ro ds).fresh b->w1.fresh b:=by
  rintro b (hb'|hb')
  ·exact .inl (Nat.le_trans hsz hb')
  ·exact hb'.1
 refine⟨h.boxes,fun k t c b hm hk=>hfr b (h.new k t c b hm hk),h.inj,h.frz,fun g k hF=>?_,hb.grow.trans h.grow,⟨h.below.os.trans hb.below.os,h.below.tape.trans hb.below.tape,h.below.output.trans hb.below.output,Nat.le_trans hsz h.below.size,fun k hk ho=>?_⟩,h.env⟩
 ·rcases h.more g k hF with h1|h1
  ·exact hb.more g k h1
  ·exact .inr (hfr g h1)
 ·refine(h.below.block k (Nat.lt_of_lt_of_le hk hsz) fun h1=>?_).trans (hb.below.block k hk ho)
  rcases h1.1 with h2|h2
  ·omega
  ·exact ho h2
def rI:Obj->Bool
 |.loop _=>true
 |.deferred _=>true
 |_=>false
def Bo:List D->Bool
 |[.sN _ _ _]=>false
 |_=>true
def jI(L:ay):Bool:=L.all fun x=>Bo x.2.2
theorem jo.Jr{k t:Nat}{ds:List D}(h:jo F w B k t ds)(hno:Bo ds=true){b:Nat}(hb:bT B k=some b){o:Obj}(ho:w.heap[b]? = some o):rI o=false:=by
 cases h with
 |box _ b' vs hB hr hfl hh hnf=>rw[fG hB] at hb;cases hb;rw[hh] at ho;cases ho;rfl
 |row m d enc l p n cap hB h =>
  rw[dn hB] at hb;subst hb
  obtain⟨_,_,_,xs,_,h5,_⟩:=h
  rcases h5.2 with⟨h1,_⟩|⟨g,cur,fz,hp,hh,_⟩
  ·cases h1
  ·cases hp;rw[hh] at ho;cases ho;rfl
 |map kk ag d enc l b' hB h =>
  rw[jP hB] at hb;cases hb
  obtain⟨_,_,es,clock,hh,_⟩:=h
  rw[hh] at ho;cases ho;rfl
 |obj b' o' S hB hh=>cases hno
theorem Dc{L:ay}(h:jI L=true){k t:Nat}{ds:List D}(hm:aM L k t ds):Bo ds=true:=List.all_eq_true.1 h _ hm
theorem Base.put{L:ay}(hb:Base F1 w1 B F (aM L) w)(hno:jI L=true){r:Nat}{o o':Obj}(ho:w.heap[r]? = some o)(hbk:rI o=true)(hbk':rI o'=true)(hr:w1.w.heap.size<=r) :
  Base F1 w1 B F (aM L) (w.putObj r o')/\Grow F F w (w.putObj r o'):=by
 have hg:Grow F F w (w.putObj r o'):=⟨fun _ _ h=>h,fun g k _=>by
  unfold World.cell?
  by_cases e:g=r
  ·subst e
   have hlt:g<w.heap.size:=(Array.getElem?_eq_some_iff.1 ho).1
   simp only[ho,World.putObj_heap_same hlt]
   cases o with
   |loop _=>cases o'<;>first|rfl|cases hbk'
   |deferred _=>cases o'<;>first|rfl|cases hbk'
   |_=>cases hbk
  ·simp only[World.putObj_heap_other e]⟩
 refine⟨⟨fun k t ds hm=>?_,hb.new,hb.inj,fun g k hF=>?_,hb.more,hb.grow.trans hg,⟨hb.below.os,hb.below.tape,hb.below.output,?_,fun k hk hs=>?_⟩,hb.env⟩,hg⟩
 ·have hh:=hb.boxes _ _ _ hm
  refine hh.grow hg rfl (fun _ _ _ h=>h) fun b hbl=>⟨World.putObj_heap_other fun e=>?_,fun _ h=>h⟩
  subst e
  have:=hh.Jr (Dc hno hm) hbl ho
  rw[hbk] at this;cases this
 ·rw[World.putObj_size];exact hb.frz g k hF
 ·rw[World.putObj_size];exact hb.below.size
 ·exact(World.putObj_heap_other (by omega)).trans (hb.below.block k hk hs)
theorem Base.yN{L:ay}(hb:Base F1 w1 B F (aM L) w)(hno:jI L=true){ex:List Nat}(hex:∀r∈ex,∃o,w.heap[r]? = some o/\rI o=true):∀k t c b,aM L k t c->bT B k=some b->b∉ex:=by
 intro k t c b hm hk he
 obtain⟨o,ho,hbk⟩:=hex b he
 have:=(hb.boxes _ _ _ hm).Jr (Dc hno hm) hk ho
 rw[hbk] at this;cases this
end
def EJ{β:Type}(J:β->Fz->World->Prop):Prop:=∀s F w w',J s F w->Below w.heap.size w w'->J s (qI F w w') w'
structure Adv(P:Program)(F:Fz)(w:World)(F':Fz)(w':World):Prop where
 grow:Grow F F' w w'
 frz:∀g k,F' g k->g<w'.heap.size
 shp:Shp P w'
def RO(P:Program)(g:Nat)(ds:List D){α:Type}(encs:α->List D)(xs:List α):Prop :=
 FOK P g/\∀(l:Nat)(J:List α->Fz->World->Prop)(Jx:Fz->World->Prop),EJ J->EJ (fun(_:Unit)=>Jx) ->
  (∀x r F w args,J (x::r) F w->(∀g k,F g k->g<w.heap.size)->Shp P w->aB F w NB (encs x) args->YieldAt (Fr none) 0 P l args.toArray w fun e w'=>∃F',Adv P F w F' w'/\((e=.returned (.bool true)/\J r F' w')\/(e=.returned (.bool false)/\Jx F' w'))) ->
  ∀F w lb,J xs F w->(∀g k,F g k->g<w.heap.size)->Shp P w->aB F w NB ds lb ->
   CallsIn (Fr none) 0 P g (#[.func (.yield l) #[] #[]]++lb.toArray) w fun e w'=>(∃v,e=.returned v)/\∃F',J [] F' w'\/Jx F' w'
def oL{P:Program}{σ:Type}(F':Fz)(w1:Pt P)(R:σ->Prop)(S:σ->ay)(jump:Option Code)(Lx:ay):Exit->Act->World->Prop
 |.normal,_,w=>∃s B F,R s/\Base F' w1 B F (aM (S s)) w
 |.ret,_,w=>jump=some .ret/\∃B F,Base F' w1 B F (aM Lx) w
 |.exit id,_,w=>jump=some (.exit id)/\∃B F,Base F' w1 B F (aM Lx) w
 |.goto t,_,w=>jump=some (.goto t)/\∃B F,Base F' w1 B F (aM Lx) w
 |_,_,_=>False
def yH{P:Program}(nt:Nat)(F':Fz)(w1:Pt P)(K:List (Nat×D))(L:ay)(e:Exit)(a:Act)(w:World):Prop:=e=.normal/\St nt F' w1 K L a w
structure After{P:Program}(F0:Fz)(w0:Pt P)(F1:Fz)(w1:Pt P):Prop where
 back:∀B F M w,Base F1 w1 B F M w->Base F0 w0 B F M w
 mark:∃D,w1.defs={ target:=.collected D,args:=#[] }::w0.defs/\w0.w.heap.size<=D/\w1.w.heap[D]? = some (.deferred (some []))/\¬w1.own D
 rnd:w1.rnd=none
def Behind{P:Program}(nt:Nat)(F1:Fz)(w1:Pt P)(K:List (Nat×D))(L:ay)(Q:Exit->Act->World->Prop):Option Code->Prop
 |none=>To nt F1 w1 K L .normal Q
 |some j=>Wp P nt F1 w1 K L j Q
def Ns(keys:List Nat):D->Bool
 |.own j _=>keys.contains j
 |d=>D.fA d
theorem yx:∀(ps:List Nat)(vs:List Value)(tm:Array Value),ps.Nodup->(∀p∈ps,p<tm.size)->ps.length=vs.length ->
  ((ps.zip vs).foldl (fun(t:Array Value) (x:Nat×Value)=>t.setIfInBounds x.1 x.2) tm).size=tm.size/\(∀i,i∉ps->((ps.zip vs).foldl (fun(t:Array Value) (x:Nat×Value)=>t.setIfInBounds x.1 x.2) tm)[i]? = tm[i]?) /\
  ∀(j p:Nat)(v:Value),ps[j]? = some p->vs[j]? = some v->((ps.zip vs).foldl (fun(t:Array Value) (x:Nat×Value)=>t.setIfInBounds x.1 x.2) tm)[p]? = some v
 |[],vs,tm,_,_,_=>⟨rfl,fun _ _=>rfl,fun j p v h _=>by simp at h⟩
 |p::ps,[],tm,_,_,h=>by simp at h
 |p::ps,v::vs,tm,hnd,hlt,hlen=>by
  obtain⟨h1,h2⟩:=List.nodup_cons.1 hnd
  obtain⟨q1,q2,q3⟩:=yx ps vs (tm.setIfInBounds p v) h2 (fun x hx=>by rw[Array.size_setIfInBounds];exact hlt x (List.mem_cons_of_mem _ hx)) (by simpa using hlen)
  rw[List.zip_cons_cons,List.foldl_cons]
  refine⟨by rw[q1,Array.size_setIfInBounds],fun i hi=>?_,fun j p' v' hj hv=>?_⟩
  ·simp only[List.mem_cons,not_or] at hi
   rw[q2 i hi.2,Array.getElem?_setIfInBounds_ne (Ne.symm hi.1)]
  ·cases j with
   |zero =>
    simp only[List.getElem?_cons_zero,Option.some.injEq] at hj hv
    subst hj;subst hv
    rw[q2 p h1]
    simp[hlt p List.mem_cons_self]
   |succ j=>exact q3 j p' v' (by simpa using hj) (by simpa using hv)
section
variable {P:Program} {Γ:Nat->Option TI} {nt:Nat} {F0:Fz} {w0:Pt P} {K K' Kb:List (Nat×D)} {L L':ay} {Q:Exit->Act->World->Prop}
theorem xY(w:World)(o o':Obj):Below w.heap.size w ((w.alloc o).alloc o') :=
 ((Below.refl _ w).alloc (Nat.le_refl _) _).alloc (by simp) _
theorem Wp.rangeFunc{α σ:Type}{t:Nat}{ps:Array Tmp}{assign body:Code}{gf:Nat}{lds:List D}{encs:α->List D}{xs:List α}(c:CBd)(R:List α->σ->Prop)(S:σ->ay)(jump:Option Code)
  (hro:w0.rnd=none) (hg:K.lookup t=some (.fn gf lds)) (hlds:D.cH lds=true) (hseq:RO P gf lds encs xs)
  (hok:xX c=true) (hLin:found c L=c.Lin.map fun x=>some (x.2.1,D.subs (dD never c.ren) x.2.2)) (hno:∀s,jI (S s)=true) (hnoL:jI c.fy=true) (hnoA:jI (lM c L)=true)
  (s0:σ) (hR0:R xs s0) (hS0:∀(F':Fz)(w1:Pt P)(a:Act)(w:World),St nt F' w1 [] c.Lin a w->St nt F' w1 [] (S s0) a w) (hps:∀x,(encs x).length=ps.toList.length) (hnd:ps.toList.Nodup) (hpt:∀p∈ps.toList,p<nt) (hne:∀x,D.cH (encs x)=true)
  (hKb:∀x∈Kb,(x.1,D.sub (dD never c.ren) x.2)∈K/\x.1∉ps.toList/\Ns (c.Lin.map (·.1)) x.2=true)
  (K2:α->σ->List (Nat×D)) (L2:α->σ->ay) (hno2:∀x s,jI (L2 x s)=true)
  (hass:∀x r s,R (x::r) s->∀(F':Fz)(w1:Pt P),Wp P nt F' w1 (Kb++ps.toList.zip (encs x)) (S s) assign (yH nt F' w1 (K2 x s) (L2 x s)))
  (hbody:∀x r s,R (x::r) s->∀(F':Fz)(w1:Pt P),Wp P nt F' w1 (K2 x s) (L2 x s) body (oL F' w1 (R r) S jump c.fy))
  (hend:∀s,R [] s->jump=none/\S s=c.fy)
  (hK':∀x∈K',x∈K/\∀k,(dV c).contains k=true->D.names k x.2=false)
  (hn:∀(F1:Fz)(w1:Pt P),After F0 w0 F1 w1->Behind nt F1 w1 K' (lM c L) Q jump) :
  Wp P nt F0 w0 K L (.rangeFunc (.tmp t) ps assign body) Q:=by
 rintro a w ⟨B,F,hb,hd,hs,hK⟩
 rw[hro]
 obtain⟨w1,hw1,hb1,henv,hafter⟩:=xF hb hok hLin
 obtain⟨v,hv,hrv⟩:=hK _ (aD hg)
 obtain⟨lb,hlb,rfl⟩:∃lb,aB F w B lds lb/\v=.func (.func gf) #[] lb.toArray:=by
  cases hrv with
  |fn f ds vs h=>exact⟨vs,h,rfl⟩
 refine wpIn_rangeFunc fun fn hfn=>?_
 obtain⟨rec,hrec⟩:∃rec:LoopState->Option Code->Loop,rec=fun st pe=>{ state:=st,pending:=pe,fn,tmps:=a.tmps,params:=ps,assign,body,defers:=w.heap.size }:=⟨_,rfl⟩
 obtain⟨W1,hW1⟩:∃W1,(w.alloc (.deferred (some []))).alloc (.loop (rec .ready none))=W1:=⟨_,rfl⟩
 have hL1:W1.heap[w.heap.size+1]? = some (.loop (rec .ready none)):=by
  rw[<-hW1];have:=World.alloc_heap_new (w.alloc (.deferred (some []))) (.loop (rec .ready none));rwa[World.size_alloc] at this
 have hD1:W1.heap[w.heap.size]? = some (.deferred (some [])):=by
  rw[<-hW1];exact(Below.heap_alloc _ _ _ (by simp)).trans (World.alloc_heap_new w _)
 have hbel:Below w.heap.size w W1:=by rw[<-hW1];exact xY _ _ _
 obtain⟨hbW,hgW⟩:=hb1.callee hbel
 have hw0:w0.w.heap.size<=w.heap.size:=hb.below.size
 refine⟨w.heap.size+1,[{ target:=.collected w.heap.size,args:=#[] }],W1,{ target:=.fn (.func gf) lb.toArray,args:=#[.func (.yield (w.heap.size+1)) #[] #[]] },W1,gf,
  #[.func (.yield (w.heap.size+1)) #[] #[]]++lb.toArray,W1,?_,?_,fun _ _=>trivial,?_,fun h=>(by cases h),?_⟩
 ·rw[<-hW1,hrec];exact run_enterLoop_outer _ _ _ _ _
 ·simp only[resolve,ox hv]
  simp[go_sem]
 ·simp only[invoke];rw[mP hseq.1]
 ·let J:List α->Fz->World->Prop:=fun r F' W=>∃s B',R r s/\Base F w1 B' F' (aM (S s)) W/\W.heap[w.heap.size+1]? = some (.loop (rec .ready none))/\W.heap[w.heap.size]? = some (.deferred (some []))
  let Jx:Fz->World->Prop:=fun F' W=>∃B' j,jump=some j/\Base F w1 B' F' (aM c.fy) W/\W.heap[w.heap.size+1]? = some (.loop (rec .done (some j)))/\W.heap[w.heap.size]? = some (.deferred (some []))
  have hlt:∀{W:World}{r:Nat}{o:Obj},W.heap[r]? = some o->r<W.heap.size:=fun h=>(Array.getElem?_eq_some_iff.1 h).1
  obtain⟨B0,Fs,hb0,_⟩:=hS0 (qI F w W1) (w1.oD W1 hbW.shp [] none a.defers) a W1 ⟨_,_,hbW.oD hbW.shp (fun _ _ _ _ _ _ h=>by cases h),rfl,hs,fun x hx=>by cases hx⟩
  have hbs:=hbW.comes hb0
  refine(hseq.2 (w.heap.size+1) J Jx (fun r F' W w' ⟨s,B',h1,h2,h3,h4⟩ h5=>⟨s,B',h1,(h2.callee h5).1,(h5.block _ (hlt h3)).trans h3,(h5.block _ (hlt h4)).trans h4⟩)
   (fun _ F' W w' ⟨B',j,h1,h2,h3,h4⟩ h5=>⟨B',j,h1,(h2.callee h5).1,(h5.block _ (hlt h3)).trans h3,(h5.block _ (hlt h4)).trans h4⟩) ?_ Fs W1 lb ⟨s0,B0,hR0,hbs,hL1,hD1⟩ hbs.frz hbs.shp ((hlb.bare hlds).grow (hgW.trans hb0.grow))).mono ?_
  ·rintro x r F' W args ⟨s,B',hR,hbJ,hl,hk⟩ hfrz hshp hargs
   have hlen:=aB.length hargs
   have hw1s:w1.w.heap.size=w.heap.size:=by rw[hw1]
   have hy:=run_yield (P:=P) (args:=args.toArray) hl (by rw[hrec];simp only[List.size_toArray];rw[hlen,hps x];simp)
   rw[hrec] at hy
   have hll:=hlt hl
   have hex:∀{W:World}{st:LoopState},W.heap[w.heap.size+1]? = some (.loop { rec .ready none with state:=st })->W.heap[w.heap.size]? = some (.deferred (some []))->∀q∈[w.heap.size,w.heap.size+1],∃o,W.heap[q]? = some o/\rI o=true:=by
    intro W st h1 h2 q hq
    simp only[List.mem_cons,List.not_mem_nil,or_false] at hq
    rcases hq with rfl|rfl
    ·exact⟨_,h2,rfl⟩
    ·exact⟨_,h1,rfl⟩
   have hl0:W.heap[w.heap.size+1]? = some (.loop { rec .ready none with state:=.ready }):=by rw[hl,hrec]
   have hfold:=yx ps.toList args a.tmps hnd (fun p hp=>by rw[hs];exact hpt p hp) (by rw[hlen,hps x])
   have hgw:Grow F F' w W:=by have:=hbJ.grow;rwa[hw1] at this
   have hact:((ps.zip args.toArray).foldl (fun(tmps:Array Value) (x:Tmp×Value)=>tmps.setIfInBounds x.1 x.2) a.tmps)=((ps.toList.zip args).foldl (fun(t:Array Value) (x:Nat×Value)=>t.setIfInBounds x.1 x.2) a.tmps):=by
    rw[<-Array.foldl_toList,Array.toList_zip]
   have hrun0:=hass x r s hR F' (w1.oD W hbJ.shp [w.heap.size,w.heap.size+1] (some (w.heap.size+1)) []) { tmps:=(ps.toList.zip args).foldl (fun(t:Array Value) (x:Nat×Value)=>t.setIfInBounds x.1 x.2) a.tmps,defers:=[] } W ⟨B',F',hbJ.oD hbJ.shp (hbJ.yN (hno s) (hex hl0 hk)),rfl,by rw[hfold.1];exact hs,fun y hy=>?_⟩
   rotate_left
   ·rcases List.mem_append.1 hy with hy|hy
    ·obtain⟨h1,h2,h3⟩:=hKb y hy
     obtain⟨v,q1,q2⟩:=hK _ h1
     refine⟨v,by rw[hfold.2.1 _ h2];exact q1,?_⟩
     have q3:=(Rep.pull y.2 q2).grow hgw
     cases hd':y.2 with
     |own j off =>
      rw[hd'] at q3 h3
      cases q3 with
      |own _ _ b hbj =>
       have hj:j∈c.Lin.map (·.1):=List.contains_iff_mem.1 h3
       obtain⟨z,hz,rfl⟩:=List.mem_map.1 hj
       exact .own _ _ b (hbJ.env _ _ ((henv z.1 z.2.1 z.2.2 hz).trans hbj))
     |_=>rw[hd'] at q3 h3;exact q3.bare h3
    ·obtain⟨i,hi⟩:=List.getElem?_of_mem hy
     rw[List.getElem?_zip_eq_some] at hi
     obtain⟨v,q1,q2⟩:=hargs.get i hi.2
     have hnoy:D.fA y.2=true:=by
      have:=hne x
      have hmem:y.2∈encs x:=List.mem_of_getElem? hi.2
      clear hi hy q1 q2
      revert this hmem
      generalize encs x=es
      intro this hmem
      induction es with
      |nil=>cases hmem
      |cons e es ih =>
       rw[D.cH,Bool.and_eq_true] at this
       rcases List.mem_cons.1 hmem with rfl|h
       ·exact this.1
       ·exact ih this.2 h
     exact⟨v,hfold.2.2 i _ _ hi.1 q1,q2.bare hnoy⟩
   rw[<-hact] at hrun0
   refine⟨fn,_,assign,body,hy,roundIn_of_wpIn trivial (wpIn_mono hrun0 ?_)⟩
   rintro ea a1 Wa ⟨rfl,Ba,Fa,hba,hda,hsa,hKa⟩
   have hla:Wa.heap[w.heap.size+1]? = some (.loop { rec .ready none with state:=.ready }):=(hba.below.block _ hll (fun h=>h.2 (by simp))).trans hl0
   have hka:Wa.heap[w.heap.size]? = some (.deferred (some [])):=(hba.below.block (w.heap.size) (by show w.heap.size<W.heap.size;omega) (fun h=>h.2 (by simp))).trans hk
   refine⟨_,run_beginRound hla rfl,?_⟩
   have hb1a:=hbJ.comes hba
   obtain⟨hb2,hg2a⟩:=hb1a.put (hno2 x s) (o':=.loop { rec .ready none with state:=.busy }) hla rfl rfl (by omega)
   have hg2:=hba.grow.trans hg2a
   have hl2:(Wa.putObj (w.heap.size+1) (.loop { rec .ready none with state:=.busy })).heap[w.heap.size+1]? = some (.loop { rec .ready none with state:=.busy }):=World.putObj_heap_same (hlt hla)
   have hk2:(Wa.putObj (w.heap.size+1) (.loop { rec .ready none with state:=.busy })).heap[w.heap.size]? = some (.deferred (some [])):=(World.putObj_heap_other (by omega)).trans hka
   revert hb2 hg2 hg2a hl2 hk2
   generalize Wa.putObj (w.heap.size+1) (.loop { rec .ready none with state:=.busy })=W2
   intro hb2 hg2a hg2 hl2 hk2
   have hrun:=hbody x r s hR Fa (w1.oD W2 hb2.shp [w.heap.size,w.heap.size+1] (some (w.heap.size+1)) []) a1 W2 ⟨Ba,Fa,hb2.oD hb2.shp (hb2.yN (hno2 x s) (hex hl2 hk2)),hda,hsa,fun y hy=>let ⟨v,q1,q2⟩:=hKa y hy;⟨v,q1,q2.grow hg2a⟩⟩
   refine wpIn_mono hrun ?_
   have hsz2:w.heap.size+1<W2.heap.size:=hlt hl2
   have fin:∀(jm:Option Code)(Lx:ay)(B'':Env)(F'':Fz)(w':World),jI Lx=true->Base Fa (w1.oD W2 hb2.shp [w.heap.size,w.heap.size+1] (some (w.heap.size+1)) []) B'' F'' (aM Lx) w' ->
     ∃w4,(Instr.endRound (w.heap.size+1) jm).run P w'=.ok (.bool jm.isNone) w4/\Adv P F' W F'' w4/\Base F w1 B'' F'' (aM Lx) w4/\w4.heap[w.heap.size+1]? = some (.loop (rec (if jm.isNone then .ready else .done) jm))/\w4.heap[w.heap.size]? = some (.deferred (some [])):=by
    intro jm Lx B'' F'' w' hnx hb3
    have hl3:w'.heap[w.heap.size+1]? = some (.loop { rec .ready none with state:=.busy }):=(hb3.below.block _ hsz2 (fun h=>h.2 (by simp))).trans hl2
    have hk3:w'.heap[w.heap.size]? = some (.deferred (some [])):=(hb3.below.block (w.heap.size) (by show w.heap.size<W2.heap.size;omega) (fun h=>h.2 (by simp))).trans hk2
    have hrun:=run_endRound (P:=P) jm hl3
    have hb4:=hb2.comes hb3
    obtain⟨hb5,hg5⟩:=hb4.put hnx (o':=.loop { ({ rec .ready none with state:=.busy }:Loop) with state:=if jm.isNone then .ready else .done,pending:=jm }) hl3 rfl rfl (by omega)
    refine⟨_,hrun,⟨(hg2.trans hb3.grow).trans hg5,hb5.frz,hb5.shp⟩,hb5,?_,(World.putObj_heap_other (by omega)).trans hk3⟩
    rw[World.putObj_heap_same (hlt hl3),hrec]
   rintro e a3 w3 hp
   cases e with
   |normal =>
    obtain⟨s',B'',F'',hR',hb3⟩:=hp
    obtain⟨w4,h1,h2,h3,h4,h5⟩:=fin none _ B'' F'' w3 (hno s') hb3
    exact⟨_,w4,h1,F'',h2,.inl ⟨rfl,s',B'',hR',h3,h4,h5⟩⟩
   |ret =>
    obtain⟨hj,B'',F'',hb3⟩:=hp
    obtain⟨w4,h1,h2,h3,h4,h5⟩:=fin (some .ret) _ B'' F'' w3 hnoL hb3
    exact⟨_,w4,h1,F'',h2,.inr ⟨rfl,B'',_,hj,h3,h4,h5⟩⟩
   |exit id =>
    obtain⟨hj,B'',F'',hb3⟩:=hp
    obtain⟨w4,h1,h2,h3,h4,h5⟩:=fin (some (.exit id)) _ B'' F'' w3 hnoL hb3
    exact⟨_,w4,h1,F'',h2,.inr ⟨rfl,B'',_,hj,h3,h4,h5⟩⟩
   |goto t =>
    obtain⟨hj,B'',F'',hb3⟩:=hp
    obtain⟨w4,h1,h2,h3,h4,h5⟩:=fin (some (.goto t)) _ B'' F'' w3 hnoL hb3
    exact⟨_,w4,h1,F'',h2,.inr ⟨rfl,B'',_,hj,h3,h4,h5⟩⟩
   |panic ch=>exact hp.elim
   |outgrown=>exact hp.elim
  ·
   have out:∀(B':Env)(F':Fz)(W:World)(lp:Loop),Base F w1 B' F' (aM c.fy) W->W.heap[w.heap.size+1]? = some (.loop lp)->lp.state≠.busy->W.heap[w.heap.size]? = some (.deferred (some [])) ->
     ∃w4 w1m,(Instr.endLoop (w.heap.size+1)).run P W=.ok lp.pending w4/\After F0 w0 F' w1m/\St nt F' w1m K' (lM c L) { a with defers:=[{ target:=.collected w.heap.size,args:=#[] }]++a.defers } w4:=by
    intro B' F' W lp hbx hl hst hk
    have hw1s:w1.w.heap.size=w.heap.size:=by rw[hw1]
    obtain⟨hb4,hg4⟩:=hbx.put hnoL (o':=.loop { lp with state:=.exhausted }) hl rfl rfl (by omega)
    have hk4:(W.putObj (w.heap.size+1) (.loop { lp with state:=.exhausted })).heap[w.heap.size]? = some (.deferred (some [])):=(World.putObj_heap_other (by omega)).trans hk
    obtain⟨B2,hb5,hg5,hold,_,_⟩:=hafter F' B' _ hb4
    have hb6:=hb5.oD hb5.shp (ro:=none) (ds:={ target:=.collected w.heap.size,args:=#[] }::w0.defs) (hb5.yN hnoA (ex:=[w.heap.size]) fun q hq=>by
     rw[List.mem_singleton.1 hq];exact⟨_,hk4,rfl⟩)
    refine⟨_,_,run_endLoop hl hst,⟨fun B F M w h=>hb5.comes h,⟨w.heap.size,rfl,hw0,hk4,fun h=>h.2 (by simp)⟩,rfl⟩,B2,F',hb6,by rw[hd];rfl,hs,fun x hx=>?_⟩
    obtain⟨h1,h2⟩:=hK' x hx
    obtain⟨v,q1,q2⟩:=hK x h1
    refine⟨v,q1,(q2.grow hg5).nX fun k hk=>hold k ?_⟩
    cases hcc:(dV c).contains k with
    |false=>rfl
    |true=>rw[h2 k hcc] at hk;cases hk
   rintro e W ⟨⟨v,rfl⟩,F',⟨s,B',hR,hbx,hl,hk⟩|⟨B',j,hj,hbx,hl,hk⟩⟩
   ·obtain⟨rfl,hS⟩:=hend s hR
    rw[hS] at hbx
    obtain⟨w4,w1m,h1,h2,h3⟩:=out B' F' W _ hbx hl (by rw[hrec];simp) hk
    rw[hrec] at h1
    exact⟨none,w4,h1,hn F' w1m h2 _ _ h3⟩
   ·subst hj
    obtain⟨w4,w1m,h1,h2,h3⟩:=out B' F' W _ hbx hl (by rw[hrec];simp) hk
    rw[hrec] at h1
    have hwp:Wp P nt F' w1m K' (lM c L) j Q:=hn F' w1m h2
    have:=hwp _ _ h3
    rw[h2.rnd] at this
    exact⟨some j,w4,h1,this⟩
end
end Go.Proofs.YtefojkdckfidcaaGreatDoor.RX
namespace Go.Proofs.YtefojkdckfidcaaGreatDoor.RX
open Go.RowKit
section
variable {P:Program} {Γ:Nat->Option TI} {nt:Nat} {F0 F1:Fz} {w0:Pt P} {K K':List (Nat×D)} {L L':ay} {Q:Exit->Act->World->Prop}
theorem To.round{σ:Type}{R:σ->Prop}{S:σ->ay}{jump:Option Code}{Lx:ay}(s:σ)(kl:List Nat)(hR:R s)(hl:iZ L kl=some (S s)):To nt F0 w0 K L .normal (oL F0 w0 R S jump Lx):=by
 rintro a w ⟨B,F,hb,_⟩
 exact⟨s,B,F,hR,hb.sub fun _ _ _ h=>kY hl _ h⟩
theorem AU{f : Nat}{fn : Func}{c : Code}{ds : List D}{r : D}(hf : P.funcs[f]? = some fn)(hbody : fn.body=some c)(hname : (fn.name == "runtime.NumGoroutine")=false)(hn : ds.length<=fn.ntmps)
  (h:∀(F0:Fz)(w0:World)(hsh:Shp P w0),Wp P fn.ntmps F0 (.top w0 hsh) (ds.zipIdx.map fun x=>(x.2,x.1)) [] c (bodyPostM (Fr none) 0 P fn (uq F0 w0 r))):bC P f ds r:=by
 refine⟨⟨fn,hf,hname,by rw[hbody];rfl⟩,fun F w args hsh hF hr=>?_⟩
 have hlen:=aB.length hr
 have hc:CallsIn (Fr none) 0 P f args.toArray w (fun e w'=>∃v,e=.returned v/\Rep (qI F w w') w' NB r v/\Below w.heap.size w w'):=?_
 ·exact callsIn_wide.1 hc
 refine callsIn_of_wp_marks (F:=Fr none) hf hbody trivial (h F w hsh _ w ⟨NB,F,?_,rfl,?_,fun x hx=>?_⟩)
 ·exact⟨(fun k t ds hl=>by simp[aM] at hl),(fun k t ds b hl=>by simp[aM] at hl),(fun i j b hi=>by obtain⟨t,ds,hx⟩:=hi;simp[aM] at hx),hF,fun g k h=>.inl h,Grow.refl _ _,dX.refl _ _ _,fun k b h=>by cases h⟩
 ·simp;omega
 ·obtain⟨y,hy,rfl⟩:=List.mem_map.1 hx
  obtain⟨d,i⟩:=y
  have hd:ds[i]? = some d:=by
   have:=List.mem_zipIdx_iff_getElem?.1 hy
   simpa using this
  obtain⟨v,hv,hrep⟩:=hr.get i hd
  refine⟨v,?_,hrep⟩
  have hi:i<args.length:=(List.getElem?_eq_some_iff.1 hv).1
  simp only
  rw[Array.getElem?_append_left (by simpa using hi)]
  simpa using hv
theorem To.Aq(hΓ:ΓOK P Γ){fn:Func}{r:D}{wt:World}{hsh:Shp P wt}{w1:Pt P}(hA:After F0 (.top wt hsh) F1 w1)(hno:jI L=true)(h:vK Γ K L fn.results.toList=some r) :
  To nt F1 w1 K L .ret (bodyPostM (Fr none) 0 P fn (uq F0 wt r)):=by
 rintro a w ⟨B,F,hb,hd,hs,hK⟩
 obtain⟨D,hdefs,hD0,hDh,hDo⟩:=hA.mark
 have hlt:D<w1.w.heap.size:=(Array.getElem?_eq_some_iff.1 hDh).1
 have hDw:w.heap[D]? = some (.deferred (some [])):=(hb.below.block D hlt hDo).trans hDh
 have hb0:=hA.back _ _ _ _ hb
 obtain⟨hb1,hg1⟩:=hb0.put hno (o':=.deferred none) hDw rfl rfl hD0
 obtain⟨_,v,h5,h6⟩:=To.done (nt:=nt) (F0:=F0) (K:=K) (L:=L) hΓ (hsh:=hsh) h { a with defers:=[] } (w.putObj D (.deferred none)) ⟨B,F,hb1,rfl,hs,fun x hx=>let ⟨v,q1,q2⟩:=hK x hx;⟨v,q1,q2.grow hg1⟩⟩
 show LeavesInM (Fr none) 0 P fn a.tmps (uq F0 wt r) a.defers .returning w
 rw[hd,hdefs]
 exact⟨by simp,.inl ⟨D,_,rfl,run_takeDeferred hDw,v,h5,h6⟩⟩
theorem To.yb(hΓ:ΓOK P Γ){fn:Func}{r:D}{wt:World}{hsh:Shp P wt}(h:vK Γ K L fn.results.toList=some r):To nt F0 (.top wt hsh) K L .ret (bodyPostM (Fr none) 0 P fn (uq F0 wt r)):=by
 rintro a w hst
 obtain⟨hd,v,h5,h6⟩:=To.done (nt:=nt) (F0:=F0) (K:=K) (L:=L) hΓ (hsh:=hsh) h a w hst
 show LeavesInM (Fr none) 0 P fn a.tmps (uq F0 wt r) a.defers .returning w
 rw[hd]
 exact⟨v,h5,h6⟩
theorem EJ.Bg{β:Type}{J:β->Fz->World->Prop}(h:EJ J)(b:β):EJ (fun(_:Unit)=>J b):=fun _ F w w'=>h b F w w'
end
end Go.Proofs.YtefojkdckfidcaaGreatDoor.RX
namespace Go.Proofs.YtefojkdckfidcaaGreatDoor.RX
open Go.RowKit
section
variable {ro:Option Nat} {P:Program} {ops:Array Oper} {Q:Exit->Act->World->Prop}
theorem Kz{F:Fence}{n:Nat}{o:Oper}{a:Act}{w:World}{K K':Act->World->Prop}{Q Q':Exit->Act->World->Prop}(hQ:∀e a w,e≠.normal->¬Q e a w)(h:∀a w,K a w->K' a w)(hh:o.wpIn F n P a w K Q):o.wpIn F n P a w K' Q':=by
 unfold Oper.wpIn at *
 refine⟨hh.1,?_⟩
 have hh:=hh.2
 generalize (o.semAt F.round a.eval).run P w=r at *
 have hl:¬LetsOut Q:=fun⟨a,w,h⟩=>hQ _ a w (by simp) h
 cases r with
 |ok x w' =>
  cases x<;>simp only[Oper.uponIn] at hh ⊢ <;>
   first
    |exact h _ _ hh
    |exact⟨hh.1,CallsIn.mono hh.2 (fun e w'' he=>by cases e<;>first|exact h _ _ he|exact(hQ _ _ _ (by simp) he).elim|exact(hl he).elim)⟩
    |exact⟨hh.1,RowsIn.mono hh.2 (fun _ _ he=>h _ _ he)⟩
    |exact⟨hh.1,RoundIn.mono hh.2 (fun e w'' he=>by cases e<;>first|exact h _ _ he|exact(hQ _ _ _ (by simp) he).elim|exact(hl he).elim)⟩
 |halt x w'=>cases x<;>simp only[Oper.uponIn] at hh ⊢<;>first|exact hh|exact(hQ _ _ _ (by simp) hh).elim
def JR(ro:Option Nat)(P:Program)(ops:Array Oper)(Q:Exit->Act->World->Prop)(rest:List Oper):Exit->Act->World->Prop
 |.normal,a,w=>wpListIn (Fr ro) 0 P ops Q rest a w
 |_,_,_=>False
theorem M7{rest:List Oper}(e:Exit)(a:Act)(w:World)(h:e≠.normal):¬JR ro P ops Q rest e a w:=by cases e<;>first|exact absurd rfl h|exact id
theorem uK{rest:List Oper}:∀{l:List Oper}{a:Act}{w:World},(∀o∈l,o.nd)->wpList P ops (JR ro P ops Q rest) l a w->wpListIn (Fr ro) 0 P ops Q (l++rest) a w
 |[],a,w,_,h=>by
  unfold wpList at h
  exact h
 |o::l,a,w,hn,h=>by
  have hout:¬LetsOut (JR ro P ops Q rest):=fun⟨_,_,h⟩=>h
  unfold wpList at h
  rw[List.cons_append]
  unfold wpListIn
  split at h
  ·rename_i hw
   rw[if_pos hw]
   rcases h with h|h
   ·exact Kz M7 (fun a w h=>uK (fun o ho=>hn o (List.mem_cons_of_mem _ ho)) h) (B6 (ro:=ro) hout (hn o List.mem_cons_self) h)
   ·exact absurd h.2 hout
  ·rename_i hw
   rw[if_neg hw]
   exact⟨fun _ _=>trivial,uK (fun o ho=>hn o (List.mem_cons_of_mem _ ho)) h⟩
end
section
variable {P:Program} {Γ:Nat->Option TI} {nt:Nat} {F0:Fz} {K:List (Nat×D)} {Q:Exit->Act->World->Prop}
end
end Go.Proofs.YtefojkdckfidcaaGreatDoor.RX
namespace Go.Proofs.YtefojkdckfidcaaGreatDoor.RX
open Go.RowKit
def cRB:Code->Code|.rangeFunc _ _ _ b=>b|c=>c
section
variable {P:Program} {Γ:Nat->Option TI} {nt:Nat} {F0:Fz} {w0:Pt P} {K:List (Nat×D)} {L:ay} {Q:Exit->Act->World->Prop}
theorem St.restart{F1:Fz}{w1:Pt P}{L L':ay}(k k':Nat)(hlt:k'<1000000)(hf:ku k' [] L=true)(hL':I5 k k' L=L')(a:Act)(w:World)(h:St nt F1 w1 [] L a w):St nt F1 w1 [] L' a w :=
 St.rename (K:=[]) (K':=[]) k k' hlt hf rfl hL' a w h
theorem St.reL{F1:Fz}{w1:Pt P}{L L':ay}(kl:List Nat)(h:iZ L kl=some L')(a:Act)(w:World)(hs:St nt F1 w1 [] L a w):St nt F1 w1 [] L' a w:=by
 obtain⟨B,F,hb,h2,h3,_⟩:=hs
 exact⟨B,F,hb.sub fun _ _ _ hm=>kY h _ hm,h2,h3,fun x hx=>by cases hx⟩
def _root_.Go.Proofs.YtefojkdckfidcaaGreatDoor.RX.Pt.out(w1:Pt P):Pt P:={ w1 with rnd:=none }
end
end Go.Proofs.YtefojkdckfidcaaGreatDoor.RX
namespace Go.Proofs.YtefojkdckfidcaaGreatDoor.RX
open Go.RowKit
structure iY(P:Program)(F:Fz)(U:Nat->Prop)(w:World)(F':Fz)(U':Nat->Prop)(w':World):Prop where
 below:dX U w.heap.size w w'
 grow:Grow F F' w w'
 more:∀g k,F' g k->F g k\/w.heap.size<=g\/U g
 frz:∀g k,F' g k->g<w'.heap.size
 off:∀g k,F' g k->¬U' g
 own:∀b,U' b->U b\/w.heap.size<=b
 lt:∀b,U' b->b<w'.heap.size
 shp:Shp P w'
def jb(P:Program){β:Type}(J:β->Fz->(Nat->Prop)->World->Prop):Prop:=∀s F U w F' U' w',J s F U w->iY P F U w F' U' w'->J s F' U' w'
structure Ju(P:Program)(F:Fz)(U:Nat->Prop)(w:World)(F':Fz)(w':World):Prop where
 adv:Adv P F w F' w'
 size:w.heap.size<=w'.heap.size
 kept:∀b,U b->w'.heap[b]? = w.heap[b]?
 off:∀g k,F' g k->¬U g
def sH(P:Program)(l:Nat){α:Type}(encs:α->List D)(J:List α->Fz->(Nat->Prop)->World->Prop)(Jx:Fz->(Nat->Prop)->World->Prop):Prop :=
 ∀ro x r F U w args,J (x::r) F U w->(∀g k,F g k->g<w.heap.size/\¬U g)->(∀b,U b->b<w.heap.size)->Shp P w->aB F w NB (encs x) args ->
  YieldAt (Fr ro) 0 P l args.toArray w fun e w'=>∃F',Ju P F U w F' w'/\((e=.returned (.bool true)/\J r F' U w')\/(e=.returned (.bool false)/\Jx F' U w'))
def wK(P:Program)(g:Nat)(ds:List D){α:Type}(encs:α->List D)(xs:List α):Prop :=
 FOK P g/\∀(l:Nat)(J:List α->Fz->(Nat->Prop)->World->Prop)(Jx:Fz->(Nat->Prop)->World->Prop),jb P J->jb P (fun(_:Unit)=>Jx)->sH P l encs J Jx ->
  ∀F w lb,J xs F (fun _=>False) w->(∀g k,F g k->g<w.heap.size)->Shp P w->aB F w NB ds lb ->
   CallsIn (Fr none) 0 P g (#[.func (.yield l) #[] #[]]++lb.toArray) w fun e w'=>(∃v,e=.returned v)/\∃F' U',J [] F' U' w'\/Jx F' U' w'
section
variable {P:Program} {F0 F1:Fz} {w0 w1:Pt P} {B:Env} {F:Fz} {M:Mem} {w:World}
def Pt.qx(w1:Pt P)(W:World)(sh:Shp P W)(ex:Nat->Prop)(ro:Option Nat)(ds:List Deferred):Pt P :=
 { w:=W,own:=fun b=>w1.fresh b/\¬ex b,env:=w1.env,low:=w1.low,sh:=sh,high:=fun _ h=>Pt.sq h.1,rnd:=ro,defs:=ds }
theorem Base.qx(hb:Base F1 w1 B F M w)(sh:Shp P w){ex:Nat->Prop}{ro:Option Nat}{ds:List Deferred}(hex:∀k t c b,M k t c->bT B k=some b->¬ex b):Base F (w1.qx w sh ex ro ds) B F M w :=
 ⟨hb.boxes,fun k t c b h hk=>.inr ⟨hb.new k t c b h hk,hex k t c b h hk⟩,hb.inj,hb.frz,fun _ _ h=>.inl h,Grow.refl _ _,dX.refl _ _ _,hb.env⟩
theorem Base.KO(hb:Base F1 w1 B F M w){sh:Shp P w}{ex:Nat->Prop}{ro:Option Nat}{ds:List Deferred}{B':Env}{F':Fz}{M':Mem}{w':World}(h:Base F (w1.qx w sh ex ro ds) B' F' M' w'):Base F1 w1 B' F' M' w':=by
 have hsz:=hb.below.size
 have hfr:∀b,(w1.qx w sh ex ro ds).fresh b->w1.fresh b:=by
  rintro b (hb'|hb')
  ·exact .inl (Nat.le_trans hsz hb')
  ·exact hb'.1
 refine⟨h.boxes,fun k t c b hm hk=>hfr b (h.new k t c b hm hk),h.inj,h.frz,fun g k hF=>?_,hb.grow.trans h.grow,⟨h.below.os.trans hb.below.os,h.below.tape.trans hb.below.tape,h.below.output.trans hb.below.output,Nat.le_trans hsz h.below.size,fun k hk ho=>?_⟩,h.env⟩
 ·rcases h.more g k hF with h1|h1
  ·exact hb.more g k h1
  ·exact .inr (hfr g h1)
 ·refine(h.below.block k (Nat.lt_of_lt_of_le hk hsz) fun h1=>?_).trans (hb.below.block k hk ho)
  rcases h1.1 with h2|h2
  ·omega
  ·exact ho h2
theorem uC{W:World}{sh:Shp P W}{ex:Nat->Prop}{ro:Option Nat}{ds:List Deferred}(hlt:∀b,ex b->b<W.heap.size){b:Nat}(h:(w1.qx W sh ex ro ds).fresh b):¬ex b:=fun he=>by
 rcases h with h|h
 ·have:=hlt b he;exact absurd h (by show ¬W.heap.size<=b;omega)
 ·exact h.2 he
theorem Base.Ou{L:ay}{U U':Nat->Prop}{F':Fz}{w':World}(hb:Base F1 w1 B F (aM L) w)(hU:∀b,U b->w1.w.heap.size<=b)(hd:∀k t c b,aM L k t c->bT B k=some b->¬U b)(h:iY P F U w F' U' w'):Base F1 w1 B F' (aM L) w':=by
 refine⟨fun k t ds hm=>?_,hb.new,hb.inj,h.frz,fun g k hF=>?_,hb.grow.trans h.grow,hb.below.trans ⟨h.below.os,h.below.tape,h.below.output,h.below.size,fun k hk _=>?_⟩,hb.env⟩
 ·have hh:=hb.boxes _ _ _ hm
  refine hh.grow h.grow rfl (fun _ _ _ h=>h) fun b hbk=>?_
  have hlt:=hh.lt hbk
  have hu:=hd _ _ _ b hm hbk
  refine⟨h.below.block b hlt hu,fun j hj=>?_⟩
  rcases h.more b j hj with h1|h1|h1
  ·exact h1
  ·omega
  ·exact absurd h1 hu
 ·rcases h.more g k hF with h1|h1|h1
  ·exact hb.more g k h1
  ·exact .inr (.inl (Nat.le_trans hb.below.size h1))
  ·exact .inr (.inl (hU g h1))
 ·exact h.below.block k (Nat.lt_of_lt_of_le hk hb.below.size) fun hu=>by have:=hU k hu;omega
end
section
variable {P:Program} {Γ:Nat->Option TI} {nt:Nat} {F0:Fz} {w0:Pt P} {K K' Kb:List (Nat×D)} {L L':ay} {Q:Exit->Act->World->Prop}
theorem Wp.J4{α σ:Type}{t:Nat}{ps:Array Tmp}{assign body:Code}{gf:Nat}{lds:List D}{encs:α->List D}{xs:List α}(c:CBd)(R:List α->σ->Prop)(S:σ->ay)(jump:Option Code)
  (hro:w0.rnd=none) (hg:K.lookup t=some (.fn gf lds)) (hlds:D.cH lds=true) (hseq:wK P gf lds encs xs)
  (hok:xX c=true) (hLin:found c L=c.Lin.map fun x=>some (x.2.1,D.subs (dD never c.ren) x.2.2)) (hno:∀s,jI (S s)=true) (hnoL:jI c.fy=true) (hnoA:jI (lM c L)=true)
  (s0:σ) (hR0:R xs s0) (hS0:∀(F':Fz)(w1:Pt P)(a:Act)(w:World),St nt F' w1 [] c.Lin a w->St nt F' w1 [] (S s0) a w) (hps:∀x,(encs x).length=ps.toList.length) (hnd:ps.toList.Nodup) (hpt:∀p∈ps.toList,p<nt) (hne:∀x,D.cH (encs x)=true)
  (hKb:∀x∈Kb,(x.1,D.sub (dD never c.ren) x.2)∈K/\x.1∉ps.toList/\Ns (c.Lin.map (·.1)) x.2=true)
  (K2:α->σ->List (Nat×D)) (L2:α->σ->ay) (hno2:∀x s,jI (L2 x s)=true)
  (hass:∀x r s,R (x::r) s->∀(F':Fz)(w1:Pt P),Wp P nt F' w1 (Kb++ps.toList.zip (encs x)) (S s) assign (yH nt F' w1 (K2 x s) (L2 x s)))
  (hbody:∀x r s,R (x::r) s->∀(F':Fz)(w1:Pt P),Wp P nt F' w1 (K2 x s) (L2 x s) body (oL F' w1 (R r) S jump c.fy))
  (hend:∀s,R [] s->jump=none/\S s=c.fy)
  (hK':∀x∈K',x∈K/\∀k,(dV c).contains k=true->D.names k x.2=false)
  (hn:∀(F1:Fz)(w1:Pt P),After F0 w0 F1 w1->Behind nt F1 w1 K' (lM c L) Q jump) :
  Wp P nt F0 w0 K L (.rangeFunc (.tmp t) ps assign body) Q:=by
 rintro a w ⟨B,F,hb,hd,hs,hK⟩
 rw[hro]
 obtain⟨w1,hw1,hb1,henv,hafter⟩:=xF hb hok hLin
 obtain⟨v,hv,hrv⟩:=hK _ (aD hg)
 obtain⟨lb,hlb,rfl⟩:∃lb,aB F w B lds lb/\v=.func (.func gf) #[] lb.toArray:=by
  cases hrv with
  |fn f ds vs h=>exact⟨vs,h,rfl⟩
 refine wpIn_rangeFunc fun fn hfn=>?_
 obtain⟨rec,hrec⟩:∃rec:LoopState->Option Code->Loop,rec=fun st pe=>{ state:=st,pending:=pe,fn,tmps:=a.tmps,params:=ps,assign,body,defers:=w.heap.size }:=⟨_,rfl⟩
 obtain⟨W1,hW1⟩:∃W1,(w.alloc (.deferred (some []))).alloc (.loop (rec .ready none))=W1:=⟨_,rfl⟩
 have hL1:W1.heap[w.heap.size+1]? = some (.loop (rec .ready none)):=by
  rw[<-hW1];have:=World.alloc_heap_new (w.alloc (.deferred (some []))) (.loop (rec .ready none));rwa[World.size_alloc] at this
 have hD1:W1.heap[w.heap.size]? = some (.deferred (some [])):=by
  rw[<-hW1];exact(Below.heap_alloc _ _ _ (by simp)).trans (World.alloc_heap_new w _)
 have hbel:Below w.heap.size w W1:=by rw[<-hW1];exact xY _ _ _
 obtain⟨hbW,hgW⟩:=hb1.callee hbel
 have hw0:w0.w.heap.size<=w.heap.size:=hb.below.size
 refine⟨w.heap.size+1,[{ target:=.collected w.heap.size,args:=#[] }],W1,{ target:=.fn (.func gf) lb.toArray,args:=#[.func (.yield (w.heap.size+1)) #[] #[]] },W1,gf,
  #[.func (.yield (w.heap.size+1)) #[] #[]]++lb.toArray,W1,?_,?_,fun _ _=>trivial,?_,fun h=>(by cases h),?_⟩
 ·rw[<-hW1,hrec];exact run_enterLoop_outer _ _ _ _ _
 ·simp only[resolve,ox hv]
  simp[go_sem]
 ·simp only[invoke];rw[mP hseq.1]
 ·let N0:(Nat->Prop)->Prop:=fun U=>∀b,U b->w.heap.size+2<=b
  let Dj:Env->ay->(Nat->Prop)->Prop:=fun B' L U=>∀k t c b,aM L k t c->bT B' k=some b->¬U b
  let J:List α->Fz->(Nat->Prop)->World->Prop:=fun r F' U W=>N0 U/\∃s B',R r s/\Base F w1 B' F' (aM (S s)) W/\Dj B' (S s) U/\W.heap[w.heap.size+1]? = some (.loop (rec .ready none))/\W.heap[w.heap.size]? = some (.deferred (some []))
  let Jx:Fz->(Nat->Prop)->World->Prop:=fun F' U W=>N0 U/\∃B' j,jump=some j/\Base F w1 B' F' (aM c.fy) W/\Dj B' c.fy U/\W.heap[w.heap.size+1]? = some (.loop (rec .done (some j)))/\W.heap[w.heap.size]? = some (.deferred (some []))
  have hw1s:w1.w.heap.size=w.heap.size:=by rw[hw1]
  have hlt:∀{W:World}{r:Nat}{o:Obj},W.heap[r]? = some o->r<W.heap.size:=fun h=>(Array.getElem?_eq_some_iff.1 h).1
  obtain⟨B0,Fs,hb0,_⟩:=hS0 (qI F w W1) (w1.oD W1 hbW.shp [] none a.defers) a W1 ⟨_,_,hbW.oD hbW.shp (fun _ _ _ _ _ _ h=>by cases h),rfl,hs,fun x hx=>by cases hx⟩
  have hbs:=hbW.comes hb0
  have stN:∀{U U':Nat->Prop}{F' F'':Fz}{W W':World},N0 U->w.heap.size+1<W.heap.size->iY P F' U W F'' U' W'->N0 U':=fun hU hsz ht b hb'=>by
   rcases ht.own b hb' with h|h
   ·exact hU b h
   ·omega
  have stD:∀{U U':Nat->Prop}{F' F'':Fz}{W W':World}{B':Env}{Lx:ay},Base F w1 B' F' (aM Lx) W->Dj B' Lx U->iY P F' U W F'' U' W'->Dj B' Lx U':=fun hbx hd ht k t c b hm hk hu=>by
   rcases ht.own b hu with h|h
   ·exact hd k t c b hm hk h
   ·have:=(hbx.boxes _ _ _ hm).lt hk;omega
  have hU1:∀{U:Nat->Prop},N0 U->∀b,U b->w1.w.heap.size<=b:=fun hU b hb'=>by have:=hU b hb';omega
  refine(hseq.2 (w.heap.size+1) J Jx (fun r F' U W F'' U' w' ⟨hN0,s,B',h1,h2,hdj,h3,h4⟩ h5=>⟨stN hN0 (hlt h3) h5,s,B',h1,h2.Ou (hU1 hN0) hdj h5,stD h2 hdj h5,(h5.below.block _ (hlt h3) (fun hu=>by have:=hN0 _ hu;omega)).trans h3,(h5.below.block _ (hlt h4) (fun hu=>by have:=hN0 _ hu;omega)).trans h4⟩)
   (fun _ F' U W F'' U' w' ⟨hN0,B',j,h1,h2,hdj,h3,h4⟩ h5=>⟨stN hN0 (hlt h3) h5,B',j,h1,h2.Ou (hU1 hN0) hdj h5,stD h2 hdj h5,(h5.below.block _ (hlt h3) (fun hu=>by have:=hN0 _ hu;omega)).trans h3,(h5.below.block _ (hlt h4) (fun hu=>by have:=hN0 _ hu;omega)).trans h4⟩) ?_ Fs W1 lb ⟨fun _ h=>h.elim,s0,B0,hR0,hbs,fun _ _ _ _ _ _ h=>h,hL1,hD1⟩ hbs.frz hbs.shp ((hlb.bare hlds).grow (hgW.trans hb0.grow))).mono ?_
  ·rintro ro x r F' U W args ⟨hN0,s,B',hR,hbJ,hdj,hl,hk⟩ hfrz hUlt hshp hargs
   have hlen:=aB.length hargs
   have hy:=run_yield (P:=P) (args:=args.toArray) hl (by rw[hrec];simp only[List.size_toArray];rw[hlen,hps x];simp)
   rw[hrec] at hy
   have hll:=hlt hl
   let ex:Nat->Prop:=fun b=>b=w.heap.size\/b=w.heap.size+1\/U b
   have hexlt:∀{W':World},W.heap.size<=W'.heap.size->∀b,ex b->b<W'.heap.size:=fun hle b he=>by
    rcases he with h|h|h
    ·omega
    ·omega
    ·have:=hUlt b h;omega
   have hex:∀{W:World}{st:LoopState},W.heap[w.heap.size+1]? = some (.loop { rec .ready none with state:=st })->W.heap[w.heap.size]? = some (.deferred (some []))->∀q∈[w.heap.size,w.heap.size+1],∃o,W.heap[q]? = some o/\rI o=true:=by
    intro W st h1 h2 q hq
    simp only[List.mem_cons,List.not_mem_nil,or_false] at hq
    rcases hq with rfl|rfl
    ·exact⟨_,h2,rfl⟩
    ·exact⟨_,h1,rfl⟩
   have hl0:W.heap[w.heap.size+1]? = some (.loop { rec .ready none with state:=.ready }):=by rw[hl,hrec]
   have off2:∀{B'':Env}{F'':Fz}{Lx:ay}{W':World}{st:LoopState},Base F w1 B'' F'' (aM Lx) W'->jI Lx=true->W'.heap[w.heap.size+1]? = some (.loop { rec .ready none with state:=st })->W'.heap[w.heap.size]? = some (.deferred (some []))->Dj B'' Lx U->∀k t c b,aM Lx k t c->bT B'' k=some b->¬ex b:=fun hbx hnx h1 h2 hdx k t c b hm hk he=>by
    rcases he with h|h|h
    ·exact hbx.yN hnx (ex:=[w.heap.size,w.heap.size+1]) (hex h1 h2) k t c b hm hk (by simp[h])
    ·exact hbx.yN hnx (ex:=[w.heap.size,w.heap.size+1]) (hex h1 h2) k t c b hm hk (by simp[h])
    ·exact hdx k t c b hm hk h
   have hfold:=yx ps.toList args a.tmps hnd (fun p hp=>by rw[hs];exact hpt p hp) (by rw[hlen,hps x])
   have hgw:Grow F F' w W:=by have:=hbJ.grow;rwa[hw1] at this
   have hact:((ps.zip args.toArray).foldl (fun(tmps:Array Value) (x:Tmp×Value)=>tmps.setIfInBounds x.1 x.2) a.tmps)=((ps.toList.zip args).foldl (fun(t:Array Value) (x:Nat×Value)=>t.setIfInBounds x.1 x.2) a.tmps):=by
    rw[<-Array.foldl_toList,Array.toList_zip]
   have hrun0:=hass x r s hR F' (w1.qx W hbJ.shp ex (some (w.heap.size+1)) []) { tmps:=(ps.toList.zip args).foldl (fun(t:Array Value) (x:Nat×Value)=>t.setIfInBounds x.1 x.2) a.tmps,defers:=[] } W ⟨B',F',hbJ.qx hbJ.shp (off2 hbJ (hno s) hl0 hk hdj),rfl,by rw[hfold.1];exact hs,fun y hy=>?_⟩
   rotate_left
   ·rcases List.mem_append.1 hy with hy|hy
    ·obtain⟨h1,h2,h3⟩:=hKb y hy
     obtain⟨v,q1,q2⟩:=hK _ h1
     refine⟨v,by rw[hfold.2.1 _ h2];exact q1,?_⟩
     have q3:=(Rep.pull y.2 q2).grow hgw
     cases hd':y.2 with
     |own j off =>
      rw[hd'] at q3 h3
      cases q3 with
      |own _ _ b hbj =>
       have hj:j∈c.Lin.map (·.1):=List.contains_iff_mem.1 h3
       obtain⟨z,hz,rfl⟩:=List.mem_map.1 hj
       exact .own _ _ b (hbJ.env _ _ ((henv z.1 z.2.1 z.2.2 hz).trans hbj))
     |_=>rw[hd'] at q3 h3;exact q3.bare h3
    ·obtain⟨i,hi⟩:=List.getElem?_of_mem hy
     rw[List.getElem?_zip_eq_some] at hi
     obtain⟨v,q1,q2⟩:=hargs.get i hi.2
     have hnoy:D.fA y.2=true:=by
      have:=hne x
      have hmem:y.2∈encs x:=List.mem_of_getElem? hi.2
      clear hi hy q1 q2
      revert this hmem
      generalize encs x=es
      intro this hmem
      induction es with
      |nil=>cases hmem
      |cons e es ih =>
       rw[D.cH,Bool.and_eq_true] at this
       rcases List.mem_cons.1 hmem with rfl|h
       ·exact this.1
       ·exact ih this.2 h
     exact⟨v,hfold.2.2 i _ _ hi.1 q1,q2.bare hnoy⟩
   rw[<-hact] at hrun0
   refine⟨fn,_,assign,body,hy,roundIn_of_wpIn trivial (wpIn_mono hrun0 ?_)⟩
   rintro ea a1 Wa ⟨rfl,Ba,Fa,hba,hda,hsa,hKa⟩
   have hla:Wa.heap[w.heap.size+1]? = some (.loop { rec .ready none with state:=.ready }):=(hba.below.block _ hll (fun h=>h.2 (.inr (.inl rfl)))).trans hl0
   have hka:Wa.heap[w.heap.size]? = some (.deferred (some [])):=(hba.below.block (w.heap.size) (by show w.heap.size<W.heap.size;omega) (fun h=>h.2 (.inl rfl))).trans hk
   have hUa:∀b,U b->Wa.heap[b]? = W.heap[b]?:=fun b hu=>hba.below.block b (hUlt b hu) (fun h=>h.2 (.inr (.inr hu)))
   have hsza:W.heap.size<=Wa.heap.size:=hba.below.size
   have hdja:Dj Ba (L2 x s) U:=fun k t c b hm hk hu=>uC (hexlt (Nat.le_refl _)) (hba.new k t c b hm hk) (.inr (.inr hu))
   have hoffa:∀g k,Fa g k->¬U g:=fun g k hF hu=>by
    rcases hba.more g k hF with h|h
    ·exact(hfrz g k h).2 hu
    ·exact uC (hexlt (Nat.le_refl _)) h (.inr (.inr hu))
   refine⟨_,run_beginRound hla rfl,?_⟩
   have hb1a:=hbJ.KO hba
   obtain⟨hb2,hg2a⟩:=hb1a.put (hno2 x s) (o':=.loop { rec .ready none with state:=.busy }) hla rfl rfl (by omega)
   have hg2:=hba.grow.trans hg2a
   have hl2:(Wa.putObj (w.heap.size+1) (.loop { rec .ready none with state:=.busy })).heap[w.heap.size+1]? = some (.loop { rec .ready none with state:=.busy }):=World.putObj_heap_same (hlt hla)
   have hk2:(Wa.putObj (w.heap.size+1) (.loop { rec .ready none with state:=.busy })).heap[w.heap.size]? = some (.deferred (some [])):=(World.putObj_heap_other (by omega)).trans hka
   have hU2:∀b,U b->(Wa.putObj (w.heap.size+1) (.loop { rec .ready none with state:=.busy })).heap[b]? = W.heap[b]?:=fun b hu=>(World.putObj_heap_other (by have:=hN0 b hu;omega)).trans (hUa b hu)
   have hsz2':W.heap.size<=(Wa.putObj (w.heap.size+1) (.loop { rec .ready none with state:=.busy })).heap.size:=by rw[World.putObj_size];exact hsza
   revert hb2 hg2 hg2a hl2 hk2 hU2 hsz2'
   generalize Wa.putObj (w.heap.size+1) (.loop { rec .ready none with state:=.busy })=W2
   intro hb2 hg2a hg2 hl2 hk2 hU2 hsz2'
   have hrun:=hbody x r s hR Fa (w1.qx W2 hb2.shp ex (some (w.heap.size+1)) []) a1 W2 ⟨Ba,Fa,hb2.qx hb2.shp (off2 hb2 (hno2 x s) hl2 hk2 hdja),hda,hsa,fun y hy=>let ⟨v,q1,q2⟩:=hKa y hy;⟨v,q1,q2.grow hg2a⟩⟩
   refine wpIn_mono hrun ?_
   have hsz2:w.heap.size+1<W2.heap.size:=hlt hl2
   have fin:∀(jm:Option Code)(Lx:ay)(B'':Env)(F'':Fz)(w':World),jI Lx=true->Base Fa (w1.qx W2 hb2.shp ex (some (w.heap.size+1)) []) B'' F'' (aM Lx) w' ->
     ∃w4,(Instr.endRound (w.heap.size+1) jm).run P w'=.ok (.bool jm.isNone) w4/\Ju P F' U W F'' w4/\Base F w1 B'' F'' (aM Lx) w4/\Dj B'' Lx U/\w4.heap[w.heap.size+1]? = some (.loop (rec (if jm.isNone then .ready else .done) jm))/\w4.heap[w.heap.size]? = some (.deferred (some [])):=by
    intro jm Lx B'' F'' w' hnx hb3
    have hl3:w'.heap[w.heap.size+1]? = some (.loop { rec .ready none with state:=.busy }):=(hb3.below.block _ hsz2 (fun h=>h.2 (.inr (.inl rfl)))).trans hl2
    have hk3:w'.heap[w.heap.size]? = some (.deferred (some [])):=(hb3.below.block (w.heap.size) (by show w.heap.size<W2.heap.size;omega) (fun h=>h.2 (.inl rfl))).trans hk2
    have hrun:=run_endRound (P:=P) jm hl3
    have hb4:=hb2.KO hb3
    obtain⟨hb5,hg5⟩:=hb4.put hnx (o':=.loop { ({ rec .ready none with state:=.busy }:Loop) with state:=if jm.isNone then .ready else .done,pending:=jm }) hl3 rfl rfl (by omega)
    refine⟨_,hrun,⟨⟨(hg2.trans hb3.grow).trans hg5,hb5.frz,hb5.shp⟩,?_,fun b hu=>?_,fun g k hF hu=>?_⟩,hb5,fun k t c b hm hk hu=>uC (hexlt hsz2') (hb3.new k t c b hm hk) (.inr (.inr hu)),?_,(World.putObj_heap_other (by omega)).trans hk3⟩
    ·rw[World.putObj_size];exact Nat.le_trans hsz2' hb3.below.size
    ·refine(World.putObj_heap_other (by have:=hN0 b hu;omega)).trans ((hb3.below.block b ?_ (fun h=>h.2 (.inr (.inr hu)))).trans (hU2 b hu))
     show b<W2.heap.size
     have:=hUlt b hu;omega
    ·rcases hb3.more g k hF with h|h
     ·exact hoffa g k h hu
     ·exact uC (hexlt hsz2') h (.inr (.inr hu))
    rw[World.putObj_heap_same (hlt hl3),hrec]
   rintro e a3 w3 hp
   cases e with
   |normal =>
    obtain⟨s',B'',F'',hR',hb3⟩:=hp
    obtain⟨w4,h1,h2,h3,hd3,h4,h5⟩:=fin none _ B'' F'' w3 (hno s') hb3
    exact⟨_,w4,h1,F'',h2,.inl ⟨rfl,hN0,s',B'',hR',h3,hd3,h4,h5⟩⟩
   |ret =>
    obtain⟨hj,B'',F'',hb3⟩:=hp
    obtain⟨w4,h1,h2,h3,hd3,h4,h5⟩:=fin (some .ret) _ B'' F'' w3 hnoL hb3
    exact⟨_,w4,h1,F'',h2,.inr ⟨rfl,hN0,B'',_,hj,h3,hd3,h4,h5⟩⟩
   |exit id =>
    obtain⟨hj,B'',F'',hb3⟩:=hp
    obtain⟨w4,h1,h2,h3,hd3,h4,h5⟩:=fin (some (.exit id)) _ B'' F'' w3 hnoL hb3
    exact⟨_,w4,h1,F'',h2,.inr ⟨rfl,hN0,B'',_,hj,h3,hd3,h4,h5⟩⟩
   |goto t =>
    obtain⟨hj,B'',F'',hb3⟩:=hp
    obtain⟨w4,h1,h2,h3,hd3,h4,h5⟩:=fin (some (.goto t)) _ B'' F'' w3 hnoL hb3
    exact⟨_,w4,h1,F'',h2,.inr ⟨rfl,hN0,B'',_,hj,h3,hd3,h4,h5⟩⟩
   |panic ch=>exact hp.elim
   |outgrown=>exact hp.elim
  ·
   have out:∀(B':Env)(F':Fz)(W:World)(lp:Loop),Base F w1 B' F' (aM c.fy) W->W.heap[w.heap.size+1]? = some (.loop lp)->lp.state≠.busy->W.heap[w.heap.size]? = some (.deferred (some [])) ->
     ∃w4 w1m,(Instr.endLoop (w.heap.size+1)).run P W=.ok lp.pending w4/\After F0 w0 F' w1m/\St nt F' w1m K' (lM c L) { a with defers:=[{ target:=.collected w.heap.size,args:=#[] }]++a.defers } w4:=by
    intro B' F' W lp hbx hl hst hk
    have hw1s:w1.w.heap.size=w.heap.size:=by rw[hw1]
    obtain⟨hb4,hg4⟩:=hbx.put hnoL (o':=.loop { lp with state:=.exhausted }) hl rfl rfl (by omega)
    have hk4:(W.putObj (w.heap.size+1) (.loop { lp with state:=.exhausted })).heap[w.heap.size]? = some (.deferred (some [])):=(World.putObj_heap_other (by omega)).trans hk
    obtain⟨B2,hb5,hg5,hold,_,_⟩:=hafter F' B' _ hb4
    have hb6:=hb5.oD hb5.shp (ro:=none) (ds:={ target:=.collected w.heap.size,args:=#[] }::w0.defs) (hb5.yN hnoA (ex:=[w.heap.size]) fun q hq=>by
     rw[List.mem_singleton.1 hq];exact⟨_,hk4,rfl⟩)
    refine⟨_,_,run_endLoop hl hst,⟨fun B F M w h=>hb5.comes h,⟨w.heap.size,rfl,hw0,hk4,fun h=>h.2 (by simp)⟩,rfl⟩,B2,F',hb6,by rw[hd];rfl,hs,fun x hx=>?_⟩
    obtain⟨h1,h2⟩:=hK' x hx
    obtain⟨v,q1,q2⟩:=hK x h1
    refine⟨v,q1,(q2.grow hg5).nX fun k hk=>hold k ?_⟩
    cases hcc:(dV c).contains k with
    |false=>rfl
    |true=>rw[h2 k hcc] at hk;cases hk
   rintro e W ⟨⟨v,rfl⟩,F',U',⟨_,s,B',hR,hbx,_,hl,hk⟩|⟨_,B',j,hj,hbx,_,hl,hk⟩⟩
   ·obtain⟨rfl,hS⟩:=hend s hR
    rw[hS] at hbx
    obtain⟨w4,w1m,h1,h2,h3⟩:=out B' F' W _ hbx hl (by rw[hrec];simp) hk
    rw[hrec] at h1
    exact⟨none,w4,h1,hn F' w1m h2 _ _ h3⟩
   ·subst hj
    obtain⟨w4,w1m,h1,h2,h3⟩:=out B' F' W _ hbx hl (by rw[hrec];simp) hk
    rw[hrec] at h1
    have hwp:Wp P nt F' w1m K' (lM c L) j Q:=hn F' w1m h2
    have:=hwp _ _ h3
    rw[h2.rnd] at this
    exact⟨some j,w4,h1,this⟩
end
section
variable {P:Program} {Γ:Nat->Option TI} {nt:Nat} {F0:Fz} {w0:Pt P} {K:List (Nat×D)} {L:ay} {Q:Exit->Act->World->Prop}
theorem Wp.FX{α σ:Type}{t:Nat}{ps:Array Tmp}{assign body:Code}{gf:Nat}{lds:List D}{encs:α->List D}{xs:List α}(c:CBd)(R:List α->σ->Prop)(S:σ->ay)(jump:Option Code)(kb k1:List Nat)(Kb K':List (Nat×D))(L':ay)(s0:σ)(K2:α->σ->List (Nat×D))(L2:α->σ->ay)
  (hro:w0.rnd=none) (hg:K.lookup t=some (.fn gf lds)) (hlds:D.cH lds=true) (hseq:wK P gf lds encs xs)
  (hok:xX c=true) (hLin:found c L=c.Lin.map fun x=>some (x.2.1,D.subs (dD never c.ren) x.2.2)) (hno:∀s,jI (S s)=true) (hnoL:jI c.fy=true) (hA:lM c L=L') (hnoA:jI L'=true)
  (hR0:R xs s0) (hS0:∀(F':Fz)(w1:Pt P)(a:Act)(w:World),St nt F' w1 [] c.Lin a w->St nt F' w1 [] (S s0) a w) (hps:∀x,(encs x).length=ps.toList.length) (hnd:ps.toList.Nodup) (hpt:∀p∈ps.toList,p<nt) (hne:∀x,D.cH (encs x)=true)
  (hKb:lH K kb=some (Kb.map fun x=>(x.1,D.sub (dD never c.ren) x.2))) (hKb2:(Kb.all fun x=>!(ps.toList.contains x.1)&&Ns (c.Lin.map (·.1)) x.2)=true)
  (hno2:∀x s,jI (L2 x s)=true)
  (hend:∀s,R [] s->jump=none/\S s=c.fy)
  (hK':lH K k1=some K') (hK2:(K'.all fun x=>(dV c).all fun k=>!(D.names k x.2))=true)
  (hass:∀x r s,R (x::r) s->∀(F':Fz)(w1:Pt P),Wp P nt F' w1 (Kb++ps.toList.zip (encs x)) (S s) assign (yH nt F' w1 (K2 x s) (L2 x s)))
  (hbody:∀x r s,R (x::r) s->∀(F':Fz)(w1:Pt P),Wp P nt F' w1 (K2 x s) (L2 x s) body (oL F' w1 (R r) S jump c.fy))
  (hn:∀(F1:Fz)(w1:Pt P),After F0 w0 F1 w1.out->Behind nt F1 w1.out K' L' Q jump) :
  Wp P nt F0 w0 K L (.rangeFunc (.tmp t) ps assign body) Q:=by
 subst hA
 refine Wp.J4 (Kb:=Kb) (K':=K') c R S jump hro hg hlds hseq hok hLin hno hnoL hnoA s0 hR0 hS0 hps hnd hpt hne (fun x hx=>⟨mY hKb _ (List.mem_map.2 ⟨x,hx,rfl⟩),?_⟩) K2 L2 hno2 hass hbody hend (fun x hx=>⟨mY hK' x hx,fun k hk=>?_⟩) (fun F1 w1 hA=>?_)
 ·have h:=List.all_eq_true.1 hKb2 x hx
  simp only[Bool.and_eq_true,Bool.not_eq_true'] at h
  exact⟨fun hm=>(by rw[List.contains_iff_mem.2 hm] at h;cases h.1),h.2⟩
 ·have h:=List.all_eq_true.1 (List.all_eq_true.1 hK2 x hx) k (List.contains_iff_mem.1 hk)
  simpa using h
 ·have e:w1.out=w1:=by
   have h1:=hA.rnd
   cases w1
   simp only at h1
   subst h1
   rfl
  have h2:=hn F1 w1 (by rw[e];exact hA)
  rwa[e] at h2
end
end Go.Proofs.YtefojkdckfidcaaGreatDoor.RX
namespace Go.Proofs.YtefojkdckfidcaaGreatDoor.RX
open Go.RowKit
def Ac:List D->Bool
 |[.aN _ _ _ _]=>false
 |[.fL _ _ _ _ _]=>false
 |[.sN _ _ _]=>false
 |_=>true
def vA(L:ay):Bool:=L.all fun x=>Ac x.2.2
def OwnB(B:Env)(L:ay)(b:Nat):Prop:=∃k t ds,aM L k t ds/\bT B k=some b
section
variable {P:Program} {F0 F1:Fz} {w0 w1:Pt P} {B:Env} {F:Fz} {M:Mem} {w:World} {L:ay}
theorem jb.Bg{β:Type}{J:β->Fz->(Nat->Prop)->World->Prop}(h:jb P J)(b:β):jb P (fun(_:Unit)=>J b):=fun _=>h b
theorem jo.RR{k t:Nat}{ds:List D}(h:jo F w B k t ds)(hb:Ac ds=true){b:Nat}(hk:bT B k=some b):∀j,¬F b j:=by
 cases h with
 |box _ b' vs hB hr hfl hh hnf=>rw[fG hB] at hk;cases hk;exact hnf
 |row m d enc l p n cap hB h=>cases hb
 |map kk ag d enc l b' hB h=>cases hb
 |obj b' o' S hB hh=>cases hb
theorem EE(h:vA L=true){k t:Nat}{ds:List D}(hm:aM L k t ds):Ac ds=true:=List.all_eq_true.1 h _ hm
def Pt.mid(w0:Pt P)(W:World)(sh:Shp P W)(O:Nat->Prop)(hO:∀b,O b->P.low<=b):Pt P :=
 { w:=W,own:=O,env:=w0.env,low:=w0.low,sh:=sh,high:=hO,rnd:=w0.rnd,defs:=w0.defs }
theorem Base.kC(hb:Base F0 w0 B F (aM L) w):∀b,OwnB B L b->P.low<=b:=fun b ⟨k,t,ds,hm,hk⟩=>Pt.sq (hb.new k t ds b hm hk)
theorem Base.mid(hb:Base F0 w0 B F (aM L) w):Base F (w0.mid w hb.shp (OwnB B L) hb.kC) B F (aM L) w :=
 ⟨hb.boxes,fun k t ds b hm hk=>.inr ⟨k,t,ds,hm,hk⟩,hb.inj,hb.frz,fun _ _ h=>.inl h,Grow.refl _ _,dX.refl _ _ _,hb.env⟩
def uj(D:Nat):Deferred:={ target:=.collected D,args:=#[] }
structure AtI(I:Fz->(Nat->Prop)->World->Prop)(X:Nat->Prop)(Fx:Fz)(W:World)(F0:Fz)(w0:Pt P):Prop where
 inv:I F0 (fun b=>w0.own b\/X b) w0.w
 lt:∀b,w0.own b\/X b->b<w0.w.heap.size
 dis:∀b,X b->¬w0.own b
 frz:∀g k,F0 g k->g<w0.w.heap.size/\¬(w0.own g\/X g)
 marks:∃ms:List Nat,w0.defs=ms.map uj/\ms.Nodup/\∀D∈ms,X D/\W.heap[D]? = some (.deferred (some []))
 high:∀b,X b->P.low<=b
 kept:∀b,X b->w0.w.heap[b]? = W.heap[b]?
 size:W.heap.size<=w0.w.heap.size
 ref:Grow Fx F0 W w0.w
variable {I:Fz->(Nat->Prop)->World->Prop} {X:Nat->Prop} {Fx:Fz} {W:World}
theorem AtI.mid(h:AtI I X Fx W F0 w0)(hs:jb P (fun(_:Unit)=>I))(hb:Base F0 w0 B F (aM L) w)(hbox:vA L=true):AtI I X Fx W F (w0.mid w hb.shp (OwnB B L) hb.kC):=by
 have hsz:=hb.below.size
 have hoff:∀g k,F g k->¬(OwnB B L g\/X g):=fun g k hF hu=>by
  rcases hu with⟨k',t,ds,hm,hk⟩|hu
  ·exact(hb.boxes _ _ _ hm).RR (EE hbox hm) hk _ hF
  ·rcases hb.more g k hF with h1|h1|h1
   ·exact(h.frz g k h1).2 (.inr hu)
   ·have:=h.lt g (.inr hu);omega
   ·exact h.dis g hu h1
 have hlt:∀b,OwnB B L b\/X b->b<w.heap.size:=fun b hu=>by
  rcases hu with⟨k',t,ds,hm,hk⟩|hu
  ·exact(hb.boxes _ _ _ hm).lt hk
  ·have:=h.lt b (.inr hu);omega
 have hkept:∀b,X b->w.heap[b]? = w0.w.heap[b]?:=fun b hx=>hb.below.block b (h.lt b (.inr hx)) (h.dis b hx)
 refine⟨hs () _ _ _ _ _ _ h.inv ⟨⟨hb.below.os,hb.below.tape,hb.below.output,hsz,fun k hk hu=>hb.below.block k hk fun ho=>hu (.inl ho)⟩,hb.grow,fun g k hF=>?_,hb.frz,hoff,fun b hu=>?_,hlt,hb.shp⟩,hlt,fun b hx ⟨k,t,ds,hm,hk⟩=>?_,fun g k hF=>⟨hb.frz g k hF,hoff g k hF⟩,h.marks,h.high,fun b hx=>(hkept b hx).trans (h.kept b hx),Nat.le_trans h.size hsz,h.ref.trans hb.grow⟩
 ·rcases hb.more g k hF with h1|h1|h1
  ·exact .inl h1
  ·exact .inr (.inl h1)
  ·exact .inr (.inr (.inl h1))
 ·rcases hu with⟨k',t,ds,hm,hk⟩|hu
  ·rcases hb.new _ _ _ b hm hk with h1|h1
   ·exact .inr h1
   ·exact .inl (.inl h1)
  ·exact .inl (.inr hu)
 ·rcases hb.new _ _ _ b hm hk with h1|h1
  ·have:=h.lt b (.inr hx);omega
  ·exact h.dis b hx h1
theorem AtI.given{I2:Fz->(Nat->Prop)->World->Prop}(h:AtI I X Fx W F w1){F2:Fz}{w2:World}(hg:Ju P F (fun b=>w1.own b\/X b) w1.w F2 w2)(h2:I2 F2 (fun b=>w1.own b\/X b) w2):AtI I2 X Fx W F2 (w1.mid w2 hg.adv.shp w1.own w1.high) :=
 ⟨h2,fun b hu=>Nat.lt_of_lt_of_le (h.lt b hu) hg.size,h.dis,fun g k hF=>⟨hg.adv.frz g k hF,hg.off g k hF⟩,h.marks,h.high,fun b hx=>(hg.kept b (.inr hx)).trans (h.kept b hx),Nat.le_trans h.size hg.size,h.ref.trans hg.adv.grow⟩
end
def MW(C:Nat->List D->D->Prop)(CB:Nat->List D->ay->D->ay->Prop)(Γ:Nat->Option TI)(nt:Nat)(orc:List (Nat×D))(orb:List (Nat×CBd))(l:List Oper)(fz:List (Nat×List Nat))(i:Nat)(K:List (Nat×D))(L:ay)(kk kl:List Nat)(b:Bool):Option (Value×List D×List (Nat×D)×ay×List Prop) :=
 if l.all ndB then
  match l[i]?,mC C CB Γ nt orc orb l fz (l.take i) 0 (oJ K L) with
  |some o,some s =>
   (match o.op,o.dst,jE l s.K o.guard with
   |.call c,some td,some g =>
    (match c.callee,getAll (getOp s.K g) c.args.toList with
    |.value x,some ds =>
     (match getOp s.K g x,mC C CB Γ nt orc orb l fz (l.drop (i+1)) (i+1) { K:=iN ⟨td,i+1,g,.val (.bool b)⟩ s.K,L:=s.L,tab:=fD i (.val (.bool b)) s.tab,obl:=s.obl } with
     |some (.val v),some s3=>if td<nt/\D.cH ds=true/\holds s.tab g=true/\vA s.L=true then(match qC s3.K kk,iZ s3.L kl with|some K',some L'=>some (v,ds,K',L',s3.obl)|_,_=>none) else none
     |_,_=>none)
    |_,_=>none)
   |_,_,_=>none)
  |_,_=>none
 else none
section
variable {P:Program} {Γ:Nat->Option TI} {nt:Nat} {F0:Fz} {w0:Pt P} {K:List (Nat×D)} {L:ay} {Q:Exit->Act->World->Prop}
theorem Dh{C:Nat->List D->D->Prop}{CB:Nat->List D->ay->D->ay->Prop}{orc:List (Nat×D)}{orb:List (Nat×CBd)}{l:List Oper}{fz:List (Nat×List Nat)}{i:Nat}{kk kl:List Nat}{b:Bool}{v:Value}{r:List D×List (Nat×D)×ay×List Prop}
  (h:MW C CB Γ nt orc orb l fz i K L kk kl b=some (v,r)):l.all ndB=true/\∃o s c td g x s3,l[i]? = some o/\mC C CB Γ nt orc orb l fz (l.take i) 0 (oJ K L)=some s/\o.op=.call c/\o.dst=some td/\jE l s.K o.guard=some g/\c.callee=.value x/\getAll (getOp s.K g) c.args.toList=some r.1 /\
   getOp s.K g x=some (.val v)/\mC C CB Γ nt orc orb l fz (l.drop (i+1)) (i+1) { K:=iN ⟨td,i+1,g,.val (.bool b)⟩ s.K,L:=s.L,tab:=fD i (.val (.bool b)) s.tab,obl:=s.obl }=some s3/\td<nt/\D.cH r.1=true/\qC s3.K kk=some r.2.1/\iZ s3.L kl=some r.2.2.1/\holds s.tab g=true/\vA s.L=true/\r.2.2.2=s3.obl:=by
 unfold MW at h
 split at h
 rotate_left
 ·cases h
 rename_i hnd
 split at h
 rotate_left
 ·cases h
 rename_i o s ho hs
 split at h
 rotate_left
 ·cases h
 rename_i c td g h1 h2 h3
 split at h
 rotate_left
 ·cases h
 rename_i x ds h4 h5
 split at h
 rotate_left
 ·cases h
 rename_i v' s3 h6 h7
 split at h
 rotate_left
 ·cases h
 rename_i hc
 split at h
 rotate_left
 ·cases h
 rename_i K' L' hk hl
 obtain⟨hc1,hc2,hc3,hc4⟩:=hc
 cases h
 exact⟨hnd,o,s,c,td,g,x,s3,ho,hs,h1,h2,h3,h4,h5,h6,h7,hc1,hc2,hk,hl,hc3,hc4,rfl⟩
theorem Wp.Be(hΓ:ΓOK P Γ){id:Nat}{l:List Oper}(i l0:Nat)(fz:List (Nat×List Nat))(orc:List (Nat×D))(orb:List (Nat×CBd))(kk kl:List Nat){α:Type}{encs:α->List D}{J:List α->Fz->(Nat->Prop)->World->Prop}{Jx:Fz->(Nat->Prop)->World->Prop}(hs:jb P J)(hY:sH P l0 encs J Jx)(x:α)(r:List α){X:Nat->Prop}{Fx:Fz}{W:World}
  (hat:AtI (J (x::r)) X Fx W F0 w0) (K2:Bool->List (Nat×D)) (L2:Bool->ay) (ob:Bool->List Prop)
  (h:∀b,MW (CX P) (aY P) Γ nt orc orb l fz i K L kk kl b=some (.func (.yield l0) #[] #[],encs x,K2 b,L2 b,ob b)) (hob:∀b,ax (ob b))
  (hn:∀(b:Bool)(F1:Fz)(w1:Pt P),w1.rnd=w0.rnd->w1.env=w0.env->(if b=true then AtI (J r) X Fx W F1 w1 else AtI Jx X Fx W F1 w1)->To nt F1 w1 (K2 b) (L2 b) .normal Q) :
  Wp P nt F0 w0 K L (.region id l.toArray false) Q:=by
 rintro a w ⟨B,F,hb,hd,hsz,hK⟩
 obtain⟨hnd,o,s,c,td,g,xv,s3,ho,hs',hop,hdst,hg,hcal,hds,hx,hs3,htd,hno,hkk,hkl,hgt,hbl,hobl⟩:=Dh (h true)
 obtain⟨_,o',s',c',td',g',x',s4,ho',hs'',hop',hdst',hg',_,_,_,hs4,_,_,hkk4,hkl4,_,_,hobl4⟩:=Dh (h false)
 rw[ho] at ho';cases ho'
 rw[hs'] at hs'';cases hs''
 rw[hdst] at hdst';cases hdst'
 rw[hg] at hg';cases hg'
 simp only at hds hno hkk hkk4 hkl hkl4 hobl hobl4
 refine XC.nrm (wpIn_region_lit ?_)
 have hil:i<l.length:=(List.getElem?_eq_some_iff.1 ho).1
 have hsplit:l=l.take i++(o::l.drop (i+1)):=by
  have h1:l.drop i=o::l.drop (i+1):=by
   rw[List.drop_eq_getElem_cons hil]
   congr 1
   rw[List.getElem?_eq_getElem hil] at ho
   exact Option.some.inj ho
  rw[<-h1,List.take_append_drop]
 have hndl:=Qq hnd
 have hobs:∀p∈s.obl,p:=fun p hp=>ax.mem (hob true) p (by rw[hobl];exact uz _ _ hs3 p hp)
 have key:wpListIn (Fr w0.rnd) 0 P l.toArray (nrm Q) (l.take i++(o::l.drop (i+1))) a w:=by
  refine uK (fun o ho=>hndl o (List.mem_of_mem_take ho)) ?_
  have h0:=tH (Q:=JR w0.rnd P l.toArray (nrm Q) (o::l.drop (i+1))) hΓ [] (l.take i) 0 (fun j hj=>?_) hs' hobs (uw hb hd hsz hK) fun B' F' a' w' hi=>wpList_nil ?_
  ·rwa[List.append_nil] at h0
  ·have hj':j<i:=by rw[List.length_take] at hj;omega
   rw[Nat.zero_add,List.getElem?_take,if_pos hj']
  ·have hlt:0+(l.take i).length=i:=by rw[List.length_take];omega
   rw[hlt] at hi
   show wpListIn (Fr w0.rnd) 0 P l.toArray (nrm Q) (o::l.drop (i+1)) a' w'
   unfold wpListIn
   obtain⟨hw,hgS⟩:=F6 hi hg (o:=o) rfl
   have hod:((l[i]?).bind (·.dst))=some td:=by rw[ho];exact hdst
   have htab:∀(b:Bool)(j:Nat),j≠i->tv (fD i (.val (.bool b)) s.tab) j=tv s.tab j:=fun b j hj=>yC hj
   have hself:∀(b b':Bool),D.val (.bool b)=.val (.bool b')->tv (fD i (.val (.bool b)) s.tab) i=b':=fun b b' e=>by cases e;simp[fD,tv]
   rw[if_pos (hw.trans hgt)]
   have hatm:=hat.mid (hs.Bg (x::r)) hi.base hbl
   have hget:=bY (g:=g) hi.ents hgt
   have hargs:=fM.all hget _ _ hds
   obtain⟨fnr,tmps,assign,body,hrun,hround⟩:=hY w0.rnd x r F' _ w' _ hatm.inv hatm.frz hatm.lt hi.base.shp (hargs.bare hno)
   have hv0:a'.eval xv=.func (.yield l0) #[] #[]:=by
    have:=hget xv _ hx
    generalize a'.eval xv=v at this ⊢
    cases this;rfl
   have e1:(o.semAt (Fr w0.rnd).round a'.eval).run P w'=.ok (.round l0 fnr tmps assign body) w':=by
    rw[Oper.semAt_eq _ _ _ (fun c' hc'=>by rw[hop] at hc';cases hc')]
    have hag:(c.args.map a'.eval)=(c.args.toList.map a'.eval).toArray:=by rw[<-Array.toList_map,Array.toArray_toList]
    unfold execOp
    simp only[hop,resolve,hcal,Deferred.ofValue,hv0,Sem.run_bind,Sem.run_pure,Result.andThen_ok,invoke]
    rw[hag,Array.empty_append]
    exact hrun
   unfold Oper.wpIn
   refine⟨fun _ _=>trivial,?_⟩
   rw[e1]
   refine⟨fun h=>(by cases h),RoundIn.mono hround fun e w2 he=>?_⟩
   obtain⟨F2,hgiv,he⟩:=he
   obtain⟨b,rfl,hat2⟩:∃b:Bool,e=.returned (.bool b)/\(if b=true then AtI (J r) X Fx W F2 ((w0.mid w' hi.base.shp (OwnB B' s.L) hi.base.kC).mid w2 hgiv.adv.shp (OwnB B' s.L) hi.base.kC) else AtI Jx X Fx W F2 ((w0.mid w' hi.base.shp (OwnB B' s.L) hi.base.kC).mid w2 hgiv.adv.shp (OwnB B' s.L) hi.base.kC)):=by
    rcases he with⟨h1,h2⟩|⟨h1,h2⟩
    ·exact⟨true,h1,by rw[if_pos rfl];exact hatm.given hgiv h2⟩
    ·exact⟨false,h1,by rw[if_neg (by decide)];exact hatm.given hgiv h2⟩
   show wpListIn (Fr w0.rnd) 0 P l.toArray (nrm Q) (l.drop (i+1)) (a'.put o.dst (.bool b)) w2
   rw[hdst]
   have hbase:Base F2 ((w0.mid w' hi.base.shp (OwnB B' s.L) hi.base.kC).mid w2 hgiv.adv.shp (OwnB B' s.L) hi.base.kC) B' F2 (aM s.L) w2:=by
    refine⟨fun k t ds hm=>?_,fun k t ds b hm hk=>.inr ⟨k,t,ds,hm,hk⟩,hi.base.inj,hgiv.adv.frz,fun _ _ h=>.inl h,Grow.refl _ _,dX.refl _ _ _,hi.base.env⟩
    refine(hi.base.boxes _ _ _ hm).grow hgiv.adv.grow rfl (fun _ _ _ h=>h) fun b hbk=>⟨hgiv.kept b (.inl ⟨k,t,ds,hm,hbk⟩),fun j hj=>absurd (.inl ⟨k,t,ds,hm,hbk⟩) (hgiv.off b j hj)⟩
   have hi2:gK nt l F2 ((w0.mid w' hi.base.shp (OwnB B' s.L) hi.base.kC).mid w2 hgiv.adv.shp (OwnB B' s.L) hi.base.kC) B' F2 s (fun j=>j<i) a' w2 :=
    ⟨hbase,hi.defers,hi.size,fun e he=>let ⟨q1,q2⟩:=hi.ents e he;⟨fun hh=>let ⟨v,r1,r2⟩:=q1 hh;⟨v,r1,r2.grow hgiv.adv.grow⟩,q2⟩,hi.keys,hi.srcs,hi.mW⟩
   have hi3:=iq (i:=i) (S':=fun j=>j<i+1) hi2 (by simp) (fun j hj=>Nat.lt_succ_of_lt hj) (Nat.lt_succ_self i) (fun e he=>⟨he,hi2.ents e he⟩) hbase (t:=td) (g:=g) (d:=.val (.bool b)) (v:=.bool b) (tab':=fD i (.val (.bool b)) s.tab) (ob:=s.obl) htd hgS (htab b) (hself b) hod ⟨fun _=>.val _ rfl,fun hh=>by rw[show holds s.tab g=true from hgt] at hh;cases hh⟩
   cases b with
   |true=>exact u7 yE (fun o ho=>hndl o (List.mem_of_mem_drop ho)) (qD hΓ (l.drop (i+1)) (i+1) (fun j=>by rw[List.getElem?_drop]) hs3 (by rw[<-hobl];exact ax.mem (hob true)) hi3 fun B'' F'' a'' w'' hi4=>hn true F2 ((w0.mid w' hi.base.shp (OwnB B' s.L) hi.base.kC).mid w2 hgiv.adv.shp (OwnB B' s.L) hi.base.kC) rfl rfl hat2 a'' w'' (sC hi4 hkk hkl))
   |false=>exact u7 yE (fun o ho=>hndl o (List.mem_of_mem_drop ho)) (qD hΓ (l.drop (i+1)) (i+1) (fun j=>by rw[List.getElem?_drop]) hs4 (by rw[<-hobl4];exact ax.mem (hob false)) hi3 fun B'' F'' a'' w'' hi4=>hn false F2 ((w0.mid w' hi.base.shp (OwnB B' s.L) hi.base.kC).mid w2 hgiv.adv.shp (OwnB B' s.L) hi.base.kC) rfl rfl hat2 a'' w'' (sC hi4 hkk4 hkl4))
 rw[<-hsplit] at key
 exact key
theorem To.pR{F1:Fz}{w1:Pt P}{ro:Option Nat}{y:Code}(hr:w1.rnd=ro)(h:Wp P nt F1 w1 K L y Q):To nt F1 w1 K L .normal (Exit.then (fun a w=>XC ro P y Q a w) Q):=by
 subst hr;exact h
theorem To.QU{F1:Fz}{w1:Pt P}{ro:Option Nat}{c:Code}(hr:w1.rnd=ro)(h:WL P nt F1 w1 K L c Q):To nt F1 w1 K L .normal (Exit.then (fun a w=>Lp ro P c Q a w) Q):=by
 subst hr;exact h
end
end Go.Proofs.YtefojkdckfidcaaGreatDoor.RX
namespace Go.Proofs.YtefojkdckfidcaaGreatDoor.RX
open Go.RowKit
section
variable {P:Program} {Γ:Nat->Option TI} {nt:Nat} {F0 F1:Fz} {w0 w1:Pt P} {K K':List (Nat×D)} {L L':ay} {Q:Exit->Act->World->Prop} {B:Env} {F:Fz} {w:World}
theorem vO{r:Nat}{o o':Obj}(ho:w.heap[r]? = some o)(hbk:rI o=true)(hbk':rI o'=true)(F:Fz):Grow F F w (w.putObj r o'):=⟨fun _ _ h=>h,fun g k _=>by
 unfold World.cell?
 by_cases e:g=r
 ·subst e
  have hlt:g<w.heap.size:=(Array.getElem?_eq_some_iff.1 ho).1
  simp only[ho,World.putObj_heap_same hlt]
  cases o with
  |loop _=>cases o'<;>first|rfl|cases hbk'
  |deferred _=>cases o'<;>first|rfl|cases hbk'
  |_=>cases hbk
 ·simp only[World.putObj_heap_other e]⟩
theorem Pz{r:Nat}{o:Obj}(hsh:Shp P w)(hr:P.low<=r):Shp P (w.putObj r o):=by
 obtain⟨w0,h1,h2,h3⟩:=hsh
 exact⟨w0,h1,by rw[World.putObj_size];exact h2,fun k hk=>(World.putObj_heap_other (by omega)).trans (h3 k hk)⟩
theorem oH{U:Nat->Prop}{r:Nat}{o o':Obj}(ho:w.heap[r]? = some o)(hbk:rI o=true)(hbk':rI o'=true)(hr:P.low<=r)(hU:U r)(hf:∀g k,F g k->g<w.heap.size/\¬U g)(hlt:∀b,U b->b<w.heap.size)(hsh:Shp P w):iY P F U w F U (w.putObj r o') :=
 ⟨⟨rfl,rfl,rfl,by rw[World.putObj_size];exact Nat.le_refl _,fun k _ hk=>World.putObj_heap_other fun e=>hk (e▸hU)⟩,vO ho hbk hbk' F,fun _ _ h=>.inl h,fun g k h=>by rw[World.putObj_size];exact(hf g k h).1,fun g k h=>(hf g k h).2,fun _ h=>.inl h,fun b h=>by rw[World.putObj_size];exact hlt b h,Pz hsh hr⟩
def AA(J:Fz->(Nat->Prop)->World->Prop)(Jx:Fz->(Nat->Prop)->World->Prop)(e:Ending)(w':World):Prop:=(∃v,e=.returned v)/\∃F' U',J F' U' w'\/Jx F' U' w'
theorem Ho(hΓ:ΓOK P Γ){fn:Func}{r:D}(hres:vK Γ [] [] fn.results.toList=some r){tmps:Array Value}{R:Ending->World->Prop}{I:Fz->(Nat->Prop)->World->Prop}(hs:jb P (fun(_:Unit)=>I)){U:Nat->Prop}(hR:∀v w,I F U w->R (.returned v) w):∀(ms:List Nat)(w:World),ms.Nodup->(∀D∈ms,U D/\P.low<=D/\w.heap[D]? = some (.deferred (some [])))->I F U w->(∀g k,F g k->g<w.heap.size/\¬U g)->(∀b,U b->b<w.heap.size)->Shp P w ->
  LeavesInM (Fr none) 0 P fn tmps R (ms.map uj) .returning w
 |[],w,_,_,hI,hf,_,hsh=>by
  obtain⟨_,v,h5,_⟩:=To.done (P:=P) (nt:=tmps.size) (F0:=fun _ _=>False) (K:=[]) (L:=[]) hΓ (hsh:=hsh) hres { tmps:=tmps,defers:=[] } w ⟨NB,fun _ _=>False,⟨(fun k t ds hl=>by simp[aM] at hl),(fun k t ds b hl=>by simp[aM] at hl),(fun i j b hi=>by obtain⟨t,ds,hx⟩:=hi;simp[aM] at hx),fun _ _ h=>h.elim,fun g k h=>.inl h,Grow.refl _ _,dX.refl _ _ _,fun k b h=>by cases h⟩,rfl,rfl,fun x hx=>by cases hx⟩
  exact⟨v,h5,hR v w hI⟩
 |D::ms,w,hnd,hm,hI,hf,hlt,hsh=>by
  obtain⟨n1,n2⟩:=List.nodup_cons.1 hnd
  obtain⟨hD1,hD2,hD3⟩:=hm D List.mem_cons_self
  have ht:=oH (P:=P) (o':=.deferred none) hD3 rfl rfl hD2 hD1 hf hlt hsh
  refine⟨by simp,.inl ⟨D,_,rfl,run_takeDeferred hD3,Ho hΓ hres hs hR ms _ n2 (fun E hE=>?_) (hs () _ _ _ _ _ _ hI ht) (fun g k h=>by rw[World.putObj_size];exact hf g k h) (fun b h=>by rw[World.putObj_size];exact hlt b h) ht.shp⟩⟩
  obtain⟨e1,e2,e3⟩:=hm E (List.mem_cons_of_mem _ hE)
  exact⟨e1,e2,(World.putObj_heap_other (by intro e;subst e;exact n1 hE)).trans e3⟩
theorem To.Kt(hΓ:ΓOK P Γ){fn:Func}{r:D}(hres:vK Γ [] [] fn.results.toList=some r){I:Fz->(Nat->Prop)->World->Prop}(hs:jb P (fun(_:Unit)=>I)){R:Ending->World->Prop}(hR:∀F U v w,I F U w->R (.returned v) w){X:Nat->Prop}{Fx:Fz}{W:World}(hat:AtI I X Fx W F1 w1)(hbox:vA L=true):To nt F1 w1 K L .ret (bodyPostM (Fr none) 0 P fn R):=by
 rintro a w ⟨B,F,hb,hd,hs',hK⟩
 have hm:=hat.mid hs hb hbox
 obtain⟨ms,m1,m2,m3⟩:=hm.marks
 show LeavesInM (Fr none) 0 P fn a.tmps R a.defers .returning w
 rw[hd,show w1.defs=ms.map uj from m1]
 exact Ho hΓ hres hs (hR F _) ms w m2 (fun D hD=>⟨.inr (m3 D hD).1,hm.high D (m3 D hD).1,(hm.kept D (m3 D hD).1).trans (m3 D hD).2⟩) hm.inv hm.frz hm.lt hb.shp
theorem To.RE(hΓ:ΓOK P Γ){fn:Func}{r:D}(hres:vK Γ [] [] fn.results.toList=some r){I:Fz->(Nat->Prop)->World->Prop}(hs:jb P (fun(_:Unit)=>I)){R:Ending->World->Prop}(hR:∀F U v w,I F U w->R (.returned v) w){X:Nat->Prop}{Fx:Fz}{W:World}(hat:AtI I X Fx W F1 w1)(hbox:vA L=true):To nt F1 w1 K L .normal (bodyPostM (Fr none) 0 P fn R):=fun a w hst =>
 To.Kt (nt:=nt) (K:=K) (L:=L) hΓ hres hs hR hat hbox a w hst
theorem O0{g : Nat}{fn : Func}{c : Code}{ds : List D}{α : Type}{encs : α->List D}{xs : List α}(hf : P.funcs[g]? = some fn)(hbody : fn.body=some c)(hname : (fn.name == "runtime.NumGoroutine")=false)(hn : ds.length+1<=fn.ntmps)
  (h:∀(l:Nat)(J:List α->Fz->(Nat->Prop)->World->Prop)(Jx:Fz->(Nat->Prop)->World->Prop),jb P J->jb P (fun(_:Unit)=>Jx)->sH P l encs J Jx ->
   ∀(F0:Fz)(wt:World)(hsh:Shp P wt),AtI (J xs) (fun _=>False) F0 wt F0 (.top wt hsh) ->
    Wp P fn.ntmps F0 (.top wt hsh) ((D.val (.func (.yield l) #[] #[])::ds).zipIdx.map fun x=>(x.2,x.1)) [] c (bodyPostM (Fr none) 0 P fn (AA (J []) Jx))):wK P g ds encs xs:=by
 refine⟨⟨fn,hf,hname,by rw[hbody];rfl⟩,fun l J Jx hs hsx hy F w lb hJ hF hsh hr=>?_⟩
 have hr':aB F w NB (D.val (.func (.yield l) #[] #[])::ds) (.func (.yield l) #[] #[]::lb):=.cons _ _ _ _ (.val _ rfl) hr
 have hlen:=aB.length hr'
 have hargs:#[Value.func (.yield l) #[] #[]]++lb.toArray=(Value.func (.yield l) #[] #[]::lb).toArray:=by simp
 rw[hargs]
 have hJ':J xs F (fun b=>(Pt.top w hsh).own b\/False) w:=by
  have e:(fun b=>(Pt.top w hsh).own b\/False)=fun _=>False:=by funext b;exact propext ⟨fun h=>h.elim id id,False.elim⟩
  rw[e];exact hJ
 refine callsIn_of_wp_marks (F:=Fr none) hf hbody trivial (h l J Jx hs hsx hy F w hsh ⟨hJ',fun b h=>(h.elim id id).elim,fun _ h=>h.elim,fun g k h=>⟨hF g k h,fun h=>h.elim id id⟩,⟨[],rfl,.nil,fun _ h=>by cases h⟩,fun _ h=>h.elim,fun _ h=>h.elim,Nat.le_refl _,Grow.refl _ _⟩ _ w ⟨NB,F,?_,rfl,?_,fun x hx=>?_⟩)
 ·exact⟨(fun k t ds hl=>by simp[aM] at hl),(fun k t ds b hl=>by simp[aM] at hl),(fun i j b hi=>by obtain⟨t,ds,hx⟩:=hi;simp[aM] at hx),hF,fun g k h=>.inl h,Grow.refl _ _,dX.refl _ _ _,fun k b h=>by cases h⟩
 ·have h1:lb.length=ds.length:=by have:=hlen;simp only[List.length_cons] at this;omega
  simp;omega
 ·obtain⟨y,hy,rfl⟩:=List.mem_map.1 hx
  obtain⟨d,i⟩:=y
  have hd:(D.val (.func (.yield l) #[] #[])::ds)[i]? = some d:=by
   have:=List.mem_zipIdx_iff_getElem?.1 hy
   simpa using this
  obtain⟨v,hv,hrep⟩:=hr'.get i hd
  refine⟨v,?_,hrep⟩
  have hi:i<(Value.func (.yield l) #[] #[]::lb).length:=(List.getElem?_eq_some_iff.1 hv).1
  simp only
  rw[Array.getElem?_append_left (by simpa using hi)]
  simpa using hv
end
end Go.Proofs.YtefojkdckfidcaaGreatDoor.RX
namespace Go.Proofs.YtefojkdckfidcaaGreatDoor.RX
open Go.RowKit
def upD:D->D
 |.own k off=>.own (k+LIM) off
 |d=>d
def upK(x:Nat×D):Nat×D:=(x.1,upD x.2)
def Lup(L:ay):ay:=L.map fun x=>(x.1+LIM,x.2)
def Bup(B:Env):Env:=fun j=>if LIM<=j then B (j-LIM) else none
def tW(L:ay):Bool:=L.all fun x=>Ac x.2.2&&D.cH x.2.2
def N3(ks:List Nat):D->Bool
 |.own k _=>ks.contains k
 |d=>D.fA d
structure LB(env:Nat->Option Ref)(B:Env)(F:Fz)(L:ay)(w:World):Prop where
 boxes:∀k t ds,aM L k t ds->jo F w B k t ds
 inj:∀i j b,(∃t ds,aM L i t ds)->(∃t ds,aM L j t ds)->bT B i=some b->bT B j=some b->i=j
 frz:∀g k,F g k->g<w.heap.size
 env:∀k b,env k=some b->B k=some b
section
variable {P:Program} {F0 F1:Fz} {w0 w1:Pt P} {B B':Env} {F F':Fz} {w w':World} {L:ay} {env:Nat->Option Ref}
theorem Base.lb(hb:Base F0 w0 B F (aM L) w):LB w0.env B F L w:=⟨hb.boxes,hb.inj,hb.frz,hb.env⟩
theorem LB.base{p:Pt P}(h:LB p.env B F L p.w)(ho:∀b,OwnB B L b->p.own b):Base F p B F (aM L) p.w :=
 ⟨h.boxes,fun k t ds b hm hk=>.inr (ho b ⟨k,t,ds,hm,hk⟩),h.inj,h.frz,fun _ _ h=>.inl h,Grow.refl _ _,dX.refl _ _ _,h.env⟩
theorem jo.OE{k k' t:Nat}{ds:List D}(h:jo F w B k t ds)(hb:Ac ds=true)(hn:D.cH ds=true)(hB:B' k'=B k):jo F w B' k' t ds:=by
 cases h with
 |box _ b vs hB0 hr hfl hh hnf=>exact .box _ b vs (hB.trans hB0) (hr.bare hn) hfl hh hnf
 |row m d enc l p n cap hB h=>cases hb
 |map kk ag d enc l b' hB h=>cases hb
 |obj b' o' S hB hh=>cases hb
theorem jo.some{k t:Nat}{ds:List D}(h:jo F w B k t ds)(hb:Ac ds=true):∃b,B k=some (.box b):=by
 cases h with
 |box _ b vs hB0 hr hfl hh hnf=>exact⟨b,hB0⟩
 |row m d enc l p n cap hB h=>cases hb
 |map kk ag d enc l b' hB h=>cases hb
 |obj b' o' S hB hh=>cases hb
theorem oQ{k t:Nat}{ds:List D}:aM (Lup L) k t ds↔∃j,k=j+LIM/\aM L j t ds:=by
 constructor
 ·intro h
  obtain⟨⟨a,b⟩,hx,e⟩:=List.mem_map.1 (show(k,t,ds)∈L.map fun x=>(x.1+LIM,x.2) from h)
  cases e
  exact⟨a,rfl,hx⟩
 ·rintro⟨j,rfl,h⟩
  exact List.mem_map.2 ⟨(j,t,ds),h,rfl⟩
theorem Iy(k:Nat):Bup B (k+LIM)=B k:=by
 unfold Bup
 rw[if_pos (Nat.le_add_left _ _),Nat.add_sub_cancel]
theorem zW{k t:Nat}{ds:List D}(h:aM L k t ds):k∈L.map (·.1):=List.mem_map.2 ⟨(k,t,ds),h,rfl⟩
theorem zj{L:ay}{k:Nat}(h:k∈L.map (·.1)):∃t ds,aM L k t ds:=by
 obtain⟨x,hx,rfl⟩:=List.mem_map.1 h
 exact⟨x.2.1,x.2.2,hx⟩
theorem wI(h:tW L=true){k t:Nat}{ds:List D}(hm:aM L k t ds):Ac ds=true/\D.cH ds=true:=by
 have:=List.all_eq_true.1 h _ hm
 simpa using this
theorem sr(h:tW L=true):vA L=true:=List.all_eq_true.2 fun x hx=>by
 have:=List.all_eq_true.1 h x hx
 simp only[Bool.and_eq_true] at this
 exact this.1
theorem DZ(h:tW L=true):tW (Lup L)=true:=List.all_eq_true.2 fun x hx=>by
 obtain⟨y,hy,rfl⟩:=List.mem_map.1 hx
 exact List.all_eq_true.1 h y hy
def nL(B:Env)(ks:List Nat):Nat->Option Ref:=fun j=>if LIM<=j/\(j-LIM)∈ks then B (j-LIM) else none
theorem EZ(ks:List Nat):∀k,nL B ks k≠none->LIM<=k:=fun k h=>by
 unfold nL at h
 split at h
 ·rename_i hc;exact hc.1
 ·exact absurd rfl h
theorem LB.up(h:LB env B F L w)(hp:tW L=true):LB (nL B (L.map (·.1))) (Bup B) F (Lup L) w:=by
 refine⟨fun k t ds hm=>?_,fun i j b hi hj h1 h2=>?_,h.frz,fun k b hk=>?_⟩
 ·obtain⟨j,rfl,hm'⟩:=oQ.1 hm
  obtain⟨h1,h2⟩:=wI hp hm'
  exact(h.boxes _ _ _ hm').OE h1 h2 (Iy j)
 ·obtain⟨t,ds,hi⟩:=hi
  obtain⟨t',ds',hj⟩:=hj
  obtain⟨i',rfl,hi'⟩:=oQ.1 hi
  obtain⟨j',rfl,hj'⟩:=oQ.1 hj
  unfold bT at h1 h2
  rw[Iy] at h1 h2
  rw[h.inj i' j' b ⟨t,ds,hi'⟩ ⟨t',ds',hj'⟩ h1 h2]
 ·unfold nL at hk
  unfold Bup
  split at hk
  ·rename_i hc;rw[if_pos hc.1];exact hk
  ·cases hk
theorem LB.down{ks:List Nat}{B0:Env}(h:LB (nL B0 ks) B' F (Lup L) w)(hp:tW L=true)(hk:L.map (·.1)=ks)(hB0:∀k∈ks,∃b,B0 k=some b)(henv:∀k b,env k=some b->B0 k=some b):LB env B0 F L w:=by
 have pin:∀k t ds,aM L k t ds->B0 k=B' (k+LIM):=fun k t ds hm=>by
  have hkk:k∈ks:=hk▸zW hm
  obtain⟨b,hb⟩:=hB0 k hkk
  rw[hb]
  refine(h.env _ _ ?_).symm
  unfold nL
  rw[if_pos ⟨Nat.le_add_left _ _,by rw[Nat.add_sub_cancel];exact hkk⟩,Nat.add_sub_cancel];exact hb
 refine⟨fun k t ds hm=>?_,fun i j b hi hj h1 h2=>?_,h.frz,henv⟩
 ·obtain⟨h1,h2⟩:=wI hp hm
  exact(h.boxes _ _ _ (oQ.2 ⟨k,rfl,hm⟩)).OE h1 h2 (pin _ _ _ hm)
 ·obtain⟨t,ds,hi⟩:=hi
  obtain⟨t',ds',hj⟩:=hj
  unfold bT at h1 h2
  rw[pin _ _ _ hi] at h1
  rw[pin _ _ _ hj] at h2
  have:=h.inj (i+LIM) (j+LIM) b ⟨t,ds,oQ.2 ⟨i,rfl,hi⟩⟩ ⟨t',ds',oQ.2 ⟨j,rfl,hj⟩⟩ h1 h2
  omega
def Blk(B:Env)(ks:List Nat)(b:Nat):Prop:=∃k∈ks,bT B k=some b
theorem qd{ks:List Nat}(h:L.map (·.1)=ks):OwnB B L=Blk B ks:=by
 funext b
 refine propext ⟨fun⟨k,t,ds,hm,hk⟩=>⟨k,h▸zW hm,hk⟩,fun⟨k,hk,hb⟩=>?_⟩
 obtain⟨t,ds,hm⟩:=zj (h▸hk)
 exact⟨k,t,ds,hm,hb⟩
theorem J5{ks:List Nat}{B0:Env}{env:Nat->Option Ref}(he:∀k b,env k=some b->B' k=some b)(hpe:env=nL B0 ks)(hk:L.map (·.1)=ks)(hB0:∀k∈ks,∃b,B0 k=some b):OwnB B' (Lup L)=Blk B0 ks:=by
 have pin:∀k∈ks,B' (k+LIM)=B0 k:=fun k hkk=>by
  obtain⟨b,hb⟩:=hB0 k hkk
  rw[hb]
  refine he _ _ ?_
  rw[hpe]
  unfold nL
  rw[if_pos ⟨Nat.le_add_left _ _,by rw[Nat.add_sub_cancel];exact hkk⟩,Nat.add_sub_cancel];exact hb
 funext b
 refine propext ⟨fun⟨k,t,ds,hm,hb⟩=>?_,fun⟨k,hkk,hb⟩=>?_⟩
 ·obtain⟨j,rfl,hm'⟩:=oQ.1 hm
  have hj:j∈ks:=hk▸zW hm'
  refine⟨j,hj,?_⟩
  unfold bT at *
  rw[<-pin j hj];exact hb
 ·obtain⟨t,ds,hm⟩:=zj (hk▸hkk)
  refine⟨k+LIM,t,ds,oQ.2 ⟨k,rfl,hm⟩,?_⟩
  unfold bT at *
  rw[pin k hkk];exact hb
theorem LB.turn{U U':Nat->Prop}(hb:LB env B F L w)(hd:∀b,OwnB B L b->¬U b)(h:iY P F U w F' U' w'):LB env B F' L w':=by
 refine⟨fun k t ds hm=>?_,hb.inj,h.frz,hb.env⟩
 have hh:=hb.boxes _ _ _ hm
 refine hh.grow h.grow rfl (fun _ _ _ h=>h) fun b hbk=>?_
 have hlt:=hh.lt hbk
 have hu:=hd b ⟨k,t,ds,hm,hbk⟩
 refine⟨h.below.block b hlt hu,fun j hj=>?_⟩
 rcases h.more b j hj with h1|h1|h1
 ·exact h1
 ·omega
 ·exact absurd h1 hu
theorem LB.put{r:Nat}{o o':Obj}(hb:LB env B F L w)(hbox:vA L=true)(ho:w.heap[r]? = some o)(hbk:rI o=true)(hbk':rI o'=true):LB env B F L (w.putObj r o'):=by
 refine⟨fun k t ds hm=>?_,hb.inj,fun g k h=>by rw[World.putObj_size];exact hb.frz g k h,hb.env⟩
 have hh:=hb.boxes _ _ _ hm
 refine hh.grow (vO ho hbk hbk' F) rfl (fun _ _ _ h=>h) fun b hbl=>⟨World.putObj_heap_other fun e=>?_,fun _ h=>h⟩
 subst e
 have hno:Bo ds=true:=by
  have:=EE hbox hm
  revert this
  clear hh hm
  match ds with
  |[]=>intro _;rfl
  |[d]=>cases d<;>intro h<;>first|rfl|cases h
  |d::_::_=>intro _;cases d<;>rfl
 have:=hh.Jr hno hbl ho
 rw[hbk] at this;cases this
theorem iY.lift{U U' A A' Z:Nat->Prop}(ht:iY P F U w F' U' w')(hUA:∀b,U b->A b)(hA':∀b,A' b->Z b\/U' b)(hZA:∀b,Z b->A b)(hZ:∀b,Z b->b<w.heap.size/\¬U b)(hZF:∀g k,F g k->¬Z g):iY P F A w F' A' w':=by
 refine⟨⟨ht.below.os,ht.below.tape,ht.below.output,ht.below.size,fun k hk hn=>ht.below.block k hk fun hu=>hn (hUA k hu)⟩,ht.grow,fun g k hF=>?_,ht.frz,fun g k hF ha=>?_,fun b ha=>?_,fun b ha=>?_,ht.shp⟩
 ·rcases ht.more g k hF with h|h|h
  ·exact .inl h
  ·exact .inr (.inl h)
  ·exact .inr (.inr (hUA g h))
 ·rcases hA' g ha with h|h
  ·rcases ht.more g k hF with h1|h1|h1
   ·exact hZF g k h1 h
   ·have:=(hZ g h).1;omega
   ·exact(hZ g h).2 h1
  ·exact ht.off g k hF h
 ·rcases hA' b ha with h|h
  ·exact .inl (hZA b h)
  ·exact(ht.own b h).imp (hUA b) id
 ·rcases hA' b ha with h|h
  ·exact Nat.lt_of_lt_of_le (hZ b h).1 ht.below.size
  ·exact ht.lt b h
end
end Go.Proofs.YtefojkdckfidcaaGreatDoor.RX
