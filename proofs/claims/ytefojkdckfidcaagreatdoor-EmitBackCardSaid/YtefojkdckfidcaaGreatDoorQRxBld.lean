import Derived.Test.YtefojkdckfidcaaGreatDoorQRxIW
import Derived.Test.YtefojkdckfidcaaGreatDoorQRxAnyD
import Derived.Shelf.Strings.Builder1
import Derived.Test.YtefojkdckfidcaaGreatDoorProg
import Derived.Lib.IndexAny
import Derived.Laws.RangeAny
import Derived.Lib.OthersKept
import Derived.Shelf.RegionOpenPlain
import Derived.Deep.Draws
set_option linter.all false
namespace Go.Proofs.YtefojkdckfidcaaGreatDoor.RX
open Go.RowKit
theorem O9{F:Fz}{w:World}{B:Env}{k:Nat}{args:List Value}(h:aB F w B [.own k 0] args):∃b,B k=some (.box b)/\args=[.pointer (some ⟨b,0,none⟩)]:=by
 cases h with
 |cons _ v _ vs h hs =>
  cases hs
  cases h with
  |own _ _ b hB=>exact⟨b,hB,rfl⟩
structure Quiet(q:Option Nat)(w w':World):Prop where
 os:w'.os=w.os
 tape:w'.tape=w.tape
 output:w'.output=w.output
 size:w.heap.size<=w'.heap.size
 block:∀k,k<w.heap.size->q≠some k->w'.heap[k]? = w.heap[k]?
theorem Quiet.of{q:Option Nat}{w w':World}(h:Below w.heap.size w w'):Quiet q w w':=⟨h.os,h.tape,h.output,h.size,fun k hk _=>h.block k hk⟩
theorem wj{F:Fz}{w:World}:∀{l:Bs}{xs:List Value},aB F w NB (l.flatMap e8) xs->xs=l.map fun b=>Value.int .u8 (b.toNat:Int)
 |[],_,h=>by cases h;rfl
 |x::l,_,h=>by
  simp only[List.flatMap_cons,e8,List.singleton_append] at h
  cases h with
  |cons _ v _ vs hv hs =>
   cases hv
   rw[wj hs];rfl
theorem Ce{P:Program}{f T e:Nat}{l:Bs}(hf:FOK P f)
  (H:∀(b n cap:Nat)(q:Option Nat)(p:Value)(w:World),w.heap[b]? = some (.cells #[p,bD q n cap] T (0,0))->n=l.length->dH w e 1 q n cap (l.map fun b=>Value.int .u8 (b.toNat:Int)) ->
   Calls P f #[.pointer (some ⟨b,0,none⟩)] w fun ex w'=>ex=.returned (.string ⟨l.toArray⟩)/\Quiet q w w') :
  aZ P f [.own LIM 0] [(LIM,T,[.opt LIM,.bn (LIM+1)]),(LIM+1,e,[.aP false (0:UInt8) e8 l])] (.str l) [(LIM,T,[.opt LIM,.hole])]:=by
 refine⟨hf,fun F w1 B args hb hr=>?_⟩
 obtain⟨b,hB,rfl⟩:=O9 hr
 have hm:aN [(LIM,T,[D.opt LIM,.bn (LIM+1)]),(LIM+1,e,[D.aP false (0:UInt8) e8 l])] LIM T [.opt LIM,.bn (LIM+1)]:=List.mem_cons_self
 have hm2:aN [(LIM,T,[D.opt LIM,.bn (LIM+1)]),(LIM+1,e,[D.aP false (0:UInt8) e8 l])] (LIM+1) e [.aP false (0:UInt8) e8 l]:=List.mem_cons_of_mem _ List.mem_cons_self
 obtain⟨vs,hrv,hfl,hh,hnn,hnf⟩:=hb.xP hm hB
 obtain⟨q,n,cap,hBq,hn0,hpos,hge,xs,hxs,hown,hfz⟩:=hb.jX hm2
 have hx:=wj hxs
 subst hx
 cases hrv with
 |cons _ p _ vs h hs =>
  cases hs with
  |cons _ v _ vs' h1 hs =>
   cases hs
   obtain rfl:v=bD q n cap:=by
    cases h1 with
    |bn _ p' n' cap' hB'=>rw[hBq] at hB';cases hB';rfl
   have hflv:ja (bD q n cap)=true:=rfl
   have hqb:q≠some b:=fun e0=>by
    have:=hb.inj LIM (LIM+1) b ⟨_,_,hm⟩ ⟨_,_,hm2⟩ (fK hB) (by rw[dA hBq,e0])
    exact absurd this (by decide)
   have hblt:b<w1.w.heap.size:=(Array.getElem?_eq_some_iff.1 hh).1
   refine(H b n cap q p w1.w hh hn0 hown).mono ?_
   rintro ex w' ⟨rfl,hq⟩
   have hcell:∀g j,F g j->w'.heap[g]? = w1.w.heap[g]?:=fun g j hF=>hq.block g (hb.frz g j hF) fun e0=>by
    have:=(hfz g e0 j).1 hF
    simp at this
   refine⟨_,F,B,rfl,.str l,⟨fun k t ds hk=>?_,fun k t ds c hk hc=>?_,fun i j c hi hj _ _=>?_,fun g j hF=>Nat.lt_of_lt_of_le (hb.frz g j hF) hq.size,hb.more,⟨fun _ _ h=>h,fun g j hF=>World.cell?_of_block (hcell g j hF)⟩,⟨hq.os,hq.tape,hq.output,hq.size,fun k hk hno=>?_⟩,hb.env⟩⟩
   ·have:=List.mem_singleton.1 hk
    cases this
    refine .box _ b [p,bD q n cap] hB (.cons _ _ _ _ ?_ (.cons _ _ _ _ (.hole _ hflv) .nil)) rfl ((hq.block b hblt hqb).trans hh) hnf
    cases h with
    |opt _ b' _ hB' hp=>exact .opt _ b' _ hB' hp
   ·have:=List.mem_singleton.1 hk
    cases this
    exact hb.new _ _ _ c hm hc
   ·obtain⟨_,_,h1⟩:=hi
    obtain⟨_,_,h2⟩:=hj
    have h1:=List.mem_singleton.1 h1
    have h2:=List.mem_singleton.1 h2
    cases h1;cases h2;rfl
   ·refine hq.block k hk fun e0=>?_
    rcases hb.new _ _ _ k hm2 (by rw[dA hBq,e0]) with h|h
    ·omega
    ·exact hno h
end Go.Proofs.YtefojkdckfidcaaGreatDoor.RX
namespace Go.Proofs.YtefojkdckfidcaaGreatDoor.RX
open Go.Shelf Go.RowKit Go.Proofs
set_option maxHeartbeats 1000000 in
set_option maxRecDepth 100000 in
theorem Ha{P:Program}{ρ:Ren}(L:Lays.n169 P ρ)(X:Builder.Extra P ρ)(b g cap size:Nat)(p:Value)(l:Bs)(w:World)(hbk:w.heap[b]? = some (.cells #[p,.slice (some ⟨g,0,none⟩) l.length cap] (ρ.t 72) (0,0)))
  (hg:w.shape? g=some (ρ.t 5,size)) (h0:l≠[]) (hc:l.length<=cap) (hs:l.length<=size) (hmax:l.length<=maxLen) (hcells:∀j x,l[j]? = some x->w.cell? ⟨g,j,none⟩=some (.int .u8 x.toNat)) :
  Calls P (ρ.f 169) #[.pointer (some ⟨b,0,none⟩)] w fun e w'=>e=.returned (.string ⟨l.toArray⟩)/\w'=w.drew.freeze ⟨g,0,none⟩ l.length:=by
 have hl0:l.length≠0:=by simpa using h0
 have c1:w.drew.cell? ⟨b,1,none⟩=some (.slice (some ⟨g,0,none⟩) l.length cap):=by
  have:w.drew.heap[b]? = some (.cells #[p,.slice (some ⟨g,0,none⟩) l.length cap] (ρ.t 72) (0,0)):=hbk
  rw[Lib.cell_of_heap this];rfl
 have hSD:(Builtin.unsafeSliceData_ #[(ρ.t 37)] (ρ.t 127) #[.slice (some ⟨g,0,none⟩) l.length cap]).run P w.drew=.ok (.pointer (some ⟨g,0,none⟩)) w.drew :=
  Lib.run_unsafeSliceData_row _ _ _ _ _ _ (by omega)
 have hUS:(Builtin.unsafeString_ #[(ρ.t 127),(ρ.t 3)] (ρ.t 9) #[.pointer (some ⟨g,0,none⟩),.int .i64 l.length]).run P w.drew=.ok (.string ⟨l.toArray⟩) (w.drew.freeze ⟨g,0,none⟩ l.length) :=
  Lib.run_unsafeString_row w.drew (ρ.t 127) (ρ.t 3) (ρ.t 9) (ρ.t 5) L.t127 X.cellsByte g size hg l h0 hs (by unfold maxLen at hmax;omega) fun j x hx=>by
   have e:(⟨g,0,none⟩:Addr).add j=⟨g,j,none⟩:=by unfold Addr.add;split<;>simp_all
   rw[e];exact hcells j x hx
 have mixed:=L.mixed
 have z72:=L.z72;have v72:=L.v72;have u72:=run_underlying L.t72;have t72:=L.t72;have a72:=L.a72
 have z70:=L.z70;have v70:=L.v70;have u70:=run_underlying L.t70;have t70:=L.t70;have a70:=L.a70
 have z37:=L.z37;have v37:=L.v37;have u37:=run_underlying L.t37;have t37:=L.t37;have a37:=L.a37
 have z127:=L.z127;have v127:=L.v127;have u127:=run_underlying L.t127;have t127:=L.t127;have a127:=L.a127
 have z3:=L.z3;have v3:=L.v3;have u3:=run_underlying L.t3;have t3:=L.t3;have a3:=L.a3
 have z9:=L.z9;have v9:=L.v9;have u9:=run_underlying L.t9;have t9:=L.t9;have a9:=L.a9
 have z5:=X.z5;have v5:=X.v5;have u5:=run_underlying X.t5;have t5:=X.t5;have a5:=X.a5
 go_enter L.f169,Body.n169_ntmps ρ
 go_wp2
 go_region_o
 all_goals (go_wp2;go_ret;exact⟨rfl,rfl⟩)
theorem Gg(w:World)(g n:Nat):Quiet (some g) w (w.drew.freeze ⟨g,0,none⟩ n):=by
 unfold World.freeze
 split
 ·exact⟨rfl,rfl,rfl,Nat.le_refl _,fun _ _ _=>rfl⟩
 ·refine⟨rfl,rfl,rfl,?_,fun k hk hne=>?_⟩
  ·show w.heap.size<=(w.heap.modify g _).size
   rw[Array.size_modify];exact Nat.le_refl _
  ·have hk:g≠k:=fun e=>hne (congrArg some e)
   show(w.heap.modify g _)[k]? = w.heap[k]?
   rw[Array.getElem?_modify,if_neg hk]
set_option maxHeartbeats 2000000 in
set_option maxRecDepth 100000 in
theorem Fq{P:Program}{ρ:Ren}(L:Lays.n169 P ρ)(X:Builder.Extra P ρ)(b:Nat)(a:Addr)(sh:TypeId×Nat)(p:Value)(w:World)(hbk:w.heap[b]? = some (.cells #[p,.slice (some a) 0 0] (ρ.t 72) (0,0)))(hsh:w.shape? a.block=some sh) :
  Calls P (ρ.f 169) #[.pointer (some ⟨b,0,none⟩)] w fun e w'=>e=.returned (.string ⟨#[]⟩)/\Below w.heap.size w w':=by
 have hUS:=Any.unsafeString_none L X
 have hlt:b<w.heap.size:=(Array.getElem?_eq_some_iff.1 hbk).1
 have c1:w.drew.cell? ⟨b,1,none⟩=some (.slice (some a) 0 0):=by
  have:w.drew.heap[b]? = some (.cells #[p,.slice (some a) 0 0] (ρ.t 72) (0,0)):=hbk
  rw[Lib.cell_of_heap this];rfl
 have hSD:(Builtin.unsafeSliceData_ #[(ρ.t 37)] (ρ.t 127) #[.slice (some a) 0 0]).run P w.drew=.ok (.pointer (some ⟨w.drew.heap.size,0,none⟩)) (w.drew.alloc (.view a (ρ.t 5))) :=
  Lib.run_unsafeSliceData_zero w.drew _ _ (ρ.t 5) L.t127 a 0 sh hsh
 have c2:(w.drew.alloc (.view a (ρ.t 5))).cell? ⟨b,1,none⟩=some (.slice (some a) 0 0):=by
  have:(w.drew.alloc (.view a (ρ.t 5))).heap[b]? = _:=(Lib.alloc_old w.drew _ b hlt).trans hbk
  rw[Lib.cell_of_heap this];rfl
 have c3:(w.alloc (.view a (ρ.t 5))).drew.cell? ⟨b,1,none⟩=some (.slice (some a) 0 0):=c2
 have c0:w.cell? ⟨b,1,none⟩=some (.slice (some a) 0 0):=c1
 have mixed:=L.mixed
 have z72:=L.z72;have v72:=L.v72;have u72:=run_underlying L.t72;have t72:=L.t72;have a72:=L.a72
 have z70:=L.z70;have v70:=L.v70;have u70:=run_underlying L.t70;have t70:=L.t70;have a70:=L.a70
 have z37:=L.z37;have v37:=L.v37;have u37:=run_underlying L.t37;have t37:=L.t37;have a37:=L.a37
 have z127:=L.z127;have v127:=L.v127;have u127:=run_underlying L.t127;have t127:=L.t127;have a127:=L.a127
 have z3:=L.z3;have v3:=L.v3;have u3:=run_underlying L.t3;have t3:=L.t3;have a3:=L.a3
 have z9:=L.z9;have v9:=L.v9;have u9:=run_underlying L.t9;have t9:=L.t9;have a9:=L.a9
 have z5:=X.z5;have v5:=X.v5;have u5:=run_underlying X.t5;have t5:=X.t5;have a5:=X.a5
 go_enter L.f169,Body.n169_ntmps ρ
 go_wp2
 go_region_o
 all_goals (go_wp2;go_ret;exact⟨rfl,(Below.drew (Below.refl w.heap.size w)).alloc (Nat.le_refl _) _⟩)
theorem Hg{P:Program}{ρ:Ren}(L:Lays.n169 P ρ)(X:Builder.Extra P ρ)(l:Bs)(b n cap:Nat)(q:Option Nat)(p:Value)(w:World)(hbk:w.heap[b]? = some (.cells #[p,bD q n cap] (ρ.t 72) (0,0)))(hn:n=l.length)
  (hown:dH w (ρ.t 5) 1 q n cap (l.map fun b=>Value.int .u8 (b.toNat:Int))) :
  Calls P (ρ.f 169) #[.pointer (some ⟨b,0,none⟩)] w fun ex w'=>ex=.returned (.string ⟨l.toArray⟩)/\Quiet q w w':=by
 subst hn
 rcases hown.2 with⟨rfl,h0,rfl⟩|⟨g,cur,fz,rfl,hh,_,hnc,hcm,hsz,htk⟩
 ·have hl:l=[]:=List.eq_nil_of_length_eq_zero h0
  subst hl
  exact(Any.Builder_String_nil L X w.heap.size b p w hbk).mono fun e w' h=>⟨h.1,.of h.2⟩
 ·by_cases hl:l=[]
  ·subst hl
   by_cases hc0:cap=0
   ·subst hc0
    exact(Fq L X b ⟨g,0,none⟩ _ p w hbk (by simp[World.shape?,hh];rfl)).mono fun e w' h=>⟨h.1,.of h.2⟩
   ·exact(Any.Builder_String_room L X w.heap.size b g cap p w hc0 hbk).mono fun e w' h=>⟨h.1,.of h.2⟩
  ·refine(Ha L X b g cap cur.size p l w hbk (by simp[World.shape?,hh]) hl hnc (by omega) (by omega) fun j x hx=>?_).mono ?_
   ·exact hown.cells (by rw[List.getElem?_map,hx];rfl)
   ·rintro e w' ⟨rfl,rfl⟩
    exact⟨rfl,Gg w g _⟩
theorem rS{P:Program}{w:World}{t t2 ty e:Nat}{i:TypeInfo}{z:Value}{p:Option Nat}{n cap:Nat}(ht:P.underlying t=some (.slice e))(hi:P.info? e=some i)(hz:i.zero=some z)(hzs:z.cells.size=i.size)(hpos:0<i.size)
  (ht2:(∃e2,P.underlying t2=some (.slice e2))\/P.underlying t2=some .string)
  {xs:List Value} (hown:dH w e i.size p n cap xs)
  {x:Value} {m:Nat} {news:List Value} (hlen:∀w',(Builtin.lenOf x).run P w'=.ok m w') (hx:(Builtin.firstCells i.size m x).run P w=.ok news.toArray w) (hx':(Builtin.firstCells i.size m x).run P w.drew=.ok news.toArray w.drew)
  (hl:news.length=m*i.size) (h1:∀u∈news,u.oneCell'=true) (hb:(n+m)*(i.bytes+1)<=140737488355328) :
  ∃p' cap' w',(Builtin.append_ #[t,t2] ty #[bD p n cap,x]).run P w=.ok (bD p' (n+m) cap') w'/\dH w' e i.size p' (n+m) cap' (xs++news)/\((p'=p/\w.grownBy w' p)\/(p'=some w.heap.size/\w.grownBy w' none)):=by
 obtain⟨p',cap',w',v',g1,g2,g3,g4⟩:=uS (ty:=ty) (v0:=bD p n cap) (.inl rfl) ht hi hz hzs hpos ht2 hown hlen hx hx' hl h1 hb
 rcases g2 with rfl|⟨rfl,h0,rfl,q,rfl⟩
 ·exact⟨p',cap',w',g1,g3,g4⟩
 ·have hp:p=none:=by
   rcases g4 with⟨e,_⟩|⟨e,_⟩
   ·exact e.symm
   ·cases e
  subst hp
  have hn:n=0/\cap=0:=by
   rcases hown.2 with⟨_,h1,h2⟩|⟨_,_,_,h,_⟩
   ·exact⟨h1,h2⟩
   ·cases h
  obtain⟨rfl,rfl⟩:=hn
  obtain rfl:m=0:=by omega
  obtain rfl:news=[]:=List.eq_nil_of_length_eq_zero (by simpa using hl)
  have hd:(Builtin.append_ #[t,t2] ty #[bD none 0 0,x]).run P w=.ok (.slice none 0 0) w:=by
   rcases ht2 with⟨e2,ht2⟩|ht2<;>simp[bD,Builtin.append_,run_underlying ht,run_underlying ht2,sizeOf,typeInfo,hi,hlen,hx,storeCells]
  rw[hd] at g1
  injection g1 with e1 e2
  injection e1 with e1 _ _
  subst e1
  subst e2
  exact⟨none,0,w,hd,g3,g4⟩
open Go.Lib in
theorem wpList_append_run{P:Program}{w w':World}{v v' xv:Value}{ops:Array Oper}{rest:List Oper}{o:Oper}{a:Act}{Q:Exit->Act->World->Prop}(hgd:o.guard=none)(sl x:Operand)(t u:TypeId)
  (ho:o.op=.call { callee:=.builtin .append,args:=#[sl,x],argTypes:=#[t,u] }) (hs:a.eval sl=v) (hx:a.eval x=xv) (hr:(Builtin.append_ #[t,u] o.type #[v,xv]).run P w=.ok v' w')
  (h:wpList P ops Q rest (a.put o.dst v') w'):wpList P ops Q (o::rest) a w:=by
 refine wpList_plain hgd fun K hK=>?_
 unfold Oper.wp execOp
 simp only[ho,resolve,invoke,builtin,Sem.run_bind,Sem.run_pure,Result.andThen_ok,List.map_toArray,List.map_cons,List.map_nil,hs,hx,hr]
 exact hK _ _ h
structure xe(P:Program)(ρ:Ren):Prop where
 mixed:P.follows .mixedOrders=true
 t72 : P.underlying (ρ.t 72)=some (TypeDesc.struct #[{ name := "addr",type:=ρ.t 70,offset:=0,embedded:=false,tag := "",pkgPath := "strings",byteOffset:=0 },{ name := "buf",type:=ρ.t 37,offset:=1,embedded:=false,tag := "",pkgPath := "strings",byteOffset:=8 }])
 a72:∀w,(isAgg (ρ.t 72)).run P w=.ok true w
 z72:∀w,(Go.sizeOf (ρ.t 72)).run P w=.ok 2 w
 v72:∀w,(zeroValue (ρ.t 72)).run P w=.ok (Value.agg #[Value.pointer none,Value.slice none 0 0]) w
 t70:P.underlying (ρ.t 70)=some (TypeDesc.pointer (ρ.t 72))
 a70:∀w,(isAgg (ρ.t 70)).run P w=.ok false w
 z70:∀w,(Go.sizeOf (ρ.t 70)).run P w=.ok 1 w
 v70:∀w,(zeroValue (ρ.t 70)).run P w=.ok (Value.pointer none) w
 t37:P.underlying (ρ.t 37)=some (TypeDesc.slice (ρ.t 5))
 a37:∀w,(isAgg (ρ.t 37)).run P w=.ok false w
 z37:∀w,(Go.sizeOf (ρ.t 37)).run P w=.ok 1 w
 v37:∀w,(zeroValue (ρ.t 37)).run P w=.ok (Value.slice none 0 0) w
 t3:P.underlying (ρ.t 3)=some (TypeDesc.int IntKind.i64)
 a3:∀w,(isAgg (ρ.t 3)).run P w=.ok false w
 z3:∀w,(Go.sizeOf (ρ.t 3)).run P w=.ok 1 w
 v3:∀w,(zeroValue (ρ.t 3)).run P w=.ok (Value.int IntKind.i64 0) w
 t9:P.underlying (ρ.t 9)=some (TypeDesc.string)
 a9:∀w,(isAgg (ρ.t 9)).run P w=.ok false w
 z9:∀w,(Go.sizeOf (ρ.t 9)).run P w=.ok 1 w
 v9:∀w,(zeroValue (ρ.t 9)).run P w=.ok (Value.string { data:=#[] }) w
 e240:∀args w,(callFunc (ρ.f 240) args).run P w=.ok (.enter (ρ.f 240) args) w
 fresh:∀b w,w.cell? ⟨b,0,none⟩=some (.pointer none)->w.shape? b=some (ρ.t 72,2)->w.frozen? ⟨b,0,none⟩=false ->
  Calls P (ρ.f 240) #[.pointer (some ⟨b,0,none⟩)] w fun e w'=>e=.returned (.tuple #[])/\w'=w.setCell ⟨b,0,none⟩ (.pointer (some ⟨b,0,none⟩))
 used:∀b w,w.cell? ⟨b,0,none⟩=some (.pointer (some ⟨b,0,none⟩))->Calls P (ρ.f 240) #[.pointer (some ⟨b,0,none⟩)] w fun e w'=>e=.returned (.tuple #[])/\w'=w
set_option maxHeartbeats 2000000 in
set_option maxRecDepth 100000 in
theorem Rn{P:Program}{ρ:Ren}(L:xe P ρ)(hfn:P.funcs[ρ.f 166]? = some (Body.n166 ρ))(X:Builder.Extra P ρ)(b n cap:Nat)(q:Option Nat)(p:Value)(xs news:List Value)(s:ByteArray)(w:World)(hbk:w.heap[b]? = some (.cells #[p,bD q n cap] (ρ.t 72) (0,0)))
  (hp:p=.pointer none\/p=.pointer (some ⟨b,0,none⟩)) (hqb:q≠some b) (hown:dH w (ρ.t 5) 1 q n cap xs) (hnews:news.length=s.size) (h1:∀u∈news,u.oneCell'=true)
  (hx:∀w',(Builtin.firstCells 1 s.size (.string s)).run P w'=.ok news.toArray w') (hb:(n+s.size)*2<=140737488355328) :
  Calls P (ρ.f 166) #[.pointer (some ⟨b,0,none⟩),.string s] w fun e w'=>e=.returned (.tuple #[.int .i64 s.size,.nilIface])/\∃q' cap' w2,w'=w2.setCell ⟨b,1,none⟩ (bD q' (n+s.size) cap') /\
   w2.heap[b]? = some (.cells #[.pointer (some ⟨b,0,none⟩),bD q n cap] (ρ.t 72) (0,0))/\dH w2 (ρ.t 5) 1 q' (n+s.size) cap' (xs++news)/\∃w1,(w1=w\/w1=w.setCell ⟨b,0,none⟩ (.pointer (some ⟨b,0,none⟩)))/\((q'=q/\w1.grownBy w2 q)\/(q'=some w1.heap.size/\w1.grownBy w2 none)):=by
 obtain⟨i0,hi,hz0,hz1,hz2⟩:=info_parts X.infoByte
 have mixed:=L.mixed
 have z72:=L.z72;have v72:=L.v72;have u72:=run_underlying L.t72;have t72:=L.t72;have a72:=L.a72
 have z70:=L.z70;have v70:=L.v70;have u70:=run_underlying L.t70;have t70:=L.t70;have a70:=L.a70
 have z37:=L.z37;have v37:=L.v37;have u37:=run_underlying L.t37;have t37:=L.t37;have a37:=L.a37
 have z3:=L.z3;have v3:=L.v3;have u3:=run_underlying L.t3;have t3:=L.t3;have a3:=L.a3
 have z9:=L.z9;have v9:=L.v9;have u9:=run_underlying L.t9;have t9:=L.t9;have a9:=L.a9
 have z5:=X.z5;have v5:=X.v5;have u5:=run_underlying X.t5;have t5:=X.t5;have a5:=X.a5
 have e240:∀args w,(callFunc (ρ.f 240) args).run P w=.ok (.enter (ρ.f 240) args) w:=L.e240
 have hcc:Calls P (ρ.f 240) #[.pointer (some ⟨b,0,none⟩)] w fun e w1=>e=.returned (.tuple #[])/\(w1=w\/w1=w.setCell ⟨b,0,none⟩ (.pointer (some ⟨b,0,none⟩)))/\w1.heap[b]? = some (.cells #[.pointer (some ⟨b,0,none⟩),bD q n cap] (ρ.t 72) (0,0))/\dH w1 (ρ.t 5) 1 q n cap xs:=by
  rcases hp with rfl|rfl
  ·refine(L.fresh b w (by rw[Lib.cell_of_heap hbk];rfl) (by simp[World.shape?,hbk]) (Lib.frozen_of_heap hbk 0)).mono ?_
   rintro e w1 ⟨rfl,rfl⟩
   refine⟨rfl,.inr rfl,by simp[World.setCell,Array.getElem?_modify,hbk],?_⟩
   refine⟨hown.1,hown.2.imp id ?_⟩
   rintro⟨g,cur,fz,rfl,hh,h⟩
   refine⟨g,cur,fz,rfl,?_,h⟩
   have hne:b≠g:=fun e=>hqb (congrArg some e.symm)
   simp[World.setCell,Array.getElem?_modify,hne,hh]
  ·refine(L.used b w (by rw[Lib.cell_of_heap hbk];rfl)).mono ?_
   rintro e w1 ⟨rfl,rfl⟩
   exact⟨rfl,.inl rfl,hbk,hown⟩
 have hlenS:∀w',(Builtin.lenOf (.string s)).run P w'=.ok s.size w':=fun w'=>by simp[Builtin.lenOf]
 go_enter hfn,Body.n166_ntmps ρ
 go_wp2_with (go_at_fn (ρ.f 240);refine hcc.mono ?_)
 rintro e w1 ⟨rfl,hw1,hbk1,hown1⟩
 have c0:w1.cell? ⟨b,0,none⟩=some (.pointer (some ⟨b,0,none⟩)):=by rw[Lib.cell_of_heap hbk1];rfl
 have c1:w1.cell? ⟨b,1,none⟩=some (bD q n cap):=by rw[Lib.cell_of_heap hbk1];rfl
 obtain⟨q',cap',w2,hA,hown2,hg⟩:=rS (P:=P) (w:=w1) (t:=ρ.t 37) (t2:=ρ.t 9) (ty:=ρ.t 37) (e:=ρ.t 5) (i:=i0) (p:=q) (n:=n) (cap:=cap) (xs:=xs) (x:=.string s) (m:=s.size) (news:=news) L.t37 hi hz0 (by rw[hz1];rfl) (by rw[hz1];decide) (.inr L.t9) (by rw[hz1];exact hown1) hlenS (by rw[hz1];exact hx _) (by rw[hz1];exact hx _) (by rw[hz1];omega) h1 (by rw[hz2];exact hb)
 rw[hz1] at hown2
 have hlt:b<w1.heap.size:=(Array.getElem?_eq_some_iff.1 hbk1).1
 have hb2:w2.heap[b]? = some (.cells #[.pointer (some ⟨b,0,none⟩),bD q n cap] (ρ.t 72) (0,0)):=by
  rcases hg with⟨_,hg⟩|⟨_,hg⟩
  ·rw[hg.block b hlt (fun e=>hqb e.symm)];exact hbk1
  ·rw[hg.block b hlt (by simp)];exact hbk1
 have d0:w2.cell? ⟨b,0,none⟩=some (.pointer (some ⟨b,0,none⟩)):=by rw[Lib.cell_of_heap hb2];rfl
 have d1:w2.cell? ⟨b,1,none⟩=some (bD q n cap):=by rw[Lib.cell_of_heap hb2];rfl
 have f1:w2.frozen? ⟨b,1,none⟩=false:=Lib.frozen_of_heap hb2 1
 go_wp2_with (at_builtin;refine wpList_append_run rfl _ _ (ρ.t 37) (ρ.t 9) rfl rfl rfl hA ?_)
 obtain⟨ao,m,c,hao⟩:∃ao m c,bD q' (n+s.size) cap'=.slice ao m c:=⟨_,_,_,rfl⟩
 obtain⟨ao2,m2,c2,hao2⟩:∃ao m c,bD q n cap=.slice ao m c:=⟨_,_,_,rfl⟩
 have hfin:∃q' cap' w2',w2.setCell ⟨b,1,none⟩ (.slice ao m c)=w2'.setCell ⟨b,1,none⟩ (bD q' (n+s.size) cap') /\
   w2'.heap[b]? = some (.cells #[.pointer (some ⟨b,0,none⟩),bD q n cap] (ρ.t 72) (0,0))/\dH w2' (ρ.t 5) 1 q' (n+s.size) cap' (xs++news)/\∃w1,(w1=w\/w1=w.setCell ⟨b,0,none⟩ (.pointer (some ⟨b,0,none⟩)))/\((q'=q/\w1.grownBy w2' q)\/(q'=some w1.heap.size/\w1.grownBy w2' none)) :=
  ⟨q',cap',w2,by rw[hao],hb2,hown2,w1,hw1,hg⟩
 rw[hao2] at d1
 rw[hao,hao2]
 clear hA hao hao2
 have hst:(storeCells ⟨b,1,none⟩ [.slice ao m c]).run P w2=.ok () (w2.setCell ⟨b,1,none⟩ (.slice ao m c)):=by
  have h2:(store ⟨b,1,none⟩ (.slice ao m c)).run P w2=.ok () (w2.setCell ⟨b,1,none⟩ (.slice ao m c)):=by
   rw[run_store P w2 _ _ _ rfl,d1];simp[f1]
  simp[storeCells,h2,Addr.add]
 go_wp2
 rw[hst]
 simp only[Result.andThen]
 rw[Oper.upon_skip]
 go_wp2
 go_ret2
 exact⟨rfl,hfin⟩
theorem Dl{F:Fz}{w:World}{B:Env}:∀l:Bs,aB F w B (l.flatMap e8) (l.map fun b=>Value.int .u8 (b.toNat:Int))
 |[]=>.nil
 |x::l=>by
  simp only[List.flatMap_cons,e8,List.singleton_append,List.map_cons]
  exact .cons _ _ _ _ (.val _ rfl) (Dl l)
def Wrote(T e b:Nat)(q:Option Nat)(l':Bs)(w w':World):Prop :=
 ∃q' cap',w'.heap[b]? = some (.cells #[.pointer (some ⟨b,0,none⟩),bD q' l'.length cap'] T (0,0))/\dH w' e 1 q' l'.length cap' (l'.map fun b=>Value.int .u8 (b.toNat:Int)) /\
  (w'.os=w.os/\w'.tape=w.tape/\w'.output=w.output/\w.heap.size<=w'.heap.size/\∀k,k<w.heap.size->k≠b->q≠some k->w'.heap[k]? = w.heap[k]?)/\(q'=q\/∃g,q'=some g/\w.heap.size<=g)
theorem wO{P:Program}{f T e:Nat}{l l':Bs}{d2 r:D}{x2 v0:Value}(hf:FOK P f)(hd2:∀(F:Fz)(w:World)(B:Env) v,Rep F w B d2 v->v=x2)(hr0:∀(F:Fz)(w:World)(B:Env),Rep F w B r v0)
  (H:∀(b n cap:Nat)(q:Option Nat)(p:Value)(w:World),w.heap[b]? = some (.cells #[p,bD q n cap] T (0,0))->(p=.pointer none\/p=.pointer (some ⟨b,0,none⟩))->q≠some b->n=l.length->dH w e 1 q n cap (l.map fun b=>Value.int .u8 (b.toNat:Int)) ->
   Calls P f #[.pointer (some ⟨b,0,none⟩),x2] w fun ex w'=>ex=.returned v0/\Wrote T e b q l' w w') :
  aZ P f [.own LIM 0,d2] [(LIM,T,[.opt LIM,.bn (LIM+1)]),(LIM+1,e,[.aP false (0:UInt8) e8 l])] r [(LIM,T,[.opt LIM,.bn 1]),(1,e,[.aP false (0:UInt8) e8 l'])]:=by
 refine⟨hf,fun F w1 B args hb hr=>?_⟩
 have ha:∃b,B LIM=some (.box b)/\args=[.pointer (some ⟨b,0,none⟩),x2]:=by
  cases hr with
  |cons _ v _ vs h hs =>
   cases hs with
   |cons _ v2 _ vs2 h2 hs =>
    cases hs
    have:=hd2 _ _ _ _ h2
    subst this
    cases h with
    |own _ _ b hB=>exact⟨b,hB,rfl⟩
 obtain⟨b,hB,rfl⟩:=ha
 have hm:aN [(LIM,T,[D.opt LIM,.bn (LIM+1)]),(LIM+1,e,[D.aP false (0:UInt8) e8 l])] LIM T [.opt LIM,.bn (LIM+1)]:=List.mem_cons_self
 have hm2:aN [(LIM,T,[D.opt LIM,.bn (LIM+1)]),(LIM+1,e,[D.aP false (0:UInt8) e8 l])] (LIM+1) e [.aP false (0:UInt8) e8 l]:=List.mem_cons_of_mem _ List.mem_cons_self
 obtain⟨vs,hrv,hfl,hh,hnn,hnf⟩:=hb.xP hm hB
 obtain⟨q,n,cap,hBq,hn0,hpos,hge,xs,hxs,hown,hfz⟩:=hb.jX hm2
 have hx:=wj hxs
 subst hx
 cases hrv with
 |cons _ p _ vs h hs =>
  cases hs with
  |cons _ v _ vs' h1 hs =>
   cases hs
   obtain rfl:v=bD q n cap:=by
    cases h1 with
    |bn _ p' n' cap' hB'=>rw[hBq] at hB';cases hB';rfl
   have hqb:q≠some b:=fun e0=>by
    have:=hb.inj LIM (LIM+1) b ⟨_,_,hm⟩ ⟨_,_,hm2⟩ (fK hB) (by rw[dA hBq,e0])
    exact absurd this (by decide)
   have hp:p=.pointer none\/p=.pointer (some ⟨b,0,none⟩):=by
    cases h with
    |opt _ b' _ hB' hp=>rw[hB] at hB';cases hB';exact hp
   have hblt:b<w1.w.heap.size:=(Array.getElem?_eq_some_iff.1 hh).1
   have hqf:∀g,q=some g->∀j,¬F g j:=fun g e0 j hF=>by
    have:=(hfz g e0 j).1 hF
    simp at this
   refine(H b n cap q p w1.w hh hp hqb hn0 hown).mono ?_
   rintro ex w' ⟨rfl,q',cap',hb',hown',⟨ho,ht,hout,hsize,hblk⟩,hq'⟩
   have hq'b:q'≠some b:=by
    rcases hq' with rfl|⟨g,rfl,hg⟩
    ·exact hqb
    ·intro e0;cases e0;omega
   have hB1:setB B 1 (.row q' l'.length cap') 1=some (.row q' l'.length cap'):=fJ _ _ _
   have hBL:setB B 1 (.row q' l'.length cap') LIM=some (.box b):=(bM _ _ _ _ (by decide)).trans hB
   have hcell:∀g j,F g j->w'.heap[g]? = w1.w.heap[g]?:=fun g j hF=>hblk g (hb.frz g j hF) (fun e0=>hnf j (e0▸hF)) fun e0=>hqf g e0 j hF
   have hcase:∀k t ds,aN [(LIM,T,[D.opt LIM,.bn 1]),(1,e,[D.aP false (0:UInt8) e8 l'])] k t ds->(k=LIM/\t=T/\ds=[D.opt LIM,.bn 1])\/(k=1/\t=e/\ds=[D.aP false (0:UInt8) e8 l']):=by
    intro k t ds hk
    rcases List.mem_cons.1 hk with hk|hk
    ·cases hk;exact .inl ⟨rfl,rfl,rfl⟩
    ·have:=List.mem_singleton.1 hk
     cases this;exact .inr ⟨rfl,rfl,rfl⟩
   refine⟨v0,F,setB B 1 (.row q' l'.length cap'),rfl,hr0 _ _ _,⟨fun k t ds hk=>?_,fun k t ds c hk hc=>?_,fun i j c hi hj hci hcj=>?_,fun g j hF=>Nat.lt_of_lt_of_le (hb.frz g j hF) hsize,hb.more,⟨fun _ _ h=>h,fun g j hF=>World.cell?_of_block (hcell g j hF)⟩,⟨ho,ht,hout,hsize,fun k hk hno=>?_⟩,fun k r hk=>?_⟩⟩
   ·rcases hcase _ _ _ hk with⟨rfl,rfl,rfl⟩|⟨rfl,rfl,rfl⟩
    ·exact .box _ b [_,bD q' l'.length cap'] hBL (.cons _ _ _ _ (.opt _ b _ hBL (.inr rfl)) (.cons _ _ _ _ (.bn _ _ _ _ hB1) .nil)) rfl hb' hnf
    ·refine .row false _ _ l' q' l'.length cap' hB1 ⟨rfl,hpos,hge,_,Dl l',hown',fun b0 e0 j=>?_⟩
     refine⟨fun hF=>?_,fun h=>by simp at h⟩
     rcases hq' with rfl|⟨g,rfl,hg⟩
     ·exact(hqf b0 e0 j hF).elim
     ·cases e0
      have:=hb.frz _ _ hF
      omega
   ·rcases hcase _ _ _ hk with⟨rfl,rfl,rfl⟩|⟨rfl,rfl,rfl⟩
    ·rw[fK hBL] at hc;cases hc;exact hnn
    ·rw[dA hB1] at hc
     rcases hq' with rfl|⟨g,rfl,hg⟩
     ·exact hb.new _ _ _ c hm2 (by rw[dA hBq,hc])
     ·cases hc;exact .inl hg
   ·obtain⟨_,_,h1⟩:=hi
    obtain⟨_,_,h2⟩:=hj
    rcases hcase _ _ _ h1 with⟨rfl,_,_⟩|⟨rfl,_,_⟩<;>rcases hcase _ _ _ h2 with⟨rfl,_,_⟩|⟨rfl,_,_⟩
    ·rfl
    ·rw[fK hBL] at hci;rw[dA hB1] at hcj;cases hci;exact(hq'b hcj).elim
    ·rw[dA hB1] at hci;rw[fK hBL] at hcj;cases hcj;exact(hq'b hci).elim
    ·rfl
   ·refine hblk k hk (fun e0=>?_) fun e0=>?_
    ·subst e0
     rcases hnn with h|h
     ·omega
     ·exact hno h
    ·rcases hb.new _ _ _ k hm2 (by rw[dA hBq,e0]) with h|h
     ·omega
     ·exact hno h
   ·have hk1:k≠1:=fun e0=>by
     have:=w1.low k (by rw[hk];simp)
     unfold LIM at this;omega
    rw[bM _ _ _ _ hk1];exact hb.env k r hk
theorem K5(s:Bs):∀u∈s.map (fun b=>Value.int .u8 (b.toNat:Int)),u.oneCell'=true:=by
 intro u hu
 obtain⟨x,_,rfl⟩:=List.mem_map.1 hu
 rfl
theorem DU{w w1:World}{b:Nat}(hw1:w1=w\/w1=w.setCell ⟨b,0,none⟩ (.pointer (some ⟨b,0,none⟩))):w1.os=w.os/\w1.tape=w.tape/\w1.output=w.output/\w.heap.size<=w1.heap.size/\∀k,k<w.heap.size->k≠b->w1.heap[k]? = w.heap[k]?:=by
 rcases hw1 with rfl|rfl
 ·exact⟨rfl,rfl,rfl,Nat.le_refl _,fun _ _ _=>rfl⟩
 ·refine⟨rfl,rfl,rfl,by simp[World.setCell],fun k _ hk=>?_⟩
  have hk':b≠k:=fun e=>hk e.symm
  simp[World.setCell,Array.getElem?_modify,hk']
theorem EP{T e b n cap:Nat}{q q':Option Nat}{p:Value}{l':Bs}{w w1 w2:World}{cap':Nat}(hbk:w.heap[b]? = some (.cells #[p,bD q n cap] T (0,0)))(hqb:q≠some b)
  (hb2:w2.heap[b]? = some (.cells #[.pointer (some ⟨b,0,none⟩),bD q n cap] T (0,0))) (hown2:dH w2 e 1 q' l'.length cap' (l'.map fun b=>Value.int .u8 (b.toNat:Int)))
  (hq1:w1.os=w.os/\w1.tape=w.tape/\w1.output=w.output/\w.heap.size<=w1.heap.size/\∀k,k<w.heap.size->k≠b->w1.heap[k]? = w.heap[k]?) (hg:(q'=q/\w1.grownBy w2 q)\/(q'=some w1.heap.size/\w1.grownBy w2 none)) :
  Wrote T e b q l' w (w2.setCell ⟨b,1,none⟩ (bD q' l'.length cap')):=by
 have hblt:b<w.heap.size:=(Array.getElem?_eq_some_iff.1 hbk).1
 obtain⟨o1,t1,u1,z1,k1⟩:=hq1
 have hq'b:q'≠some b:=by
  rcases hg with⟨rfl,_⟩|⟨rfl,_⟩
  ·exact hqb
  ·intro e0;cases e0;omega
 have hgg:w2.os=w1.os/\w2.tape=w1.tape/\w2.output=w1.output/\w1.heap.size<=w2.heap.size/\∀k,k<w1.heap.size->q≠some k->w2.heap[k]? = w1.heap[k]?:=by
  rcases hg with⟨_,hg⟩|⟨_,hg⟩
  ·exact⟨hg.os,hg.tape,hg.output,hg.size,fun k hk hne=>hg.block k hk fun e=>hne e.symm⟩
  ·exact⟨hg.os,hg.tape,hg.output,hg.size,fun k hk _=>hg.block k hk (by simp)⟩
 obtain⟨o2,t2,u2,z2,k2⟩:=hgg
 refine⟨q',cap',?_,?_,⟨o2.trans o1,t2.trans t1,u2.trans u1,by show w.heap.size<=(w2.setCell _ _).heap.size;simp[World.setCell];omega,fun k hk hkb hkq=>?_⟩,?_⟩
 ·simp[World.setCell,Array.getElem?_modify,hb2]
 ·refine⟨hown2.1,hown2.2.imp id ?_⟩
  rintro⟨g,cur,fz,rfl,hh,h⟩
  refine⟨g,cur,fz,rfl,?_,h⟩
  have hne:b≠g:=fun e=>hq'b (congrArg some e.symm)
  simp[World.setCell,Array.getElem?_modify,hne,hh]
 ·have hk':b≠k:=fun e=>hkb e.symm
  have:(w2.setCell ⟨b,1,none⟩ (bD q' l'.length cap')).heap[k]? = w2.heap[k]?:=by simp[World.setCell,Array.getElem?_modify,hk']
  rw[this,k2 k (by omega) hkq,k1 k hk hkb]
 ·rcases hg with⟨h,_⟩|⟨h,_⟩
  ·exact .inl h
  ·exact .inr ⟨_,h,by omega⟩
set_option maxHeartbeats 2000000 in
set_option maxRecDepth 100000 in
theorem PY{P:Program}{ρ:Ren}(L:xe P ρ)(hfn:P.funcs[ρ.f 167]? = some (Body.n167 ρ))(X:Builder.Extra P ρ)(b n cap:Nat)(q:Option Nat)(p:Value)(xs:List Value)(ch:Int)(w:World)(hbk:w.heap[b]? = some (.cells #[p,bD q n cap] (ρ.t 72) (0,0)))
  (hp:p=.pointer none\/p=.pointer (some ⟨b,0,none⟩)) (hqb:q≠some b) (hown:dH w (ρ.t 5) 1 q n cap xs) (hb:(n+1)*2<=140737488355328) :
  Calls P (ρ.f 167) #[.pointer (some ⟨b,0,none⟩),.int .u8 ch] w fun e w'=>e=.returned .nilIface/\∃q' cap' w2,w'=w2.setCell ⟨b,1,none⟩ (bD q' (n+1) cap') /\
   w2.heap[b]? = some (.cells #[.pointer (some ⟨b,0,none⟩),bD q n cap] (ρ.t 72) (0,0))/\dH w2 (ρ.t 5) 1 q' (n+1) cap' (xs++[.int .u8 ch])/\∃w1:World,(w1.os=w.os/\w1.tape=w.tape/\w1.output=w.output/\w.heap.size<=w1.heap.size/\∀k,k<w.heap.size->k≠b->w1.heap[k]? = w.heap[k]?)/\((q'=q/\w1.grownBy w2 q)\/(q'=some w1.heap.size/\w1.grownBy w2 none)):=by
 obtain⟨i0,hi,hz0,hz1,hz2⟩:=info_parts X.infoByte
 have mixed:=L.mixed
 have z72:=L.z72;have v72:=L.v72;have u72:=run_underlying L.t72;have t72:=L.t72;have a72:=L.a72
 have z70:=L.z70;have v70:=L.v70;have u70:=run_underlying L.t70;have t70:=L.t70;have a70:=L.a70
 have z37:=L.z37;have v37:=L.v37;have u37:=run_underlying L.t37;have t37:=L.t37;have a37:=L.a37
 have z9:=L.z9;have v9:=L.v9;have u9:=run_underlying L.t9;have t9:=L.t9;have a9:=L.a9
 have z5:=X.z5;have v5:=X.v5;have u5:=run_underlying X.t5;have t5:=X.t5;have a5:=X.a5
 have e240:∀args w,(callFunc (ρ.f 240) args).run P w=.ok (.enter (ρ.f 240) args) w:=L.e240
 have hcc:Calls P (ρ.f 240) #[.pointer (some ⟨b,0,none⟩)] w fun e w1=>e=.returned (.tuple #[])/\(w1=w\/w1=w.setCell ⟨b,0,none⟩ (.pointer (some ⟨b,0,none⟩)))/\w1.heap[b]? = some (.cells #[.pointer (some ⟨b,0,none⟩),bD q n cap] (ρ.t 72) (0,0))/\dH w1 (ρ.t 5) 1 q n cap xs:=by
  rcases hp with rfl|rfl
  ·refine(L.fresh b w (by rw[Lib.cell_of_heap hbk];rfl) (by simp[World.shape?,hbk]) (Lib.frozen_of_heap hbk 0)).mono ?_
   rintro e w1 ⟨rfl,rfl⟩
   refine⟨rfl,.inr rfl,by simp[World.setCell,Array.getElem?_modify,hbk],?_⟩
   refine⟨hown.1,hown.2.imp id ?_⟩
   rintro⟨g,cur,fz,rfl,hh,h⟩
   refine⟨g,cur,fz,rfl,?_,h⟩
   have hne:b≠g:=fun e=>hqb (congrArg some e.symm)
   simp[World.setCell,Array.getElem?_modify,hne,hh]
  ·refine(L.used b w (by rw[Lib.cell_of_heap hbk];rfl)).mono ?_
   rintro e w1 ⟨rfl,rfl⟩
   exact⟨rfl,.inl rfl,hbk,hown⟩
 go_enter hfn,Body.n167_ntmps ρ
 go_wp2_with (go_at_fn (ρ.f 240);refine hcc.mono ?_)
 rintro e w1 ⟨rfl,hw1,hbk1,hown1⟩
 have c0:w1.cell? ⟨b,0,none⟩=some (.pointer (some ⟨b,0,none⟩)):=by rw[Lib.cell_of_heap hbk1];rfl
 have c1:w1.cell? ⟨b,1,none⟩=some (bD q n cap):=by rw[Lib.cell_of_heap hbk1];rfl
 have hlt1:b<w1.heap.size:=(Array.getElem?_eq_some_iff.1 hbk1).1
 obtain⟨wa,hwa⟩:∃wa,wa=w1.alloc (.cells #[.int .u8 ch] (ρ.t 5)):=⟨_,rfl⟩
 have hown1a:dH wa (ρ.t 5) 1 q n cap xs:=by
  subst hwa
  refine⟨hown1.1,hown1.2.imp id ?_⟩
  rintro⟨g,cur,fz,rfl,hh,h⟩
  exact⟨g,cur,fz,rfl,(Lib.alloc_old w1 _ g (Array.getElem?_eq_some_iff.1 hh).1).trans hh,h⟩
 have hbka:wa.heap[b]? = some (.cells #[.pointer (some ⟨b,0,none⟩),bD q n cap] (ρ.t 72) (0,0)):=by subst hwa;exact(Lib.alloc_old w1 _ b hlt1).trans hbk1
 have hcell:∀W:World,W.heap=wa.heap->(Builtin.firstCells 1 1 (.slice (some ⟨w1.heap.size,0,none⟩) 1 1)).run P W=.ok #[.int .u8 ch] W:=by
  intro W hW
  have hb:W.heap[w1.heap.size]? = some (.cells #[.int .u8 ch] (ρ.t 5) (0,0)):=by rw[hW,hwa];exact heap_alloc_new w1 _
  have h:W.cell? ⟨w1.heap.size,0,none⟩=some (.int .u8 ch):=by rw[Lib.cell_of_heap hb];rfl
  have e:(⟨w1.heap.size,0,none⟩:Addr).add 0=⟨w1.heap.size,0,none⟩:=rfl
  simp[Builtin.firstCells,loadCells,loadCellsFrom,e,h]
 have hq1:wa.os=w.os/\wa.tape=w.tape/\wa.output=w.output/\w.heap.size<=wa.heap.size/\∀k,k<w.heap.size->k≠b->wa.heap[k]? = w.heap[k]?:=by
  obtain⟨o1,t1,u1,z1,k1⟩:=DU hw1
  subst hwa
  refine⟨o1,t1,u1,by show w.heap.size<=(w1.heap.push _).size;rw[Array.size_push];omega,fun k hk hkb=>(Lib.alloc_old w1 _ k (by omega)).trans (k1 k hk hkb)⟩
 obtain⟨q',cap',w2,hA,hown2,hg⟩:=rS (P:=P) (w:=wa) (t:=ρ.t 37) (t2:=ρ.t 37) (ty:=ρ.t 37) (e:=ρ.t 5) (i:=i0) (p:=q) (n:=n) (cap:=cap) (xs:=xs) (x:=.slice (some ⟨w1.heap.size,0,none⟩) 1 1) (m:=1) (news:=[.int .u8 ch]) L.t37 hi hz0 (by rw[hz1];rfl) (by rw[hz1];decide) (.inl ⟨_,L.t37⟩) (by rw[hz1];exact hown1a) (fun w'=>by simp[Builtin.lenOf]) (by rw[hz1];exact hcell _ rfl) (by rw[hz1];exact hcell _ rfl) (by rw[hz1];rfl) (fun u hu=>by rw[List.mem_singleton] at hu;subst hu;rfl) (by rw[hz2];exact hb)
 rw[hz1] at hown2
 have hlt:b<wa.heap.size:=(Array.getElem?_eq_some_iff.1 hbka).1
 have hb2:w2.heap[b]? = some (.cells #[.pointer (some ⟨b,0,none⟩),bD q n cap] (ρ.t 72) (0,0)):=by
  rcases hg with⟨_,hg⟩|⟨_,hg⟩
  ·rw[hg.block b hlt (fun e=>hqb e.symm)];exact hbka
  ·rw[hg.block b hlt (by simp)];exact hbka
 have d0:w2.cell? ⟨b,0,none⟩=some (.pointer (some ⟨b,0,none⟩)):=by rw[Lib.cell_of_heap hb2];rfl
 have d1:w2.cell? ⟨b,1,none⟩=some (bD q n cap):=by rw[Lib.cell_of_heap hb2];rfl
 have f1:w2.frozen? ⟨b,1,none⟩=false:=Lib.frozen_of_heap hb2 1
 go_wp2_with (at_builtin;refine wpList_append_run rfl _ _ (ρ.t 37) (ρ.t 37) rfl rfl rfl (hwa▸hA) ?_)
 obtain⟨ao,m,c,hao⟩:∃ao m c,bD q' (n+1) cap'=.slice ao m c:=⟨_,_,_,rfl⟩
 obtain⟨ao2,m2,c2,hao2⟩:∃ao m c,bD q n cap=.slice ao m c:=⟨_,_,_,rfl⟩
 have hfin:∃q' cap' w2',w2.setCell ⟨b,1,none⟩ (.slice ao m c)=w2'.setCell ⟨b,1,none⟩ (bD q' (n+1) cap') /\
   w2'.heap[b]? = some (.cells #[.pointer (some ⟨b,0,none⟩),bD q n cap] (ρ.t 72) (0,0))/\dH w2' (ρ.t 5) 1 q' (n+1) cap' (xs++[.int .u8 ch])/\∃w1:World,(w1.os=w.os/\w1.tape=w.tape/\w1.output=w.output/\w.heap.size<=w1.heap.size/\∀k,k<w.heap.size->k≠b->w1.heap[k]? = w.heap[k]?)/\((q'=q/\w1.grownBy w2' q)\/(q'=some w1.heap.size/\w1.grownBy w2' none)) :=
  ⟨q',cap',w2,by rw[hao],hb2,hown2,wa,hq1,hg⟩
 rw[hao2] at d1
 rw[hao,hao2]
 clear hA hao hao2
 have hst:(storeCells ⟨b,1,none⟩ [.slice ao m c]).run P w2=.ok () (w2.setCell ⟨b,1,none⟩ (.slice ao m c)):=by
  have h2:(store ⟨b,1,none⟩ (.slice ao m c)).run P w2=.ok () (w2.setCell ⟨b,1,none⟩ (.slice ao m c)):=by
   rw[run_store P w2 _ _ _ rfl,d1];simp[f1]
  simp[storeCells,h2,Addr.add]
 go_wp2
 rw[hst]
 simp only[Result.andThen]
 rw[Oper.upon_skip]
 go_wp2
 go_ret
 exact⟨rfl,hfin⟩
theorem IR{P:Program}{ρ:Ren}(L:xe P ρ)(hfn:P.funcs[ρ.f 167]? = some (Body.n167 ρ))(X:Builder.Extra P ρ){l:Bs}{x:UInt8}(hf:FOK P (ρ.f 167))(hl:decide ((l.length+1)*(1+1)<=limit)=true) :
  aZ P (ρ.f 167) [.own LIM 0,.val (.int .u8 (x.toNat:Int))] [(LIM,ρ.t 72,[.opt LIM,.bn (LIM+1)]),(LIM+1,ρ.t 5,[.aP false (0:UInt8) e8 l])] (.val .nilIface) [(LIM,ρ.t 72,[.opt LIM,.bn 1]),(1,ρ.t 5,[.aP false (0:UInt8) e8 (l++[x])])]:=by
 have hlim:(l.length+1)*2<=140737488355328:=of_decide_eq_true hl
 refine wO (x2:=.int .u8 (x.toNat:Int)) (v0:=.nilIface) hf (fun F w B v h=>by cases h;rfl) (fun F w B=>.val _ rfl) fun b n cap q p w hbk hp hqb hn hown=>?_
 subst hn
 refine(PY L hfn X b l.length cap q p _ (x.toNat:Int) w hbk hp hqb hown hlim).mono ?_
 rintro ex w' ⟨rfl,q',cap',w2,rfl,hb2,hown2,w1,hq1,hg⟩
 refine⟨rfl,?_⟩
 have he:l.length+1=(l++[x]).length:=by simp
 have hm:l.map (fun b=>Value.int .u8 (b.toNat:Int))++[.int .u8 (x.toNat:Int)]=(l++[x]).map fun b=>Value.int .u8 (b.toNat:Int):=by simp
 rw[he,hm] at hown2
 rw[he]
 exact EP hbk hqb hb2 hown2 hq1 hg
theorem FU{P:Program}{ρ:Ren}(L:xe P ρ)(hfn:P.funcs[ρ.f 166]? = some (Body.n166 ρ))(X:Builder.Extra P ρ){l s:Bs}(hf:FOK P (ρ.f 166))(hl:decide ((l.length+s.length)*(1+1)<=limit)=true) :
  aZ P (ρ.f 166) [.own LIM 0,.str s] [(LIM,ρ.t 72,[.opt LIM,.bn (LIM+1)]),(LIM+1,ρ.t 5,[.aP false (0:UInt8) e8 l])] (.tup [.val (.int .i64 (s.length:Int)),.val .nilIface]) [(LIM,ρ.t 72,[.opt LIM,.bn 1]),(1,ρ.t 5,[.aP false (0:UInt8) e8 (l++s)])]:=by
 have hlim:(l.length+s.length)*2<=140737488355328:=of_decide_eq_true hl
 refine wO (x2:=.string ⟨s.toArray⟩) (v0:=.tuple #[.int .i64 (s.length:Int),.nilIface]) hf (fun F w B v h=>by cases h;rfl) (fun F w B=>.tup _ [_,_] (.cons _ _ _ _ (.val _ rfl) (.cons _ _ _ _ (.val _ rfl) .nil))) fun b n cap q p w hbk hp hqb hn hown=>?_
 subst hn
 have hs:(⟨s.toArray⟩:ByteArray).size=s.length:=by simp[ByteArray.size]
 refine(Rn L hfn X b l.length cap q p _ (s.map fun b=>Value.int .u8 (b.toNat:Int)) ⟨s.toArray⟩ w hbk hp hqb hown (by simp[hs]) (K5 s) (fun w'=>by simp[Builtin.firstCells,hs]) (by rw[hs];exact hlim)).mono ?_
 rintro ex w' ⟨rfl,q',cap',w2,rfl,hb2,hown2,w1,hw1,hg⟩
 rw[hs] at hown2 ⊢
 refine⟨rfl,?_⟩
 have he:l.length+s.length=(l++s).length:=by simp
 rw[he,<-List.map_append] at hown2
 rw[he]
 exact EP hbk hqb hb2 hown2 (DU hw1) hg
def Hw(b k:Nat)(ds:List D):List D:=match ds with|[.val (.pointer none),.val (.slice none 0 0)]=>[.opt b,.bn k]|ds=>ds
def QY(b k:Nat)(L:aA):aA:=L.map fun x=>bif x.1==b then(x.1,x.2.1,Hw b k x.2.2) else x
section
variable {P:Program} {nt:Nat} {F0:Fz} {w0:Pt P} {K:List (Nat×D)} {L:aA} {Q:Exit->Act->World->Prop}
theorem St.NC(b k e:Nat)(hlt:k<1000000)(hf:kB k K L=true){L':aA}(hv:QY b k L=L'):∀a w,St nt F0 w0 K L a w->St nt F0 w0 K ((k,e,[.aP false (0:UInt8) e8 []])::L') a w:=by
 rintro a w ⟨B,F,hb,hd,hs,hK⟩
 subst hv
 simp only[kB,Bool.and_eq_true] at hf
 have hfK:∀x∈K,D.names k x.2=false:=fun x hx=>by simpa using List.all_eq_true.1 hf.1 x hx
 have hfL:∀x∈L,x.1≠k/\D.bQ k x.2.2=false:=fun x hx=>by simpa using List.all_eq_true.1 hf.2 x hx
 have hB':setB B k (.row none 0 0) k=some (.row none 0 0):=fJ _ _ _
 have hbase:=hb.tN (t:=k) (ty:=e) (ds:=[.aP false (0:UInt8) e8 []]) (F':=F) (w':=w) (B':=setB B k (.row none 0 0)) (M':=aN L) (Grow.refl _ _)
  (.row false (0:UInt8) e8 [] none 0 0 hB' ⟨rfl,(iJ []).1,(iJ []).2,[],.nil,⟨by simp,.inl ⟨rfl,rfl,rfl⟩⟩,fun b hb=>by cases hb⟩) (fun b hbk=>by rw[dA hB'] at hbk;cases hbk)
  (fun j t' ds hm=>⟨hm,(hfL _ hm).1,bM _ _ _ _ (hfL _ hm).1,fun F w vs hr=>hr.gV k (bM _ _ _) (hfL _ hm).2⟩) (fun b _=>⟨rfl,fun _ h=>h⟩) hb.frz (fun g j h=>.inl h) (dZ.refl _ _ _) (fun q hq=>bM _ _ _ _ (by unfold LIM at hq;omega))
 have hmem:∀q t es,aN ((k,e,[D.aP false (0:UInt8) e8 []])::QY b k L) q t es->∃ds,mZ k e [.aP false (0:UInt8) e8 []] (aN L) q t ds/\(es=ds\/(q=b/\ds=[.val (.pointer none),.val (.slice none 0 0)]/\es=[.opt b,.bn k])):=by
  intro q t es hm
  rcases List.mem_cons.1 hm with hm|hm
  ·cases hm;exact⟨_,.inl ⟨rfl,rfl,rfl⟩,.inl rfl⟩
  ·obtain⟨x,hx,he⟩:=List.mem_map.1 hm
   obtain⟨q',t',ds⟩:=x
   cases hc:q'==b with
   |false=>simp only[hc,cond_false] at he;cases he;exact⟨_,.inr hx,.inl rfl⟩
   |true =>
    simp only[hc,cond_true] at he
    cases he
    refine⟨ds,.inr hx,?_⟩
    unfold Hw
    split
    ·exact .inr ⟨by simpa using hc,rfl,rfl⟩
    ·exact .inl rfl
 refine⟨setB B k (.row none 0 0),F,⟨fun q t es hm=>?_,fun q t es c hm hbk=>?_,fun i i' c hi hi'=>hbase.inj i i' c ?_ ?_,hbase.frz,hbase.more,hbase.grow,hbase.below,hbase.env⟩,hd,hs,fun x hx=>?_⟩
 ·obtain⟨ds,h1,h2⟩:=hmem _ _ _ hm
  have hh:=hbase.boxes _ _ _ h1
  rcases h2 with rfl|⟨rfl,rfl,rfl⟩
  ·exact hh
  ·cases hh with
   |box _ c vs h3 h4 h5 h6 h7 =>
    refine .box _ c vs h3 ?_ rfl h6 h7
    cases h4 with
    |cons _ v1 _ vs1 r1 rs =>
     cases rs with
     |cons _ v2 _ vs2 r2 rs =>
      cases rs
      cases r1
      cases r2
      exact .cons _ _ _ _ (.opt _ c _ h3 (.inl rfl)) (.cons _ _ _ _ (.bn k none 0 0 hB') .nil)
 ·obtain⟨ds,h1,_⟩:=hmem _ _ _ hm
  exact hbase.new _ _ _ _ h1 hbk
 ·obtain⟨t,es,hm⟩:=hi
  obtain⟨ds,h1,_⟩:=hmem _ _ _ hm
  exact⟨_,_,h1⟩
 ·obtain⟨t,es,hm⟩:=hi'
  obtain⟨ds,h1,_⟩:=hmem _ _ _ hm
  exact⟨_,_,h1⟩
 ·obtain⟨v,h1,h2⟩:=hK x hx
  exact⟨v,h1,h2.gV k (bM _ _ _) (hfK x hx)⟩
end
end Go.Proofs.YtefojkdckfidcaaGreatDoor.RX
namespace Go.Proofs.YtefojkdckfidcaaGreatDoor.M
open Go Go.Shelf Go.Proofs Go.RowKit Go.Proofs.YtefojkdckfidcaaGreatDoor.RX
set_option maxHeartbeats 1000000
set_option maxRecDepth 100000
theorem P8(b:Nat)(w:World)(h0:w.cell? ⟨b,0,none⟩=some (.pointer (some ⟨b,0,none⟩))) :
  Calls Tryz.prog 81 #[.pointer (some ⟨b,0,none⟩)] w fun e w'=>e=.returned (.tuple #[])/\w'=w:=by
 obtain⟨j,hj⟩:∃j,Tryz.prog.info? 68=some j:=⟨_,rfl⟩
 have mixed:Tryz.prog.follows .mixedOrders=true:=by kernel_rfl
 have t72 : Tryz.prog.underlying 68=some (TypeDesc.struct #[{ name := "addr",type:=65,offset:=0,embedded:=false,tag := "",pkgPath := "strings",byteOffset:=0 },{ name := "buf",type:=66,offset:=1,embedded:=false,tag := "",pkgPath := "strings",byteOffset:=8 }]):=by kernel_rfl
 have a72:∀w,(isAgg 68).run Tryz.prog w=.ok true w:=fun w=>by kernel_rfl
 have z72:∀w,(Go.sizeOf 68).run Tryz.prog w=.ok 2 w:=fun w=>by kernel_rfl
 have u72:=run_underlying t72
 have t70:Tryz.prog.underlying 65=some (TypeDesc.pointer 68):=by kernel_rfl
 have a70:∀w,(isAgg 65).run Tryz.prog w=.ok false w:=fun w=>by kernel_rfl
 have z70:∀w,(Go.sizeOf 65).run Tryz.prog w=.ok 1 w:=fun w=>by kernel_rfl
 have v70:∀w,(zeroValue 65).run Tryz.prog w=.ok (Value.pointer none) w:=fun w=>by kernel_rfl
 have u70:=run_underlying t70
 go_enter (show Tryz.prog.funcs[81]? = some Tryz.f81 from by kernel_rfl),(show Tryz.f81.ntmps=20 from rfl)
 go_wp2
 rw[Lib.run_neq_ptr_same w _ t70 hj]
 go_wp2
 go_end0
 exact⟨rfl,rfl⟩
theorem ND(b:Nat)(w:World)(h0:w.cell? ⟨b,0,none⟩=some (.pointer none))(hsh:w.shape? b=some (68,2))(hfz:w.frozen? ⟨b,0,none⟩=false) :
  Calls Tryz.prog 81 #[.pointer (some ⟨b,0,none⟩)] w fun e w'=>e=.returned (.tuple #[])/\w'=w.setCell ⟨b,0,none⟩ (.pointer (some ⟨b,0,none⟩)):=by
 obtain⟨j,hj,hjs⟩:∃j,Tryz.prog.info? 68=some j/\j.size=2:=⟨_,rfl,rfl⟩
 have mixed:Tryz.prog.follows .mixedOrders=true:=by kernel_rfl
 have t72 : Tryz.prog.underlying 68=some (TypeDesc.struct #[{ name := "addr",type:=65,offset:=0,embedded:=false,tag := "",pkgPath := "strings",byteOffset:=0 },{ name := "buf",type:=66,offset:=1,embedded:=false,tag := "",pkgPath := "strings",byteOffset:=8 }]):=by kernel_rfl
 have a72:∀w,(isAgg 68).run Tryz.prog w=.ok true w:=fun w=>by kernel_rfl
 have z72:∀w,(Go.sizeOf 68).run Tryz.prog w=.ok 2 w:=fun w=>by kernel_rfl
 have u72:=run_underlying t72
 have t70:Tryz.prog.underlying 65=some (TypeDesc.pointer 68):=by kernel_rfl
 have a70:∀w,(isAgg 65).run Tryz.prog w=.ok false w:=fun w=>by kernel_rfl
 have z70:∀w,(Go.sizeOf 65).run Tryz.prog w=.ok 1 w:=fun w=>by kernel_rfl
 have v70:∀w,(zeroValue 65).run Tryz.prog w=.ok (Value.pointer none) w:=fun w=>by kernel_rfl
 have u70:=run_underlying t70
 have t164:Tryz.prog.underlying 130=some TypeDesc.unsafePointer:=by kernel_rfl
 have a164:∀w,(isAgg 130).run Tryz.prog w=.ok false w:=fun w=>by kernel_rfl
 have z164:∀w,(Go.sizeOf 130).run Tryz.prog w=.ok 1 w:=fun w=>by kernel_rfl
 have u164:=run_underlying t164
 have hlies:liesAt Tryz.prog Tryz.prog.depth 68 (2 / Tryz.prog.cellsOf 68) 0 68 1=true:=by kernel_rfl
 go_enter (show Tryz.prog.funcs[81]? = some Tryz.f81 from by kernel_rfl),(show Tryz.f81.ntmps=20 from rfl)
 go_wp2
 rw[Lib.run_to_unsafe w ⟨b,0,none⟩ t70 t164 hj (by rw[hjs];decide) hsh (Nat.zero_lt_succ 1)]
 simp only[Result.andThen]
 rw[Oper.upon_value]
 go_wp2
 rw[run_callFunc_extern (show Tryz.prog.funcs[105]? = some Tryz.f105 from by kernel_rfl) (by kernel_rfl) (by kernel_rfl) (by kernel_rfl) (e:=Extern.AbiNoEscape.same) (by kernel_rfl)]
 rw[Lib.run_noEscape]
 simp only[Result.andThen]
 rw[Oper.upon_value]
 go_wp2
 rw[Lib.run_from_unsafe w ⟨b,0,none⟩ t164 t70 hj hsh hlies]
 simp only[Result.andThen]
 rw[Oper.upon_value]
 go_wp2
 go_end0
 exact⟨rfl,rfl⟩
def zS:Ren:=⟨fun n=>match n with|240=>81|166=>44|167=>45|169=>46|_=>0,fun n=>match n with|3=>3|5=>5|9=>9|37=>66|70=>65|72=>68|75=>73|127=>108|_=>0,fun n=>n⟩
theorem LQ:xe Tryz.prog zS where
 mixed:=by kernel_rfl
 t72:=by kernel_rfl
 a72:=fun w=>by kernel_rfl
 z72:=fun w=>by kernel_rfl
 v72:=fun w=>by kernel_rfl
 t70:=by kernel_rfl
 a70:=fun w=>by kernel_rfl
 z70:=fun w=>by kernel_rfl
 v70:=fun w=>by kernel_rfl
 t37:=by kernel_rfl
 a37:=fun w=>by kernel_rfl
 z37:=fun w=>by kernel_rfl
 v37:=fun w=>by kernel_rfl
 t3:=by kernel_rfl
 a3:=fun w=>by kernel_rfl
 z3:=fun w=>by kernel_rfl
 v3:=fun w=>by kernel_rfl
 t9:=by kernel_rfl
 a9:=fun w=>by kernel_rfl
 z9:=fun w=>by kernel_rfl
 v9:=fun w=>by kernel_rfl
 e240:=enters_of (fn:=Tryz.f81) (by kernel_rfl) (by kernel_rfl) rfl
 fresh:=ND
 used:=P8
theorem SB:Tryz.prog.funcs[zS.f 166]? = some (Body.n166 zS):=by kernel_rfl
theorem Sl:Tryz.prog.funcs[zS.f 167]? = some (Body.n167 zS):=by kernel_rfl
theorem FX:Builder.Extra Tryz.prog zS:={
 sizeBuilder:=by kernel_rfl
 liesBuilder:=by kernel_rfl
 t5:=by kernel_rfl
 a5:=fun w=>by kernel_rfl
 z5:=fun w=>by kernel_rfl
 v5:=fun w=>by kernel_rfl
 infoByte:=by kernel_rfl
 cellsByte:=by kernel_rfl
 sizeByte:=by kernel_rfl
 neB5:=by decide }
theorem Nq:Lays.n169 Tryz.prog zS:={
 mixed:=by kernel_rfl
 f169:=by kernel_rfl
 t0:=by kernel_rfl
 a0:=fun w=>by kernel_rfl
 z0:=fun w=>by kernel_rfl
 v0:=fun w=>by kernel_rfl
 t3:=by kernel_rfl
 a3:=fun w=>by kernel_rfl
 z3:=fun w=>by kernel_rfl
 v3:=fun w=>by kernel_rfl
 t9:=by kernel_rfl
 a9:=fun w=>by kernel_rfl
 z9:=fun w=>by kernel_rfl
 v9:=fun w=>by kernel_rfl
 t37:=by kernel_rfl
 a37:=fun w=>by kernel_rfl
 z37:=fun w=>by kernel_rfl
 v37:=fun w=>by kernel_rfl
 t70:=by kernel_rfl
 a70:=fun w=>by kernel_rfl
 z70:=fun w=>by kernel_rfl
 v70:=fun w=>by kernel_rfl
 t72:=by kernel_rfl
 a72:=fun w=>by kernel_rfl
 z72:=fun w=>by kernel_rfl
 v72:=fun w=>by kernel_rfl
 t127:=by kernel_rfl
 a127:=fun w=>by kernel_rfl
 z127:=fun w=>by kernel_rfl
 v127:=fun w=>by kernel_rfl }
theorem writeString{l s:List UInt8}(h:decide ((l.length+s.length)*(1+1)<=limit)=true) :
  aZ Tryz.prog 44 [.own LIM 0,.str s] [(LIM,68,[.opt LIM,.bn (LIM+1)]),(LIM+1,5,[.aP false (0:UInt8) e8 l])] (.tup [.val (.int .i64 (s.length:Int)),.val .nilIface]) [(LIM,68,[.opt LIM,.bn 1]),(1,5,[.aP false (0:UInt8) e8 (l++s)])] :=
 FU LQ SB FX ⟨Tryz.f44,by kernel_rfl,by kernel_rfl,by kernel_rfl⟩ h
theorem writeByte{l:List UInt8}{x:UInt8}(h:decide ((l.length+1)*(1+1)<=limit)=true) :
  aZ Tryz.prog 45 [.own LIM 0,.val (.int .u8 (x.toNat:Int))] [(LIM,68,[.opt LIM,.bn (LIM+1)]),(LIM+1,5,[.aP false (0:UInt8) e8 l])] (.val .nilIface) [(LIM,68,[.opt LIM,.bn 1]),(1,5,[.aP false (0:UInt8) e8 (l++[x])])] :=
 IR LQ Sl FX ⟨Tryz.f45,by kernel_rfl,by kernel_rfl,by kernel_rfl⟩ h
theorem JX{l:List UInt8}{x:UInt8}{n:Int}(hx:(x.toNat:Int)=n)(h:decide ((l.length+1)*(1+1)<=limit)=true) :
  aZ Tryz.prog 45 [.own LIM 0,.val (.int .u8 n)] [(LIM,68,[.opt LIM,.bn (LIM+1)]),(LIM+1,5,[.aP false (0:UInt8) e8 l])] (.val .nilIface) [(LIM,68,[.opt LIM,.bn 1]),(1,5,[.aP false (0:UInt8) e8 (l++[x])])]:=by
 subst hx
 exact writeByte h
theorem PS{l:List UInt8} :
  aZ Tryz.prog 46 [.own LIM 0] [(LIM,68,[.opt LIM,.bn (LIM+1)]),(LIM+1,5,[.aP false (0:UInt8) e8 l])] (.str l) [(LIM,68,[.opt LIM,.hole])] :=
 Ce ⟨Tryz.f46,by kernel_rfl,by kernel_rfl,by kernel_rfl⟩ fun b n cap q p w hbk hn hown=>Hg Nq FX l b n cap q p w hbk hn hown
end Go.Proofs.YtefojkdckfidcaaGreatDoor.M
namespace Go.Proofs.YtefojkdckfidcaaGreatDoor.Any11
open Go.Shelf Go.RowKit Go.Lib Go.Proofs
variable {P:Program} {ρ:Ren}
abbrev marks:ByteArray:=⟨#[34,39]⟩
set_option maxHeartbeats 4000000 in
set_option maxRecDepth 1000000 in
theorem ED(L:Lays.n152 P ρ)(w:World) :
  Calls P (ρ.f 152) #[.string marks,.int .i32 65533] w fun e w'=>e=.returned (.int .i64 (-1))/\Below w.heap.size w w':=by
 have t3:=L.t3;have a3:=L.a3;have z3:=L.z3;have v3:=L.v3
 have t4:=L.t4;have a4:=L.a4;have z4:=L.z4;have v4:=L.v4
 have t5:=L.t5;have a5:=L.a5;have z5:=L.z5;have v5:=L.v5
 have t9:=L.t9;have a9:=L.a9;have z9:=L.z9;have v9:=L.v9
 have t21:=L.t21;have a21:=L.a21;have z21:=L.z21;have v21:=L.v21
 go_enter L.f152,Body.n152_ntmps ρ
 go_wp2
 go_loopg [5,6] 2 (fun g _ _ wx=>∃i:Nat,i+g=2/\wx=w.iter marks i)
 case atStart=>exact⟨0,by omega,rfl⟩
 case round =>
  obtain⟨i,hig,rfl⟩:=hrel
  cases gk with
  |zero =>
   obtain rfl:i=2:=by omega
   have hnx:=fun ty=>run_next_end (P:=P) w marks 2 ty (by decide)
   go_wp2
   go_ret
   exact⟨rfl,(Below.refl _ _).alloc (Nat.le_refl _) _⟩
  |succ g =>
   have hi:i<marks.size:=by show i<2;omega
   obtain⟨x,hx⟩:∃x:UInt8,marks[i]'hi=x:=⟨_,rfl⟩
   have hx128:x.toNat<128:=by
    have:i=0\/i=1:=by omega
    rcases this with rfl|rfl<;>(rw[<-hx];first|exact(by decide:(34:UInt8).toNat<128)|exact(by decide:(39:UInt8).toNat<128))
   have hnx:=fun ty=>run_next_ascii (P:=P) w marks i ty hi (by rw[hx];exact hx128)
   rw[hx] at hnx
   have hne:((x.toNat:Int)==65533)=false:=beq_eq_false_iff_ne.2 (by omega)
   clear hx
   go_wp2
   go_roundg g
   case measure=>omega
   case rel=>exact⟨i+1,by omega,rfl⟩
set_option maxHeartbeats 4000000 in
set_option maxRecDepth 1000000 in
theorem En(L:Lays.n152 P ρ)(r:Int)(w:World)(h0:128<=r)(h1:r<=2147483647)(hne:r≠65533)(hv:Lib.validRune r=false) :
  Calls P (ρ.f 152) #[.string marks,.int .i32 r] w fun e w'=>e=.returned (.int .i64 (-1))/\Below w.heap.size w w':=by
 have t3:=L.t3;have a3:=L.a3;have z3:=L.z3;have v3:=L.v3
 have t4:=L.t4;have a4:=L.a4;have z4:=L.z4;have v4:=L.v4
 have t5:=L.t5;have a5:=L.a5;have z5:=L.z5;have v5:=L.v5
 have t9:=L.t9;have a9:=L.a9;have z9:=L.z9;have v9:=L.v9
 have t21:=L.t21;have a21:=L.a21;have z21:=L.z21;have v21:=L.v21
 have e119:∀args w,(callFunc (ρ.f 119) args).run P w=.ok (.enter (ρ.f 119) args) w:=enters_of L.f119 (by kernel_rfl) rfl
 have hz:¬r<128:=by omega
 have hd:(r==65533)=false:=beq_eq_false_iff_ne.2 hne
 go_enter L.f152,Body.n152_ntmps ρ
 go_wp2_with (go_at_fn (ρ.f 119);refine(Any.utf8_ValidRune { L with } r w).mono ?_;rintro e w' ⟨rfl,hw⟩;rw[hw,hv])
 go_ret
 exact⟨rfl,Below.refl _ _⟩
theorem KT(r:Int)(h0:128<=r)(hv:Lib.validRune r=true):(∃a b:UInt8,Utf8.encode r=⟨#[a,b]⟩/\128<=b.toNat)\/(3<=(Utf8.encode r).size/\(Utf8.encode r).size<=4):=by
 unfold Lib.validRune at hv
 have hv:=of_decide_eq_true hv
 have e:Utf8.valid r=true:=by
  unfold Utf8.valid
  rw[Bool.or_eq_true,Bool.and_eq_true,Bool.and_eq_true,decide_eq_true_eq,decide_eq_true_eq,decide_eq_true_eq,decide_eq_true_eq]
  omega
 unfold Utf8.encode
 rw[e,if_pos rfl]
 by_cases h1:r.toNat<0x80
 ·omega
 ·rw[if_neg h1]
  by_cases h2:r.toNat<0x800
  ·rw[if_pos h2]
   refine .inl ⟨_,_,rfl,?_⟩
   show 128<=(UInt8.ofNat (0x80+r.toNat % 64)).toNat
   rw[UInt8.toNat_ofNat']
   omega
  ·rw[if_neg h2]
   right
   split
   ·exact⟨Nat.le_refl 3,by show 3<=4;omega⟩
   ·exact⟨by show 3<=4;omega,Nat.le_refl 4⟩
set_option maxHeartbeats 4000000 in
set_option maxRecDepth 1000000 in
theorem EB(L:Lays.n152 P ρ)(r:Int)(w:World)(h0:128<=r)(h1:r<=2147483647)(hne:r≠65533)(hv:Lib.validRune r=true)(hs3:3<=(Utf8.encode r).size)(hs4:(Utf8.encode r).size<=4) :
  Calls P (ρ.f 152) #[.string marks,.int .i32 r] w fun e w'=>e=.returned (.int .i64 (-1))/\Below w.heap.size w w':=by
 have t3:=L.t3;have a3:=L.a3;have z3:=L.z3;have v3:=L.v3
 have t4:=L.t4;have a4:=L.a4;have z4:=L.z4;have v4:=L.v4
 have t5:=L.t5;have a5:=L.a5;have z5:=L.z5;have v5:=L.v5
 have t9:=L.t9;have a9:=L.a9;have z9:=L.z9;have v9:=L.v9
 have t21:=L.t21;have a21:=L.a21;have z21:=L.z21;have v21:=L.v21
 have e119:∀args w,(callFunc (ρ.f 119) args).run P w=.ok (.enter (ρ.f 119) args) w:=enters_of L.f119 (by kernel_rfl) rfl
 have hz:¬r<128:=by omega
 have hd:(r==65533)=false:=beq_eq_false_iff_ne.2 hne
 obtain⟨rs,hrs⟩:∃rs,Utf8.encode r=rs:=⟨_,rfl⟩
 rw[hrs] at hs3 hs4
 go_enter L.f152,Body.n152_ntmps ρ
 go_wp2_with (go_at_fn (ρ.f 119);refine(Any.utf8_ValidRune { L with } r w).mono ?_;rintro e w' ⟨rfl,hw⟩;rw[hw,hv])
 go_step3
 go_wp2
 go_loopg [9,10] 0 (fun _ i f wx=>i=Value.int .i64 ((rs.size:Int)-1)/\f=Value.int .i64 0/\wx=w)
 case atStart=>exact⟨rfl,rfl,rfl⟩
 case round =>
  obtain⟨rfl,rfl,rfl⟩:=hrel
  have hc:¬((rs.size:Int)-1<2):=by omega
  go_wp2
  try rw[Exit.noGoto_ret]
  go_ret
  exact⟨rfl,Below.refl _ _⟩
theorem Ri{K K':Act->World->Prop}{Q:Exit->Act->World->Prop}{i j k:Nat}{a:Act}{w:World}(h:Exit.inBlock k Q .ret a w):Exit.inBlock i (Exit.then K (Exit.inBlock j (Exit.then K' (Exit.noGoto (Exit.inBlock k Q))))) .ret a w:=h
set_option maxHeartbeats 4000000 in
set_option maxRecDepth 1000000 in
theorem CM(L:Lays.n152 P ρ)(r:Int)(w:World)(h0:128<=r)(h1:r<=2147483647)(hne:r≠65533)(hv:Lib.validRune r=true)(a b:UInt8)(hrs:Utf8.encode r=⟨#[a,b]⟩)(hb:128<=b.toNat) :
  Calls P (ρ.f 152) #[.string marks,.int .i32 r] w fun e w'=>e=.returned (.int .i64 (-1))/\Below w.heap.size w w':=by
 have t3:=L.t3;have a3:=L.a3;have z3:=L.z3;have v3:=L.v3
 have t4:=L.t4;have a4:=L.a4;have z4:=L.z4;have v4:=L.v4
 have t5:=L.t5;have a5:=L.a5;have z5:=L.z5;have v5:=L.v5
 have t9:=L.t9;have a9:=L.a9;have z9:=L.z9;have v9:=L.v9
 have t21:=L.t21;have a21:=L.a21;have z21:=L.z21;have v21:=L.v21
 have e119:∀args w,(callFunc (ρ.f 119) args).run P w=.ok (.enter (ρ.f 119) args) w:=enters_of L.f119 (by kernel_rfl) rfl
 have e137:∀args w,(callFunc (ρ.f 137) args).run P w=.ok (.enter (ρ.f 137) args) w:=enters_of L.f137 (by kernel_rfl) rfl
 have hz:¬r<128:=by omega
 have hd:(r==65533)=false:=beq_eq_false_iff_ne.2 hne
 go_enter L.f152,Body.n152_ntmps ρ
 go_wp2_with (go_at_fn (ρ.f 119);refine(Any.utf8_ValidRune { L with } r w).mono ?_;rintro e w' ⟨rfl,hw⟩;rw[hw,hv])
 go_step3
 go_wp2
 go_loopg [9,10] 0 (fun _ i f wx=>i=Value.int .i64 1/\f=Value.int .i64 0/\wx=w)
 case atStart=>exact⟨rfl,rfl,rfl⟩
 case round =>
  obtain⟨rfl,rfl,rfl⟩:=hrel
  have hm:=L.mixed
  have e39:(marks[1]'(by decide)).toNat=39:=rfl
  have eb:(({ data:=#[a,b] }:ByteArray)[1]'(by show 1<2;decide)).toNat=b.toNat:=rfl
  go_wp2
  go_step3
  go_wp2_with fail
  go_region_o
  go_wp2
  all_goals try (exfalso;omega)
  go_region_with_o (go_at_fn (ρ.f 137);refine(Any.strings_IndexByte { L with } _ _ _).mono ?_;rintro e w' ⟨rfl,hw⟩;rw[hw])
  all_goals
   have hib:Lib.indexByte [] b=-1:=rfl
   have hlt:Lib.indexByte [] b<0:=by rw[hib];decide
   go_wp2
   rw[Exit.noGoto_ret]
   refine Ri ?_
   go_ret
   exact⟨rfl,⟨rfl,rfl,rfl,Nat.le_refl _,fun _ _=>rfl⟩⟩
theorem CS(L:Lays.n152 P ρ)(r:Int)(w:World)(h0:128<=r)(h1:r<=2147483647) :
  Calls P (ρ.f 152) #[.string marks,.int .i32 r] w fun e w'=>e=.returned (.int .i64 (-1))/\Below w.heap.size w w':=by
 by_cases he:r=65533
 ·subst he;exact ED L w
 cases hv:Lib.validRune r with
 |false=>exact En L r w h0 h1 he hv
 |true =>
  rcases KT r h0 hv with⟨a,b,hrs,hb⟩|⟨h3,h4⟩
  ·exact CM L r w h0 h1 he hv a b hrs hb
  ·exact EB L r w h0 h1 he hv h3 h4
theorem Qy{s:ByteArray}{j:Nat}{b:UInt8}(h:s.data.toList[j]? = some b):s.get! j=b:=by
 have h2:s.data[j]? = some b:=by rw[<-Array.getElem?_toList];exact h
 show s.data[j]! = b
 rw[getElem!_def,h2]
theorem F6(s:ByteArray)(i:Nat)(h:i<s.size)(ha:128<=(s[i]'h).toNat):i+(Utf8.decode s i).2<=s.size/\∀j b,i<=j->j<i+(Utf8.decode s i).2->s.data.toList[j]? = some b->128<=b.toNat:=by
 have key:∃n,(Utf8.decode s i).2=n+1/\∀k,1<=k->k<=n->i+k<s.size/\(s.get! (i+k)).toNat / 64=2:=by
  simp only[Utf8.decode]
  split
  ·exact⟨0,rfl,fun k a b=>by omega⟩
  ·split
   ·rename_i h1
    simp only[Bool.and_eq_true,decide_eq_true_eq,beq_iff_eq] at h1
    split
    ·refine⟨1,rfl,fun k a b=>?_⟩
     obtain rfl:k=1:=by omega
     exact h1.2
    ·exact⟨0,rfl,fun k a b=>by omega⟩
   ·split
    ·rename_i h1
     simp only[Bool.and_eq_true,decide_eq_true_eq,beq_iff_eq] at h1
     split
     ·refine⟨2,rfl,fun k a b=>?_⟩
      have:k=1\/k=2:=by omega
      rcases this with rfl|rfl
      ·exact h1.1.2
      ·exact h1.2
     ·exact⟨0,rfl,fun k a b=>by omega⟩
    ·split
     ·rename_i h1
      simp only[Bool.and_eq_true,decide_eq_true_eq,beq_iff_eq] at h1
      split
      ·refine⟨3,rfl,fun k a b=>?_⟩
       have:k=1\/k=2\/k=3:=by omega
       rcases this with rfl|rfl|rfl
       ·exact h1.1.1.2
       ·exact h1.1.2
       ·exact h1.2
      ·exact⟨0,rfl,fun k a b=>by omega⟩
     ·exact⟨0,rfl,fun k a b=>by omega⟩
 obtain⟨n,hn,hk⟩:=key
 rw[hn]
 refine⟨?_,fun j b h1 h2 hb=>?_⟩
 ·by_cases h0:n=0
  ·omega
  ·have:=(hk n (by omega) (Nat.le_refl _)).1;omega
 ·by_cases h3:j=i
  ·subst h3
   have e:s.data.toList[j]? = some (s[j]'h):=Lib.data_getElem? s j h
   rw[e] at hb;cases hb;exact ha
  ·obtain⟨k,rfl⟩:∃k,j=i+k:=⟨j-i,by omega⟩
   have:=(hk k (by omega) (by omega)).2
   rw[Qy hb] at this
   omega
theorem JI{s:ByteArray}{i:Nat}(h:i<s.size)(ha:128<=(s[i]'h).toNat)(hn:Lib.NoAny s.data.toList [34,39] i):Lib.NoAny s.data.toList [34,39] (i+(Utf8.decode s i).2):=fun j b hj hb=>by
 by_cases h1:j<i
 ·exact hn j b h1 hb
 ·have:=(F6 s i h ha).2 j b (by omega) hj hb
  rw[Bool.eq_false_iff]
  intro hc
  have hm:=List.contains_iff_mem.1 hc
  rcases List.mem_cons.1 hm with rfl|hm
  ·exact absurd this (by decide)
  ·rw[List.mem_singleton.1 hm] at this;exact absurd this (by decide)
set_option maxHeartbeats 8000000 in
set_option maxRecDepth 1000000 in
theorem BQ(L:Lays.n153 P ρ)(s:ByteArray)(w:World)(h8:s.size<=8) :
  Calls P (ρ.f 153) #[.string s,.string marks] w fun e w'=>e=.returned (.int .i64 (Lib.indexAny s.data.toList [34,39]))/\Below w.heap.size w w':=by
 have h8z:decide ((8:Int)<(s.size:Int))=false:=decide_eq_false (by omega)
 have t3:=L.t3;have a3:=L.a3;have z3:=L.z3;have v3:=L.v3
 have t4:=L.t4;have a4:=L.a4;have z4:=L.z4;have v4:=L.v4
 have t5:=L.t5;have a5:=L.a5;have z5:=L.z5;have v5:=L.v5
 have t9:=L.t9;have a9:=L.a9;have z9:=L.z9;have v9:=L.v9
 have t21:=L.t21;have a21:=L.a21;have z21:=L.z21;have v21:=L.v21
 have e152:∀args w,(callFunc (ρ.f 152) args).run P w=.ok (.enter (ρ.f 152) args) w:=enters_of L.f152 (by kernel_rfl) rfl
 have e226:∀args w,(callFunc (ρ.f 226) args).run P w=.ok (.enter (ρ.f 226) args) w:=enters_of L.f226 (by kernel_rfl) rfl
 go_enter L.f153,Body.n153_ntmps ρ
 go_wp2_with (go_at_fn (ρ.f 226);refine(Any.strings_shouldUseASCIISet { L with } _ _).mono ?_;rintro e w' ⟨rfl,hw⟩;rw[hw,h8z])
 go_loopg [9,10] s.size (fun g _ _ wx=>∃i:Nat,i<=s.size/\s.size<=i+g/\wx.heap[w.heap.size]? = some (.stringIter s i)/\Below w.heap.size w wx/\Lib.NoAny s.data.toList [34,39] i)
 case atStart=>exact⟨0,Nat.zero_le _,by omega,World.iter_heap ..,(Below.refl _ _).alloc (Nat.le_refl _) _,Lib.NoAny.zero _ _⟩
 case round =>
  obtain⟨i,hi1,hi2,hit,hbw,hno⟩:=hrel
  have HN:Aside (Lib.NoAny s.data.toList [34,39] i):=hno
  have HB:Aside (Below w.heap.size w wr):=hbw
  have hlen:w.heap.size<wr.heap.size:=(Array.getElem?_eq_some_iff.1 hit).1
  clear hno hbw
  by_cases hlt:i<s.size
  ·obtain⟨g',rfl⟩:∃g',gk=g'+1:=⟨gk-1,by omega⟩
   obtain⟨x,hx⟩:∃x:UInt8,s[i]'hlt=x:=⟨_,rfl⟩
   have hxl:s.data.toList[i]? = some x:=by rw[<-hx];exact Lib.data_getElem? s i hlt
   by_cases h128:x.toNat<128
   ·have hnx:=fun ty=>Lib.run_next_ascii_at (P:=P) wr w.heap.size s i ty hit hlt (by rw[hx];exact h128)
    rw[hx] at hnx
    have hcon:=Lib.contains_iff_indexByte [34,39] x
    have hback:((x.toNat:Int)).toNat.toUInt8=x:=by simp
    have hit2:=Lib.iterAt_heap wr w.heap.size s i (i+1) hit
    have hbi:Below w.heap.size w (wr.iterAt w.heap.size s (i+1)):=Lib.below_iterAt HB.out (Nat.le_refl _) s (i+1)
    have Hx:Aside (s.data.toList[i]? = some x):=hxl
    clear hxl hx
    cases hin:([34,39]:Bs).contains x
    ·rw[hin] at hcon
     have hge:¬((0:Int)<=Lib.indexByte [34,39] x):=of_decide_eq_false hcon.symm
     clear hcon
     go_wp2_with (go_at_fn (ρ.f 152);refine(Any.strings_IndexRune_ascii { L with } marks _ _ (by omega) (by omega)).mono ?_;rintro e w' ⟨rfl,hw⟩;rw[hw,hback])
     go_roundg g'
     case measure=>omega
     case rel=>exact⟨i+1,by omega,by omega,hit2,hbi,HN.out.succ Hx.out hin⟩
    ·rw[hin] at hcon
     have hge:(0:Int)<=Lib.indexByte [34,39] x:=of_decide_eq_true hcon.symm
     clear hcon
     go_wp2_with (go_at_fn (ρ.f 152);refine(Any.strings_IndexRune_ascii { L with } marks _ _ (by omega) (by omega)).mono ?_;rintro e w' ⟨rfl,hw⟩;rw[hw,hback])
     go_ret
     exact⟨by rw[Lib.indexAny_hit HN.out Hx.out hin];rfl,hbi⟩
   ·have hhi:128<=(s[i]'hlt).toNat:=by rw[hx];omega
    obtain⟨d1,d2⟩:=decode_high s i hlt hhi
    have hle:=decode_le s i
    have hsp:=(F6 s i hlt hhi).1
    have hnx:=fun ty=>Lib.run_next_any_at (P:=P) wr w.heap.size s i ty hit hlt
    have hit2:=Lib.iterAt_heap wr w.heap.size s i (i+(Utf8.decode s i).2) hit
    have hbi:Below w.heap.size w (wr.iterAt w.heap.size s (i+(Utf8.decode s i).2)):=Lib.below_iterAt HB.out (Nat.le_refl _) s (i+(Utf8.decode s i).2)
    have hsz:=Lib.iterAt_size wr w.heap.size s (i+(Utf8.decode s i).2)
    have HN2:Aside (Lib.NoAny s.data.toList [34,39] (i+(Utf8.decode s i).2)):=JI hlt hhi HN.out
    clear hxl hx hhi HN
    revert d1 d2 hle hsp hnx hit2 hbi hsz HN2
    generalize (Utf8.decode s i).1=c
    generalize (Utf8.decode s i).2=wd
    intro d1 d2 hle hsp hnx hit2 hbi hsz HN2
    revert hnx hit2 hbi hsz
    generalize wr.iterAt w.heap.size s (i+wd)=W1
    intro hnx hit2 hbi hsz
    go_wp2_with (go_at_fn (ρ.f 152);refine(CS { L with } _ _ (by omega) (by omega)).mono ?_;rintro e w' ⟨rfl,hb⟩)
    go_roundg g'
    case measure=>omega
    case rel=>exact⟨i+wd,by omega,by omega,(hb.block _ (by rw[hsz];omega)).trans hit2,hbi.trans (hb.mono (by rw[hsz];omega)),HN2.out⟩
  ·obtain rfl:i=s.size:=by omega
   have hnx:=fun ty=>Lib.run_next_end_at (P:=P) wr w.heap.size s s.size ty hit hlt
   go_wp2
   go_ret
   exact⟨by rw[Lib.indexAny_none (by rw[<-Lib.size_eq];exact HN.out)];rfl,HB.out⟩
set_option maxHeartbeats 4000000 in
theorem containsAny(L:Lays.n150 P ρ)(hv116:∀w,(zeroValue (ρ.t 116)).run P w=.ok (.agg (Array.replicate 256 (.bool false))) w)(hi116:(P.info? (ρ.t 116)).map (·.size)=some 256)(s:ByteArray)(w:World)(hs:s.size<4294967281) :
  Calls P (ρ.f 150) #[.string s,.string marks] w fun e w'=>e=.returned (.bool (Lib.containsAny s.data.toList [34,39]))/\Below w.heap.size w w':=by
 have c:Calls P (ρ.f 153) #[.string s,.string marks] w fun e w'=>e=.returned (.int .i64 (Lib.indexAny s.data.toList [34,39]))/\Below w.heap.size w w':=by
  by_cases h8:s.size<=8
  ·exact BQ { L with } s w h8
  ·refine(Any.strings_IndexAny_long { L with } hv116 hi116 s marks w (by decide) (by omega) hs (by decide) (fun j b hb=>?_)).mono fun e w' ⟨h1,h2⟩=>⟨h1,?_⟩
   ·have hm:=List.mem_of_getElem? hb
    rcases List.mem_cons.1 hm with rfl|hm
    ·decide
    ·rw[List.mem_singleton.1 hm];decide
   ·rw[h2]
    exact((Below.refl _ _).alloc (Nat.le_refl _) _).alloc (by simp) _
 have t3:=L.t3;have a3:=L.a3;have z3:=L.z3;have v3:=L.v3
 have t4:=L.t4;have a4:=L.a4;have z4:=L.z4;have v4:=L.v4
 have t9:=L.t9;have a9:=L.a9;have z9:=L.z9;have v9:=L.v9
 have e153:∀args w,(callFunc (ρ.f 153) args).run P w=.ok (.enter (ρ.f 153) args) w:=enters_of L.f153 (by kernel_rfl) rfl
 go_enter L.f150,Body.n150_ntmps ρ
 go_wp2_with (go_at_fn (ρ.f 153);refine c.mono ?_;rintro e w' ⟨rfl,hw⟩)
 go_ret
 exact⟨rfl,hw⟩
end Go.Proofs.YtefojkdckfidcaaGreatDoor.Any11
namespace Go.Proofs.YtefojkdckfidcaaGreatDoor.M.Sh
open Go.RowKit Go.Proofs.YtefojkdckfidcaaGreatDoor.RX
theorem LD:(Tryz.prog.info? (Tryz.yY.t 116)).map (fun i=>(i.zero,i.size))=some (some (.agg (Array.replicate 256 (.bool false))),256):=by kernel_rfl
theorem P5{a:Bs}(h:decide (List.length a<4294967281)=true):bg Tryz.prog 50 [.str a,.str [34,39]] (.val (.bool (Lib.containsAny a [34,39]))):=by
 refine yI ⟨Tryz.f50,by kernel_rfl,by kernel_rfl,by kernel_rfl⟩ fun F w args hsh hr=>?_
 rw[AX hr]
 refine(Any11.containsAny Tryz.OU (Go.zero_of_info LD).1 (Go.zero_of_info LD).2 ⟨a.toArray⟩ w (by rw[J6];exact of_decide_eq_true h)).mono ?_
 rintro e w' ⟨rfl,hb⟩
 exact⟨_,rfl,fun F' w''=>.val _ rfl,hb⟩
end Go.Proofs.YtefojkdckfidcaaGreatDoor.M.Sh
