import Derived.Test.YtpmmhhmhckpnfaaDoorQRxAnyB
import Derived.Test.YtpmmhhmhckpnfaaDoorQRxOrd
import Derived.Test.YtpmmhhmhckpnfaaDoorProg
set_option linter.all false
namespace Go.Proofs.YtpmmhhmhckpnfaaDoor.M
open Go.RowKit Go.Proofs.YtpmmhhmhckpnfaaDoor.RX
set_option maxRecDepth 100000
def tab:List (Nat×TI):=[
 (3,{ agg:=false,size:=1,zero:=[.int .i64 0],kind:=.int .i64,eqs:=[] }),
 (4,{ agg:=false,size:=1,zero:=[.bool false],kind:=.bool,eqs:=[] }),
 (9,{ agg:=false,size:=1,zero:=[.string ⟨#[]⟩],kind:=.str,eqs:=[] }),
 (22,{ agg:=false,size:=1,zero:=[.slice none 0 0],kind:=.slice 18 true,elt:=35,eb:=280,ez:=[.string ⟨#[]⟩,.string ⟨#[]⟩,.slice none 0 0,.slice none 0 0,.slice none 0 0,.slice none 0 0,.slice none 0 0,.slice none 0 0,.slice none 0 0,.int .i64 0,.string ⟨#[]⟩,.int .i64 0,.int .i64 0,.int .i64 0,.int .i64 0,.int .i64 0,.int .i64 0,.int .i64 0],ek:=none,eqs:=[] }),
 (23,{ agg:=false,size:=1,zero:=[.slice none 0 0],kind:=.slice 1 false,elt:=9,eb:=16,ez:=[.string ⟨#[]⟩],ek:=none,eqs:=[] }),
 (25,{ agg:=true,size:=4,zero:=[.string ⟨#[]⟩,.slice none 0 0,.slice none 0 0,.slice none 0 0],kind:=.struct [(0,1,false),(1,1,false),(2,1,false),(3,1,false)],eqs:=[] }),
 (28,{ agg:=false,size:=1,zero:=[.slice none 0 0],kind:=.slice 2 true,elt:=136,eb:=32,ez:=[.string ⟨#[]⟩,.string ⟨#[]⟩],ek:=none,eqs:=[] }),
 (29,{ agg:=false,size:=1,zero:=[.slice none 0 0],kind:=.slice 4 true,elt:=72,eb:=48,ez:=[.string ⟨#[]⟩,.int .i64 0,.int .i64 0,.string ⟨#[]⟩],ek:=none,eqs:=[] }),
 (30,{ agg:=false,size:=1,zero:=[.slice none 0 0],kind:=.slice 3 true,elt:=70,eb:=40,ez:=[.string ⟨#[]⟩,.string ⟨#[]⟩,.bool false],ek:=none,eqs:=[] }),
 (31,{ agg:=false,size:=1,zero:=[.slice none 0 0],kind:=.slice 4 true,elt:=46,eb:=32,ez:=[.string ⟨#[]⟩,.int .i64 0,.bool false,.bool false],ek:=none,eqs:=[] }),
 (33,{ agg:=true,size:=4,zero:=[.string ⟨#[]⟩,.int .i64 0,.int .i64 0,.int .i64 0],kind:=.struct [(0,1,false),(1,1,false),(2,1,false),(3,1,false)],eqs:=[] }),
 (35,{ agg:=true,size:=18,zero:=[.string ⟨#[]⟩,.string ⟨#[]⟩,.slice none 0 0,.slice none 0 0,.slice none 0 0,.slice none 0 0,.slice none 0 0,.slice none 0 0,.slice none 0 0,.int .i64 0,.string ⟨#[]⟩,.int .i64 0,.int .i64 0,.int .i64 0,.int .i64 0,.int .i64 0,.int .i64 0,.int .i64 0],kind:=.struct [(0,1,false),(1,1,false),(2,1,false),(3,1,false),(4,1,false),(5,1,false),(6,1,false),(7,1,false),(8,1,false),(9,1,false),(10,4,true),(14,1,false),(15,1,false),(16,1,false),(17,1,false)],eqs:=[] }),
 (46,{ agg:=true,size:=4,zero:=[.string ⟨#[]⟩,.int .i64 0,.bool false,.bool false],kind:=.struct [(0,1,false),(1,1,false),(2,1,false),(3,1,false)],eqs:=[] }),
 (49,{ agg:=false,size:=1,zero:=[.map none],kind:=.map none 1 true,elt:=57,eb:=0,ez:=[.slice none 0 0],ek:=none,eqs:=[] }),
 (51,{ agg:=true,size:=2,zero:=[.slice none 0 0,.map none],kind:=.struct [(0,1,false),(1,1,false)],eqs:=[] }),
 (57,{ agg:=true,size:=1,zero:=[.slice none 0 0],kind:=.struct [(0,1,false)],eqs:=[] }),
 (58,{ agg:=false,size:=1,zero:=[.map none],kind:=.map none 1 false,elt:=3,eb:=0,ez:=[.int .i64 0],ek:=none,eqs:=[] }),
 (68,{ agg:=false,size:=1,zero:=[.nilFunc],kind:=.other,eqs:=[] }),
 (70,{ agg:=true,size:=3,zero:=[.string ⟨#[]⟩,.string ⟨#[]⟩,.bool false],kind:=.struct [(0,1,false),(1,1,false),(2,1,false)],eqs:=[] }),
 (72,{ agg:=true,size:=4,zero:=[.string ⟨#[]⟩,.int .i64 0,.int .i64 0,.string ⟨#[]⟩],kind:=.struct [(0,1,false),(1,1,false),(2,1,false),(3,1,false)],eqs:=[] }),
 (101,{ agg:=false,size:=1,zero:=[.nilFunc],kind:=.other,eqs:=[] })]
theorem GU:rB Tryd.prog tab:=⟨⟨by kernel_rfl,fun h=>absurd rfl h⟩,⟨by kernel_rfl,fun h=>absurd rfl h⟩,⟨by kernel_rfl,fun h=>absurd rfl h⟩,⟨by kernel_rfl,fun h=>absurd rfl h⟩,⟨by kernel_rfl,fun h=>absurd rfl h⟩,⟨by kernel_rfl,fun h=>absurd rfl h⟩,⟨by kernel_rfl,fun h=>absurd rfl h⟩,⟨by kernel_rfl,fun h=>absurd rfl h⟩,⟨by kernel_rfl,fun h=>absurd rfl h⟩,⟨by kernel_rfl,fun h=>absurd rfl h⟩,⟨by kernel_rfl,fun h=>absurd rfl h⟩,⟨by kernel_rfl,fun h=>absurd rfl h⟩,⟨by kernel_rfl,fun h=>absurd rfl h⟩,⟨by kernel_rfl,fun h=>absurd rfl h⟩,⟨by kernel_rfl,fun h=>absurd rfl h⟩,⟨by kernel_rfl,fun h=>absurd rfl h⟩,⟨by kernel_rfl,fun h=>absurd rfl h⟩,⟨by kernel_rfl,fun h=>absurd rfl h⟩,⟨by kernel_rfl,fun h=>absurd rfl h⟩,⟨by kernel_rfl,fun h=>absurd rfl h⟩,⟨by kernel_rfl,fun h=>absurd rfl h⟩,trivial⟩
theorem hΓ:ΓOK Tryd.prog (u5 tab):=ΓOK.of GU
theorem hm:Tryd.prog.follows .mixedOrders=true:=by kernel_rfl
structure bY where
 AV:Bs
 Az:Bs
structure cZ where
 qE:Bs
 yx:Int
 BF:Int
 qJ:Bs
structure aT where
 aQ:Bs
 dZ:Bs
 mX:Bool
structure aL where
 bC:Bs
 qy:Int
 dX:Bool
 fL:Bool
structure gx where
 kj:Bs
 jE:Int
 jB:Int
 iH:Int
structure aF where
 aS:Bs
 iR:Bs
 du:Ls
 kY:List (bY)
 iz:List (bY)
 dG:List (cZ)
 bG:List (aT)
 bZ:Ls
 aV:List (aL)
 fM:Int
 bK:gx
 dX:Int
 ja:Int
 kh:Int
 lY:Int
structure aD where
 aS:Bs
 av:List (aF)
 bZ:Ls
 j6:Ls
abbrev aP:aF:=(aF.mk [] [] [] [] [] [] [] [] [] 0 (gx.mk [] 0 0 0) 0 0 0 0)
def aO:Bs->List D:=fun x=>[.str x]
abbrev vi(x:Int):D:=.val (.int .i64 x)
abbrev vb(x:Bool):D:=.val (.bool x)
abbrev ls(l:Ls):D:=.recs (α:=Bs) [] aO l
theorem rg{nt:Nat}{F0:Fz}{w0:Pt Tryd.prog}{K:List (Nat×D)}{L:ay}{Q:Exit->Act->World->Prop}{id:Nat}{l:List Oper}(kk kl:List Nat)(K':List (Nat×D))(L':ay)(hn:To nt F0 w0 K' L' .normal Q)(h:mg (CX Tryd.prog) (cY Tryd.prog) (u5 tab) nt [] [] l [] K L kk kl=some (K',L',[]):=by kernel_rfl):Wp Tryd.prog nt F0 w0 K L (.region id l.toArray false) Q:=Wp.region hΓ [] [] [] kk kl h ax.nil hn
theorem rr{nt:Nat}{F0:Fz}{w0:Pt Tryd.prog}{K:List (Nat×D)}{L:ay}{Q:Exit->Act->World->Prop}{id:Nat}{l:List Oper}(fz:List (Nat×List Nat))(orc:List (Nat×D))(orb:List (Nat×CBd))(kk kl:List Nat)(K':List (Nat×D))(L':ay)(ob:List Prop)(hob:ax ob)(hn:To nt F0 w0 K' L' .normal Q)(h:mg (CX Tryd.prog) (cY Tryd.prog) (u5 tab) nt orc orb l fz K L kk kl=some (K',L',ob):=by kernel_rfl):Wp Tryd.prog nt F0 w0 K L (.region id l.toArray false) Q:=Wp.region hΓ fz orc orb kk kl h hob hn
theorem kw{nt:Nat}{F0:Fz}{w0:Pt Tryd.prog}{K:List (Nat×D)}{L:ay}{Q:Exit->Act->World->Prop}{c:Code}(kk kl:List Nat)(K':List (Nat×D))(L':ay)(hn:Wp Tryd.prog nt F0 w0 K' L' c Q)(h1:jZ K kk=some K':=by kernel_rfl)(h2:iD L kl=some L':=by kernel_rfl):Wp Tryd.prog nt F0 w0 K L c Q:=Wp.keep h1 h2 hn
theorem kt{nt:Nat}{F0:Fz}{w0:Pt Tryd.prog}{K:List (Nat×D)}{L:ay}{Q:Exit->Act->World->Prop}{e:Exit}(kk kl:List Nat)(K':List (Nat×D))(L':ay)(hn:To nt F0 w0 K' L' e Q)(h1:jZ K kk=some K':=by kernel_rfl)(h2:iD L kl=some L':=by kernel_rfl):To nt F0 w0 K L e Q:=To.keep h1 h2 hn
theorem r0{nt:Nat}{F0:Fz}{w0:Pt Tryd.prog}{K:List (Nat×D)}{L:ay}{Q:Exit->Act->World->Prop}{id:Nat}{l:List Oper}{ob:List Prop}(kk kl:List Nat)(K':List (Nat×D))(L':ay)(hob:ax ob)(hn:To nt F0 w0 K' L' .normal Q)(h:mg (CX Tryd.prog) (cY Tryd.prog) (u5 tab) nt [] [] l [] K L kk kl=some (K',L',ob):=by kernel_rfl):Wp Tryd.prog nt F0 w0 K L (.region id l.toArray false) Q:=Wp.region hΓ [] [] [] kk kl h hob hn
theorem rc{nt:Nat}{F0:Fz}{w0:Pt Tryd.prog}{K:List (Nat×D)}{L:ay}{Q:Exit->Act->World->Prop}{id:Nat}{l:List Oper}{f:Nat}{ds:List D}{r:D}(fz:List (Nat×List Nat))(i:Nat)(kk kl:List Nat)(K':List (Nat×D))(L':ay)(hc:bq Tryd.prog f ds r)(hn:To nt F0 w0 K' L' .normal Q)(h:mg (CX Tryd.prog) (cY Tryd.prog) (u5 tab) nt [(i,r)] [] l fz K L kk kl=some (K',L',[(true=true->CX Tryd.prog f ds r)]):=by kernel_rfl):Wp Tryd.prog nt F0 w0 K L (.region id l.toArray false) Q:=Wp.region hΓ fz [(i,r)] [] kk kl h (ax.cons (fun _=>cx hc) ax.nil) hn
theorem rb{nt:Nat}{F0:Fz}{w0:Pt Tryd.prog}{K:List (Nat×D)}{L:ay}{Q:Exit->Act->World->Prop}{id:Nat}{l:List Oper}{f:Nat}(fz:List (Nat×List Nat))(i:Nat)(c:CBd)(kk kl:List Nat)(K':List (Nat×D))(L':ay)(hc:cY Tryd.prog f c.ds c.Lin c.r c.dN)(hn:To nt F0 w0 K' L' .normal Q)(h:mg (CX Tryd.prog) (cY Tryd.prog) (u5 tab) nt [] [(i,c)] l fz K L kk kl=some (K',L',[qb (cY Tryd.prog) f (D.subs (bX never c.ren) c.ds) (c.Lin.map fun x=>some (x.2.1,D.subs (bX never c.ren) x.2.2)) c]):=by kernel_rfl):Wp Tryd.prog nt F0 w0 K L (.region id l.toArray false) Q:=Wp.region hΓ fz [] [(i,c)] kk kl h (ax.cons ⟨hc,rfl,rfl⟩ ax.nil) hn
theorem c1{f:Nat}{ds:List D}{r:D}(h:bq Tryd.prog f ds r):true=true->CX Tryd.prog f ds r:=fun _=>cx h
theorem cn{nt:Nat}{F0:Fz}{w0:Pt Tryd.prog}{K:List (Nat×D)}{L:ay}{Q:Exit->Act->World->Prop}{t:Nat}{x y:Code}{b:Bool}{α:Type _}{p q r:α}(h:(if b=true then p else q)=r)(h1:p=r->Wp Tryd.prog nt F0 w0 K L x Q)(h2:q=r->Wp Tryd.prog nt F0 w0 K L y Q)(hc:K.lookup t=some (.val (.bool b)):=by kernel_rfl):Wp Tryd.prog nt F0 w0 K L (.cond (.tmp t) x y) Q:=Wp.cond hc (fun hb=>h1 (iZ hb h)) (fun hb=>h2 (wO hb h))
theorem xo{f : Nat}(fn : Func){c : Code}{ds : List D}{r : D}(hbody : fn.body=some c)(h : ∀(F0 : Fz)(w0 : World)(hsh : Shp Tryd.prog w0),Wp Tryd.prog fn.ntmps F0 (.top w0 hsh) (ds.zipIdx.map fun x=>(x.2,x.1)) [] c (bodyPost Tryd.prog fn (pR F0 w0 r)))(hf : Tryd.prog.funcs[f]? = some fn:=by kernel_rfl)(hname : (fn.name == "runtime.NumGoroutine")=false:=by kernel_rfl)(hn : ds.length.ble fn.ntmps=true:=by kernel_rfl) : bq Tryd.prog f ds r:=rX hf hbody hname (Nat.le_of_ble_eq_true hn) h
theorem bo{f : Nat}(fn : Func){c : Code}{ds : List D}{Lin : ay}{r : D}{dN : ay}(hbody : fn.body=some c)(h : ∀(F0 : Fz)(w0 : Pt Tryd.prog),Wp Tryd.prog fn.ntmps F0 w0.cl (ds.zipIdx.map fun x=>(x.2,x.1)) Lin c (bodyPost Tryd.prog fn (PostB F0 w0.cl r dN)))(hf : Tryd.prog.funcs[f]? = some fn:=by kernel_rfl)(hname : (fn.name == "runtime.NumGoroutine")=false:=by kernel_rfl)(hn : ds.length.ble fn.ntmps=true:=by kernel_rfl) : cY Tryd.prog f ds Lin r dN:=pO hf hbody hname (Nat.le_of_ble_eq_true hn) h
def rnA:List (Nat×Nat)->List (Nat×D)->ay->Option (List (Nat×D)×ay)
 |[],K,L=>some (K,L)
 |x::rs,K,L=>if(Nat.blt x.2 1000000&&l4 x.2 K L)=true then rnA rs (FO x.1 x.2 K) (Ed x.1 x.2 L) else none
theorem yO{nt:Nat}{F0:Fz}{w0:Pt Tryd.prog}:∀(rs:List (Nat×Nat)){K K':List (Nat×D)}{L L':ay},rnA rs K L=some (K',L')->∀a w,St nt F0 w0 K L a w->St nt F0 w0 K' L' a w
 |[],_,_,_,_,h,_,_,hs=>by cases h;exact hs
 |x::rs,K,K',L,L',h,a,w,hs=>by
  unfold rnA at h
  split at h
  ·rename_i hc
   rw[Bool.and_eq_true] at hc
   exact yO rs h a w (St.rename x.1 x.2 (by simpa using hc.1) hc.2 rfl rfl a w hs)
  ·cases h
def knA(rs:List (Nat×Nat))(k0 l0 kk kl:List Nat)(K:List (Nat×D))(L:ay):Option (List (Nat×D)×ay) :=
 match jZ K k0,iD L l0 with
 |some K0,some L0=>(match rnA rs K0 L0 with
  |some (K1,L1)=>(match jZ K1 kk,iD L1 kl with|some K2,some L2=>some (K2,L2)|_,_=>none)
  |none=>none)
 |_,_=>none
theorem B8{nt:Nat}{F0:Fz}{w0:Pt Tryd.prog}{rs:List (Nat×Nat)}{k0 l0 kk kl:List Nat}{K K':List (Nat×D)}{L L':ay}(h:knA rs k0 l0 kk kl K L=some (K',L')):∃K0 L0 K1 L1,jZ K k0=some K0/\iD L l0=some L0/\rnA rs K0 L0=some (K1,L1)/\jZ K1 kk=some K'/\iD L1 kl=some L':=by
 unfold knA at h
 split at h
 ·rename_i K0 L0 e1 e2
  split at h
  ·rename_i K1 L1 e3
   split at h
   ·rename_i K2 L2 e4 e5
    cases h
    exact⟨K0,L0,K1,L1,e1,e2,e3,e4,e5⟩
   ·cases h
  ·cases h
 ·cases h
theorem nw{nt:Nat}{F0:Fz}{w0:Pt Tryd.prog}{K:List (Nat×D)}{L:ay}{Q:Exit->Act->World->Prop}{c:Code}(k0 l0:List Nat)(rs:List (Nat×Nat))(kk kl:List Nat)(K':List (Nat×D))(L':ay)(hn:Wp Tryd.prog nt F0 w0 K' L' c Q)(h:knA rs k0 l0 kk kl K L=some (K',L'):=by kernel_rfl):Wp Tryd.prog nt F0 w0 K L c Q :=
 let ⟨_,_,_,_,e1,e2,e3,e4,e5⟩:=B8 (w0:=w0) (F0:=F0) (nt:=nt) h
 Wp.keep e1 e2 (Wp.pre (yO rs e3) (Wp.keep e4 e5 hn))
theorem nt{nt:Nat}{F0:Fz}{w0:Pt Tryd.prog}{K:List (Nat×D)}{L:ay}{Q:Exit->Act->World->Prop}{e:Exit}(k0 l0:List Nat)(rs:List (Nat×Nat))(kk kl:List Nat)(K':List (Nat×D))(L':ay)(hn:To nt F0 w0 K' L' e Q)(h:knA rs k0 l0 kk kl K L=some (K',L'):=by kernel_rfl):To nt F0 w0 K L e Q :=
 let ⟨_,_,_,_,e1,e2,e3,e4,e5⟩:=B8 (w0:=w0) (F0:=F0) (nt:=nt) h
 To.keep e1 e2 (To.pre (yO rs e3) (To.keep e4 e5 hn))
def jj:bY->List D:=fun x=>[.str x.AV,.str x.Az]
def kW:cZ->List D:=fun x=>[.str x.qE,.val (.int .i64 x.yx),.val (.int .i64 x.BF),.str x.qJ]
def kD:aT->List D:=fun x=>[.str x.aQ,.str x.dZ,.val (.bool x.mX)]
def iK:aL->List D:=fun x=>[.str x.bC,.val (.int .i64 x.qy),.val (.bool x.dX),.val (.bool x.fL)]
def au:aF->List D:=fun x=>[.str x.aS,.str x.iR,.recs (α:=Bs) [] aO x.du,.recs (α:=bY) (bY.mk [] []) jj x.kY,.recs (α:=bY) (bY.mk [] []) jj x.iz,.recs (α:=cZ) (cZ.mk [] 0 0 []) kW x.dG,.recs (α:=aT) (aT.mk [] [] false) kD x.bG,.recs (α:=Bs) [] aO x.bZ,.recs (α:=aL) (aL.mk [] 0 false false) iK x.aV,.val (.int .i64 x.fM),.str x.bK.kj,.val (.int .i64 x.bK.jE),.val (.int .i64 x.bK.jB),.val (.int .i64 x.bK.iH),.val (.int .i64 x.dX),.val (.int .i64 x.ja),.val (.int .i64 x.kh),.val (.int .i64 x.lY)]
def fY(n:Nat)(b1:aF):Nat->Int->Option (Sum (Unit) (Bool))
 |0,_=>none
 |k+1,v3=>if(decide (v3<(List.length b1.du:Int)))=true then(if(decide (0<=v3/\v3<(List.length b1.du:Int)))=true then(if(decide ((List.length ((b1.du)[Int.toNat v3]?.getD []):Int)>100))=true then(some (.inr false))
 else(fY n b1 k (IntKind.wrap .i64 (v3+1)))) else none)
 else(some (.inl ()))
abbrev ex1(x0:Int):Nat×D:=(3,vi (IntKind.wrap .i64 (x0+1)))
variable {F0:Fz} {w0:Pt Tryd.prog} {Q:Exit->Act->World->Prop}
theorem tX(n:Nat)(b1:aF)(k:Nat):∀(v3:Int)(o:Sum (Unit) (Bool)),fY n b1 k v3=some o->(Sum.elim (fun s=>To 85 F0 w0 [(1,.own 1 0)] [(1,35,(au b1))] (.exit 0) Q) (fun s=>To 85 F0 w0 [(2,vb s)] [] .ret Q)) o->WL Tryd.prog 85 F0 w0 [(1,.own 1 0),(3,vi v3)] [(1,35,(au b1))] (cI (cI (cB (cA (cB (cF Tryd.f22)))))) Q:=by
 induction k with
 |zero=>intro v3 o h;cases h
 |succ k ih =>
  intro v3 o h hQ
  rw[fY] at h
  refine WL.round (Wp.seq (Wp.seq (rg [1,3,11] [1] [(1,.own 1 0),(3,vi v3),(11,vb (decide (v3<(List.length b1.du:Int))))] [(1,35,(au b1))] (To.aj (cn h (fun h=>?_) (fun h=>?_))))))
  ·refine Wp.skip (To.aj (Wp.seq (Wp.block (Wp.seq ?_))))
   obtain⟨hc1,h⟩:=bg h
   refine r0 [1,3,20] [1] [(1,.own 1 0),(3,vi v3),(20,vb (decide ((List.length ((b1.du)[Int.toNat v3]?.getD []):Int)>100)))] [(1,35,(au b1))] (ax.cons hc1 ax.nil) (To.aj (cn h (fun h=>?_) (fun h=>?_)))
   ·refine Wp.seq (rg [2] [] [(2,vb false)] [] (To.aj (Wp.ret (To.bH (To.aX (To.aX ?_))))))
    cases h
    exact hQ
   ·refine Wp.skip (To.bT (To.aj (rg [1,3] [1] [(1,.own 1 0),(ex1 v3)] [(1,35,(au b1))] (kt [1,3] [1] [(1,.own 1 0),(ex1 v3)] [(1,35,(au b1))] (To.again ?_)))))
    exact ih (IntKind.wrap .i64 (v3+1)) _ h hQ
  ·refine Wp.exit (To.aZ (To.aZ (kt [1] [1] [(1,.own 1 0)] [(1,35,(au b1))] ?_)))
   cases h
   exact hQ
def gi(n:Nat)(b1:aF):Nat->Int->Option (Sum (Unit) (Bool))
 |0,_=>none
 |k+1,v4=>if(decide (v4<(List.length b1.bZ:Int)))=true then(if(decide (0<=v4/\v4<(List.length b1.bZ:Int)))=true then(if(decide ((List.length ((b1.bZ)[Int.toNat v4]?.getD []):Int)>100))=true then(some (.inr false))
 else(gi n b1 k (IntKind.wrap .i64 (v4+1)))) else none)
 else(some (.inl ()))
theorem tJ(n:Nat)(b1:aF)(k:Nat):∀(v4:Int)(o:Sum (Unit) (Bool)),gi n b1 k v4=some o->(Sum.elim (fun s=>To 85 F0 w0 [(1,.own 1 0)] [(1,35,(au b1))] (.exit 2) Q) (fun s=>To 85 F0 w0 [(2,vb s)] [] .ret Q)) o->WL Tryd.prog 85 F0 w0 [(1,.own 1 0),(4,vi v4)] [(1,35,(au b1))] (cI (cI (cB (cA (cB (cB (cF Tryd.f22))))))) Q:=by
 induction k with
 |zero=>intro v4 o h;cases h
 |succ k ih =>
  intro v4 o h hQ
  rw[gi] at h
  refine WL.round (Wp.seq (Wp.seq (rg [1,4,25] [1] [(1,.own 1 0),(4,vi v4),(25,vb (decide (v4<(List.length b1.bZ:Int))))] [(1,35,(au b1))] (To.aj (cn h (fun h=>?_) (fun h=>?_))))))
  ·refine Wp.skip (To.aj (Wp.seq (Wp.block (Wp.seq ?_))))
   obtain⟨hc2,h⟩:=bg h
   refine r0 [1,4,34] [1] [(1,.own 1 0),(4,vi v4),(34,vb (decide ((List.length ((b1.bZ)[Int.toNat v4]?.getD []):Int)>100)))] [(1,35,(au b1))] (ax.cons hc2 ax.nil) (To.aj (cn h (fun h=>?_) (fun h=>?_)))
   ·refine Wp.seq (rg [2] [] [(2,vb false)] [] (To.aj (Wp.ret (To.bH (To.aX (To.aX ?_))))))
    cases h
    exact hQ
   ·refine Wp.skip (To.bT (To.aj (rg [1,4] [1] [(1,.own 1 0),(4,vi (IntKind.wrap .i64 (v4+1)))] [(1,35,(au b1))] (kt [1,4] [1] [(1,.own 1 0),(4,vi (IntKind.wrap .i64 (v4+1)))] [(1,35,(au b1))] (To.again ?_)))))
    exact ih (IntKind.wrap .i64 (v4+1)) _ h hQ
  ·refine Wp.exit (To.aZ (To.aZ (kt [1] [1] [(1,.own 1 0)] [(1,35,(au b1))] ?_)))
   cases h
   exact hQ
def dR(n:Nat)(b1:aF):Nat->Int->Option (Sum (Unit) (Bool))
 |0,_=>none
 |k+1,v5=>if(decide (v5<(List.length b1.bG:Int)))=true then(if(decide (0<=v5/\v5<(List.length b1.bG:Int)))=true then(if((!((decide ((List.length (((b1.bG)[Int.toNat v5]?.getD (aT.mk [] [] false)).aQ):Int)>100))==false)||decide (0<=v5/\v5<(List.length b1.bG:Int))))=true then(kE ((bif (decide ((List.length (((b1.bG)[Int.toNat v5]?.getD (aT.mk [] [] false)).aQ):Int)>100)) then true else(decide ((List.length (((b1.bG)[Int.toNat v5]?.getD (aT.mk [] [] false)).dZ):Int)>100))):Bool) fun x3 =>
 if x3=true then(some (.inr false))
 else(dR n b1 k (IntKind.wrap .i64 (v5+1)))) else none) else none)
 else(some (.inl ()))
abbrev zx1:aT:=aT.mk [] [] false
abbrev ex2(x0:Int):Nat×D:=(5,vi (IntKind.wrap .i64 (x0+1)))
theorem ua(n:Nat)(b1:aF)(k:Nat):∀(v5:Int)(o:Sum (Unit) (Bool)),dR n b1 k v5=some o->(Sum.elim (fun s=>To 85 F0 w0 [(1,.own 1 0)] [(1,35,(au b1))] (.exit 4) Q) (fun s=>To 85 F0 w0 [(2,vb s)] [] .ret Q)) o->WL Tryd.prog 85 F0 w0 [(1,.own 1 0),(5,vi v5)] [(1,35,(au b1))] (cI (cI (cB (cA (cB (cB (cB (cF Tryd.f22)))))))) Q:=by
 induction k with
 |zero=>intro v5 o h;cases h
 |succ k ih =>
  intro v5 o h hQ
  rw[dR] at h
  refine WL.round (Wp.seq (Wp.seq (rg [1,5,39] [1] [(1,.own 1 0),(5,vi v5),(39,vb (decide (v5<(List.length b1.bG:Int))))] [(1,35,(au b1))] (To.aj (cn h (fun h=>?_) (fun h=>?_))))))
  ·refine Wp.skip (To.aj (Wp.seq (Wp.block (Wp.seq ?_))))
   obtain⟨hc4,h⟩:=bg h
   obtain⟨hc5,h⟩:=bg h
   obtain⟨x3,hx3,h⟩:=kC h
   refine r0 [1,5,59] [1] [(1,.own 1 0),(5,vi v5),(59,vb (bif (decide ((List.length (((b1.bG)[Int.toNat v5]?.getD zx1).aQ):Int)>100)) then true else(decide ((List.length (((b1.bG)[Int.toNat v5]?.getD zx1).dZ):Int)>100))))] [(1,35,(au b1))] (ax.cons hc4 (ax.cons hc5 ax.nil)) (To.eq (K':=[(1,.own 1 0),(5,vi v5),(59,vb x3)]) (L':=[(1,35,(au b1))]) (by cases hx3;rfl) (by cases hx3;rfl) (To.aj (cn h (fun h=>?_) (fun h=>?_))))
   ·refine Wp.seq (rg [2] [] [(2,vb false)] [] (To.aj (Wp.ret (To.bH (To.aX (To.aX ?_))))))
    cases h
    exact hQ
   ·refine Wp.skip (To.bT (To.aj (rg [1,5] [1] [(1,.own 1 0),(ex2 v5)] [(1,35,(au b1))] (kt [1,5] [1] [(1,.own 1 0),(ex2 v5)] [(1,35,(au b1))] (To.again ?_)))))
    exact ih (IntKind.wrap .i64 (v5+1)) _ h hQ
  ·refine Wp.exit (To.aZ (To.aZ (kt [1] [1] [(1,.own 1 0)] [(1,35,(au b1))] ?_)))
   cases h
   exact hQ
def fZ(n:Nat)(b1:aF):Nat->Int->Option (Sum (Unit) (Bool))
 |0,_=>none
 |k+1,v6=>if(decide (v6<(List.length b1.dG:Int)))=true then(if(decide (0<=v6/\v6<(List.length b1.dG:Int)))=true then(if((!((decide ((List.length (((b1.dG)[Int.toNat v6]?.getD (cZ.mk [] 0 0 [])).qE):Int)>100))==false)||decide (0<=v6/\v6<(List.length b1.dG:Int))))=true then(kE ((bif (decide ((List.length (((b1.dG)[Int.toNat v6]?.getD (cZ.mk [] 0 0 [])).qE):Int)>100)) then true else(decide ((List.length (((b1.dG)[Int.toNat v6]?.getD (cZ.mk [] 0 0 [])).qJ):Int)>100))):Bool) fun x4 =>
 if x4=true then(some (.inr false))
 else(fZ n b1 k (IntKind.wrap .i64 (v6+1)))) else none) else none)
 else(some (.inl ()))
abbrev zx2:cZ:=cZ.mk [] 0 0 []
abbrev ex3(x0:Int):Nat×D:=(6,vi (IntKind.wrap .i64 (x0+1)))
theorem uh(n:Nat)(b1:aF)(k:Nat):∀(v6:Int)(o:Sum (Unit) (Bool)),fZ n b1 k v6=some o->(Sum.elim (fun s=>To 85 F0 w0 [] [] (.exit 6) Q) (fun s=>To 85 F0 w0 [(2,vb s)] [] .ret Q)) o->WL Tryd.prog 85 F0 w0 [(1,.own 1 0),(6,vi v6)] [(1,35,(au b1))] (cI (cI (cB (cA (cB (cB (cB (cB (cF Tryd.f22))))))))) Q:=by
 induction k with
 |zero=>intro v6 o h;cases h
 |succ k ih =>
  intro v6 o h hQ
  rw[fZ] at h
  refine WL.round (Wp.seq (Wp.seq (rg [1,6,64] [1] [(1,.own 1 0),(6,vi v6),(64,vb (decide (v6<(List.length b1.dG:Int))))] [(1,35,(au b1))] (To.aj (cn h (fun h=>?_) (fun h=>?_))))))
  ·refine Wp.skip (To.aj (Wp.seq (Wp.block (Wp.seq ?_))))
   obtain⟨hc5,h⟩:=bg h
   obtain⟨hc6,h⟩:=bg h
   obtain⟨x4,hx4,h⟩:=kC h
   refine r0 [1,6,84] [1] [(1,.own 1 0),(6,vi v6),(84,vb (bif (decide ((List.length (((b1.dG)[Int.toNat v6]?.getD zx2).qE):Int)>100)) then true else(decide ((List.length (((b1.dG)[Int.toNat v6]?.getD zx2).qJ):Int)>100))))] [(1,35,(au b1))] (ax.cons hc5 (ax.cons hc6 ax.nil)) (To.eq (K':=[(1,.own 1 0),(6,vi v6),(84,vb x4)]) (L':=[(1,35,(au b1))]) (by cases hx4;rfl) (by cases hx4;rfl) (To.aj (cn h (fun h=>?_) (fun h=>?_))))
   ·refine Wp.seq (rg [2] [] [(2,vb false)] [] (To.aj (Wp.ret (To.bH (To.aX (To.aX ?_))))))
    cases h
    exact hQ
   ·refine Wp.skip (To.bT (To.aj (rg [1,6] [1] [(1,.own 1 0),(ex3 v6)] [(1,35,(au b1))] (kt [1,6] [1] [(1,.own 1 0),(ex3 v6)] [(1,35,(au b1))] (To.again ?_)))))
    exact ih (IntKind.wrap .i64 (v6+1)) _ h hQ
  ·refine Wp.exit (To.aZ (To.aZ (kt [] [] [] [] ?_)))
   cases h
   exact hQ
def lN(n:Nat)(a0:aF):Option (Bool) :=
 (fY n a0 n 0).bind fun o1 =>
 (Sum.elim (fun o1=>(gi n a0 n 0).bind fun o2 =>
 (Sum.elim (fun o2=>(dR n a0 n 0).bind fun o3 =>
 (Sum.elim (fun o3=>(fZ n a0 n 0).bind fun o4 =>
 (Sum.elim (fun o4=>some true) (fun o4=>some o4)) o4) (fun o3=>some o3)) o3) (fun o2=>some o2)) o2) (fun o1=>some o1)) o1
abbrev zx3:bY:=bY.mk [] []
abbrev zx4:aL:=aL.mk [] 0 false false
abbrev rs5(l:List (bY)):D:=.recs (α:=bY) zx3 jj l
abbrev rs6(l:List (cZ)):D:=.recs (α:=cZ) zx2 kW l
abbrev rs7(l:List (aT)):D:=.recs (α:=aT) zx1 kD l
abbrev rs8(l:List (aL)):D:=.recs (α:=aL) zx4 iK l
abbrev qc9(x:aF):List D:=[.str x.aS,.str x.iR,ls x.du,rs5 x.kY,rs5 x.iz,rs6 x.dG,rs7 x.bG,ls x.bZ,rs8 x.aV,vi x.fM,.str x.bK.kj,vi x.bK.jE,vi x.bK.jB,vi x.bK.iH,vi x.dX,vi x.ja,vi x.kh,vi x.lY]
theorem xk(n:Nat)(a0:aF)(r:Bool)(h:lN n a0=some r):bq Tryd.prog 22 [.agg (qc9 a0)] (vb r):=by
 unfold lN at h
 refine xo Tryd.f22 rfl fun F0 w0 _=>?_
 refine Wp.seq (rg [1] [1] [(1,.own 1 0)] [(1,35,(au a0))] (To.aj (Wp.seq (Wp.seq (rg [1,3] [1] [(1,.own 1 0),(3,vi 0)] [(1,35,(au a0))] (To.aj (Wp.block ?_)))))))
 obtain⟨o1,ho1,h⟩:=aG h
 refine kw [1,3] [1] [(1,.own 1 0),(3,vi 0)] [(1,35,(au a0))] (Wp.dE (tX n a0 n 0 o1 ho1 ?_))
 rcases o1 with o1|o1
 ·replace h:=ij h
  refine To.cH (To.aj (Wp.seq (Wp.seq (rg [1,4] [1] [(1,.own 1 0),(4,vi 0)] [(1,35,(au a0))] (To.aj (Wp.block ?_))))))
  obtain⟨o2,ho2,h⟩:=aG h
  refine kw [1,4] [1] [(1,.own 1 0),(4,vi 0)] [(1,35,(au a0))] (Wp.dE (tJ n a0 n 0 o2 ho2 ?_))
  rcases o2 with o2|o2
  ·replace h:=ij h
   refine To.cH (To.aj (Wp.seq (Wp.seq (rg [1,5] [1] [(1,.own 1 0),(5,vi 0)] [(1,35,(au a0))] (To.aj (Wp.block ?_))))))
   obtain⟨o3,ho3,h⟩:=aG h
   refine kw [1,5] [1] [(1,.own 1 0),(5,vi 0)] [(1,35,(au a0))] (Wp.dE (ua n a0 n 0 o3 ho3 ?_))
   rcases o3 with o3|o3
   ·replace h:=ij h
    refine To.cH (To.aj (Wp.seq (Wp.seq (rg [1,6] [1] [(1,.own 1 0),(6,vi 0)] [(1,35,(au a0))] (To.aj (Wp.block ?_))))))
    obtain⟨o4,ho4,h⟩:=aG h
    refine kw [1,6] [1] [(1,.own 1 0),(6,vi 0)] [(1,35,(au a0))] (Wp.dE (uh n a0 n 0 o4 ho4 ?_))
    rcases o4 with o4|o4
    ·replace h:=ij h
     refine To.cH (To.aj (Wp.seq (rg [2] [] [(2,vb true)] [] (To.aj (Wp.ret ?_)))))
     cases h
     exact To.done hΓ (by kernel_rfl)
    ·replace h:=il h
     refine To.bH (To.aX ?_)
     cases h
     exact To.done hΓ (by kernel_rfl)
   ·replace h:=il h
    refine To.bH (To.aX ?_)
    cases h
    exact To.done hΓ (by kernel_rfl)
  ·replace h:=il h
   refine To.bH (To.aX ?_)
   cases h
   exact To.done hΓ (by kernel_rfl)
 ·replace h:=il h
  refine To.bH (To.aX ?_)
  cases h
  exact To.done hΓ (by kernel_rfl)
def dO(n:Nat)(b1:aD):Nat->Int->Option (Sum (Unit) (Bool))
 |0,_=>none
 |k+1,v3=>if(decide (v3<(List.length b1.av:Int)))=true then(if(decide (0<=v3/\v3<(List.length b1.av:Int)))=true then(kE ((bif (bif (bif (bif (bif (bif (bif (bif (bif (decide ((List.length (((b1.av)[Int.toNat v3]?.getD aP).du):Int)>40)) then true else(decide ((List.length (((b1.av)[Int.toNat v3]?.getD aP).kY):Int)>40))) then true else(decide ((List.length (((b1.av)[Int.toNat v3]?.getD aP).iz):Int)>40))) then true else(decide ((List.length (((b1.av)[Int.toNat v3]?.getD aP).dG):Int)>40))) then true else(decide ((List.length (((b1.av)[Int.toNat v3]?.getD aP).bG):Int)>40))) then true else(decide ((List.length (((b1.av)[Int.toNat v3]?.getD aP).bZ):Int)>40))) then true else(decide ((List.length (((b1.av)[Int.toNat v3]?.getD aP).aV):Int)>40))) then true else(decide ((List.length (((b1.av)[Int.toNat v3]?.getD aP).aS):Int)>100))) then true else(decide ((List.length (((b1.av)[Int.toNat v3]?.getD aP).iR):Int)>100))) then true else(decide ((List.length (((b1.av)[Int.toNat v3]?.getD aP).bK.kj):Int)>300))):Bool) fun x2 =>
 if x2=true then(some (.inr false))
 else((lN n ((b1.av)[Int.toNat v3]?.getD aP)).bind fun r3 =>
 if(!r3)=true then(some (.inr false))
 else(dO n b1 k (IntKind.wrap .i64 (v3+1))))) else none)
 else(some (.inl ()))
abbrev dB(l:List (aF)):D:=.recs (α:=aF) aP au l
abbrev aM(x:aD):List D:=[.str x.aS,dB x.av,ls x.bZ,ls x.j6]
abbrev ex4(x0:aD)(x1:Int):=((x0.av)[Int.toNat x1]?.getD aP)
abbrev ex5(x0:aD):=(List.length x0.av:Int)
theorem tM(n:Nat)(b1:aD)(k:Nat):∀(v3:Int)(o:Sum (Unit) (Bool)),dO n b1 k v3=some o->(Sum.elim (fun s=>To 101 F0 w0 [] [] (.exit 0) Q) (fun s=>To 101 F0 w0 [(2,vb s)] [] .ret Q)) o->WL Tryd.prog 101 F0 w0 [(1,.own 1 0),(3,vi v3)] [(1,25,aM b1)] (cI (cI (cB (cA (cB (cB (cF Tryd.f14))))))) Q:=by
 induction k with
 |zero=>intro v3 o h;cases h
 |succ k ih =>
  intro v3 o h hQ
  rw[dO] at h
  refine WL.round (Wp.seq (Wp.seq (rg [1,3,31] [1] [(1,.own 1 0),(3,vi v3),(31,vb (decide (v3<(ex5 b1))))] [(1,25,aM b1)] (To.aj (cn h (fun h=>?_) (fun h=>?_))))))
  ·refine Wp.skip (To.aj (Wp.seq (Wp.block (Wp.seq ?_))))
   obtain⟨hc4,h⟩:=bg h
   refine r0 [1,3,4] [1,4] [(1,.own 1 0),(3,vi v3),(4,.own 4 0)] [(1,25,aM b1),(4,35,(au (ex4 b1 v3)))] (ax.cons hc4 ax.nil) (To.aj (Wp.seq (Wp.seq ?_)))
   obtain⟨x2,hx2,h⟩:=kC h
   refine rg [1,3,4,97] [1,4] [(1,.own 1 0),(3,vi v3),(4,.own 4 0),(97,vb (bif (bif (bif (bif (bif (bif (bif (bif (bif (decide ((List.length ((ex4 b1 v3).du):Int)>40)) then true else(decide ((List.length ((ex4 b1 v3).kY):Int)>40))) then true else(decide ((List.length ((ex4 b1 v3).iz):Int)>40))) then true else(decide ((List.length ((ex4 b1 v3).dG):Int)>40))) then true else(decide ((List.length ((ex4 b1 v3).bG):Int)>40))) then true else(decide ((List.length ((ex4 b1 v3).bZ):Int)>40))) then true else(decide ((List.length ((ex4 b1 v3).aV):Int)>40))) then true else(decide ((List.length ((ex4 b1 v3).aS):Int)>100))) then true else(decide ((List.length ((ex4 b1 v3).iR):Int)>100))) then true else(decide ((List.length ((ex4 b1 v3).bK.kj):Int)>300))))] [(1,25,aM b1),(4,35,(au (ex4 b1 v3)))] (To.eq (K':=[(1,.own 1 0),(3,vi v3),(4,.own 4 0),(97,vb x2)]) (L':=[(1,25,aM b1),(4,35,(au (ex4 b1 v3)))]) (by cases hx2;rfl) (by cases hx2;rfl) (To.aj (cn h (fun h=>?_) (fun h=>?_))))
   ·refine Wp.seq (rg [2] [] [(2,vb false)] [] (To.aj (Wp.ret (To.aX (To.bH (To.aX (To.aX ?_)))))))
    cases h
    exact hQ
   ·refine Wp.skip (To.aj (Wp.seq ?_))
    obtain⟨r3,hr3,h⟩:=aG h
    refine rc [] 1 [1,3,100] [1] [(1,.own 1 0),(3,vi v3),(100,vb (!r3))] [(1,25,aM b1)] (xk n (ex4 b1 v3) _ hr3) (To.aj (cn h (fun h=>?_) (fun h=>?_)))
    ·refine Wp.seq (rg [2] [] [(2,vb false)] [] (To.aj (Wp.ret (To.bH (To.aX (To.aX ?_))))))
     cases h
     exact hQ
    ·refine Wp.skip (To.bT (To.aj (rg [1,3] [1] [(1,.own 1 0),(ex1 v3)] [(1,25,aM b1)] (kt [1,3] [1] [(1,.own 1 0),(ex1 v3)] [(1,25,aM b1)] (To.again ?_)))))
     exact ih (IntKind.wrap .i64 (v3+1)) _ h hQ
  ·refine Wp.exit (To.aZ (To.aZ (kt [] [] [] [] ?_)))
   cases h
   exact hQ
def lF(n:Nat)(a0:aD):Option (Bool) :=
 kE ((bif (bif (bif (decide ((List.length a0.av:Int)>20)) then true else(decide ((List.length a0.bZ:Int)>40))) then true else(decide ((List.length a0.j6:Int)>40))) then true else(decide ((List.length a0.aS:Int)>100))):Bool) fun x1 =>
 if x1=true then some false
 else((dO n a0 n 0).bind fun o2 =>
 (Sum.elim (fun o2=>some true) (fun o2=>some o2)) o2)
theorem wL(n:Nat)(a0:aD)(r:Bool)(h:lF n a0=some r):bq Tryd.prog 14 [.agg (aM a0)] (vb r):=by
 unfold lF at h
 refine xo Tryd.f14 rfl fun F0 w0 _=>?_
 refine Wp.seq (rg [1] [1] [(1,.own 1 0)] [(1,25,aM a0)] (To.aj (Wp.seq (Wp.seq ?_))))
 obtain⟨x1,hx1,h⟩:=kC h
 refine rg [1,26] [1] [(1,.own 1 0),(26,vb (bif (bif (bif (decide ((ex5 a0)>20)) then true else(decide ((List.length a0.bZ:Int)>40))) then true else(decide ((List.length a0.j6:Int)>40))) then true else(decide ((List.length a0.aS:Int)>100))))] [(1,25,aM a0)] (To.eq (K':=[(1,.own 1 0),(26,vb x1)]) (L':=[(1,25,aM a0)]) (by cases hx1;rfl) (by cases hx1;rfl) (To.aj (cn h (fun h=>?_) (fun h=>?_))))
 ·refine Wp.seq (rg [2] [] [(2,vb false)] [] (To.aj (Wp.ret (To.aX ?_))))
  cases h
  exact To.done hΓ (by kernel_rfl)
 ·refine Wp.skip (To.aj (Wp.seq (Wp.seq (rg [1,3] [1] [(1,.own 1 0),(3,vi 0)] [(1,25,aM a0)] (To.aj (Wp.block ?_))))))
  obtain⟨o2,ho2,h⟩:=aG h
  refine kw [1,3] [1] [(1,.own 1 0),(3,vi 0)] [(1,25,aM a0)] (Wp.dE (tM n a0 n 0 o2 ho2 ?_))
  rcases o2 with o2|o2
  ·replace h:=ij h
   refine To.cH (To.aj (Wp.seq (rg [2] [] [(2,vb true)] [] (To.aj (Wp.ret ?_)))))
   cases h
   exact To.done hΓ (by kernel_rfl)
  ·replace h:=il h
   refine To.bH (To.aX ?_)
   cases h
   exact To.done hΓ (by kernel_rfl)
def lH(n:Nat)(a0:aD):Option (Bool) :=
 (lF n a0).bind fun r1 =>
 some (bif r1 then(decide ((List.length a0.av:Int)<=8)) else false)
theorem wY(n:Nat)(a0:aD)(r:Bool)(h:lH n a0=some r):bq Tryd.prog 4 [.agg (aM a0)] (vb r):=by
 unfold lH at h
 refine xo Tryd.f4 rfl fun F0 w0 _=>?_
 refine Wp.seq (rg [1] [1] [(1,.own 1 0)] [(1,25,aM a0)] (To.aj (Wp.seq ?_)))
 obtain⟨r1,hr1,h⟩:=aG h
 refine rc [] 1 [2] [] [(2,vb (bif r1 then(decide ((ex5 a0)<=8)) else false))] [] (wL n a0 _ hr1) (To.aj (Wp.ret ?_))
 cases h
 exact To.done hΓ (by kernel_rfl)
theorem nF(l:List (aL)):bP (.recs (aL.mk [] 0 false false) iK l):=⟨Nat.le_of_ble_eq_true (by kernel_rfl),fun _=>⟨rfl,rfl⟩⟩
def jS(n:Nat)(v1:Ls)(b4:aF):Nat->Int->aF->Option (aF)
 |0,_,_=>none
 |k+1,v6,b5=>if(decide (v6<(List.length v1:Int)))=true then(if(decide (0<=v6/\v6<(List.length v1:Int)))=true then(if(decide ((List.length b5.aV+List.length ([(aL.mk ((v1)[Int.toNat v6]?.getD []) 1 false true)]:List (aL)))*(32+1)<=limit))=true then(jS n v1 b4 k (IntKind.wrap .i64 (v6+1)) (aF.mk b5.aS b5.iR b5.du b5.kY b5.iz b5.dG b5.bG b5.bZ (b5.aV++([(aL.mk ((v1)[Int.toNat v6]?.getD []) 1 false true)]:List (aL))) b5.fM b5.bK b5.dX b5.ja b5.kh b5.lY)) else none) else none)
 else some b5
abbrev qc(l:List (aL)):D:=.aR false (α:=aL) zx4 iK l
abbrev G7(k0:Nat)(x:aF):List D:=[.str x.aS,.str x.iR,ls x.du,rs5 x.kY,rs5 x.iz,rs6 x.dG,rs7 x.bG,ls x.bZ,.row k0,vi x.fM,.str x.bK.kj,vi x.bK.jE,vi x.bK.jB,vi x.bK.iH,vi x.dX,vi x.ja,vi x.kh,vi x.lY]
abbrev ex6(x0:Ls)(x1:Int):=([(aL.mk ((x0)[Int.toNat x1]?.getD []) 1 false true)]:List (aL))
abbrev ex7(x0:Int)(x1:Ls):=(decide (0<=x0/\x0<(List.length x1:Int)))
abbrev ex8(x0:Int)(x1:Ls):=(decide (x0<(List.length x1:Int)))
abbrev ex9(x0:aF):Nat×Nat×List D:=(5,35,(List.set (au x0) 8 (.row 4308)))
theorem rH(n:Nat)(v1:Ls)(b4:aF)(k:Nat):∀(v6:Int)(b5:aF)(o:aF),jS n v1 b4 k v6 b5=some o->To 26 F0 w0 [(4,.own 4 0),(5,.own 5 0)] [(4,35,(au b4)),(5,35,G7 4308 o),(4308,46,[qc o.aV])] (.exit 0) Q->WL Tryd.prog 26 F0 w0 [(1,ls v1),(4,.own 4 0),(5,.own 5 0),(6,vi v6)] [(4,35,(au b4)),(ex9 b5),(4308,46,[qc b5.aV])] (cI (cI (cB (cA (cB (cB (cF Tryd.f15))))))) Q:=by
 induction k with
 |zero=>intro v6 b5 o h;cases h
 |succ k ih =>
  intro v6 b5 o h hQ
  rw[jS] at h
  refine WL.round (Wp.seq (Wp.seq (rg [1,4,5,6,12] [4,5,4308] [(1,ls v1),(4,.own 4 0),(5,.own 5 0),(6,vi v6),(12,vb (ex8 v6 v1))] [(4,35,(au b4)),(ex9 b5),(4308,46,[qc b5.aV])] (To.aj (cn h (fun h=>?_) (fun h=>?_))))))
  ·refine Wp.skip (To.aj (Wp.seq (Wp.block ?_)))
   obtain⟨hc1,h⟩:=bg h
   obtain⟨hc2,h⟩:=bg h
   refine Wp.kZ hm hΓ [(7,rs8 ([(aL.mk ((v1)[Int.toNat v6]?.getD []) 1 false true)])),(8,.row 23),(1008,rs8 (b5.aV++(ex6 v1 v6)))] [1,4,5,6] [4,5,23] (K':=[(1,ls v1),(4,.own 4 0),(5,.own 5 0),(6,vi v6)]) (L':=[(4,35,(au b4)),(5,35,(List.set (au b5) 8 (.row 23))),(23,46,[qc (b5.aV++(ex6 v1 v6))])]) (ob:=[(ex7 v6 v1)=true,(true=true->iC 4 [.str ((v1)[Int.toNat v6]?.getD []),vi 1,vb false,vb true] 1 (rs8 ([(aL.mk ((v1)[Int.toNat v6]?.getD []) 1 false true)]))/\bP (rs8 ([(aL.mk ((v1)[Int.toNat v6]?.getD []) 1 false true)]))),(decide ((List.length b5.aV+List.length (ex6 v1 v6))*(32+1)<=limit))=true,(oL zx4 iK b5.aV (List.flatMap iK (ex6 v1 v6)) (List.length (ex6 v1 v6)) (rs8 (b5.aV++(ex6 v1 v6)))/\bP (rs8 (b5.aV++(ex6 v1 v6))))]) (by kernel_rfl) (ax.cons hc1 (ax.cons (fun _=>nD (by kernel_rfl) rfl (by kernel_rfl) (nF _)) (ax.cons hc2 (ax.cons (oQ rfl rfl (nF _)) ax.nil)))) (To.bT (To.aj (rg [1,4,5,6] [4,5,23] [(1,ls v1),(4,.own 4 0),(5,.own 5 0),(ex3 v6)] [(4,35,(au b4)),(5,35,(List.set (au b5) 8 (.row 23))),(23,46,[qc (b5.aV++(ex6 v1 v6))])] (nt [1,4,5,6] [4,5,23] [(23,4308)] [1,4,5,6] [4,5,4308] [(1,ls v1),(4,.own 4 0),(5,.own 5 0),(ex3 v6)] [(4,35,(au b4)),(ex9 b5),(4308,46,[qc (b5.aV++(ex6 v1 v6))])] (To.again ?_)))))
   exact ih (IntKind.wrap .i64 (v6+1)) (aF.mk b5.aS b5.iR b5.du b5.kY b5.iz b5.dG b5.bG b5.bZ (b5.aV++(ex6 v1 v6)) b5.fM b5.bK b5.dX b5.ja b5.kh b5.lY) _ h hQ
  ·refine Wp.exit (To.aZ (To.aZ (kt [4,5] [4,5,4308] [(4,.own 4 0),(5,.own 5 0)] [(4,35,(au b4)),(ex9 b5),(4308,46,[qc b5.aV])] ?_)))
   cases h
   exact hQ
def gX(n:Nat)(a0:Bs)(a1:Ls):Option (aF) :=
 (jS n a1 (aF.mk [] [] [] [] [] [] [] [] [] 0 (gx.mk [] 0 0 0) 0 0 0 0) n 0 (aF.mk a0 [] [] [] [] [] [] [] [] 0 (gx.mk [] 0 0 0) 0 0 0 0)).bind fun o1 =>
 some o1
abbrev Gg:gx:=gx.mk [] 0 0 0
abbrev F8(l:List (aL)):D:=.aR true (α:=aL) zx4 iK l
abbrev D7(x0:Bs):Nat×Nat×List D:=(5,35,[.str x0,.str [],.val (.slice none 0 0),.val (.slice none 0 0),.val (.slice none 0 0),.val (.slice none 0 0),.val (.slice none 0 0),.val (.slice none 0 0),.val (.slice none 0 0),vi 0,.str [],vi 0,vi 0,vi 0,vi 0,vi 0,vi 0,vi 0])
theorem l6(n:Nat)(a0:Bs)(a1:Ls)(r:aF)(h:gX n a0 a1=some r):bq Tryd.prog 15 [.str a0,ls a1] (.agg (qc9 r)):=by
 unfold gX at h
 refine xo Tryd.f15 rfl fun F0 w0 _=>?_
 refine Wp.seq (rg [0,1,4] [4] [(0,.str a0),(1,ls a1),(4,.own 4 0)] [(4,35,[.str [],.str [],.val (.slice none 0 0),.val (.slice none 0 0),.val (.slice none 0 0),.val (.slice none 0 0),.val (.slice none 0 0),.val (.slice none 0 0),.val (.slice none 0 0),vi 0,.str [],vi 0,vi 0,vi 0,vi 0,vi 0,vi 0,vi 0])] (To.aj (Wp.seq (rg [1,4,5] [4,5] [(1,ls a1),(4,.own 4 0),(5,.own 5 0)] [(4,35,[.str [],.str [],.val (.slice none 0 0),.val (.slice none 0 0),.val (.slice none 0 0),.val (.slice none 0 0),.val (.slice none 0 0),.val (.slice none 0 0),.val (.slice none 0 0),vi 0,.str [],vi 0,vi 0,vi 0,vi 0,vi 0,vi 0,vi 0]),(D7 a0)] (To.aj (Wp.seq (Wp.seq (rg [1,4,5,6] [4,5] [(1,ls a1),(4,.own 4 0),(5,.own 5 0),(6,vi 0)] [(4,35,[.str [],.str [],.val (.slice none 0 0),.val (.slice none 0 0),.val (.slice none 0 0),.val (.slice none 0 0),.val (.slice none 0 0),.val (.slice none 0 0),.val (.slice none 0 0),vi 0,.str [],vi 0,vi 0,vi 0,vi 0,vi 0,vi 0,vi 0]),(D7 a0)] (To.aj (Wp.block ?_))))))))))
 obtain⟨o1,ho1,h⟩:=aG h
 refine kw [1,4,5,6] [4,5] [(1,ls a1),(4,.own 4 0),(5,.own 5 0),(6,vi 0)] [(4,35,[.str [],.str [],.val (.slice none 0 0),.val (.slice none 0 0),.val (.slice none 0 0),.val (.slice none 0 0),.val (.slice none 0 0),.val (.slice none 0 0),.val (.slice none 0 0),vi 0,.str [],vi 0,vi 0,vi 0,vi 0,vi 0,vi 0,vi 0]),(D7 a0)] (Wp.pre (St.zZ 5 8 4308 46 (nF _) (by decide) (by kernel_rfl) (L':=[(4,35,[.str [],.str [],.val (.slice none 0 0),.val (.slice none 0 0),.val (.slice none 0 0),.val (.slice none 0 0),.val (.slice none 0 0),.val (.slice none 0 0),.val (.slice none 0 0),vi 0,.str [],vi 0,vi 0,vi 0,vi 0,vi 0,vi 0,vi 0]),(5,35,[.str a0,.str [],.val (.slice none 0 0),.val (.slice none 0 0),.val (.slice none 0 0),.val (.slice none 0 0),.val (.slice none 0 0),.val (.slice none 0 0),.row 4308,vi 0,.str [],vi 0,vi 0,vi 0,vi 0,vi 0,vi 0,vi 0])]) (by kernel_rfl)) (kw [1,4,5,6] [4,5,4308] [(1,ls a1),(4,.own 4 0),(5,.own 5 0),(6,vi 0)] [(4,35,[.str [],.str [],.val (.slice none 0 0),.val (.slice none 0 0),.val (.slice none 0 0),.val (.slice none 0 0),.val (.slice none 0 0),.val (.slice none 0 0),.val (.slice none 0 0),vi 0,.str [],vi 0,vi 0,vi 0,vi 0,vi 0,vi 0,vi 0]),(5,35,[.str a0,.str [],.val (.slice none 0 0),.val (.slice none 0 0),.val (.slice none 0 0),.val (.slice none 0 0),.val (.slice none 0 0),.val (.slice none 0 0),.row 4308,vi 0,.str [],vi 0,vi 0,vi 0,vi 0,vi 0,vi 0,vi 0]),(4308,46,[qc []])] (Wp.weak (K':=[(1,ls a1),(4,.own 4 0),(5,.own 5 0),(6,vi 0)]) (L':=[(4,35,[.str [],.str [],ls [],rs5 [],rs5 [],rs6 [],rs7 [],ls [],rs8 [],vi 0,.str [],vi 0,vi 0,vi 0,vi 0,vi 0,vi 0,vi 0]),(5,35,[.str a0,.str [],ls [],rs5 [],rs5 [],rs6 [],rs7 [],ls [],.row 4308,vi 0,.str [],vi 0,vi 0,vi 0,vi 0,vi 0,vi 0,vi 0]),(4308,46,[qc []])]) (.cons (.refl _) (.cons (.refl _) (.cons (.refl _) (.cons (.refl _) .nil)))) (.cons (.cons (.refl _) (.cons (.refl _) (.cons (.zero _ _) (.cons (.zero _ _) (.cons (.zero _ _) (.cons (.zero _ _) (.cons (.zero _ _) (.cons (.zero _ _) (.cons (.zero _ _) (.cons (.refl _) (.cons (.refl _) (.cons (.refl _) (.cons (.refl _) (.cons (.refl _) (.cons (.refl _) (.cons (.refl _) (.cons (.refl _) (.cons (.refl _) .nil)))))))))))))))))) (.cons (.cons (.refl _) (.cons (.refl _) (.cons (.zero _ _) (.cons (.zero _ _) (.cons (.zero _ _) (.cons (.zero _ _) (.cons (.zero _ _) (.cons (.zero _ _) (.cons (.refl _) (.cons (.refl _) (.cons (.refl _) (.cons (.refl _) (.cons (.refl _) (.cons (.refl _) (.cons (.refl _) (.cons (.refl _) (.cons (.refl _) (.cons (.refl _) .nil)))))))))))))))))) (.cons (.cons (.refl _) .nil) .nil))) (Wp.dE (rH n a1 (aF.mk [] [] [] [] [] [] [] [] [] 0 Gg 0 0 0 0) n 0 (aF.mk a0 [] [] [] [] [] [] [] [] 0 Gg 0 0 0 0) o1 ho1 (To.cH (To.aj (Wp.seq (rg [4] [4,4308] [(4,.own 4 0)] [(4,35,(List.set (au o1) 8 (.row 4308))),(4308,46,[qc o1.aV])] (To.aj (Wp.ret ?_)))))))))))
 refine To.pre (St.settle (ks:=[4308]) (kk:=[4]) (kl:=[4,4308]) (K':=[(4,.own 4 0)]) (L':=[(4,35,(List.set (au o1) 8 (.row 4308))),(4308,46,[F8 o1.aV])]) (by kernel_rfl)) (To.pre (St.GQ [4] (L':=[(4,35,(au o1)),(4308,46,[F8 o1.aV])]) (by kernel_rfl)) ?_)
 cases h
 exact To.done hΓ (by kernel_rfl)
structure af where
 f_l:Ls
structure aC where
 ai:Ls
 aH:List (MK×af)
def ak:af->List D:=fun x=>[.recs (α:=Bs) [] aO x.f_l]
theorem bp(l:Ls):bP (.recs [] aO l):=⟨Nat.le_of_ble_eq_true (by kernel_rfl),fun _=>⟨rfl,rfl⟩⟩
def fy(n:Nat)(a0:Ls):Option ((Ls)) :=
 if(decide ((List.length ([]:Ls)+List.length a0)*(16+1)<=limit))=true then(if(decide (List.length (([]:Ls)++a0)*17<=limit))=true then(if(decide (List.length (Sh.sort (([]:Ls)++a0))*17<=limit))=true then(some (Lib.compact (Sh.sort (([]:Ls)++a0)))) else none) else none) else none
abbrev bu(l:Ls):D:=.aR false (α:=Bs) [] aO l
abbrev qk(x0:Ls):=(([]:Ls)++x0)
theorem kU(n:Nat)(a0:Ls)(r:(Ls))(h:fy n a0=some r):bq Tryd.prog 23 [ls a0] (ls r):=by
 unfold fy at h
 refine xo Tryd.f23 rfl fun F0 w0 _=>?_
 refine Wp.seq (rg [0] [] [(0,ls a0)] [] (To.aj (Wp.seq ?_)))
 obtain⟨hc3,h⟩:=bg h
 refine rr [] [(0,ls []),(2,ls (qk a0))] [] [3] [6] [(3,.row 6)] [(6,9,[bu (qk a0)])] [(iC 1 [] 0 (ls [])/\bP (ls [])),_,(oL [] aO ([]:Ls) (List.flatMap aO a0) (List.length a0) (ls (qk a0))/\bP (ls (qk a0)))] (ax.cons (nD (by kernel_rfl) rfl (by kernel_rfl) (bp _)) (ax.cons hc3 (ax.cons (oQ rfl rfl (bp _)) ax.nil))) (To.aj (Wp.seq ?_))
 obtain⟨u1,h⟩:=bg h
 refine rb [] 1 ⟨[(1000000,6)],[(1000000,6)],[.row 1000000],[(1000000,9,[bu (qk a0)])],.tup [],[(1000000,9,[bu (Sh.sort (qk a0))])]⟩ [3] [6] [(3,.row 6)] [(6,9,[bu (Sh.sort (qk a0))])] (Sh.Gy u1) (To.aj (Wp.seq ?_))
 obtain⟨u2,h⟩:=bg h
 refine rb [] 1 ⟨[(1000000,6)],[],[.row 1000000],[(1000000,9,[bu (Sh.sort (qk a0))])],ls (Lib.compact (Sh.sort (qk a0))),[]⟩ [2] [] [(2,ls (Lib.compact (Sh.sort (qk a0))))] [] (Sh.Cj u2) (To.aj (Wp.ret ?_))
 cases h
 exact To.done hΓ (by kernel_rfl)
end Go.Proofs.YtpmmhhmhckpnfaaDoor.M
