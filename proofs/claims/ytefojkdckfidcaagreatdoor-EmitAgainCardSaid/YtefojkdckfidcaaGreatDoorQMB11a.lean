import Derived.Test.YtefojkdckfidcaaGreatDoorQRxAnyB
import Derived.Test.YtefojkdckfidcaaGreatDoorQRxGoto
import Derived.Test.YtefojkdckfidcaaGreatDoorQRxIZ
import Derived.Test.YtefojkdckfidcaaGreatDoorQAny11
import Derived.Test.YtefojkdckfidcaaGreatDoorProg
set_option linter.all false
namespace Go.Proofs.YtefojkdckfidcaaGreatDoor.M
open Go.RowKit Go.Proofs.YtefojkdckfidcaaGreatDoor.RX
set_option maxRecDepth 100000
def tab:List (Nat×TI):=[
 (3,{ agg:=false,size:=1,zero:=[.int .i64 0],kind:=.int .i64,eqs:=[] }),
 (4,{ agg:=false,size:=1,zero:=[.bool false],kind:=.bool,eqs:=[] }),
 (5,{ agg:=false,size:=1,zero:=[.int .u8 0],kind:=.int .u8,eqs:=[] }),
 (9,{ agg:=false,size:=1,zero:=[.string ⟨#[]⟩],kind:=.str,eqs:=[] }),
 (23,{ agg:=false,size:=1,zero:=[.slice none 0 0],kind:=.slice 1 false,elt:=9,eb:=16,ez:=[.string ⟨#[]⟩],ek:=none,eqs:=[] }),
 (24,{ agg:=false,size:=1,zero:=[.slice none 0 0],kind:=.slice 4 true,elt:=26,eb:=72,ez:=[.int .i64 0,.string ⟨#[]⟩,.slice none 0 0,.slice none 0 0],ek:=none,eqs:=[] }),
 (26,{ agg:=true,size:=4,zero:=[.int .i64 0,.string ⟨#[]⟩,.slice none 0 0,.slice none 0 0],kind:=.struct [(0,1,false),(1,1,false),(2,1,false),(3,1,false)],eqs:=[] }),
 (27,{ agg:=false,size:=1,zero:=[.int .i64 0],kind:=.int .i64,eqs:=[] }),
 (31,{ agg:=false,size:=1,zero:=[.nilFunc],kind:=.other,eqs:=[] }),
 (41,{ agg:=false,size:=1,zero:=[.slice none 0 0],kind:=.slice 3 true,elt:=50,eb:=32,ez:=[.int .i64 0,.int .i64 0,.string ⟨#[]⟩],ek:=none,eqs:=[] }),
 (46,{ agg:=true,size:=4,zero:=[.slice none 0 0,.int .i64 0,.int .i64 0,.int .i64 0],kind:=.struct [(0,1,false),(1,1,false),(2,1,false),(3,1,false)],eqs:=[] }),
 (50,{ agg:=true,size:=3,zero:=[.int .i64 0,.int .i64 0,.string ⟨#[]⟩],kind:=.struct [(0,1,false),(1,1,false),(2,1,false)],eqs:=[] }),
 (51,{ agg:=false,size:=1,zero:=[.slice none 0 0],kind:=.slice 3 true,elt:=57,eb:=32,ez:=[.int .i64 0,.int .i64 0,.string ⟨#[]⟩],ek:=none,eqs:=[] }),
 (55,{ agg:=true,size:=7,zero:=[.int .i64 0,.string ⟨#[]⟩,.slice none 0 0,.slice none 0 0,.int .i64 0,.int .i64 0,.int .i64 0],kind:=.struct [(0,4,true),(4,1,false),(5,1,false),(6,1,false)],eqs:=[] }),
 (57,{ agg:=true,size:=3,zero:=[.int .i64 0,.int .i64 0,.string ⟨#[]⟩],kind:=.struct [(0,1,false),(1,1,false),(2,1,false)],eqs:=[] }),
 (66,{ agg:=false,size:=1,zero:=[.slice none 0 0],kind:=.slice 1 false,elt:=5,eb:=1,ez:=[.int .u8 0],ek:=some .u8,eqs:=[] }),
 (68,{ agg:=true,size:=2,zero:=[.pointer none,.slice none 0 0],kind:=.struct [(0,1,false),(1,1,false)],eqs:=[] }),
 (87,{ agg:=true,size:=1,zero:=[.int .i64 0],kind:=.struct [(0,1,false)],eqs:=[] }),
 (137,{ agg:=true,size:=3,zero:=[.string ⟨#[]⟩,.int .i64 0,.bool false],kind:=.struct [(0,1,false),(1,1,false),(2,1,false)],eqs:=[] }),
 (156,{ agg:=false,size:=1,zero:=[.map none],kind:=.map none 1 false,elt:=3,eb:=0,ez:=[.int .i64 0],ek:=none,eqs:=[] })]
theorem Rt:wG Tryz.prog tab:=⟨⟨by kernel_rfl,fun h=>absurd rfl h⟩,⟨by kernel_rfl,fun h=>absurd rfl h⟩,⟨by kernel_rfl,fun h=>absurd rfl h⟩,⟨by kernel_rfl,fun h=>absurd rfl h⟩,⟨by kernel_rfl,fun h=>absurd rfl h⟩,⟨by kernel_rfl,fun h=>absurd rfl h⟩,⟨by kernel_rfl,fun h=>absurd rfl h⟩,⟨by kernel_rfl,fun h=>absurd rfl h⟩,⟨by kernel_rfl,fun h=>absurd rfl h⟩,⟨by kernel_rfl,fun h=>absurd rfl h⟩,⟨by kernel_rfl,fun h=>absurd rfl h⟩,⟨by kernel_rfl,fun h=>absurd rfl h⟩,⟨by kernel_rfl,fun h=>absurd rfl h⟩,⟨by kernel_rfl,fun h=>absurd rfl h⟩,⟨by kernel_rfl,fun h=>absurd rfl h⟩,⟨by kernel_rfl,fun h=>absurd rfl h⟩,⟨by kernel_rfl,fun h=>absurd rfl h⟩,⟨by kernel_rfl,fun h=>absurd rfl h⟩,⟨by kernel_rfl,fun h=>absurd rfl h⟩,⟨by kernel_rfl,fun h=>absurd rfl h⟩,trivial⟩
theorem hΓ:ΓOK Tryz.prog (zR tab):=ΓOK.of Rt
theorem hm:Tryz.prog.follows .mixedOrders=true:=by kernel_rfl
structure af where
 aF:Int
 au:Bs
 aA:Ls
 aj:List (af)
def gw:Bs->List D:=fun x=>[.str x]
abbrev vi(x:Int):D:=.val (.int .i64 x)
abbrev vb(x:Bool):D:=.val (.bool x)
abbrev ls(l:Ls):D:=.recs (α:=Bs) [] gw l
theorem rg{nt:Nat}{F0:Fz}{w0:Pt Tryz.prog}{K:List (Nat×D)}{L:ay}{Q:Exit->Act->World->Prop}{id:Nat}{l:List Oper}(kk kl:List Nat)(K':List (Nat×D))(L':ay)(hn:To nt F0 w0 K' L' .normal Q)(h:ov (CX Tryz.prog) (aY Tryz.prog) (zR tab) nt [] [] l [] K L kk kl=some (K',L',[]):=by kernel_rfl):Wp Tryz.prog nt F0 w0 K L (.region id l.toArray false) Q:=Wp.region hΓ [] [] [] kk kl h ax.nil hn
theorem rr{nt:Nat}{F0:Fz}{w0:Pt Tryz.prog}{K:List (Nat×D)}{L:ay}{Q:Exit->Act->World->Prop}{id:Nat}{l:List Oper}(fz:List (Nat×List Nat))(orc:List (Nat×D))(orb:List (Nat×CBd))(kk kl:List Nat)(K':List (Nat×D))(L':ay)(ob:List Prop)(hob:ax ob)(hn:To nt F0 w0 K' L' .normal Q)(h:ov (CX Tryz.prog) (aY Tryz.prog) (zR tab) nt orc orb l fz K L kk kl=some (K',L',ob):=by kernel_rfl):Wp Tryz.prog nt F0 w0 K L (.region id l.toArray false) Q:=Wp.region hΓ fz orc orb kk kl h hob hn
theorem kw{nt:Nat}{F0:Fz}{w0:Pt Tryz.prog}{K:List (Nat×D)}{L:ay}{Q:Exit->Act->World->Prop}{c:Code}(kk kl:List Nat)(K':List (Nat×D))(L':ay)(hn:Wp Tryz.prog nt F0 w0 K' L' c Q)(h1:lH K kk=some K':=by kernel_rfl)(h2:iZ L kl=some L':=by kernel_rfl):Wp Tryz.prog nt F0 w0 K L c Q:=Wp.keep h1 h2 hn
theorem kt{nt:Nat}{F0:Fz}{w0:Pt Tryz.prog}{K:List (Nat×D)}{L:ay}{Q:Exit->Act->World->Prop}{e:Exit}(kk kl:List Nat)(K':List (Nat×D))(L':ay)(hn:To nt F0 w0 K' L' e Q)(h1:lH K kk=some K':=by kernel_rfl)(h2:iZ L kl=some L':=by kernel_rfl):To nt F0 w0 K L e Q:=To.keep h1 h2 hn
theorem r0{nt:Nat}{F0:Fz}{w0:Pt Tryz.prog}{K:List (Nat×D)}{L:ay}{Q:Exit->Act->World->Prop}{id:Nat}{l:List Oper}{ob:List Prop}(kk kl:List Nat)(K':List (Nat×D))(L':ay)(hob:ax ob)(hn:To nt F0 w0 K' L' .normal Q)(h:ov (CX Tryz.prog) (aY Tryz.prog) (zR tab) nt [] [] l [] K L kk kl=some (K',L',ob):=by kernel_rfl):Wp Tryz.prog nt F0 w0 K L (.region id l.toArray false) Q:=Wp.region hΓ [] [] [] kk kl h hob hn
theorem rc{nt:Nat}{F0:Fz}{w0:Pt Tryz.prog}{K:List (Nat×D)}{L:ay}{Q:Exit->Act->World->Prop}{id:Nat}{l:List Oper}{f:Nat}{ds:List D}{r:D}(fz:List (Nat×List Nat))(i:Nat)(kk kl:List Nat)(K':List (Nat×D))(L':ay)(hc:bC Tryz.prog f ds r)(hn:To nt F0 w0 K' L' .normal Q)(h:ov (CX Tryz.prog) (aY Tryz.prog) (zR tab) nt [(i,r)] [] l fz K L kk kl=some (K',L',[(true=true->CX Tryz.prog f ds r)]):=by kernel_rfl):Wp Tryz.prog nt F0 w0 K L (.region id l.toArray false) Q:=Wp.region hΓ fz [(i,r)] [] kk kl h (ax.cons (fun _=>cx hc) ax.nil) hn
theorem rb{nt:Nat}{F0:Fz}{w0:Pt Tryz.prog}{K:List (Nat×D)}{L:ay}{Q:Exit->Act->World->Prop}{id:Nat}{l:List Oper}{f:Nat}(fz:List (Nat×List Nat))(i:Nat)(c:CBd)(kk kl:List Nat)(K':List (Nat×D))(L':ay)(hc:aY Tryz.prog f c.ds c.Lin c.r c.fy)(hn:To nt F0 w0 K' L' .normal Q)(h:ov (CX Tryz.prog) (aY Tryz.prog) (zR tab) nt [] [(i,c)] l fz K L kk kl=some (K',L',[rK (aY Tryz.prog) f (D.subs (dD never c.ren) c.ds) (c.Lin.map fun x=>some (x.2.1,D.subs (dD never c.ren) x.2.2)) c]):=by kernel_rfl):Wp Tryz.prog nt F0 w0 K L (.region id l.toArray false) Q:=Wp.region hΓ fz [] [(i,c)] kk kl h (ax.cons ⟨hc,rfl,rfl⟩ ax.nil) hn
theorem c1{f:Nat}{ds:List D}{r:D}(h:bC Tryz.prog f ds r):true=true->CX Tryz.prog f ds r:=fun _=>cx h
theorem cn{nt:Nat}{F0:Fz}{w0:Pt Tryz.prog}{K:List (Nat×D)}{L:ay}{Q:Exit->Act->World->Prop}{t:Nat}{x y:Code}{b:Bool}{α:Type _}{p q r:α}(h:(if b=true then p else q)=r)(h1:p=r->Wp Tryz.prog nt F0 w0 K L x Q)(h2:q=r->Wp Tryz.prog nt F0 w0 K L y Q)(hc:K.lookup t=some (.val (.bool b)):=by kernel_rfl):Wp Tryz.prog nt F0 w0 K L (.cond (.tmp t) x y) Q:=Wp.cond hc (fun hb=>h1 (jC hb h)) (fun hb=>h2 (zl hb h))
theorem xo{f : Nat}(fn : Func){c : Code}{ds : List D}{r : D}(hbody : fn.body=some c)(h : ∀(F0 : Fz)(w0 : World)(hsh : Shp Tryz.prog w0),Wp Tryz.prog fn.ntmps F0 (.top w0 hsh) (ds.zipIdx.map fun x=>(x.2,x.1)) [] c (bodyPost Tryz.prog fn (uq F0 w0 r)))(hf : Tryz.prog.funcs[f]? = some fn:=by kernel_rfl)(hname : (fn.name == "runtime.NumGoroutine")=false:=by kernel_rfl)(hn : ds.length.ble fn.ntmps=true:=by kernel_rfl) : bC Tryz.prog f ds r:=DD hf hbody hname (Nat.le_of_ble_eq_true hn) h
theorem bo{f : Nat}(fn : Func){c : Code}{ds : List D}{Lin : ay}{r : D}{fy : ay}(hbody : fn.body=some c)(h : ∀(F0 : Fz)(w0 : Pt Tryz.prog),Wp Tryz.prog fn.ntmps F0 w0.cl (ds.zipIdx.map fun x=>(x.2,x.1)) Lin c (bodyPost Tryz.prog fn (PostB F0 w0.cl r fy)))(hf : Tryz.prog.funcs[f]? = some fn:=by kernel_rfl)(hname : (fn.name == "runtime.NumGoroutine")=false:=by kernel_rfl)(hn : ds.length.ble fn.ntmps=true:=by kernel_rfl) : aY Tryz.prog f ds Lin r fy:=LD hf hbody hname (Nat.le_of_ble_eq_true hn) h
def rnA:List (Nat×Nat)->List (Nat×D)->ay->Option (List (Nat×D)×ay)
 |[],K,L=>some (K,L)
 |x::rs,K,L=>if(Nat.blt x.2 1000000&&ku x.2 K L)=true then rnA rs (Qn x.1 x.2 K) (I5 x.1 x.2 L) else none
theorem Fj{nt:Nat}{F0:Fz}{w0:Pt Tryz.prog}:∀(rs:List (Nat×Nat)){K K':List (Nat×D)}{L L':ay},rnA rs K L=some (K',L')->∀a w,St nt F0 w0 K L a w->St nt F0 w0 K' L' a w
 |[],_,_,_,_,h,_,_,hs=>by cases h;exact hs
 |x::rs,K,K',L,L',h,a,w,hs=>by
  unfold rnA at h
  split at h
  ·rename_i hc
   rw[Bool.and_eq_true] at hc
   exact Fj rs h a w (St.rename x.1 x.2 (by simpa using hc.1) hc.2 rfl rfl a w hs)
  ·cases h
def knA(rs:List (Nat×Nat))(k0 l0 kk kl:List Nat)(K:List (Nat×D))(L:ay):Option (List (Nat×D)×ay) :=
 match lH K k0,iZ L l0 with
 |some K0,some L0=>(match rnA rs K0 L0 with
  |some (K1,L1)=>(match lH K1 kk,iZ L1 kl with|some K2,some L2=>some (K2,L2)|_,_=>none)
  |none=>none)
 |_,_=>none
theorem KP{nt:Nat}{F0:Fz}{w0:Pt Tryz.prog}{rs:List (Nat×Nat)}{k0 l0 kk kl:List Nat}{K K':List (Nat×D)}{L L':ay}(h:knA rs k0 l0 kk kl K L=some (K',L')):∃K0 L0 K1 L1,lH K k0=some K0/\iZ L l0=some L0/\rnA rs K0 L0=some (K1,L1)/\lH K1 kk=some K'/\iZ L1 kl=some L':=by
 unfold knA at h
 split at h
 ·rename_i K0 L0 e1 e2
  split at h
  ·rename_i K1 L1 e3
   split at h
   ·rename_i K2 L2 e4 e5
    cases h
    exact⟨K0,L0,K1,L1,e1,e2,e3,e4,e5⟩
   ·cases h
  ·cases h
 ·cases h
theorem nw{nt:Nat}{F0:Fz}{w0:Pt Tryz.prog}{K:List (Nat×D)}{L:ay}{Q:Exit->Act->World->Prop}{c:Code}(k0 l0:List Nat)(rs:List (Nat×Nat))(kk kl:List Nat)(K':List (Nat×D))(L':ay)(hn:Wp Tryz.prog nt F0 w0 K' L' c Q)(h:knA rs k0 l0 kk kl K L=some (K',L'):=by kernel_rfl):Wp Tryz.prog nt F0 w0 K L c Q :=
 let ⟨_,_,_,_,e1,e2,e3,e4,e5⟩:=KP (w0:=w0) (F0:=F0) (nt:=nt) h
 Wp.keep e1 e2 (Wp.pre (Fj rs e3) (Wp.keep e4 e5 hn))
theorem nt{nt:Nat}{F0:Fz}{w0:Pt Tryz.prog}{K:List (Nat×D)}{L:ay}{Q:Exit->Act->World->Prop}{e:Exit}(k0 l0:List Nat)(rs:List (Nat×Nat))(kk kl:List Nat)(K':List (Nat×D))(L':ay)(hn:To nt F0 w0 K' L' e Q)(h:knA rs k0 l0 kk kl K L=some (K',L'):=by kernel_rfl):To nt F0 w0 K L e Q :=
 let ⟨_,_,_,_,e1,e2,e3,e4,e5⟩:=KP (w0:=w0) (F0:=F0) (nt:=nt) h
 To.keep e1 e2 (To.pre (Fj rs e3) (To.keep e4 e5 hn))
def bZ:af->List D:=fun x=>[.val (.int .i64 x.aF),.str x.au,.recs (α:=Bs) [] gw x.aA]
def bM:af->List (af):=fun x=>x.aj
def Ee:af->List D:=vu (af.mk 0 [] [] []) bZ bM
def dU:af->List D:=Ee
theorem fC(l:Ls):aV (.recs [] gw l):=⟨Nat.le_of_ble_eq_true (by kernel_rfl),fun _=>⟨rfl,rfl⟩⟩
def pJ(n:Nat)(v0:Ls)(v3:Ls)(v4:Int)(v5:Int):Option (Int) :=
 if((!(((List.length v3:Int)==0)==false)||decide (0<=v5/\v5<(List.length v0:Int))))=true then(if((!(((List.length v3:Int)==0)==false)||decide (0<=(IntKind.wrap .i64 ((List.length v3:Int)-1))/\(IntKind.wrap .i64 ((List.length v3:Int)-1))<(List.length v3:Int))))=true then(if((!(((decide (v4<0))==false)&&((bif ((List.length v3:Int)==0) then true else(!(Op.bytesLess ((v0)[Int.toNat v5]?.getD []) ((v3)[Int.toNat (IntKind.wrap .i64 ((List.length v3:Int)-1))]?.getD [])||((v0)[Int.toNat v5]?.getD [])==((v3)[Int.toNat (IntKind.wrap .i64 ((List.length v3:Int)-1))]?.getD []))))==true))||decide (0<=v5/\v5<(List.length v0:Int))))=true then(if((!(((decide (v4<0))==false)&&((bif ((List.length v3:Int)==0) then true else(!(Op.bytesLess ((v0)[Int.toNat v5]?.getD []) ((v3)[Int.toNat (IntKind.wrap .i64 ((List.length v3:Int)-1))]?.getD [])||((v0)[Int.toNat v5]?.getD [])==((v3)[Int.toNat (IntKind.wrap .i64 ((List.length v3:Int)-1))]?.getD []))))==true))||decide (0<=v4/\v4<(List.length v0:Int))))=true then(aP ((bif (bif ((List.length v3:Int)==0) then true else(!(Op.bytesLess ((v0)[Int.toNat v5]?.getD []) ((v3)[Int.toNat (IntKind.wrap .i64 ((List.length v3:Int)-1))]?.getD [])||((v0)[Int.toNat v5]?.getD [])==((v3)[Int.toNat (IntKind.wrap .i64 ((List.length v3:Int)-1))]?.getD [])))) then(bif (decide (v4<0)) then true else(Op.bytesLess ((v0)[Int.toNat v5]?.getD []) ((v0)[Int.toNat v4]?.getD []))) else false):Bool) fun x1 =>
 if x1=true then some v5
 else some v4) else none) else none) else none) else none
def ki(n:Nat)(v0:Ls)(v3:Ls):Nat->Int->Int->Option (Int)
 |0,_,_=>none
 |k+1,v4,v5=>if(decide (v5<(List.length v0:Int)))=true then((pJ n v0 v3 v4 v5).bind fun o1 =>
 ki n v0 v3 k o1 (IntKind.wrap .i64 (v5+1)))
 else some v4
def mj(n:Nat)(v0:Ls):Nat->(Ls)->Option ((Ls))
 |0,_=>none
 |k+1,v3=>(ki n v0 v3 n (-1) 0).bind fun o1 =>
 if(decide (o1<0))=true then some v3
 else(if(decide (0<=o1/\o1<(List.length v0:Int)))=true then(if(decide ((List.length v3+List.length ([((v0)[Int.toNat o1]?.getD [])]:Ls))*(16+1)<=limit))=true then(mj n v0 k (v3++([((v0)[Int.toNat o1]?.getD [])]:Ls))) else none) else none)
def tZ(n:Nat)(a0:Ls):Option ((Ls)) :=
 (mj n a0 n ([]:Ls)).bind fun o1 =>
 some o1
def dN(R_ref08_Left:af->Int->Int->Option (Int))(n:Nat)(v1:Int)(b3:af):Nat->Int->Int->Option (Sum (Int) (Int))
 |0,_,_=>none
 |k+1,v2,v7=>if(decide (v7<(List.length b3.aj:Int)))=true then(if(decide (0<=v7/\v7<(List.length b3.aj:Int)))=true then((R_ref08_Left ((b3.aj)[Int.toNat v7]?.getD (af.mk 0 [] [] [])) (IntKind.wrap .i64 (v1+1)) v2).bind fun r5 =>
 if(decide (r5<0))=true then(some (.inr (-1)))
 else(dN R_ref08_Left n v1 b3 k r5 (IntKind.wrap .i64 (v7+1)))) else none)
 else(some (.inl v2))
def jT(R_ref08_Left:af->Int->Int->Option (Int))(n:Nat)(a0:af)(a1:Int)(a2:Int):Option (Int) :=
 aP ((bif (bif (bif (decide ((IntKind.wrap .i64 (a2-1))<0)) then true else(decide (a1>12))) then true else(decide (a0.aF<0))) then true else(decide (a0.aF>3))):Bool) fun x1 =>
 if x1=true then(some (-1))
 else(aP ((bif (bif (bif (a0.aF != 1) then(decide ((List.length a0.au:Int)>0)) else false) then true else(bif (a0.aF != 3) then(decide ((List.length a0.aA:Int)>0)) else false)) then true else(bif (decide (a0.aF<2)) then(decide ((List.length a0.aj:Int)>0)) else false)):Bool) fun x2 =>
 if x2=true then(some (-1))
 else(((if(((bif ((List.length a0.aA:Int) != (List.length a0.aj:Int)) then true else(decide ((List.length a0.aj:Int)>(IntKind.wrap .i64 (a2-1)))))==false)&&((a0.aF==3)==true))=true then tZ n a0.aA else some [])).bind fun r3 =>
 aP ((bif (a0.aF==3) then(bif (bif ((List.length a0.aA:Int) != (List.length a0.aj:Int)) then true else(decide ((List.length a0.aj:Int)>(IntKind.wrap .i64 (a2-1))))) then true else((List.length r3:Int) != (List.length a0.aA:Int))) else false):Bool) fun x4 =>
 if x4=true then(some (-1))
 else((dN R_ref08_Left n a1 a0 n (IntKind.wrap .i64 (a2-1)) 0).bind fun o5 =>
 (Sum.elim (fun o5=>some o5) (fun o5=>some o5)) o5)))
def fB:Nat->af->Int->Int->Option (Int)
 |0=>fun _ _ _=>none
 |n+1=>jT (fB n) n
structure av where
 eG:Int
 aI:Int
 au:Bs
def lS:av->List D:=fun x=>[.val (.int .i64 x.eG),.val (.int .i64 x.aI),.str x.au]
theorem jW(l:List (av)):aV (.recs (av.mk 0 0 []) lS l):=⟨Nat.le_of_ble_eq_true (by kernel_rfl),fun _=>⟨rfl,rfl⟩⟩
def fK(a0:Int):Bool :=
 (bif (decide (a0>=32)) then(a0 != 127) else false)
theorem uV(a0:Int)(r:Bool)(h:fK a0=r):bC Tryz.prog 64 [.val (.int .u8 a0)] (vb r):=by
 unfold fK at h
 refine xo Tryz.f64 rfl fun F0 w0 _=>?_
 refine Wp.seq (rg [0] [] [(0,.val (.int .u8 a0))] [] (To.ai (Wp.seq (rg [2] [] [(2,vb (bif (decide (a0>=32)) then(a0 != 127) else false))] [] (To.ai (Wp.ret ?_))))))
 cases h
 exact To.done hΓ (by kernel_rfl)
def rf(a0:Int):Int×Bool :=
 if(bif (decide (a0>=48)) then(decide (a0<=57)) else false)=true then(((IntKind.wrap .u8 (a0-48)),true))
 else(if(bif (decide (a0>=97)) then(decide (a0<=102)) else false)=true then(((IntKind.wrap .u8 ((IntKind.wrap .u8 (a0-97))+10)),true))
 else(if(bif (decide (a0>=65)) then(decide (a0<=70)) else false)=true then(((IntKind.wrap .u8 ((IntKind.wrap .u8 (a0-65))+10)),true))
 else((0,false))))
theorem yn(a0:Int)(r:Int×Bool)(h:rf a0=r):bC Tryz.prog 99 [.val (.int .u8 a0)] (.tup [.val (.int .u8 r.1),vb r.2]):=by
 unfold rf at h
 refine xo Tryz.f99 rfl fun F0 w0 _=>?_
 refine Wp.seq (rg [0] [] [(0,.val (.int .u8 a0))] [] (To.ai (Wp.seq (Wp.block (Wp.seq (rg [0,4] [] [(0,.val (.int .u8 a0)),(4,vb (bif (decide (a0>=48)) then(decide (a0<=57)) else false))] [] (To.ai (cn h (fun h=>?_) (fun h=>?_)))))))))
 ·refine Wp.seq (rg [2,3] [] [(2,.val (.int .u8 (IntKind.wrap .u8 (a0-48)))),(3,vb true)] [] (To.ai (Wp.ret (To.aX (To.aO ?_)))))
  cases h
  exact To.done hΓ (by kernel_rfl)
 ·refine Wp.seq (rg [0,13] [] [(0,.val (.int .u8 a0)),(13,vb (bif (decide (a0>=97)) then(decide (a0<=102)) else false))] [] (To.ai (cn h (fun h=>?_) (fun h=>?_))))
  ·refine Wp.seq (rg [2,3] [] [(2,.val (.int .u8 (IntKind.wrap .u8 ((IntKind.wrap .u8 (a0-97))+10)))),(3,vb true)] [] (To.ai (Wp.ret (To.aX (To.aO ?_)))))
   cases h
   exact To.done hΓ (by kernel_rfl)
  ·refine Wp.seq (rg [0,23] [] [(0,.val (.int .u8 a0)),(23,vb (bif (decide (a0>=65)) then(decide (a0<=70)) else false))] [] (To.ai (cn h (fun h=>?_) (fun h=>?_))))
   ·refine Wp.seq (rg [2,3] [] [(2,.val (.int .u8 (IntKind.wrap .u8 ((IntKind.wrap .u8 (a0-65))+10)))),(3,vb true)] [] (To.ai (Wp.ret (To.aX (To.aO ?_)))))
    cases h
    exact To.done hΓ (by kernel_rfl)
   ·refine Wp.skip (To.br (To.ai (Wp.seq (rg [2,3] [] [(2,.val (.int .u8 0)),(3,vb false)] [] (To.ai (Wp.ret ?_))))))
    cases h
    exact To.done hΓ (by kernel_rfl)
def l6(n:Nat)(v0:Bs)(v12:Int)(v13:Bool):Option (Bool) :=
 if v13=true then some v13
 else(some (v12==34))
variable {F0:Fz} {w0:Pt Tryz.prog} {Q:Exit->Act->World->Prop}
theorem xT(n:Nat)(v0:Bs)(v12:Int)(v13:Bool)(o:Bool)(h:l6 n v0 v12 v13=some o)(hQ:To 47 F0 w0 [(0,.str v0),(12,.val (.int .u8 v12)),(13,vb o)] [] .normal Q):Wp Tryz.prog 47 F0 w0 [(0,.str v0),(12,.val (.int .u8 v12)),(13,vb v13)] [] (cB (cA (cI (cB (cA (cB (cB (cF Tryz.f65)))))))) Q:=by
 unfold l6 at h
 refine cn h (fun h=>?_) (fun h=>?_)
 ·refine Wp.skip (kt [0,12,13] [] [(0,.str v0),(12,.val (.int .u8 v12)),(13,vb v13)] [] ?_)
  cases h
  exact hQ
 ·refine rg [0,12,13] [] [(0,.str v0),(12,.val (.int .u8 v12)),(13,vb (v12==34))] [] (kt [0,12,13] [] [(0,.str v0),(12,.val (.int .u8 v12)),(13,vb (v12==34))] [] ?_)
  cases h
  exact hQ
def l9(n:Nat)(v0:Bs)(v12:Int):Option (Sum (Unit) (Int×Int)) :=
 (l6 n v0 v12 (v12==92)).bind fun o1 =>
 if o1=true then(if(decide (0<=(1:Int)/\(1:Int)<(List.length v0:Int)))=true then(some (.inr ((((v0)[Int.toNat 1]?.getD 0).toNat:Int),2))) else none)
 else(if(v12==110)=true then(some (.inr (10,2)))
 else(if(v12==116)=true then(some (.inr (9,2)))
 else(if(v12==120)=true then(if(decide ((List.length v0:Int)<4))=true then(some (.inr (0,0)))
 else(if(decide (0<=(2:Int)/\(2:Int)<(List.length v0:Int)))=true then(aP (rf (((v0)[Int.toNat 2]?.getD 0).toNat:Int)) fun r3 =>
 if(decide (0<=(3:Int)/\(3:Int)<(List.length v0:Int)))=true then(aP (rf (((v0)[Int.toNat 3]?.getD 0).toNat:Int)) fun r4 =>
 if(bif r3.2 then r4.2 else false)=true then(if(decide (0<=(4:Int)))=true then(aP ((IntKind.wrap .u8 ((BitVec.ofInt (IntKind.bits .u8) (IntKind.wrap .u8 (r3.1*2 ^ (min (Int.toNat 4) (IntKind.bits .u8)))) ||| BitVec.ofInt (IntKind.bits .u8) r4.1).toNat)):Int) fun x5 =>
 some (.inr (x5,4))) else none)
 else(some (.inl ()))) else none) else none))
 else(some (.inl ())))))
theorem xK(n:Nat)(v0:Bs)(v12:Int)(o:Sum (Unit) (Int×Int))(h:l9 n v0 v12=some o)(hQ:(Sum.elim (fun s=>To 47 F0 w0 [] [] .normal Q) (fun s=>To 47 F0 w0 [(2,.val (.int .u8 s.1)),(3,vi s.2)] [] .ret Q)) o):Wp Tryz.prog 47 F0 w0 [(0,.str v0),(12,.val (.int .u8 v12))] [] (cB (cA (cB (cB (cF Tryz.f65))))) Q:=by
 unfold l9 at h
 refine Wp.block (Wp.seq (Wp.seq (rg [0,12,13] [] [(0,.str v0),(12,.val (.int .u8 v12)),(13,vb (v12==92))] [] (To.ai ?_))))
 obtain⟨o1,ho1,h⟩:=aG h
 refine kw [0,12,13] [] [(0,.str v0),(12,.val (.int .u8 v12)),(13,vb (v12==92))] [] (xT n v0 v12 (v12==92) o1 ho1 (To.ai (cn h (fun h=>?_) (fun h=>?_))))
 ·refine Wp.seq ?_
  obtain⟨hc2,h⟩:=aK h
  refine r0 [2,3] [] [(2,.val (.int .u8 (((v0)[Int.toNat 1]?.getD 0).toNat:Int))),(3,vi 2)] [] (ax.cons hc2 ax.nil) (To.ai (Wp.ret (To.aX ?_)))
  cases h
  exact hQ
 ·refine Wp.seq (rg [0,12,18] [] [(0,.str v0),(12,.val (.int .u8 v12)),(18,vb (v12==110))] [] (To.ai (cn h (fun h=>?_) (fun h=>?_))))
  ·refine Wp.seq (rg [2,3] [] [(2,.val (.int .u8 10)),(3,vi 2)] [] (To.ai (Wp.ret (To.aX ?_))))
   cases h
   exact hQ
  ·refine Wp.seq (rg [0,12,20] [] [(0,.str v0),(12,.val (.int .u8 v12)),(20,vb (v12==116))] [] (To.ai (cn h (fun h=>?_) (fun h=>?_))))
   ·refine Wp.seq (rg [2,3] [] [(2,.val (.int .u8 9)),(3,vi 2)] [] (To.ai (Wp.ret (To.aX ?_))))
    cases h
    exact hQ
   ·refine Wp.seq (rg [0,22] [] [(0,.str v0),(22,vb (v12==120))] [] (To.ai (cn h (fun h=>?_) (fun h=>?_))))
    ·refine Wp.seq (Wp.seq (rg [0,26] [] [(0,.str v0),(26,vb (decide ((List.length v0:Int)<4)))] [] (To.ai (cn h (fun h=>?_) (fun h=>?_)))))
     ·refine Wp.seq (rg [2,3] [] [(2,.val (.int .u8 0)),(3,vi 0)] [] (To.ai (Wp.ret (To.aO (To.aX ?_)))))
      cases h
      exact hQ
     ·refine Wp.skip (To.ai (Wp.seq ?_))
      obtain⟨hc8,h⟩:=aK h
      obtain⟨r3,hr3,h⟩:=bV h
      refine rr [] [(2,.tup [.val (.int .u8 r3.1),vb r3.2])] [] [0,4,5] [] [(0,.str v0),(4,.val (.int .u8 r3.1)),(5,vb r3.2)] [] [_,_] (ax.cons hc8 (ax.cons (c1 (yn (((v0)[Int.toNat 2]?.getD 0).toNat:Int) _ hr3)) ax.nil)) (To.ai (Wp.seq ?_))
      obtain⟨hc7,h⟩:=aK h
      obtain⟨r4,hr4,h⟩:=bV h
      refine rr [] [(2,.tup [.val (.int .u8 r4.1),vb r4.2])] [] [4,5,6,7] [] [(4,.val (.int .u8 r3.1)),(5,vb r3.2),(6,.val (.int .u8 r4.1)),(7,vb r4.2)] [] [_,_] (ax.cons hc7 (ax.cons (c1 (yn (((v0)[Int.toNat 3]?.getD 0).toNat:Int) _ hr4)) ax.nil)) (To.ai (Wp.seq (rg [4,6,42] [] [(4,.val (.int .u8 r3.1)),(6,.val (.int .u8 r4.1)),(42,vb (bif r3.2 then r4.2 else false))] [] (To.ai (cn h (fun h=>?_) (fun h=>?_))))))
      ·refine Wp.seq ?_
       obtain⟨hc6,h⟩:=aK h
       obtain⟨x5,hx5,h⟩:=bV h
       refine r0 [2,3] [] [(2,.val (.int .u8 (IntKind.wrap .u8 ((BitVec.ofInt (IntKind.bits .u8) (IntKind.wrap .u8 (r3.1*2 ^ (min (Int.toNat 4) (IntKind.bits .u8)))) ||| BitVec.ofInt (IntKind.bits .u8) r4.1).toNat)))),(3,vi 4)] [] (ax.cons hc6 ax.nil) (To.eq (K':=[(2,.val (.int .u8 x5)),(3,vi 4)]) (L':=[]) (by cases hx5;rfl) (by cases hx5;rfl) (To.ai (Wp.ret (To.aX (kt [2,3] [] [(2,.val (.int .u8 x5)),(3,vi 4)] [] ?_)))))
       cases h
       exact hQ
      ·refine Wp.skip (To.br (kt [] [] [] [] ?_))
       cases h
       exact hQ
    ·refine Wp.skip (To.br (kt [] [] [] [] ?_))
     cases h
     exact hQ
def mO(n:Nat)(a0:Bs):Option (Int×Int) :=
 if(decide ((List.length a0:Int)<2))=true then(some (0,0))
 else(if(decide (0<=(1:Int)/\(1:Int)<(List.length a0:Int)))=true then((l9 n a0 (((a0)[Int.toNat 1]?.getD 0).toNat:Int)).bind fun o1 =>
 (Sum.elim (fun o1=>some (0,0)) (fun o1=>some (o1.1,o1.2))) o1) else none)
theorem BF(n:Nat)(a0:Bs)(r:Int×Int)(h:mO n a0=some r):bC Tryz.prog 65 [.str a0] (.tup [.val (.int .u8 r.1),vi r.2]):=by
 unfold mO at h
 refine xo Tryz.f65 rfl fun F0 w0 _=>?_
 refine Wp.seq (rg [0] [] [(0,.str a0)] [] (To.ai (Wp.seq (Wp.seq (rg [0,10] [] [(0,.str a0),(10,vb (decide ((List.length a0:Int)<2)))] [] (To.ai (cn h (fun h=>?_) (fun h=>?_))))))))
 ·refine Wp.seq (rg [2,3] [] [(2,.val (.int .u8 0)),(3,vi 0)] [] (To.ai (Wp.ret (To.aO ?_))))
  cases h
  exact To.done hΓ (by kernel_rfl)
 ·refine Wp.skip (To.ai (Wp.seq (Wp.seq ?_)))
  obtain⟨hc2,h⟩:=aK h
  refine r0 [0,12] [] [(0,.str a0),(12,.val (.int .u8 (((a0)[Int.toNat 1]?.getD 0).toNat:Int)))] [] (ax.cons hc2 ax.nil) (To.ai ?_)
  obtain⟨o1,ho1,h⟩:=aG h
  refine kw [0,12] [] [(0,.str a0),(12,.val (.int .u8 (((a0)[Int.toNat 1]?.getD 0).toNat:Int)))] [] (xK n a0 (((a0)[Int.toNat 1]?.getD 0).toNat:Int) o1 ho1 ?_)
  rcases o1 with o1|o1
  ·replace h:=jy h
   refine To.ai (Wp.seq (rg [2,3] [] [(2,.val (.int .u8 0)),(3,vi 0)] [] (To.ai (Wp.ret ?_))))
   cases h
   exact To.done hΓ (by kernel_rfl)
  ·replace h:=ju h
   refine To.aO ?_
   cases h
   exact To.done hΓ (by kernel_rfl)
def aS(n:Nat)(v0:Bs)(v7:Int):Nat->Int->(List (UInt8))->Option (Sum (Unit) (Bs×Int×Int))
 |0,_,_=>none
 |k+1,v1,v8=>if((!((decide (v1<(List.length v0:Int)))==true)||decide (0<=v1/\v1<(List.length v0:Int))))=true then(if(bif (decide (v1<(List.length v0:Int))) then(fK (((v0)[Int.toNat v1]?.getD 0).toNat:Int)) else false)=true then(if(decide (0<=v1/\v1<(List.length v0:Int)))=true then(if((!((bif (bif ((((v0)[Int.toNat v1]?.getD 0).toNat:Int)==39) then(v7==(((v0)[Int.toNat v1]?.getD 0).toNat:Int)) else false) then(decide ((IntKind.wrap .i64 (v1+1))<(List.length v0:Int))) else false)==true)||decide (0<=(IntKind.wrap .i64 (v1+1))/\(IntKind.wrap .i64 (v1+1))<(List.length v0:Int))))=true then(aP ((bif (bif (bif ((((v0)[Int.toNat v1]?.getD 0).toNat:Int)==39) then(v7==(((v0)[Int.toNat v1]?.getD 0).toNat:Int)) else false) then(decide ((IntKind.wrap .i64 (v1+1))<(List.length v0:Int))) else false) then((((v0)[Int.toNat (IntKind.wrap .i64 (v1+1))]?.getD 0).toNat:Int)==(((v0)[Int.toNat v1]?.getD 0).toNat:Int)) else false):Bool) fun x2 =>
 if x2=true then(if(decide ((List.length v8+List.length ([((v0)[Int.toNat v1]?.getD 0)]:List (UInt8)))*(1+1)<=limit))=true then(aS n v0 v7 k (IntKind.wrap .i64 (v1+2)) (v8++([((v0)[Int.toNat v1]?.getD 0)]:List (UInt8)))) else none)
 else(if((((v0)[Int.toNat v1]?.getD 0).toNat:Int)==v7)=true then(some (.inr (v8,(IntKind.wrap .i64 (v1+1)),0)))
 else(if(bif ((((v0)[Int.toNat v1]?.getD 0).toNat:Int)==92) then(v7==34) else false)=true then(if(decide (0<=v1/\v1<=(List.length v0:Int)))=true then((mO n (List.drop (Int.toNat v1) v0)).bind fun r4 =>
 if(r4.2==0)=true then(some (.inr ([],0,3)))
 else(if(decide (0<=r4.1/\r4.1<256))=true then(if(decide ((List.length v8+List.length ([(UInt8.ofNat (Int.toNat r4.1))]:List (UInt8)))*(1+1)<=limit))=true then(aS n v0 v7 k (IntKind.wrap .i64 (v1+r4.2)) (v8++([(UInt8.ofNat (Int.toNat r4.1))]:List (UInt8)))) else none) else none)) else none)
 else(if(decide ((List.length v8+List.length ([((v0)[Int.toNat v1]?.getD 0)]:List (UInt8)))*(1+1)<=limit))=true then(aS n v0 v7 k (IntKind.wrap .i64 (v1+1)) (v8++([((v0)[Int.toNat v1]?.getD 0)]:List (UInt8)))) else none)))) else none) else none)
 else(some (.inl ()))) else none
abbrev rc1(l:List (UInt8)):D:=.aN false (α:=UInt8) 0 e8 l
abbrev rs2(l:List (UInt8)):D:=.recs (α:=UInt8) 0 e8 l
abbrev ex1(x0:Bs)(x1:Int):=(((x0)[Int.toNat x1]?.getD 0).toNat:Int)
abbrev ex2(x0:Bs)(x1:Int):=([((x0)[Int.toNat x1]?.getD 0)]:List (UInt8))
abbrev ex3(x0:Int)(x1:Bs):=(0<=x0/\x0<(List.length x1:Int))
abbrev ex4(x0:Int):Nat×D:=(5,vi (IntKind.wrap .i64 (x0+1)))
abbrev ex5(x0:Int)(x1:Bs):=(decide (x0<(List.length x1:Int)))
abbrev ex6(x0:Int):Nat×D:=(1,vi (IntKind.wrap .i64 (x0+1)))
abbrev ex7(x0:Bs)(x1:Int):=([((x0)[Int.toNat x1]?.getD 0)])
abbrev NA(x0:List (UInt8))(x1:Bs)(x2:Int):=(i7 0 e8 x0 (List.flatMap e8 (ex2 x1 x2)) (List.length (ex2 x1 x2)) (rs2 (x0++(ex2 x1 x2)))/\aV (rs2 (x0++(ex2 x1 x2))))
abbrev Ni(x0:Bs)(x1:Int):=(fV 1 [.val (.int .u8 (ex1 x0 x1))] 1 (rs2 (ex7 x0 x1))/\aV (rs2 (ex7 x0 x1)))
theorem zP(n:Nat)(v0:Bs)(v7:Int)(k:Nat):∀(v1:Int)(v8:List (UInt8))(o:Sum (Unit) (Bs×Int×Int)),aS n v0 v7 k v1 v8=some o->(Sum.elim (fun s=>To 116 F0 w0 [] [] (.exit 0) Q) (fun s=>To 116 F0 w0 [(4,.str s.1),(5,vi s.2.1),(6,vi s.2.2)] [] .ret Q)) o->WL Tryz.prog 116 F0 w0 [(0,.str v0),(1,vi v1),(7,.val (.int .u8 v7)),(8,.row 1008)] [(1008,5,[rc1 v8])] (cI (cI (cB (cA (cB (cB (cB (cB (cF Tryz.f31))))))))) Q:=by
 induction k with
 |zero=>intro v1 v8 o h;cases h
 |succ k ih =>
  intro v1 v8 o h hQ
  rw[aS] at h
  refine WL.round (Wp.seq (Wp.seq ?_))
  obtain⟨hc11,h⟩:=aK h
  refine rr [] [(8,vb (fK (ex1 v0 v1)))] [] [0,1,7,8,46] [1008] [(0,.str v0),(1,vi v1),(7,.val (.int .u8 v7)),(8,.row 1008),(46,vb (bif (ex5 v1 v0) then(fK (ex1 v0 v1)) else false))] [(1008,5,[rc1 v8])] [_,(((ex5 v1 v0)==true)=true->CX Tryz.prog 64 [.val (.int .u8 (ex1 v0 v1))] (vb (fK (ex1 v0 v1))))] (ax.cons hc11 (ax.cons (fun _=>cx (uV (ex1 v0 v1) _ rfl)) ax.nil)) (To.ai (cn h (fun h=>?_) (fun h=>?_)))
  ·refine Wp.skip (To.ai (Wp.block (Wp.seq ?_)))
   obtain⟨hc10,h⟩:=aK h
   refine r0 [0,1,7,8,9] [1008] [(0,.str v0),(1,vi v1),(7,.val (.int .u8 v7)),(8,.row 1008),(9,.val (.int .u8 (ex1 v0 v1)))] [(1008,5,[rc1 v8])] (ax.cons hc10 ax.nil) (To.ai (Wp.block (Wp.seq ?_)))
   obtain⟨hc9,h⟩:=aK h
   obtain⟨x2,hx2,h⟩:=bV h
   refine r0 [0,1,7,8,9,56] [1008] [(0,.str v0),(1,vi v1),(7,.val (.int .u8 v7)),(8,.row 1008),(9,.val (.int .u8 (ex1 v0 v1))),(56,vb (bif (bif (bif ((ex1 v0 v1)==39) then(v7==(ex1 v0 v1)) else false) then(decide ((IntKind.wrap .i64 (v1+1))<(List.length v0:Int))) else false) then((((v0)[Int.toNat (IntKind.wrap .i64 (v1+1))]?.getD 0).toNat:Int)==(ex1 v0 v1)) else false))] [(1008,5,[rc1 v8])] (ax.cons hc9 ax.nil) (To.eq (K':=[(0,.str v0),(1,vi v1),(7,.val (.int .u8 v7)),(8,.row 1008),(9,.val (.int .u8 (ex1 v0 v1))),(56,vb x2)]) (L':=[(1008,5,[rc1 v8])]) (by cases hx2;rfl) (by cases hx2;rfl) (To.ai (cn h (fun h=>?_) (fun h=>?_))))
   ·refine Wp.seq ?_
    obtain⟨hc3,h⟩:=aK h
    refine rr [] [(2,rs2 (ex7 v0 v1)),(3,rs2 (v8++(ex2 v0 v1)))] [] [0,1,7,8] [82] [(0,.str v0),(1,vi v1),(7,.val (.int .u8 v7)),(8,.row 82)] [(82,5,[rc1 (v8++(ex2 v0 v1))])] [(Ni v0 v1),_,(NA v8 v0 v1)] (ax.cons (jY (lu.cells (ns:=[(ex1 v0 v1)]) (.cons rfl .nil)) rfl rfl (iH _)) (ax.cons hc3 (ax.cons (ja rfl rfl (iH _)) ax.nil))) (To.ai (rg [0,1,7,8] [82] [(0,.str v0),(1,vi (IntKind.wrap .i64 (v1+2))),(7,.val (.int .u8 v7)),(8,.row 82)] [(82,5,[rc1 (v8++(ex2 v0 v1))])] (To.br (To.br (nt [0,1,7,8] [82] [(82,1008)] [0,1,7,8] [1008] [(0,.str v0),(1,vi (IntKind.wrap .i64 (v1+2))),(7,.val (.int .u8 v7)),(8,.row 1008)] [(1008,5,[rc1 (v8++(ex2 v0 v1))])] (To.again ?_))))))
    exact ih (IntKind.wrap .i64 (v1+2)) (v8++(ex2 v0 v1)) _ h hQ
   ·refine Wp.seq (rg [0,1,7,8,9,85] [1008] [(0,.str v0),(1,vi v1),(7,.val (.int .u8 v7)),(8,.row 1008),(9,.val (.int .u8 (ex1 v0 v1))),(85,vb ((ex1 v0 v1)==v7))] [(1008,5,[rc1 v8])] (To.ai (cn h (fun h=>?_) (fun h=>?_))))
    ·refine Wp.seq (rr [] [(1,.str v8)] [] [4,5,6] [] [(4,.str v8),(ex4 v1),(6,vi 0)] [] [(true=true->Bd (List.flatMap e8 v8) (.str v8))] (ax.cons (fun _=>OB (JS _)) ax.nil) (To.ai (Wp.ret (To.aX (To.aX (To.aO ?_))))))
     cases h
     exact hQ
    ·refine Wp.seq (rg [0,1,7,8,9,93] [1008] [(0,.str v0),(1,vi v1),(7,.val (.int .u8 v7)),(8,.row 1008),(9,.val (.int .u8 (ex1 v0 v1))),(93,vb (bif ((ex1 v0 v1)==92) then(v7==34) else false))] [(1008,5,[rc1 v8])] (To.ai (cn h (fun h=>?_) (fun h=>?_))))
     ·refine Wp.seq ?_
      obtain⟨hc7,h⟩:=aK h
      obtain⟨r4,hr4,h⟩:=aG h
      refine rr [] [(3,.tup [.val (.int .u8 r4.1),vi r4.2])] [] [0,1,7,8,10,11] [1008] [(0,.str v0),(1,vi v1),(7,.val (.int .u8 v7)),(8,.row 1008),(10,.val (.int .u8 r4.1)),(11,vi r4.2)] [(1008,5,[rc1 v8])] [_,_] (ax.cons hc7 (ax.cons (c1 (BF n (List.drop (Int.toNat v1) v0) _ hr4)) ax.nil)) (To.ai (Wp.seq (Wp.seq (rg [0,1,7,8,10,11,108] [1008] [(0,.str v0),(1,vi v1),(7,.val (.int .u8 v7)),(8,.row 1008),(10,.val (.int .u8 r4.1)),(11,vi r4.2),(108,vb (r4.2==0))] [(1008,5,[rc1 v8])] (To.ai (cn h (fun h=>?_) (fun h=>?_)))))))
      ·refine Wp.seq (rg [4,5,6] [] [(4,.str []),(5,vi 0),(6,vi 3)] [] (To.ai (Wp.ret (To.aO (To.aX (To.aX (To.aO ?_)))))))
       cases h
       exact hQ
      ·refine Wp.skip (To.ai (Wp.seq ?_))
       obtain⟨u5,h⟩:=aK h
       obtain⟨hc6,h⟩:=aK h
       refine rr [] [(2,rs2 [(UInt8.ofNat (Int.toNat r4.1))]),(3,rs2 (v8++([(UInt8.ofNat (Int.toNat r4.1))]:List (UInt8))))] [] [0,1,7,8,11] [112] [(0,.str v0),(1,vi v1),(7,.val (.int .u8 v7)),(8,.row 112),(11,vi r4.2)] [(112,5,[rc1 (v8++([(UInt8.ofNat (Int.toNat r4.1))]:List (UInt8)))])] [(fV 1 [.val (.int .u8 r4.1)] 1 (rs2 [(UInt8.ofNat (Int.toNat r4.1))])/\aV (rs2 [(UInt8.ofNat (Int.toNat r4.1))])),_,(i7 0 e8 v8 (List.flatMap e8 ([(UInt8.ofNat (Int.toNat r4.1))]:List (UInt8))) (List.length ([(UInt8.ofNat (Int.toNat r4.1))]:List (UInt8))) (rs2 (v8++([(UInt8.ofNat (Int.toNat r4.1))]:List (UInt8))))/\aV (rs2 (v8++([(UInt8.ofNat (Int.toNat r4.1))]:List (UInt8)))))] (ax.cons (jY (lu.cells (ns:=[r4.1]) (.cons (RA u5) .nil)) rfl rfl (iH _)) (ax.cons hc6 (ax.cons (ja rfl rfl (iH _)) ax.nil))) (To.ai (rg [0,1,7,8] [112] [(0,.str v0),(1,vi (IntKind.wrap .i64 (v1+r4.2))),(7,.val (.int .u8 v7)),(8,.row 112)] [(112,5,[rc1 (v8++([(UInt8.ofNat (Int.toNat r4.1))]:List (UInt8)))])] (To.br (To.br (nt [0,1,7,8] [112] [(112,1008)] [0,1,7,8] [1008] [(0,.str v0),(1,vi (IntKind.wrap .i64 (v1+r4.2))),(7,.val (.int .u8 v7)),(8,.row 1008)] [(1008,5,[rc1 (v8++([(UInt8.ofNat (Int.toNat r4.1))]:List (UInt8)))])] (To.again ?_))))))
       exact ih (IntKind.wrap .i64 (v1+r4.2)) (v8++([(UInt8.ofNat (Int.toNat r4.1))]:List (UInt8))) _ h hQ
     ·refine Wp.seq ?_
      obtain⟨hc8,h⟩:=aK h
      refine rr [] [(2,rs2 (ex7 v0 v1)),(3,rs2 (v8++(ex2 v0 v1)))] [] [0,1,7,8] [53] [(0,.str v0),(1,vi v1),(7,.val (.int .u8 v7)),(8,.row 53)] [(53,5,[rc1 (v8++(ex2 v0 v1))])] [(Ni v0 v1),_,(NA v8 v0 v1)] (ax.cons (jY (lu.cells (ns:=[(ex1 v0 v1)]) (.cons rfl .nil)) rfl rfl (iH _)) (ax.cons hc8 (ax.cons (ja rfl rfl (iH _)) ax.nil))) (To.ai (rg [0,1,7,8] [53] [(0,.str v0),(ex6 v1),(7,.val (.int .u8 v7)),(8,.row 53)] [(53,5,[rc1 (v8++(ex2 v0 v1))])] (To.br (To.br (nt [0,1,7,8] [53] [(53,1008)] [0,1,7,8] [1008] [(0,.str v0),(ex6 v1),(7,.val (.int .u8 v7)),(8,.row 1008)] [(1008,5,[rc1 (v8++(ex2 v0 v1))])] (To.again ?_))))))
      exact ih (IntKind.wrap .i64 (v1+1)) (v8++(ex2 v0 v1)) _ h hQ
  ·refine Wp.exit (To.dZ (To.dZ (kt [] [] [] [] ?_)))
   cases h
   exact hQ
def bp(n:Nat)(a0:Bs)(a1:Int):Option (Bs×Int×Int) :=
 if((!((bif (decide (a1<0)) then true else(decide (a1>=(List.length a0:Int))))==false)||decide (0<=a1/\a1<(List.length a0:Int))))=true then(if((!((((((a0)[Int.toNat a1]?.getD 0).toNat:Int) != 34)==true)&&((bif (decide (a1<0)) then true else(decide (a1>=(List.length a0:Int))))==false))||decide (0<=a1/\a1<(List.length a0:Int))))=true then(aP ((bif (bif (decide (a1<0)) then true else(decide (a1>=(List.length a0:Int)))) then true else(bif ((((a0)[Int.toNat a1]?.getD 0).toNat:Int) != 34) then((((a0)[Int.toNat a1]?.getD 0).toNat:Int) != 39) else false)):Bool) fun x1 =>
 if x1=true then(some ([],0,2))
 else(if(decide (0<=a1/\a1<(List.length a0:Int)))=true then((aS n a0 (((a0)[Int.toNat a1]?.getD 0).toNat:Int) n (IntKind.wrap .i64 (a1+1)) ([]:List (UInt8))).bind fun o2 =>
 (Sum.elim (fun o2=>some ([],0,3)) (fun o2=>some (o2.1,o2.2.1,o2.2.2))) o2) else none)) else none) else none
abbrev ex8(x0:Int)(x1:Bs):=(bif (decide (x0<0)) then true else(decide (x0>=(List.length x1:Int))))
theorem lK(n:Nat)(a0:Bs)(a1:Int)(r:Bs×Int×Int)(h:bp n a0 a1=some r):bC Tryz.prog 31 [.str a0,vi a1] (.tup [.str r.1,vi r.2.1,vi r.2.2]):=by
 unfold bp at h
 refine xo Tryz.f31 rfl fun F0 w0 _=>?_
 refine Wp.seq (rg [0,1] [] [(0,.str a0),(1,vi a1)] [] (To.ai (Wp.seq (Wp.seq ?_))))
 obtain⟨hc4,h⟩:=aK h
 obtain⟨hc5,h⟩:=aK h
 obtain⟨x1,hx1,h⟩:=bV h
 refine r0 [0,1,31] [] [(0,.str a0),(1,vi a1),(31,vb (bif (ex8 a1 a0) then true else(bif ((ex1 a0 a1) != 34) then((ex1 a0 a1) != 39) else false)))] [] (ax.cons hc4 (ax.cons hc5 ax.nil)) (To.eq (K':=[(0,.str a0),(1,vi a1),(31,vb x1)]) (L':=[]) (by cases hx1;rfl) (by cases hx1;rfl) (To.ai (cn h (fun h=>?_) (fun h=>?_))))
 ·refine Wp.seq (rg [4,5,6] [] [(4,.str []),(5,vi 0),(6,vi 2)] [] (To.ai (Wp.ret (To.aO ?_))))
  cases h
  exact To.done hΓ (by kernel_rfl)
 ·refine Wp.skip (To.ai (Wp.seq ?_))
  obtain⟨hc3,h⟩:=aK h
  refine r0 [0,1,7] [] [(0,.str a0),(1,vi a1),(7,.val (.int .u8 (ex1 a0 a1)))] [] (ax.cons hc3 ax.nil) (To.ai (Wp.seq (rg [0,1,7,8] [] [(0,.str a0),(1,vi a1),(7,.val (.int .u8 (ex1 a0 a1))),(8,.val (.slice none 0 0))] [] (To.ai (Wp.seq (Wp.seq (rg [0,1,7,8] [] [(0,.str a0),(ex6 a1),(7,.val (.int .u8 (ex1 a0 a1))),(8,.val (.slice none 0 0))] [] (To.ai (Wp.block ?_)))))))))
  obtain⟨o2,ho2,h⟩:=aG h
  refine kw [0,1,7,8] [] [(0,.str a0),(ex6 a1),(7,.val (.int .u8 (ex1 a0 a1))),(8,.val (.slice none 0 0))] [] (Wp.pre (St.Bm (t:=8) (k:=1008) (e:=5) (K':=[(0,.str a0),(ex6 a1),(7,.val (.int .u8 (ex1 a0 a1))),(8,.row 1008)]) (iH _) (by decide) (by kernel_rfl) (by kernel_rfl)) (kw [0,1,7,8] [1008] [(0,.str a0),(ex6 a1),(7,.val (.int .u8 (ex1 a0 a1))),(8,.row 1008)] [(1008,5,[rc1 []])] (Wp.lD (zP n a0 (ex1 a0 a1) n (IntKind.wrap .i64 (a1+1)) ([]:List (UInt8)) o2 ho2 ?_))))
  rcases o2 with o2|o2
  ·replace h:=jy h
   refine To.jH (To.ai (Wp.seq (rg [4,5,6] [] [(4,.str []),(5,vi 0),(6,vi 3)] [] (To.ai (Wp.ret ?_)))))
   cases h
   exact To.done hΓ (by kernel_rfl)
  ·replace h:=ju h
   refine To.aX (To.aO ?_)
   cases h
   exact To.done hΓ (by kernel_rfl)
def uL(n:Nat)(v0:Bs)(v4:Int)(v5:Int)(v6:Bool)(v7:Int):Option (Sum (Int×Int) (Sum (Int×Int) (Bs×Bool))) :=
 if(bif (v7==35) then v6 else false)=true then(if(decide (0<=v5/\v5<=(List.length v0:Int)))=true then(some (.inr (.inr ((List.take (Int.toNat v5) v0),true)))) else none)
 else(if((!((v6==false)&&((bif (v7==34) then true else(v7==39))==true))||decide (0<=(IntKind.wrap .i64 (v4-1))/\(IntKind.wrap .i64 (v4-1))<(List.length v0:Int))))=true then(aP ((bif (bif (v7==34) then true else(v7==39)) then(bif v6 then true else(decide ((Lib.indexByte ([91,123,44]:Bs) (Int.toNat (((v0)[Int.toNat (IntKind.wrap .i64 (v4-1))]?.getD 0).toNat:Int)).toUInt8)>=0))) else false):Bool) fun x3 =>
 if x3=true then((bp n v0 v4).bind fun r4 =>
 if(r4.2.2 != 0)=true then(some (.inr (.inr ([],false))))
 else(some (.inr (.inl (r4.2.1,r4.2.1)))))
 else(if(bif (decide (v7<32)) then true else(v7==127))=true then(some (.inr (.inr ([],false))))
 else(if(v7 != 32)=true then(some (.inl (v4,(IntKind.wrap .i64 (v4+1)))))
 else(some (.inl (v4,v5)))))) else none)
abbrev ex9(x0:Bs)(x1:Int):=(Lib.indexByte ([91,123,44]:Bs) (Int.toNat (((x0)[Int.toNat (IntKind.wrap .i64 (x1-1))]?.getD 0).toNat:Int)).toUInt8)
abbrev JQ(x0:Int):=(bif (x0==34) then true else(x0==39))
abbrev SB(x0:Int)(x1:Bs):=(0<=(IntKind.wrap .i64 (x0-1))/\(IntKind.wrap .i64 (x0-1))<(List.length x1:Int))
abbrev QJ(x0:Int):=(bif (decide (x0<32)) then true else(x0==127))
theorem CU(n:Nat)(v0:Bs)(v4:Int)(v5:Int)(v6:Bool)(v7:Int)(o:Sum (Int×Int) (Sum (Int×Int) (Bs×Bool)))(h:uL n v0 v4 v5 v6 v7=some o)(hQ:(Sum.elim (fun s=>To 82 F0 w0 [(0,.str v0),(4,vi s.1),(5,vi s.2)] [] .normal Q) (Sum.elim (fun s=>To 82 F0 w0 [(0,.str v0),(4,vi s.1),(5,vi s.2)] [] (.goto 0) Q) (fun s=>To 82 F0 w0 [(2,.str s.1),(3,vb s.2)] [] .ret Q))) o):Wp Tryz.prog 82 F0 w0 [(0,.str v0),(4,vi v4),(5,vi v5),(6,vb v6),(7,.val (.int .u8 v7))] [] (cB (cA (cB (cB (cB (cB (cI (cB (cF Tryz.f54))))))))) Q:=by
 unfold uL at h
 refine Wp.block (Wp.seq (rg [0,4,5,6,7,30] [] [(0,.str v0),(4,vi v4),(5,vi v5),(6,vb v6),(7,.val (.int .u8 v7)),(30,vb (bif (v7==35) then v6 else false))] [] (To.ai (cn h (fun h=>?_) (fun h=>?_)))))
 ·refine Wp.seq ?_
  obtain⟨hc2,h⟩:=aK h
  refine r0 [2,3] [] [(2,.str (List.take (Int.toNat v5) v0)),(3,vb true)] [] (ax.cons hc2 ax.nil) (To.ai (Wp.ret (To.aX ?_)))
  cases h
  exact hQ
 ·refine Wp.seq ?_
  obtain⟨hc5,h⟩:=aK h
  obtain⟨x3,hx3,h⟩:=bV h
  refine rr [] [(13,vi (ex9 v0 v4))] [] [0,4,5,7,39] [] [(0,.str v0),(4,vi v4),(5,vi v5),(7,.val (.int .u8 v7)),(39,vb (bif (JQ v7) then(bif v6 then true else(decide ((ex9 v0 v4)>=0))) else false))] [] [_,(((v6==false)&&((JQ v7)==true))=true->CX Tryz.prog 66 [.str [91,123,44],.val (.int .u8 (((v0)[Int.toNat (IntKind.wrap .i64 (v4-1))]?.getD 0).toNat:Int))] (vi (ex9 v0 v4)))] (ax.cons hc5 (ax.cons (fun _=>cx (Sh.lN)) ax.nil)) (To.eq (K':=[(0,.str v0),(4,vi v4),(5,vi v5),(7,.val (.int .u8 v7)),(39,vb x3)]) (L':=[]) (by cases hx3;rfl) (by cases hx3;rfl) (To.ai (cn h (fun h=>?_) (fun h=>?_))))
  ·refine Wp.seq ?_
   obtain⟨r4,hr4,h⟩:=aG h
   refine rc [] 2 [0,9,10] [] [(0,.str v0),(9,vi r4.2.1),(10,vi r4.2.2)] [] (lK n v0 v4 _ hr4) (To.ai (Wp.seq (Wp.seq (rg [0,9,65] [] [(0,.str v0),(9,vi r4.2.1),(65,vb (r4.2.2 != 0))] [] (To.ai (cn h (fun h=>?_) (fun h=>?_)))))))
   ·refine Wp.seq (rg [2,3] [] [(2,.str []),(3,vb false)] [] (To.ai (Wp.ret (To.aO (To.aX ?_)))))
    cases h
    exact hQ
   ·refine Wp.skip (To.ai (Wp.seq (rg [0,4,5] [] [(0,.str v0),(4,vi r4.2.1),(5,vi r4.2.1)] [] (To.ai (Wp.goto (To.LM (kt [0,4,5] [] [(0,.str v0),(4,vi r4.2.1),(5,vi r4.2.1)] [] ?_)))))))
    cases h
    exact hQ
  ·refine Wp.seq (rg [0,4,5,7,68] [] [(0,.str v0),(4,vi v4),(5,vi v5),(7,.val (.int .u8 v7)),(68,vb (QJ v7))] [] (To.ai (cn h (fun h=>?_) (fun h=>?_))))
   ·refine Wp.seq (rg [2,3] [] [(2,.str []),(3,vb false)] [] (To.ai (Wp.ret (To.aX ?_))))
    cases h
    exact hQ
   ·refine Wp.seq (rg [0,4,5,75] [] [(0,.str v0),(4,vi v4),(5,vi v5),(75,vb (v7 != 32))] [] (To.ai (cn h (fun h=>?_) (fun h=>?_))))
    ·refine rg [0,4,5] [] [(0,.str v0),(4,vi v4),(ex4 v4)] [] (To.br ?_)
     cases h
     exact hQ
    ·refine Wp.skip (To.br (kt [0,4,5] [] [(0,.str v0),(4,vi v4),(5,vi v5)] [] ?_))
     cases h
     exact hQ
def nO(n:Nat)(v0:Bs)(v4:Int)(v5:Int)(v6:Bool)(v7:Int):Option (Sum (Int×Int) (Sum (Int×Int) (Bs×Bool))) :=
 if(bif (v7==35) then v6 else false)=true then(if(decide (0<=v5/\v5<=(List.length v0:Int)))=true then(some (.inr (.inr ((List.take (Int.toNat v5) v0),true)))) else none)
 else(if((!((v6==false)&&((bif (v7==34) then true else(v7==39))==true))||decide (0<=(IntKind.wrap .i64 (v4-1))/\(IntKind.wrap .i64 (v4-1))<(List.length v0:Int))))=true then(aP ((bif (bif (v7==34) then true else(v7==39)) then(bif v6 then true else(decide ((Lib.indexByte ([91,123,44]:Bs) (Int.toNat (((v0)[Int.toNat (IntKind.wrap .i64 (v4-1))]?.getD 0).toNat:Int)).toUInt8)>=0))) else false):Bool) fun x3 =>
 if x3=true then((bp n v0 v4).bind fun r4 =>
 if(r4.2.2 != 0)=true then(some (.inr (.inr ([],false))))
 else(some (.inr (.inl (r4.2.1,r4.2.1)))))
 else(if(bif (decide (v7<32)) then true else(v7==127))=true then(some (.inr (.inr ([],false))))
 else(if(v7 != 32)=true then(some (.inl (v4,(IntKind.wrap .i64 (v4+1)))))
 else(some (.inl (v4,v5)))))) else none)
theorem Cf(n:Nat)(v0:Bs)(v4:Int)(v5:Int)(v6:Bool)(v7:Int)(o:Sum (Int×Int) (Sum (Int×Int) (Bs×Bool)))(h:nO n v0 v4 v5 v6 v7=some o)(hQ:(Sum.elim (fun s=>To 82 F0 w0 [(0,.str v0),(4,vi s.1),(5,vi s.2)] [] .normal Q) (Sum.elim (fun s=>To 82 F0 w0 [(0,.str v0),(4,vi s.1),(5,vi s.2)] [] (.goto 0) Q) (fun s=>To 82 F0 w0 [(2,.str s.1),(3,vb s.2)] [] .ret Q))) o):Wp Tryz.prog 82 F0 w0 [(0,.str v0),(4,vi v4),(5,vi v5),(6,vb v6),(7,.val (.int .u8 v7))] [] (cB (cA (cB (cB (cB (cB (cI (cB (cF Tryz.f54))))))))) Q:=by
 unfold nO at h
 refine Wp.block (Wp.seq (rg [0,4,5,6,7,30] [] [(0,.str v0),(4,vi v4),(5,vi v5),(6,vb v6),(7,.val (.int .u8 v7)),(30,vb (bif (v7==35) then v6 else false))] [] (To.ai (cn h (fun h=>?_) (fun h=>?_)))))
 ·refine Wp.seq ?_
  obtain⟨hc2,h⟩:=aK h
  refine r0 [2,3] [] [(2,.str (List.take (Int.toNat v5) v0)),(3,vb true)] [] (ax.cons hc2 ax.nil) (To.ai (Wp.ret (To.aX ?_)))
  cases h
  exact hQ
 ·refine Wp.seq ?_
  obtain⟨hc5,h⟩:=aK h
  obtain⟨x3,hx3,h⟩:=bV h
  refine rr [] [(13,vi (ex9 v0 v4))] [] [0,4,5,7,39] [] [(0,.str v0),(4,vi v4),(5,vi v5),(7,.val (.int .u8 v7)),(39,vb (bif (JQ v7) then(bif v6 then true else(decide ((ex9 v0 v4)>=0))) else false))] [] [_,(((v6==false)&&((JQ v7)==true))=true->CX Tryz.prog 66 [.str [91,123,44],.val (.int .u8 (((v0)[Int.toNat (IntKind.wrap .i64 (v4-1))]?.getD 0).toNat:Int))] (vi (ex9 v0 v4)))] (ax.cons hc5 (ax.cons (fun _=>cx (Sh.lN)) ax.nil)) (To.eq (K':=[(0,.str v0),(4,vi v4),(5,vi v5),(7,.val (.int .u8 v7)),(39,vb x3)]) (L':=[]) (by cases hx3;rfl) (by cases hx3;rfl) (To.ai (cn h (fun h=>?_) (fun h=>?_))))
  ·refine Wp.seq ?_
   obtain⟨r4,hr4,h⟩:=aG h
   refine rc [] 2 [0,9,10] [] [(0,.str v0),(9,vi r4.2.1),(10,vi r4.2.2)] [] (lK n v0 v4 _ hr4) (To.ai (Wp.seq (Wp.seq (rg [0,9,65] [] [(0,.str v0),(9,vi r4.2.1),(65,vb (r4.2.2 != 0))] [] (To.ai (cn h (fun h=>?_) (fun h=>?_)))))))
   ·refine Wp.seq (rg [2,3] [] [(2,.str []),(3,vb false)] [] (To.ai (Wp.ret (To.aO (To.aX ?_)))))
    cases h
    exact hQ
   ·refine Wp.skip (To.ai (Wp.seq (rg [0,4,5] [] [(0,.str v0),(4,vi r4.2.1),(5,vi r4.2.1)] [] (To.ai (Wp.goto (To.LM (kt [0,4,5] [] [(0,.str v0),(4,vi r4.2.1),(5,vi r4.2.1)] [] ?_)))))))
    cases h
    exact hQ
  ·refine Wp.seq (rg [0,4,5,7,68] [] [(0,.str v0),(4,vi v4),(5,vi v5),(7,.val (.int .u8 v7)),(68,vb (QJ v7))] [] (To.ai (cn h (fun h=>?_) (fun h=>?_))))
   ·refine Wp.seq (rg [2,3] [] [(2,.str []),(3,vb false)] [] (To.ai (Wp.ret (To.aX ?_))))
    cases h
    exact hQ
   ·refine Wp.seq (rg [0,4,5,75] [] [(0,.str v0),(4,vi v4),(5,vi v5),(75,vb (v7 != 32))] [] (To.ai (cn h (fun h=>?_) (fun h=>?_))))
    ·refine rg [0,4,5] [] [(0,.str v0),(4,vi v4),(ex4 v4)] [] (To.br ?_)
     cases h
     exact hQ
    ·refine Wp.skip (To.br (kt [0,4,5] [] [(0,.str v0),(4,vi v4),(5,vi v5)] [] ?_))
     cases h
     exact hQ
mutual
def jF(n:Nat):Nat->Bs->Option (Bs×Bool)
 |0,_=>none
 |k+1,v0=>if((0:Int)==(List.length v0:Int))=true then(if(decide (0<=(0:Int)/\(0:Int)<=(List.length v0:Int)))=true then(some ((List.take (Int.toNat 0) v0),true)) else none)
 else(if((!(((0:Int)==0)==false)||decide (0<=(IntKind.wrap .i64 (0-1))/\(IntKind.wrap .i64 (0-1))<(List.length v0:Int))))=true then(if(decide (0<=(0:Int)/\(0:Int)<(List.length v0:Int)))=true then((uL n v0 0 0 (bif ((0:Int)==0) then true else((((v0)[Int.toNat (IntKind.wrap .i64 (0-1))]?.getD 0).toNat:Int)==32)) (((v0)[Int.toNat 0]?.getD 0).toNat:Int)).bind fun o2 =>
 (Sum.elim (fun o2=>aR n k v0 (IntKind.wrap .i64 (o2.1+1)) o2.2) (Sum.elim (fun o2=>aR n k v0 o2.1 o2.2) (fun o2=>some (o2.1,o2.2)))) o2) else none) else none)
def aR(n:Nat):Nat->Bs->Int->Int->Option (Bs×Bool)
 |0,_,_,_=>none
 |k+1,v0,v4,v5=>if(v4==(List.length v0:Int))=true then(if(decide (0<=v5/\v5<=(List.length v0:Int)))=true then(some ((List.take (Int.toNat v5) v0),true)) else none)
 else(if((!((v4==0)==false)||decide (0<=(IntKind.wrap .i64 (v4-1))/\(IntKind.wrap .i64 (v4-1))<(List.length v0:Int))))=true then(if(decide (0<=v4/\v4<(List.length v0:Int)))=true then((nO n v0 v4 v5 (bif (v4==0) then true else((((v0)[Int.toNat (IntKind.wrap .i64 (v4-1))]?.getD 0).toNat:Int)==32)) (((v0)[Int.toNat v4]?.getD 0).toNat:Int)).bind fun o2 =>
 (Sum.elim (fun o2=>aR n k v0 (IntKind.wrap .i64 (o2.1+1)) o2.2) (Sum.elim (fun o2=>aR n k v0 o2.1 o2.2) (fun o2=>some (o2.1,o2.2)))) o2) else none) else none)
end
abbrev oS(x0:Bs):=(((x0)[Int.toNat 0]?.getD 0).toNat:Int)
abbrev J0(x0:Bs)(x1:Int):=(((x0)[Int.toNat (IntKind.wrap .i64 (x1-1))]?.getD 0).toNat:Int)
abbrev SA(x0:Bs):=(0<=(0:Int)/\(0:Int)<(List.length x0:Int))
abbrev JI(x0:Bs):=(bif ((0:Int)==0) then true else((((x0)[Int.toNat (IntKind.wrap .i64 (0-1))]?.getD 0).toNat:Int)==32))
theorem CO(n:Nat)(k:Nat):(∀(v0:Bs)(o:Bs×Bool),jF n k v0=some o->To 82 F0 w0 [(2,.str o.1),(3,vb o.2)] [] .ret Q->WG Tryz.prog 82 F0 w0 [(0,.str v0)] [] (cI (cB (cF Tryz.f54))) (cI (cB (cF Tryz.f54))) Q) /\
 (∀(v0:Bs)(v4:Int)(v5:Int)(o:Bs×Bool),aR n k v0 v4 v5=some o->To 82 F0 w0 [(2,.str o.1),(3,vb o.2)] [] .ret Q->WG Tryz.prog 82 F0 w0 [(0,.str v0),(4,vi v4),(5,vi v5)] [] (cI (cB (cF Tryz.f54))) (cG 0 (cB (cF Tryz.f54))) Q):=by
 induction k with
 |zero=>exact⟨(by intro v0 o h;cases h),(by intro v0 v4 v5 o h;cases h)⟩
 |succ k ih =>
  refine⟨?_,?_⟩
  ·intro v0 o h hQ
   rw[jF] at h
   refine WG.pass (Wp.seq (rg [0,4,5] [] [(0,.str v0),(4,vi 0),(5,vi 0)] [] (To.ai (Wp.seq (Wp.label (To.ai (Wp.seq (Wp.seq (rg [0,4,5,14] [] [(0,.str v0),(4,vi 0),(5,vi 0),(14,vb ((0:Int)==(List.length v0:Int)))] [] (To.ai ?_))))))))))
   refine cn h (fun h=>?_) (fun h=>?_)
   ·refine Wp.seq ?_
    obtain⟨hc1,h⟩:=aK h
    refine r0 [2,3] [] [(2,.str (List.take (Int.toNat 0) v0)),(3,vb true)] [] (ax.cons hc1 ax.nil) (To.ai (Wp.ret (To.aO (To.kF (.inr (.inl rfl)) (kt [2,3] [] [(2,.str (List.take (Int.toNat 0) v0)),(3,vb true)] [] ?_)))))
    cases h
    exact hQ
   ·refine Wp.skip (To.ai (Wp.seq ?_))
    obtain⟨hc4,h⟩:=aK h
    refine r0 [0,4,5,6] [] [(0,.str v0),(4,vi 0),(5,vi 0),(6,vb (JI v0))] [] (ax.cons hc4 ax.nil) (To.ai (Wp.seq (Wp.seq ?_)))
    obtain⟨hc3,h⟩:=aK h
    refine r0 [0,4,5,6,7] [] [(0,.str v0),(4,vi 0),(5,vi 0),(6,vb (JI v0)),(7,.val (.int .u8 (oS v0)))] [] (ax.cons hc3 ax.nil) (To.ai ?_)
    obtain⟨o2,ho2,h⟩:=aG h
    refine kw [0,4,5,6,7] [] [(0,.str v0),(4,vi 0),(5,vi 0),(6,vb (JI v0)),(7,.val (.int .u8 (oS v0)))] [] (CU n v0 0 0 (JI v0) (oS v0) o2 ho2 ?_)
    rcases o2 with o2|o2
    ·replace h:=jy h
     refine To.ai (Wp.seq (rg [0,4,5] [] [(0,.str v0),(4,vi (IntKind.wrap .i64 (o2.1+1))),(5,vi o2.2)] [] (To.ai (Wp.goto (kt [0,4,5] [] [(0,.str v0),(4,vi (IntKind.wrap .i64 (o2.1+1))),(5,vi o2.2)] [] (To.goto (rest:=cG 0 (cB (cF Tryz.f54))) (by kernel_rfl) ?_))))))
     exact ih.2 v0 (IntKind.wrap .i64 (o2.1+1)) o2.2 _ h hQ
    ·replace h:=ju h
     rcases o2 with o2|o2
     ·replace h:=jy h
      refine To.yz (kt [0,4,5] [] [(0,.str v0),(4,vi o2.1),(5,vi o2.2)] [] (To.goto (rest:=cG 0 (cB (cF Tryz.f54))) (by kernel_rfl) ?_))
      exact ih.2 v0 o2.1 o2.2 _ h hQ
     ·replace h:=ju h
      refine To.aO (To.kF (.inr (.inl rfl)) (kt [2,3] [] [(2,.str o2.1),(3,vb o2.2)] [] ?_))
      cases h
      exact hQ
  ·intro v0 v4 v5 o h hQ
   rw[aR] at h
   refine WG.pass (Wp.seq (Wp.skip (To.ai (Wp.seq (Wp.seq (rg [0,4,5,14] [] [(0,.str v0),(4,vi v4),(5,vi v5),(14,vb (v4==(List.length v0:Int)))] [] (To.ai (cn h (fun h=>?_) (fun h=>?_)))))))))
   ·refine Wp.seq ?_
    obtain⟨hc1,h⟩:=aK h
    refine r0 [2,3] [] [(2,.str (List.take (Int.toNat v5) v0)),(3,vb true)] [] (ax.cons hc1 ax.nil) (To.ai (Wp.ret (To.aO (To.kF (.inr (.inl rfl)) (kt [2,3] [] [(2,.str (List.take (Int.toNat v5) v0)),(3,vb true)] [] ?_)))))
    cases h
    exact hQ
   ·refine Wp.skip (To.ai (Wp.seq ?_))
    obtain⟨hc4,h⟩:=aK h
    refine r0 [0,4,5,6] [] [(0,.str v0),(4,vi v4),(5,vi v5),(6,vb (bif (v4==0) then true else((J0 v0 v4)==32)))] [] (ax.cons hc4 ax.nil) (To.ai (Wp.seq (Wp.seq ?_)))
    obtain⟨hc3,h⟩:=aK h
    refine r0 [0,4,5,6,7] [] [(0,.str v0),(4,vi v4),(5,vi v5),(6,vb (bif (v4==0) then true else((J0 v0 v4)==32))),(7,.val (.int .u8 (ex1 v0 v4)))] [] (ax.cons hc3 ax.nil) (To.ai ?_)
    obtain⟨o2,ho2,h⟩:=aG h
    refine kw [0,4,5,6,7] [] [(0,.str v0),(4,vi v4),(5,vi v5),(6,vb (bif (v4==0) then true else((J0 v0 v4)==32))),(7,.val (.int .u8 (ex1 v0 v4)))] [] (Cf n v0 v4 v5 (bif (v4==0) then true else((J0 v0 v4)==32)) (ex1 v0 v4) o2 ho2 ?_)
    rcases o2 with o2|o2
    ·replace h:=jy h
     refine To.ai (Wp.seq (rg [0,4,5] [] [(0,.str v0),(4,vi (IntKind.wrap .i64 (o2.1+1))),(5,vi o2.2)] [] (To.ai (Wp.goto (kt [0,4,5] [] [(0,.str v0),(4,vi (IntKind.wrap .i64 (o2.1+1))),(5,vi o2.2)] [] (To.goto (rest:=cG 0 (cB (cF Tryz.f54))) (by kernel_rfl) ?_))))))
     exact ih.2 v0 (IntKind.wrap .i64 (o2.1+1)) o2.2 _ h hQ
    ·replace h:=ju h
     rcases o2 with o2|o2
     ·replace h:=jy h
      refine To.yz (kt [0,4,5] [] [(0,.str v0),(4,vi o2.1),(5,vi o2.2)] [] (To.goto (rest:=cG 0 (cB (cF Tryz.f54))) (by kernel_rfl) ?_))
      exact ih.2 v0 o2.1 o2.2 _ h hQ
     ·replace h:=ju h
      refine To.aO (To.kF (.inr (.inl rfl)) (kt [2,3] [] [(2,.str o2.1),(3,vb o2.2)] [] ?_))
      cases h
      exact hQ
def iE(n:Nat)(a0:Bs):Option (Bs×Bool) :=
 (jF n n a0).bind fun o1 =>
 some (o1.1,o1.2)
theorem GM(n:Nat)(a0:Bs)(r:Bs×Bool)(h:iE n a0=some r):bC Tryz.prog 54 [.str a0] (.tup [.str r.1,vb r.2]):=by
 unfold iE at h
 refine xo Tryz.f54 rfl fun F0 w0 _=>?_
 refine Wp.seq (rg [0] [] [(0,.str a0)] [] (To.ai ?_))
 obtain⟨o1,ho1,h⟩:=aG h
 refine kw [0] [] [(0,.str a0)] [] (Wp.Fp ((CO n n).1 a0 o1 ho1 ?_))
 cases h
 exact To.done hΓ (by kernel_rfl)
def jZ(n:Nat)(v0:Bs)(v5:List (av))(v6:Int):Option (Sum (Bs×(List (av))) (Int×Int)) :=
 if(decide (List.length v0<4294967281))=true then(aP ((IntKind.wrap .i64 ((List.length ((Lib.cut v0 ([10]:Bs)).1):Int)-(List.length (Lib.trimLeftB ((Lib.cut v0 ([10]:Bs)).1) 32):Int))):Int) fun x2 =>
 if(decide (0<=x2/\x2<=(List.length ((Lib.cut v0 ([10]:Bs)).1):Int)))=true then((iE n (List.drop (Int.toNat x2) ((Lib.cut v0 ([10]:Bs)).1))).bind fun r3 =>
 aP ((bif (!r3.2) then true else(bif (x2==0) then(bif (r3.1==[45,45,45]) then true else(r3.1==[46,46,46])) else false)):Bool) fun x4 =>
 if x4=true then(some (.inr (v6,3)))
 else(if(!(r3.1==[]))=true then(if(decide ((List.length v5+List.length ([(av.mk v6 x2 r3.1)]:List (av)))*(32+1)<=limit))=true then(some (.inl ((Lib.cut v0 ([10]:Bs)).2.1,(v5++([(av.mk v6 x2 r3.1)]:List (av)))))) else none)
 else(some (.inl ((Lib.cut v0 ([10]:Bs)).2.1,v5))))) else none) else none
def dM(n:Nat):Nat->Bs->(List (av))->Int->Option (Sum ((List (av))) (Int×Int))
 |0,_,_,_=>none
 |k+1,v0,v5,v6=>if(!(v0==[]))=true then((jZ n v0 v5 v6).bind fun o1 =>
 (Sum.elim (fun o1=>dM n k o1.1 o1.2 (IntKind.wrap .i64 (v6+1))) (fun o1=>some (.inr (o1.1,o1.2)))) o1)
 else(some (.inl v5))
def iL(n:Nat)(a0:Bs):Option ((List (av))×Int×Int) :=
 if(decide ((List.length a0:Int)>8192))=true then(some ([],0,9))
 else((dM n n a0 ([]:List (av)) 1).bind fun o1 =>
 (Sum.elim (fun o1=>some (o1,0,0)) (fun o1=>some ([],o1.1,o1.2))) o1)
structure ak where
 f_l:List (av)
 aC:Int
 mF:Int
 f_e:Int
def fl(a0:Bs):Bool :=
 (bif (a0==[45]) then true else(Lib.hasPrefix a0 ([45,32]:Bs)))
theorem pg(a0:Bs)(r:Bool)(h:fl a0=r):bC Tryz.prog 14 [.str a0] (vb r):=by
 unfold fl at h
 refine xo Tryz.f14 rfl fun F0 w0 _=>?_
 refine Wp.seq (rg [0] [] [(0,.str a0)] [] (To.ai (Wp.seq (rr [] [(4,vb (Lib.hasPrefix a0 ([45,32]:Bs)))] [] [2] [] [(2,vb (bif (a0==[45]) then true else(Lib.hasPrefix a0 ([45,32]:Bs))))] [] [(((a0==[45])==false)=true->CX Tryz.prog 39 [.str a0,.str [45,32]] (vb (Lib.hasPrefix a0 ([45,32]:Bs))))] (ax.cons (fun _=>cx (Sh.Gt)) ax.nil) (To.ai (Wp.ret ?_))))))
 cases h
 exact To.done hΓ (by kernel_rfl)
def nH(n:Nat)(a0:Bs)(a1:Int):Option (Bool) :=
 if((!((decide (a1<(List.length a0:Int)))==true)||decide (0<=a1/\a1<(List.length a0:Int))))=true then(if((!((((IntKind.wrap .i64 (a1+1))==(List.length a0:Int))==false)&&((bif (decide (a1<(List.length a0:Int))) then((((a0)[Int.toNat a1]?.getD 0).toNat:Int)==58) else false)==true))||decide (0<=(IntKind.wrap .i64 (a1+1))/\(IntKind.wrap .i64 (a1+1))<(List.length a0:Int))))=true then(aP ((bif (bif (decide (a1<(List.length a0:Int))) then((((a0)[Int.toNat a1]?.getD 0).toNat:Int)==58) else false) then(bif ((IntKind.wrap .i64 (a1+1))==(List.length a0:Int)) then true else((((a0)[Int.toNat (IntKind.wrap .i64 (a1+1))]?.getD 0).toNat:Int)==32)) else false):Bool) fun x1 =>
 some x1) else none) else none
theorem wQ(n:Nat)(a0:Bs)(a1:Int)(r:Bool)(h:nH n a0 a1=some r):bC Tryz.prog 32 [.str a0,vi a1] (vb r):=by
 unfold nH at h
 refine xo Tryz.f32 rfl fun F0 w0 _=>?_
 refine Wp.seq (rg [0,1] [] [(0,.str a0),(1,vi a1)] [] (To.ai (Wp.seq ?_)))
 obtain⟨hc2,h⟩:=aK h
 obtain⟨hc3,h⟩:=aK h
 obtain⟨x1,hx1,h⟩:=bV h
 refine r0 [4] [] [(4,vb (bif (bif (ex5 a1 a0) then((ex1 a0 a1)==58) else false) then(bif ((IntKind.wrap .i64 (a1+1))==(List.length a0:Int)) then true else((((a0)[Int.toNat (IntKind.wrap .i64 (a1+1))]?.getD 0).toNat:Int)==32)) else false))] [] (ax.cons hc2 (ax.cons hc3 ax.nil)) (To.eq (K':=[(4,vb x1)]) (L':=[]) (by cases hx1;rfl) (by cases hx1;rfl) (To.ai (Wp.ret ?_)))
 cases h
 exact To.done hΓ (by kernel_rfl)
def gv(n:Nat)(a0:Int)(c0:Bs):Option (Bool) :=
 if((!((bif (decide (a0<0)) then true else(decide (a0>=(List.length c0:Int))))==false)||decide (0<=a0/\a0<(List.length c0:Int))))=true then(aP ((bif (bif (decide (a0<0)) then true else(decide (a0>=(List.length c0:Int)))) then true else((((c0)[Int.toNat a0]?.getD 0).toNat:Int)==32)):Bool) fun x1 =>
 some x1) else none
theorem lY(n:Nat)(a0:Int)(c0:Bs)(r:Bool)(h:gv n a0 c0=some r):bC Tryz.prog 67 [vi a0,.el [.str c0]] (vb r):=by
 unfold gv at h
 refine xo Tryz.f67 rfl fun F0 w0 _=>?_
 refine Wp.seq (rg [0,1] [] [(0,vi a0),(1,.el [.str c0])] [] (To.ai (Wp.seq ?_)))
 obtain⟨hc2,h⟩:=aK h
 obtain⟨x1,hx1,h⟩:=bV h
 refine r0 [3] [] [(3,vb (bif (ex8 a0 c0) then true else((ex1 c0 a0)==32)))] [] (ax.cons hc2 ax.nil) (To.eq (K':=[(3,vb x1)]) (L':=[]) (by cases hx1;rfl) (by cases hx1;rfl) (To.ai (Wp.ret ?_)))
 cases h
 exact To.done hΓ (by kernel_rfl)
def jg(n:Nat)(v1:Bs)(v3_0:Bs)(v43:Int):Nat->Int->Option (Sum (Unit) (Bool))
 |0,_=>none
 |k+1,v44=>if(decide (v44<v43))=true then(if(decide (0<=v44/\v44<(List.length v1:Int)))=true then(if((!((!(fK (((v1)[Int.toNat v44]?.getD 0).toNat:Int)))==false)||decide (0<=v44/\v44<(List.length v1:Int))))=true then(((if((((((v1)[Int.toNat v44]?.getD 0).toNat:Int)==58)==true)&&((!(fK (((v1)[Int.toNat v44]?.getD 0).toNat:Int)))==false))=true then gv n (IntKind.wrap .i64 (v44+1)) v3_0 else some false)).bind fun r3 =>
 if((!((bif (!(fK (((v1)[Int.toNat v44]?.getD 0).toNat:Int))) then true else(bif ((((v1)[Int.toNat v44]?.getD 0).toNat:Int)==58) then r3 else false))==false)||decide (0<=v44/\v44<(List.length v1:Int))))=true then(((if((((((v1)[Int.toNat v44]?.getD 0).toNat:Int)==35)==true)&&((bif (!(fK (((v1)[Int.toNat v44]?.getD 0).toNat:Int))) then true else(bif ((((v1)[Int.toNat v44]?.getD 0).toNat:Int)==58) then r3 else false))==false))=true then gv n (IntKind.wrap .i64 (v44-1)) v3_0 else some false)).bind fun r4 =>
 aP ((bif (bif (!(fK (((v1)[Int.toNat v44]?.getD 0).toNat:Int))) then true else(bif ((((v1)[Int.toNat v44]?.getD 0).toNat:Int)==58) then r3 else false)) then true else(bif ((((v1)[Int.toNat v44]?.getD 0).toNat:Int)==35) then r4 else false)):Bool) fun x5 =>
 if x5=true then(some (.inr false))
 else(jg n v1 v3_0 v43 k (IntKind.wrap .i64 (v44+1)))) else none) else none) else none)
 else(some (.inl ()))
theorem yT(n:Nat)(v1:Bs)(v3_0:Bs)(v43:Int)(k:Nat):∀(v44:Int)(o:Sum (Unit) (Bool)),jg n v1 v3_0 v43 k v44=some o->(Sum.elim (fun s=>To 77 F0 w0 [] [] (.exit 0) Q) (fun s=>To 77 F0 w0 [(2,vb s)] [] .ret Q)) o->WL Tryz.prog 77 F0 w0 [(1,.el [.str v1]),(3,.fn 67 [.el [.str v3_0]]),(43,vi v43),(44,vi v44)] [] (cI (cI (cB (cA (cB (cB (cB (cB (cF Tryz.f33))))))))) Q:=by
 induction k with
 |zero=>intro v44 o h;cases h
 |succ k ih =>
  intro v44 o h hQ
  rw[jg] at h
  refine WL.round (Wp.seq (rg [1,3,43,44,45] [] [(1,.el [.str v1]),(3,.fn 67 [.el [.str v3_0]]),(43,vi v43),(44,vi v44),(45,vb (decide (v44<v43)))] [] (To.ai (Wp.seq (cn h (fun h=>?_) (fun h=>?_))))))
  ·refine Wp.skip (To.ai (Wp.seq (Wp.block (Wp.seq (rg [1,3,4,43,44] [] [(1,.el [.str v1]),(3,.fn 67 [.el [.str v3_0]]),(4,vi v44),(43,vi v43),(44,vi v44)] [] (To.ai (Wp.seq ?_)))))))
   obtain⟨hc6,h⟩:=aK h
   obtain⟨hc7,h⟩:=aK h
   obtain⟨r3,hr3,h⟩:=aG h
   obtain⟨hc8,h⟩:=aK h
   obtain⟨r4,hr4,h⟩:=aG h
   obtain⟨x5,hx5,h⟩:=bV h
   refine rr [] [(3,vb (fK (ex1 v1 v44))),(14,vb r3),(26,vb r4)] [] [1,3,43,44,75] [] [(1,.el [.str v1]),(3,.fn 67 [.el [.str v3_0]]),(43,vi v43),(44,vi v44),(75,vb (bif (bif (!(fK (ex1 v1 v44))) then true else(bif ((ex1 v1 v44)==58) then r3 else false)) then true else(bif ((ex1 v1 v44)==35) then r4 else false)))] [] [_,_,_,(((((ex1 v1 v44)==58)==true)&&((!(fK (ex1 v1 v44)))==false))=true->CX Tryz.prog 67 [vi (IntKind.wrap .i64 (v44+1)),.el [.str v3_0]] (vb r3)),_,(((((ex1 v1 v44)==35)==true)&&((bif (!(fK (ex1 v1 v44))) then true else(bif ((ex1 v1 v44)==58) then r3 else false))==false))=true->CX Tryz.prog 67 [vi (IntKind.wrap .i64 (v44-1)),.el [.str v3_0]] (vb r4))] (ax.cons hc6 (ax.cons (c1 (uV (ex1 v1 v44) _ rfl)) (ax.cons hc7 (ax.cons (fun hg=>cx (lY n (IntKind.wrap .i64 (v44+1)) v3_0 _ (jC hg hr3))) (ax.cons hc8 (ax.cons (fun hg=>cx (lY n (IntKind.wrap .i64 (v44-1)) v3_0 _ (jC hg hr4))) ax.nil)))))) (To.eq (K':=[(1,.el [.str v1]),(3,.fn 67 [.el [.str v3_0]]),(43,vi v43),(44,vi v44),(75,vb x5)]) (L':=[]) (by cases hx5;rfl) (by cases hx5;rfl) (To.ai (cn h (fun h=>?_) (fun h=>?_))))
   ·refine Wp.seq (rg [2] [] [(2,vb false)] [] (To.ai (Wp.ret (To.aX (To.aO (To.aO ?_))))))
    cases h
    exact hQ
   ·refine Wp.skip (To.br (To.ai (rg [1,3,43,44] [] [(1,.el [.str v1]),(3,.fn 67 [.el [.str v3_0]]),(43,vi v43),(44,vi (IntKind.wrap .i64 (v44+1)))] [] (kt [1,3,43,44] [] [(1,.el [.str v1]),(3,.fn 67 [.el [.str v3_0]]),(43,vi v43),(44,vi (IntKind.wrap .i64 (v44+1)))] [] (To.again ?_)))))
    exact ih (IntKind.wrap .i64 (v44+1)) _ h hQ
  ·refine Wp.exit (To.dZ (To.dZ (kt [] [] [] [] ?_)))
   cases h
   exact hQ
def iz(n:Nat)(a0:Bs):Option (Bool) :=
 if((!((bif (bif (a0==[]) then true else(a0==[126])) then true else(a0==rG))==false)||decide (0<=(0:Int)/\(0:Int)<(List.length a0:Int))))=true then(if((!((bif (bif (bif (a0==[]) then true else(a0==[126])) then true else(a0==rG)) then true else((((a0)[Int.toNat 0]?.getD 0).toNat:Int)==32))==false)||decide (0<=(IntKind.wrap .i64 ((List.length a0:Int)-1))/\(IntKind.wrap .i64 ((List.length a0:Int)-1))<(List.length a0:Int))))=true then(if((!((bif (bif (bif (bif (a0==[]) then true else(a0==[126])) then true else(a0==rG)) then true else((((a0)[Int.toNat 0]?.getD 0).toNat:Int)==32)) then true else((((a0)[Int.toNat (IntKind.wrap .i64 ((List.length a0:Int)-1))]?.getD 0).toNat:Int)==32))==false)||decide (0<=(0:Int)/\(0:Int)<(List.length a0:Int))))=true then(aP ((bif (bif (bif (bif (bif (a0==[]) then true else(a0==[126])) then true else(a0==rG)) then true else((((a0)[Int.toNat 0]?.getD 0).toNat:Int)==32)) then true else((((a0)[Int.toNat (IntKind.wrap .i64 ((List.length a0:Int)-1))]?.getD 0).toNat:Int)==32)) then true else(decide ((Lib.indexByte (JU:Bs) (Int.toNat (((a0)[Int.toNat 0]?.getD 0).toNat:Int)).toUInt8)>=0))):Bool) fun x1 =>
 if x1=true then some false
 else(if(decide (0<=(0:Int)/\(0:Int)<(List.length a0:Int)))=true then(((if(((((a0)[Int.toNat 0]?.getD 0).toNat:Int)==45)==true)=true then gv n 1 a0 else some false)).bind fun r2 =>
 if(bif ((((a0)[Int.toNat 0]?.getD 0).toNat:Int)==45) then r2 else false)=true then some false
 else((jg n a0 a0 (List.length a0:Int) n 0).bind fun o3 =>
 (Sum.elim (fun o3=>some true) (fun o3=>some o3)) o3)) else none)) else none) else none) else none
abbrev Qe(x0:Bs):=(bif (bif (x0==[]) then true else(x0==[126])) then true else(x0==rG))
abbrev RQ(x0:Bs):=((((x0)[Int.toNat (IntKind.wrap .i64 ((List.length x0:Int)-1))]?.getD 0).toNat:Int)==32)
abbrev ND(x0:Bs):=(Lib.indexByte (JU:Bs) (Int.toNat (oS x0)).toUInt8)
abbrev QK(x0:Bs):=(bif (bif (Qe x0) then true else((oS x0)==32)) then true else(RQ x0))
theorem np(n:Nat)(a0:Bs)(r:Bool)(h:iz n a0=some r):bC Tryz.prog 33 [.str a0] (vb r):=by
 unfold iz at h
 refine xo Tryz.f33 rfl fun F0 w0 _=>?_
 refine Wp.seq (rg [1] [1] [(1,.own 1 0)] [(1,9,[.str a0])] (To.ai (Wp.seq (Wp.seq ?_))))
 obtain⟨hc5,h⟩:=aK h
 obtain⟨hc6,h⟩:=aK h
 obtain⟨hc7,h⟩:=aK h
 obtain⟨x1,hx1,h⟩:=bV h
 refine rr [] [(26,vi (ND a0))] [] [1,33] [1] [(1,.own 1 0),(33,vb (bif (QK a0) then true else(decide ((ND a0)>=0))))] [(1,9,[.str a0])] [_,_,_,(((QK a0)==false)=true->CX Tryz.prog 66 [.str JU,.val (.int .u8 (oS a0))] (vi (ND a0)))] (ax.cons hc5 (ax.cons hc6 (ax.cons hc7 (ax.cons (fun _=>cx (Sh.lN)) ax.nil)))) (To.eq (K':=[(1,.own 1 0),(33,vb x1)]) (L':=[(1,9,[.str a0])]) (by cases hx1;rfl) (by cases hx1;rfl) (To.ai (cn h (fun h=>?_) (fun h=>?_))))
 ·refine Wp.seq (rg [2] [] [(2,vb false)] [] (To.ai (Wp.ret (To.aO ?_))))
  cases h
  exact To.done hΓ (by kernel_rfl)
 ·refine Wp.skip (To.ai (Wp.seq (rr [(0,[1])] [] [] [1,3] [] [(1,.el [.str a0]),(3,.fn 67 [.el [.str a0]])] [] [] ax.nil (To.ai (Wp.seq (Wp.seq ?_))))))
  obtain⟨hc4,h⟩:=aK h
  obtain⟨r2,hr2,h⟩:=aG h
  refine rr [] [(5,vb r2)] [] [1,3,41] [] [(1,.el [.str a0]),(3,.fn 67 [.el [.str a0]]),(41,vb (bif ((oS a0)==45) then r2 else false))] [] [_,((((oS a0)==45)==true)=true->CX Tryz.prog 67 [vi 1,.el [.str a0]] (vb r2))] (ax.cons hc4 (ax.cons (fun hg=>cx (lY n 1 a0 _ (jC hg hr2))) ax.nil)) (To.ai (cn h (fun h=>?_) (fun h=>?_)))
  ·refine Wp.seq (rg [2] [] [(2,vb false)] [] (To.ai (Wp.ret (To.aO ?_))))
   cases h
   exact To.done hΓ (by kernel_rfl)
  ·refine Wp.skip (To.ai (Wp.seq (Wp.seq (rg [1,3,43,44] [] [(1,.el [.str a0]),(3,.fn 67 [.el [.str a0]]),(43,vi (List.length a0:Int)),(44,vi 0)] [] (To.ai (Wp.block ?_))))))
   obtain⟨o3,ho3,h⟩:=aG h
   refine kw [1,3,43,44] [] [(1,.el [.str a0]),(3,.fn 67 [.el [.str a0]]),(43,vi (List.length a0:Int)),(44,vi 0)] [] (Wp.lD (yT n a0 a0 (List.length a0:Int) n 0 o3 ho3 ?_))
   rcases o3 with o3|o3
   ·replace h:=jy h
    refine To.jH (To.ai (Wp.seq (rg [2] [] [(2,vb true)] [] (To.ai (Wp.ret ?_)))))
    cases h
    exact To.done hΓ (by kernel_rfl)
   ·replace h:=ju h
    refine To.aX (To.aO ?_)
    cases h
    exact To.done hΓ (by kernel_rfl)
def jh(n:Nat)(v0:Bs):Nat->Int->Option (Int)
 |0,_=>none
 |k+1,v5=>((if((decide (v5<(List.length v0:Int)))==true)=true then nH n v0 v5 else some false)).bind fun r4 =>
 if(bif (decide (v5<(List.length v0:Int))) then(!r4) else false)=true then(jh n v0 k (IntKind.wrap .i64 (v5+1)))
 else some v5
theorem yR(n:Nat)(v0:Bs)(k:Nat):∀(v5:Int)(o:Int),jh n v0 k v5=some o->To 81 F0 w0 [(0,.str v0),(5,vi o)] [] (.exit 0) Q->WL Tryz.prog 81 F0 w0 [(0,.str v0),(5,vi v5)] [] (cI (cI (cA (cE (cB (cA (cB (cB (cB (cF Tryz.f12)))))))))) Q:=by
 induction k with
 |zero=>intro v5 o h;cases h
 |succ k ih =>
  intro v5 o h hQ
  rw[jh] at h
  refine WL.round (Wp.seq (Wp.seq ?_))
  obtain⟨r4,hr4,h⟩:=aG h
  refine rr [] [(7,vb r4)] [] [0,5,58] [] [(0,.str v0),(5,vi v5),(58,vb (bif (ex5 v5 v0) then(!r4) else false))] [] [(((ex5 v5 v0)==true)=true->CX Tryz.prog 32 [.str v0,vi v5] (vb r4))] (ax.cons (fun hg=>cx (wQ n v0 v5 _ (jC hg hr4))) ax.nil) (To.ai (cn h (fun h=>?_) (fun h=>?_)))
  ·refine Wp.skip (To.ai (Wp.block (rg [0,5] [] [(0,.str v0),(ex4 v5)] [] (To.br (To.again ?_)))))
   exact ih (IntKind.wrap .i64 (v5+1)) _ h hQ
  ·refine Wp.exit (To.dZ (To.dZ (kt [0,5] [] [(0,.str v0),(5,vi v5)] [] ?_)))
   cases h
   exact hQ
def ny(n:Nat)(v0:Bs)(v5:Int)(v32:Bool):Option (Sum (Bs×Int) (Bs×Bs×Int)) :=
 if v32=true then((bp n v0 0).bind fun r2 =>
 ((if((r2.2.2 != 0)==false)=true then nH n v0 r2.2.1 else some false)).bind fun r3 =>
 if(bif (r2.2.2 != 0) then true else(!r3))=true then(some (.inr ([],[],0)))
 else(some (.inl (r2.1,r2.2.1))))
 else((jh n v0 n v5).bind fun o4 =>
 if(o4==(List.length v0:Int))=true then(some (.inr ([],[],0)))
 else(if(decide (0<=o4/\o4<=(List.length v0:Int)))=true then((iz n (List.take (Int.toNat o4) v0)).bind fun r5 =>
 if(bif (!r5) then true else((List.take (Int.toNat o4) v0)==[60,60]))=true then(some (.inr ([],[],(-1))))
 else(some (.inl ((List.take (Int.toNat o4) v0),o4)))) else none))
theorem yU(n:Nat)(v0:Bs)(v5:Int)(v32:Bool)(o:Sum (Bs×Int) (Bs×Bs×Int))(h:ny n v0 v5 v32=some o)(hQ:(Sum.elim (fun s=>To 81 F0 w0 [(0,.str v0),(2,.str s.1),(5,vi s.2)] [] .normal Q) (fun s=>To 81 F0 w0 [(2,.str s.1),(3,.str s.2.1),(4,vi s.2.2)] [] .ret Q)) o):Wp Tryz.prog 81 F0 w0 [(0,.str v0),(5,vi v5),(32,vb v32)] [] (cB (cA (cB (cB (cB (cF Tryz.f12)))))) Q:=by
 unfold ny at h
 refine cn h (fun h=>?_) (fun h=>?_)
 ·refine Wp.seq ?_
  obtain⟨r2,hr2,h⟩:=aG h
  refine rc [] 1 [0,6,7,8] [] [(0,.str v0),(6,.str r2.1),(7,vi r2.2.1),(8,vi r2.2.2)] [] (lK n v0 0 _ hr2) (To.ai (Wp.seq (Wp.seq ?_)))
  obtain⟨r3,hr3,h⟩:=aG h
  refine rr [] [(5,vb r3)] [] [0,6,7,46] [] [(0,.str v0),(6,.str r2.1),(7,vi r2.2.1),(46,vb (bif (r2.2.2 != 0) then true else(!r3)))] [] [(((r2.2.2 != 0)==false)=true->CX Tryz.prog 32 [.str v0,vi r2.2.1] (vb r3))] (ax.cons (fun hg=>cx (wQ n v0 r2.2.1 _ (jC hg hr3))) ax.nil) (To.ai (cn h (fun h=>?_) (fun h=>?_)))
  ·refine Wp.seq (rg [2,3,4] [] [(2,.str []),(3,.str []),(4,vi 0)] [] (To.ai (Wp.ret (To.aO ?_))))
   cases h
   exact hQ
  ·refine Wp.skip (To.ai (rg [0,2,5] [] [(0,.str v0),(2,.str r2.1),(5,vi r2.2.1)] [] (kt [0,2,5] [] [(0,.str v0),(2,.str r2.1),(5,vi r2.2.1)] [] ?_)))
   cases h
   exact hQ
 ·refine Wp.seq (Wp.block ?_)
  obtain⟨o4,ho4,h⟩:=aG h
  refine kw [0,5] [] [(0,.str v0),(5,vi v5)] [] (Wp.lD (yR n v0 n v5 o4 ho4 (To.jH (To.ai (Wp.seq (Wp.seq (rg [0,5,64] [] [(0,.str v0),(5,vi o4),(64,vb (o4==(List.length v0:Int)))] [] (To.ai (cn h (fun h=>?_) (fun h=>?_))))))))))
  ·refine Wp.seq (rg [2,3,4] [] [(2,.str []),(3,.str []),(4,vi 0)] [] (To.ai (Wp.ret (To.aO ?_))))
   cases h
   exact hQ
  ·refine Wp.skip (To.ai (Wp.seq ?_))
   obtain⟨hc6,h⟩:=aK h
   refine r0 [0,2,5] [] [(0,.str v0),(2,.str (List.take (Int.toNat o4) v0)),(5,vi o4)] [] (ax.cons hc6 ax.nil) (To.ai (Wp.seq ?_))
   obtain⟨r5,hr5,h⟩:=aG h
   refine rc [] 1 [0,2,5,74] [] [(0,.str v0),(2,.str (List.take (Int.toNat o4) v0)),(5,vi o4),(74,vb (bif (!r5) then true else((List.take (Int.toNat o4) v0)==[60,60])))] [] (np n (List.take (Int.toNat o4) v0) _ hr5) (To.ai (cn h (fun h=>?_) (fun h=>?_)))
   ·refine Wp.seq (rg [2,3,4] [] [(2,.str []),(3,.str []),(4,vi (-1))] [] (To.ai (Wp.ret ?_)))
    cases h
    exact hQ
   ·refine Wp.skip (kt [0,2,5] [] [(0,.str v0),(2,.str (List.take (Int.toNat o4) v0)),(5,vi o4)] [] ?_)
    cases h
    exact hQ
def jk(n:Nat)(a0:Bs):Option (Bs×Bs×Int) :=
 if((!((bif (a0==[]) then true else(fl a0))==false)||decide (0<=(0:Int)/\(0:Int)<(List.length a0:Int))))=true then(if((!((bif (bif (a0==[]) then true else(fl a0)) then true else((((a0)[Int.toNat 0]?.getD 0).toNat:Int)==91))==false)||decide (0<=(0:Int)/\(0:Int)<(List.length a0:Int))))=true then(aP ((bif (bif (bif (a0==[]) then true else(fl a0)) then true else((((a0)[Int.toNat 0]?.getD 0).toNat:Int)==91)) then true else((((a0)[Int.toNat 0]?.getD 0).toNat:Int)==123)):Bool) fun x1 =>
 if x1=true then(some ([],[],0))
 else(if(decide (0<=(0:Int)/\(0:Int)<(List.length a0:Int)))=true then(if((!(((((a0)[Int.toNat 0]?.getD 0).toNat:Int)==34)==false)||decide (0<=(0:Int)/\(0:Int)<(List.length a0:Int))))=true then((ny n a0 0 (bif ((((a0)[Int.toNat 0]?.getD 0).toNat:Int)==34) then true else((((a0)[Int.toNat 0]?.getD 0).toNat:Int)==39))).bind fun o2 =>
 (Sum.elim (fun o2=>if(decide (0<=(IntKind.wrap .i64 (o2.2+1))/\(IntKind.wrap .i64 (o2.2+1))<=(List.length a0:Int)))=true then(some (o2.1,(Lib.trimLeftB (List.drop (Int.toNat (IntKind.wrap .i64 (o2.2+1))) a0) 32),1)) else none) (fun o2=>some (o2.1,o2.2.1,o2.2.2))) o2) else none) else none)) else none) else none
abbrev IG(x0:Bs):=(bif ((oS x0)==34) then true else((oS x0)==39))
theorem u6(n:Nat)(a0:Bs)(r:Bs×Bs×Int)(h:jk n a0=some r):bC Tryz.prog 12 [.str a0] (.tup [.str r.1,.str r.2.1,vi r.2.2]):=by
 unfold jk at h
 refine xo Tryz.f12 rfl fun F0 w0 _=>?_
 refine Wp.seq (rg [0] [] [(0,.str a0)] [] (To.ai (Wp.seq (Wp.seq ?_))))
 obtain⟨hc6,h⟩:=aK h
 obtain⟨hc7,h⟩:=aK h
 obtain⟨x1,hx1,h⟩:=bV h
 refine rr [] [(4,vb (fl a0))] [] [0,24] [] [(0,.str a0),(24,vb (bif (bif (bif (a0==[]) then true else(fl a0)) then true else((oS a0)==91)) then true else((oS a0)==123)))] [] [(((a0==[])==false)=true->CX Tryz.prog 14 [.str a0] (vb (fl a0))),_,_] (ax.cons (fun _=>cx (pg a0 _ rfl)) (ax.cons hc6 (ax.cons hc7 ax.nil))) (To.eq (K':=[(0,.str a0),(24,vb x1)]) (L':=[]) (by cases hx1;rfl) (by cases hx1;rfl) (To.ai (cn h (fun h=>?_) (fun h=>?_))))
 ·refine Wp.seq (rg [2,3,4] [] [(2,.str []),(3,.str []),(4,vi 0)] [] (To.ai (Wp.ret (To.aO ?_))))
  cases h
  exact To.done hΓ (by kernel_rfl)
 ·refine Wp.skip (To.ai (Wp.seq (rg [0,5] [] [(0,.str a0),(5,vi 0)] [] (To.ai (Wp.seq (Wp.seq ?_))))))
  obtain⟨hc4,h⟩:=aK h
  obtain⟨hc5,h⟩:=aK h
  refine r0 [0,5,32] [] [(0,.str a0),(5,vi 0),(32,vb (IG a0))] [] (ax.cons hc4 (ax.cons hc5 ax.nil)) (To.ai ?_)
  obtain⟨o2,ho2,h⟩:=aG h
  refine kw [0,5,32] [] [(0,.str a0),(5,vi 0),(32,vb (IG a0))] [] (yU n a0 0 (IG a0) o2 ho2 ?_)
  rcases o2 with o2|o2
  ·replace h:=jy h
   refine To.ai (Wp.seq ?_)
   obtain⟨hc3,h⟩:=aK h
   refine rr [] [(5,.str (Lib.trimLeftB (List.drop (Int.toNat (IntKind.wrap .i64 (o2.2+1))) a0) 32))] [] [2,3,4] [] [(2,.str o2.1),(3,.str (Lib.trimLeftB (List.drop (Int.toNat (IntKind.wrap .i64 (o2.2+1))) a0) 32)),(4,vi 1)] [] [_,(true=true->CX Tryz.prog 34 [.str (List.drop (Int.toNat (IntKind.wrap .i64 (o2.2+1))) a0),.str [32]] (.str (Lib.trimLeftB (List.drop (Int.toNat (IntKind.wrap .i64 (o2.2+1))) a0) 32)))] (ax.cons hc3 (ax.cons (fun _=>cx (Sh.uS (by decide))) ax.nil)) (To.ai (Wp.ret ?_))
   cases h
   exact To.done hΓ (by kernel_rfl)
  ·replace h:=ju h
   refine To.aO ?_
   cases h
   exact To.done hΓ (by kernel_rfl)
theorem bP(l:List (af)):aV (.recs (af.mk 0 [] [] []) dU l):=⟨Nat.le_of_ble_eq_true (by kernel_rfl),fun _=>⟨rfl,rfl⟩⟩
end Go.Proofs.YtefojkdckfidcaaGreatDoor.M
