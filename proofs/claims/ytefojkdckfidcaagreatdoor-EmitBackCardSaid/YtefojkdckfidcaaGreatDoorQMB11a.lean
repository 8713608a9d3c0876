import Derived.Test.YtefojkdckfidcaaGreatDoorQRxAnyD
import Derived.Test.YtefojkdckfidcaaGreatDoorQRxAnyB
import Derived.Test.YtefojkdckfidcaaGreatDoorQRxIW
import Derived.Test.YtefojkdckfidcaaGreatDoorQRxBld
import Derived.Test.YtefojkdckfidcaaGreatDoorProg
set_option linter.all false
namespace Go.Proofs.YtefojkdckfidcaaGreatDoor.M
open Go.RowKit Go.Proofs.YtefojkdckfidcaaGreatDoor.RX
set_option maxRecDepth 100000
def tab:List (Nat×TI):=[
 (3,{ agg:=false,size:=1,zero:=[.int .i64 0],kind:=.int .i64,eqs:=[] }),
 (4,{ agg:=false,size:=1,zero:=[.bool false],kind:=.bool,eqs:=[] }),
 (5,{ agg:=false,size:=1,zero:=[.int .u8 0],kind:=.int .u8,eqs:=[] }),
 (9,{ agg:=false,size:=1,zero:=[.string ⟨#[]⟩],kind:=.str,eqs:=[] }),
 (23,{ agg:=false,size:=1,zero:=[.slice none 0 0],kind:=.slice 1 false,elt:=9,eb:=16,ez:=[.string ⟨#[]⟩],ek:=none,eqs:=[] }),
 (24,{ agg:=false,size:=1,zero:=[.slice none 0 0],kind:=.slice 4 true,elt:=26,eb:=72,ez:=[.int .i64 0,.string ⟨#[]⟩,.slice none 0 0,.slice none 0 0],ek:=none,eqs:=[] }),
 (26,{ agg:=true,size:=4,zero:=[.int .i64 0,.string ⟨#[]⟩,.slice none 0 0,.slice none 0 0],kind:=.struct [(0,1,false),(1,1,false),(2,1,false),(3,1,false)],eqs:=[] }),
 (27,{ agg:=false,size:=1,zero:=[.int .i64 0],kind:=.int .i64,eqs:=[] }),
 (31,{ agg:=false,size:=1,zero:=[.nilFunc],kind:=.other,eqs:=[] }),
 (41,{ agg:=false,size:=1,zero:=[.slice none 0 0],kind:=.slice 3 true,elt:=50,eb:=32,ez:=[.int .i64 0,.int .i64 0,.string ⟨#[]⟩],ek:=none,eqs:=[] }),
 (46,{ agg:=true,size:=4,zero:=[.slice none 0 0,.int .i64 0,.int .i64 0,.int .i64 0],kind:=.struct [(0,1,false),(1,1,false),(2,1,false),(3,1,false)],eqs:=[] }),
 (50,{ agg:=true,size:=3,zero:=[.int .i64 0,.int .i64 0,.string ⟨#[]⟩],kind:=.struct [(0,1,false),(1,1,false),(2,1,false)],eqs:=[] }),
 (51,{ agg:=false,size:=1,zero:=[.slice none 0 0],kind:=.slice 3 true,elt:=57,eb:=32,ez:=[.int .i64 0,.int .i64 0,.string ⟨#[]⟩],ek:=none,eqs:=[] }),
 (55,{ agg:=true,size:=7,zero:=[.int .i64 0,.string ⟨#[]⟩,.slice none 0 0,.slice none 0 0,.int .i64 0,.int .i64 0,.int .i64 0],kind:=.struct [(0,4,true),(4,1,false),(5,1,false),(6,1,false)],eqs:=[] }),
 (57,{ agg:=true,size:=3,zero:=[.int .i64 0,.int .i64 0,.string ⟨#[]⟩],kind:=.struct [(0,1,false),(1,1,false),(2,1,false)],eqs:=[] }),
 (66,{ agg:=false,size:=1,zero:=[.slice none 0 0],kind:=.slice 1 false,elt:=5,eb:=1,ez:=[.int .u8 0],ek:=some .u8,eqs:=[] }),
 (68,{ agg:=true,size:=2,zero:=[.pointer none,.slice none 0 0],kind:=.struct [(0,1,false),(1,1,false)],eqs:=[] }),
 (87,{ agg:=true,size:=1,zero:=[.int .i64 0],kind:=.struct [(0,1,false)],eqs:=[] }),
 (137,{ agg:=true,size:=3,zero:=[.string ⟨#[]⟩,.int .i64 0,.bool false],kind:=.struct [(0,1,false),(1,1,false),(2,1,false)],eqs:=[] }),
 (156,{ agg:=false,size:=1,zero:=[.map none],kind:=.map none 1 false,elt:=3,eb:=0,ez:=[.int .i64 0],ek:=none,eqs:=[] })]
theorem RO:wC Tryz.prog tab:=⟨⟨by kernel_rfl,fun h=>absurd rfl h⟩,⟨by kernel_rfl,fun h=>absurd rfl h⟩,⟨by kernel_rfl,fun h=>absurd rfl h⟩,⟨by kernel_rfl,fun h=>absurd rfl h⟩,⟨by kernel_rfl,fun h=>absurd rfl h⟩,⟨by kernel_rfl,fun h=>absurd rfl h⟩,⟨by kernel_rfl,fun h=>absurd rfl h⟩,⟨by kernel_rfl,fun h=>absurd rfl h⟩,⟨by kernel_rfl,fun h=>absurd rfl h⟩,⟨by kernel_rfl,fun h=>absurd rfl h⟩,⟨by kernel_rfl,fun h=>absurd rfl h⟩,⟨by kernel_rfl,fun h=>absurd rfl h⟩,⟨by kernel_rfl,fun h=>absurd rfl h⟩,⟨by kernel_rfl,fun h=>absurd rfl h⟩,⟨by kernel_rfl,fun h=>absurd rfl h⟩,⟨by kernel_rfl,fun h=>absurd rfl h⟩,⟨by kernel_rfl,fun h=>absurd rfl h⟩,⟨by kernel_rfl,fun h=>absurd rfl h⟩,⟨by kernel_rfl,fun h=>absurd rfl h⟩,⟨by kernel_rfl,fun h=>absurd rfl h⟩,trivial⟩
theorem hΓ:ΓOK Tryz.prog (zy tab):=ΓOK.of RO
theorem hm:Tryz.prog.follows .mixedOrders=true:=by kernel_rfl
structure af where
 aG:Int
 av:Bs
 ay:Ls
 aj:List (af)
def dU:Bs->List D:=fun x=>[.str x]
abbrev vi(x:Int):D:=.val (.int .i64 x)
abbrev vb(x:Bool):D:=.val (.bool x)
abbrev ls(l:Ls):D:=.recs (α:=Bs) [] dU l
theorem rg{nt:Nat}{F0:Fz}{w0:Pt Tryz.prog}{K:List (Nat×D)}{L:aA}{Q:Exit->Act->World->Prop}{id:Nat}{l:List Oper}(kk kl:List Nat)(K':List (Nat×D))(L':aA)(hn:To nt F0 w0 K' L' .normal Q)(h:nZ (CX Tryz.prog) (aZ Tryz.prog) (zy tab) nt [] [] l [] K L kk kl=some (K',L',[]):=by kernel_rfl):Wp Tryz.prog nt F0 w0 K L (.region id l.toArray false) Q:=Wp.region hΓ [] [] [] kk kl h au.nil hn
theorem rr{nt:Nat}{F0:Fz}{w0:Pt Tryz.prog}{K:List (Nat×D)}{L:aA}{Q:Exit->Act->World->Prop}{id:Nat}{l:List Oper}(fz:List (Nat×List Nat))(orc:List (Nat×D))(orb:List (Nat×CBd))(kk kl:List Nat)(K':List (Nat×D))(L':aA)(ob:List Prop)(hob:au ob)(hn:To nt F0 w0 K' L' .normal Q)(h:nZ (CX Tryz.prog) (aZ Tryz.prog) (zy tab) nt orc orb l fz K L kk kl=some (K',L',ob):=by kernel_rfl):Wp Tryz.prog nt F0 w0 K L (.region id l.toArray false) Q:=Wp.region hΓ fz orc orb kk kl h hob hn
theorem kw{nt:Nat}{F0:Fz}{w0:Pt Tryz.prog}{K:List (Nat×D)}{L:aA}{Q:Exit->Act->World->Prop}{c:Code}(kk kl:List Nat)(K':List (Nat×D))(L':aA)(hn:Wp Tryz.prog nt F0 w0 K' L' c Q)(h1:lD K kk=some K':=by kernel_rfl)(h2:i6 L kl=some L':=by kernel_rfl):Wp Tryz.prog nt F0 w0 K L c Q:=Wp.keep h1 h2 hn
theorem kt{nt:Nat}{F0:Fz}{w0:Pt Tryz.prog}{K:List (Nat×D)}{L:aA}{Q:Exit->Act->World->Prop}{e:Exit}(kk kl:List Nat)(K':List (Nat×D))(L':aA)(hn:To nt F0 w0 K' L' e Q)(h1:lD K kk=some K':=by kernel_rfl)(h2:i6 L kl=some L':=by kernel_rfl):To nt F0 w0 K L e Q:=To.keep h1 h2 hn
theorem r0{nt:Nat}{F0:Fz}{w0:Pt Tryz.prog}{K:List (Nat×D)}{L:aA}{Q:Exit->Act->World->Prop}{id:Nat}{l:List Oper}{ob:List Prop}(kk kl:List Nat)(K':List (Nat×D))(L':aA)(hob:au ob)(hn:To nt F0 w0 K' L' .normal Q)(h:nZ (CX Tryz.prog) (aZ Tryz.prog) (zy tab) nt [] [] l [] K L kk kl=some (K',L',ob):=by kernel_rfl):Wp Tryz.prog nt F0 w0 K L (.region id l.toArray false) Q:=Wp.region hΓ [] [] [] kk kl h hob hn
theorem rc{nt:Nat}{F0:Fz}{w0:Pt Tryz.prog}{K:List (Nat×D)}{L:aA}{Q:Exit->Act->World->Prop}{id:Nat}{l:List Oper}{f:Nat}{ds:List D}{r:D}(fz:List (Nat×List Nat))(i:Nat)(kk kl:List Nat)(K':List (Nat×D))(L':aA)(hc:bg Tryz.prog f ds r)(hn:To nt F0 w0 K' L' .normal Q)(h:nZ (CX Tryz.prog) (aZ Tryz.prog) (zy tab) nt [(i,r)] [] l fz K L kk kl=some (K',L',[(true=true->CX Tryz.prog f ds r)]):=by kernel_rfl):Wp Tryz.prog nt F0 w0 K L (.region id l.toArray false) Q:=Wp.region hΓ fz [(i,r)] [] kk kl h (au.cons (fun _=>cx hc) au.nil) hn
theorem rb{nt:Nat}{F0:Fz}{w0:Pt Tryz.prog}{K:List (Nat×D)}{L:aA}{Q:Exit->Act->World->Prop}{id:Nat}{l:List Oper}{f:Nat}(fz:List (Nat×List Nat))(i:Nat)(c:CBd)(kk kl:List Nat)(K':List (Nat×D))(L':aA)(hc:aZ Tryz.prog f c.ds c.Lin c.r c.fC)(hn:To nt F0 w0 K' L' .normal Q)(h:nZ (CX Tryz.prog) (aZ Tryz.prog) (zy tab) nt [] [(i,c)] l fz K L kk kl=some (K',L',[rO (aZ Tryz.prog) f (D.subs (dG never c.ren) c.ds) (c.Lin.map fun x=>some (x.2.1,D.subs (dG never c.ren) x.2.2)) c]):=by kernel_rfl):Wp Tryz.prog nt F0 w0 K L (.region id l.toArray false) Q:=Wp.region hΓ fz [] [(i,c)] kk kl h (au.cons ⟨hc,rfl,rfl⟩ au.nil) hn
theorem c1{f:Nat}{ds:List D}{r:D}(h:bg Tryz.prog f ds r):true=true->CX Tryz.prog f ds r:=fun _=>cx h
theorem cn{nt:Nat}{F0:Fz}{w0:Pt Tryz.prog}{K:List (Nat×D)}{L:aA}{Q:Exit->Act->World->Prop}{t:Nat}{x y:Code}{b:Bool}{α:Type _}{p q r:α}(h:(if b=true then p else q)=r)(h1:p=r->Wp Tryz.prog nt F0 w0 K L x Q)(h2:q=r->Wp Tryz.prog nt F0 w0 K L y Q)(hc:K.lookup t=some (.val (.bool b)):=by kernel_rfl):Wp Tryz.prog nt F0 w0 K L (.cond (.tmp t) x y) Q:=Wp.cond hc (fun hb=>h1 (jl hb h)) (fun hb=>h2 (zo hb h))
theorem xo{f : Nat}(fn : Func){c : Code}{ds : List D}{r : D}(hbody : fn.body=some c)(h : ∀(F0 : Fz)(w0 : World)(hsh : Shp Tryz.prog w0),Wp Tryz.prog fn.ntmps F0 (.top w0 hsh) (ds.zipIdx.map fun x=>(x.2,x.1)) [] c (bodyPost Tryz.prog fn (uu F0 w0 r)))(hf : Tryz.prog.funcs[f]? = some fn:=by kernel_rfl)(hname : (fn.name == "runtime.NumGoroutine")=false:=by kernel_rfl)(hn : ds.length.ble fn.ntmps=true:=by kernel_rfl) : bg Tryz.prog f ds r:=D7 hf hbody hname (Nat.le_of_ble_eq_true hn) h
theorem bo{f : Nat}(fn : Func){c : Code}{ds : List D}{Lin : aA}{r : D}{fC : aA}(hbody : fn.body=some c)(h : ∀(F0 : Fz)(w0 : Pt Tryz.prog),Wp Tryz.prog fn.ntmps F0 w0.cl (ds.zipIdx.map fun x=>(x.2,x.1)) Lin c (bodyPost Tryz.prog fn (PostB F0 w0.cl r fC)))(hf : Tryz.prog.funcs[f]? = some fn:=by kernel_rfl)(hname : (fn.name == "runtime.NumGoroutine")=false:=by kernel_rfl)(hn : ds.length.ble fn.ntmps=true:=by kernel_rfl) : aZ Tryz.prog f ds Lin r fC:=Md hf hbody hname (Nat.le_of_ble_eq_true hn) h
def rnA:List (Nat×Nat)->List (Nat×D)->aA->Option (List (Nat×D)×aA)
 |[],K,L=>some (K,L)
 |x::rs,K,L=>if(Nat.blt x.2 1000000&&kB x.2 K L)=true then rnA rs (Qh x.1 x.2 K) (Jp x.1 x.2 L) else none
theorem Fo{nt:Nat}{F0:Fz}{w0:Pt Tryz.prog}:∀(rs:List (Nat×Nat)){K K':List (Nat×D)}{L L':aA},rnA rs K L=some (K',L')->∀a w,St nt F0 w0 K L a w->St nt F0 w0 K' L' a w
 |[],_,_,_,_,h,_,_,hs=>by cases h;exact hs
 |x::rs,K,K',L,L',h,a,w,hs=>by
  unfold rnA at h
  split at h
  ·rename_i hc
   rw[Bool.and_eq_true] at hc
   exact Fo rs h a w (St.rename x.1 x.2 (by simpa using hc.1) hc.2 rfl rfl a w hs)
  ·cases h
def knA(rs:List (Nat×Nat))(k0 l0 kk kl:List Nat)(K:List (Nat×D))(L:aA):Option (List (Nat×D)×aA) :=
 match lD K k0,i6 L l0 with
 |some K0,some L0=>(match rnA rs K0 L0 with
  |some (K1,L1)=>(match lD K1 kk,i6 L1 kl with|some K2,some L2=>some (K2,L2)|_,_=>none)
  |none=>none)
 |_,_=>none
theorem MC{nt:Nat}{F0:Fz}{w0:Pt Tryz.prog}{rs:List (Nat×Nat)}{k0 l0 kk kl:List Nat}{K K':List (Nat×D)}{L L':aA}(h:knA rs k0 l0 kk kl K L=some (K',L')):∃K0 L0 K1 L1,lD K k0=some K0/\i6 L l0=some L0/\rnA rs K0 L0=some (K1,L1)/\lD K1 kk=some K'/\i6 L1 kl=some L':=by
 unfold knA at h
 split at h
 ·rename_i K0 L0 e1 e2
  split at h
  ·rename_i K1 L1 e3
   split at h
   ·rename_i K2 L2 e4 e5
    cases h
    exact⟨K0,L0,K1,L1,e1,e2,e3,e4,e5⟩
   ·cases h
  ·cases h
 ·cases h
theorem nw{nt:Nat}{F0:Fz}{w0:Pt Tryz.prog}{K:List (Nat×D)}{L:aA}{Q:Exit->Act->World->Prop}{c:Code}(k0 l0:List Nat)(rs:List (Nat×Nat))(kk kl:List Nat)(K':List (Nat×D))(L':aA)(hn:Wp Tryz.prog nt F0 w0 K' L' c Q)(h:knA rs k0 l0 kk kl K L=some (K',L'):=by kernel_rfl):Wp Tryz.prog nt F0 w0 K L c Q :=
 let ⟨_,_,_,_,e1,e2,e3,e4,e5⟩:=MC (w0:=w0) (F0:=F0) (nt:=nt) h
 Wp.keep e1 e2 (Wp.pre (Fo rs e3) (Wp.keep e4 e5 hn))
theorem nt{nt:Nat}{F0:Fz}{w0:Pt Tryz.prog}{K:List (Nat×D)}{L:aA}{Q:Exit->Act->World->Prop}{e:Exit}(k0 l0:List Nat)(rs:List (Nat×Nat))(kk kl:List Nat)(K':List (Nat×D))(L':aA)(hn:To nt F0 w0 K' L' e Q)(h:knA rs k0 l0 kk kl K L=some (K',L'):=by kernel_rfl):To nt F0 w0 K L e Q :=
 let ⟨_,_,_,_,e1,e2,e3,e4,e5⟩:=MC (w0:=w0) (F0:=F0) (nt:=nt) h
 To.keep e1 e2 (To.pre (Fo rs e3) (To.keep e4 e5 hn))
def bF:af->List D:=fun x=>[.val (.int .i64 x.aG),.str x.av,.recs (α:=Bs) [] dU x.ay]
def bu:af->List (af):=fun x=>x.aj
def wP:af->List D:=pU (af.mk 0 [] [] []) bF bu
def dV:af->List D:=wP
theorem dT(l:Ls):aX (.recs [] dU l):=⟨Nat.le_of_ble_eq_true (by kernel_rfl),fun _=>⟨rfl,rfl⟩⟩
def j6(n:Nat)(v0:Ls)(v3:Ls)(v4:Int)(v5:Int):Option (Int) :=
 if((!(((List.length v3:Int)==0)==false)||decide (0<=v5/\v5<(List.length v0:Int))))=true then(if((!(((List.length v3:Int)==0)==false)||decide (0<=(IntKind.wrap .i64 ((List.length v3:Int)-1))/\(IntKind.wrap .i64 ((List.length v3:Int)-1))<(List.length v3:Int))))=true then(if((!(((decide (v4<0))==false)&&((bif ((List.length v3:Int)==0) then true else(!(Op.bytesLess ((v0)[Int.toNat v5]?.getD []) ((v3)[Int.toNat (IntKind.wrap .i64 ((List.length v3:Int)-1))]?.getD [])||((v0)[Int.toNat v5]?.getD [])==((v3)[Int.toNat (IntKind.wrap .i64 ((List.length v3:Int)-1))]?.getD []))))==true))||decide (0<=v5/\v5<(List.length v0:Int))))=true then(if((!(((decide (v4<0))==false)&&((bif ((List.length v3:Int)==0) then true else(!(Op.bytesLess ((v0)[Int.toNat v5]?.getD []) ((v3)[Int.toNat (IntKind.wrap .i64 ((List.length v3:Int)-1))]?.getD [])||((v0)[Int.toNat v5]?.getD [])==((v3)[Int.toNat (IntKind.wrap .i64 ((List.length v3:Int)-1))]?.getD []))))==true))||decide (0<=v4/\v4<(List.length v0:Int))))=true then(aR ((bif (bif ((List.length v3:Int)==0) then true else(!(Op.bytesLess ((v0)[Int.toNat v5]?.getD []) ((v3)[Int.toNat (IntKind.wrap .i64 ((List.length v3:Int)-1))]?.getD [])||((v0)[Int.toNat v5]?.getD [])==((v3)[Int.toNat (IntKind.wrap .i64 ((List.length v3:Int)-1))]?.getD [])))) then(bif (decide (v4<0)) then true else(Op.bytesLess ((v0)[Int.toNat v5]?.getD []) ((v0)[Int.toNat v4]?.getD []))) else false):Bool) fun x1 =>
 if x1=true then some v5
 else some v4) else none) else none) else none) else none
abbrev rc1(l:Ls):D:=.aP false (α:=Bs) [] dU l
abbrev ex1(x0:Ls)(x1:Ls)(x2:Int):=(bif ((List.length x0:Int)==0) then true else(!(Op.bytesLess ((x1)[Int.toNat x2]?.getD []) ((x0)[Int.toNat (IntKind.wrap .i64 ((List.length x0:Int)-1))]?.getD [])||((x1)[Int.toNat x2]?.getD [])==((x0)[Int.toNat (IntKind.wrap .i64 ((List.length x0:Int)-1))]?.getD []))))
variable {F0:Fz} {w0:Pt Tryz.prog} {Q:Exit->Act->World->Prop}
theorem wX(n:Nat)(v0:Ls)(v3:Ls)(v4:Int)(v5:Int)(o:Int)(h:j6 n v0 v3 v4 v5=some o)(hQ:To 55 F0 w0 [(0,ls v0),(3,.row 1003),(4,vi o),(5,vi v5)] [(1003,9,[rc1 v3])] .normal Q):Wp Tryz.prog 55 F0 w0 [(0,ls v0),(3,.row 1003),(4,vi v4),(5,vi v5)] [(1003,9,[rc1 v3])] (cA (cB (cI (cI (cB (cA (cB (cI (cI (cI (cB (cB (cF Tryz.f77))))))))))))) Q:=by
 unfold j6 at h
 refine Wp.block (Wp.seq ?_)
 obtain⟨hc2,h⟩:=aL h
 obtain⟨hc3,h⟩:=aL h
 obtain⟨hc4,h⟩:=aL h
 obtain⟨hc5,h⟩:=aL h
 obtain⟨x1,hx1,h⟩:=bI h
 refine Wp.eH hm hΓ [] [0,3,4,5,43] [1003] (K':=[(0,ls v0),(3,.row 1003),(4,vi v4),(5,vi v5),(43,vb (bif (ex1 v3 v0 v5) then(bif (decide (v4<0)) then true else(Op.bytesLess ((v0)[Int.toNat v5]?.getD []) ((v0)[Int.toNat v4]?.getD []))) else false))]) (L':=[(1003,9,[rc1 v3])]) (ob:=[(!(((List.length v3:Int)==0)==false)||decide (0<=v5/\v5<(List.length v0:Int)))=true,(!(((List.length v3:Int)==0)==false)||decide (0<=(IntKind.wrap .i64 ((List.length v3:Int)-1))/\(IntKind.wrap .i64 ((List.length v3:Int)-1))<(List.length v3:Int)))=true,(!(((List.length v3:Int)==0)==false)||decide (0<=(IntKind.wrap .i64 ((List.length v3:Int)-1))/\(IntKind.wrap .i64 ((List.length v3:Int)-1))<(List.length v3:Int)))=true,(!(((decide (v4<0))==false)&&((ex1 v3 v0 v5)==true))||decide (0<=v5/\v5<(List.length v0:Int)))=true,(!(((decide (v4<0))==false)&&((ex1 v3 v0 v5)==true))||decide (0<=v4/\v4<(List.length v0:Int)))=true]) (by kernel_rfl) (au.cons hc2 (au.cons hc3 (au.cons hc3 (au.cons hc4 (au.cons hc5 au.nil))))) (To.eq (K':=[(0,ls v0),(3,.row 1003),(4,vi v4),(5,vi v5),(43,vb x1)]) (L':=[(1003,9,[rc1 v3])]) (by cases hx1;rfl) (by cases hx1;rfl) (To.ah (cn h (fun h=>?_) (fun h=>?_))))
 ·refine rg [0,3,4,5] [1003] [(0,ls v0),(3,.row 1003),(4,vi v5),(5,vi v5)] [(1003,9,[rc1 v3])] (To.bf ?_)
  cases h
  exact hQ
 ·refine Wp.skip (To.bf (kt [0,3,4,5] [1003] [(0,ls v0),(3,.row 1003),(4,vi v4),(5,vi v5)] [(1003,9,[rc1 v3])] ?_))
  cases h
  exact hQ
def iL(n:Nat)(v0:Ls)(v3:Ls):Nat->Int->Int->Option (Int)
 |0,_,_=>none
 |k+1,v4,v5=>if(decide (v5<(List.length v0:Int)))=true then((j6 n v0 v3 v4 v5).bind fun o1 =>
 iL n v0 v3 k o1 (IntKind.wrap .i64 (v5+1)))
 else some v4
abbrev ex2(x0:Int):Nat×D:=(5,vi (IntKind.wrap .i64 (x0+1)))
theorem xF(n:Nat)(v0:Ls)(v3:Ls)(k:Nat):∀(v4:Int)(v5:Int)(o:Int),iL n v0 v3 k v4 v5=some o->To 55 F0 w0 [(0,ls v0),(3,.row 1003),(4,vi o)] [(1003,9,[rc1 v3])] (.exit 2) Q->WL Tryz.prog 55 F0 w0 [(0,ls v0),(3,.row 1003),(4,vi v4),(5,vi v5)] [(1003,9,[rc1 v3])] (cI (cI (cB (cA (cB (cI (cI (cI (cB (cB (cF Tryz.f77))))))))))) Q:=by
 induction k with
 |zero=>intro v4 v5 o h;cases h
 |succ k ih =>
  intro v4 v5 o h hQ
  rw[iL] at h
  refine WL.round (Wp.seq (Wp.seq (rg [0,3,4,5,10] [1003] [(0,ls v0),(3,.row 1003),(4,vi v4),(5,vi v5),(10,vb (decide (v5<(List.length v0:Int))))] [(1003,9,[rc1 v3])] (To.ah (cn h (fun h=>?_) (fun h=>?_))))))
  ·refine Wp.skip (To.ah (Wp.seq ?_))
   obtain⟨o1,ho1,h⟩:=aF h
   refine kw [0,3,4,5] [1003] [(0,ls v0),(3,.row 1003),(4,vi v4),(5,vi v5)] [(1003,9,[rc1 v3])] (wX n v0 v3 v4 v5 o1 ho1 (To.ah (rg [0,3,4,5] [1003] [(0,ls v0),(3,.row 1003),(4,vi o1),(ex2 v5)] [(1003,9,[rc1 v3])] (kt [0,3,4,5] [1003] [(0,ls v0),(3,.row 1003),(4,vi o1),(ex2 v5)] [(1003,9,[rc1 v3])] (To.again ?_)))))
   exact ih o1 (IntKind.wrap .i64 (v5+1)) _ h hQ
  ·refine Wp.exit (To.dE (To.dE (kt [0,3,4] [1003] [(0,ls v0),(3,.row 1003),(4,vi v4)] [(1003,9,[rc1 v3])] ?_)))
   cases h
   exact hQ
def jA(n:Nat)(v0:Ls):Nat->(Ls)->Option ((Ls))
 |0,_=>none
 |k+1,v3=>(iL n v0 v3 n (-1) 0).bind fun o1 =>
 if(decide (o1<0))=true then some v3
 else(if(decide (0<=o1/\o1<(List.length v0:Int)))=true then(if(decide ((List.length v3+List.length ([((v0)[Int.toNat o1]?.getD [])]:Ls))*(16+1)<=limit))=true then(jA n v0 k (v3++([((v0)[Int.toNat o1]?.getD [])]:Ls))) else none) else none)
theorem xt(n:Nat)(v0:Ls)(k:Nat):∀(v3:Ls)(o:(Ls)),jA n v0 k v3=some o->To 55 F0 w0 [(2,.row 1002)] [(1002,9,[rc1 o])] .ret Q->WL Tryz.prog 55 F0 w0 [(0,ls v0),(3,.row 1003)] [(1003,9,[rc1 v3])] (cI (cI (cB (cB (cF Tryz.f77))))) Q:=by
 induction k with
 |zero=>intro v3 o h;cases h
 |succ k ih =>
  intro v3 o h hQ
  rw[jA] at h
  refine WL.round (Wp.block (Wp.seq (rg [0,3,4] [1003] [(0,ls v0),(3,.row 1003),(4,vi (-1))] [(1003,9,[rc1 v3])] (To.ah (Wp.seq (Wp.seq (rg [0,3,4,5] [1003] [(0,ls v0),(3,.row 1003),(4,vi (-1)),(5,vi 0)] [(1003,9,[rc1 v3])] (To.ah (Wp.block ?_)))))))))
  obtain⟨o1,ho1,h⟩:=aF h
  refine kw [0,3,4,5] [1003] [(0,ls v0),(3,.row 1003),(4,vi (-1)),(5,vi 0)] [(1003,9,[rc1 v3])] (Wp.jB (xF n v0 v3 n (-1) 0 o1 ho1 (To.iI (To.ah (Wp.seq (Wp.seq (rg [0,3,4,46] [1003] [(0,ls v0),(3,.row 1003),(4,vi o1),(46,vb (decide (o1<0)))] [(1003,9,[rc1 v3])] (To.ah (cn h (fun h=>?_) (fun h=>?_))))))))))
  ·refine Wp.seq (rg [2] [1003] [(2,.row 1003)] [(1003,9,[rc1 v3])] (To.ah (Wp.ret (To.aO (To.aU (To.aO (nt [2] [1003] [(1003,1002)] [2] [1002] [(2,.row 1002)] [(1002,9,[rc1 v3])] ?_)))))))
   cases h
   exact hQ
  ·refine Wp.skip (To.ah ?_)
   obtain⟨hc2,h⟩:=aL h
   obtain⟨hc3,h⟩:=aL h
   refine rr [] [(5,ls ([((v0)[Int.toNat o1]?.getD [])])),(6,ls (v3++([((v0)[Int.toNat o1]?.getD [])]:Ls)))] [] [0,3] [54] [(0,ls v0),(3,.row 54)] [(54,9,[rc1 (v3++([((v0)[Int.toNat o1]?.getD [])]:Ls))])] [_,(fD 1 [.str ((v0)[Int.toNat o1]?.getD [])] 1 (ls ([((v0)[Int.toNat o1]?.getD [])]))/\aX (ls ([((v0)[Int.toNat o1]?.getD [])]))),_,(iN [] dU v3 (List.flatMap dU ([((v0)[Int.toNat o1]?.getD [])]:Ls)) (List.length ([((v0)[Int.toNat o1]?.getD [])]:Ls)) (ls (v3++([((v0)[Int.toNat o1]?.getD [])]:Ls)))/\aX (ls (v3++([((v0)[Int.toNat o1]?.getD [])]:Ls))))] (au.cons hc2 (au.cons (jN (by kernel_rfl) rfl (by kernel_rfl) (dT _)) (au.cons hc3 (au.cons (iP rfl rfl (dT _)) au.nil)))) (To.bf (nt [0,3] [54] [(54,1003)] [0,3] [1003] [(0,ls v0),(3,.row 1003)] [(1003,9,[rc1 (v3++([((v0)[Int.toNat o1]?.getD [])]:Ls))])] (To.again ?_)))
   exact ih (v3++([((v0)[Int.toNat o1]?.getD [])]:Ls)) _ h hQ
def nc(n:Nat)(a0:Ls):Option ((Ls)) :=
 (jA n a0 n ([]:Ls)).bind fun o1 =>
 some o1
abbrev rc2(l:Ls):D:=.aP true (α:=Bs) [] dU l
theorem Ah(n:Nat)(a0:Ls)(r:(Ls))(h:nc n a0=some r):bg Tryz.prog 77 [ls a0] (ls r):=by
 unfold nc at h
 refine xo Tryz.f77 rfl fun F0 w0 _=>?_
 refine Wp.seq (rg [0] [] [(0,ls a0)] [] (To.ah (Wp.seq (rr [] [(0,ls [])] [] [0,3] [6] [(0,ls a0),(3,.row 6)] [(6,9,[rc1 []])] [(fD 1 [] 0 (ls [])/\aX (ls []))] (au.cons (jN (by kernel_rfl) rfl (by kernel_rfl) (dT _)) au.nil) (To.ah (Wp.block ?_))))))
 obtain⟨o1,ho1,h⟩:=aF h
 refine nw [0,3] [6] [(6,1003)] [0,3] [1003] [(0,ls a0),(3,.row 1003)] [(1003,9,[rc1 []])] (Wp.jB (xt n a0 n ([]:Ls) o1 ho1 (To.aU (kt [2] [1002] [(2,.row 1002)] [(1002,9,[rc1 o1])] (To.pre (St.settle (ks:=[1002]) (kk:=[2]) (kl:=[1002]) (K':=[(2,.row 1002)]) (L':=[(1002,9,[rc2 o1])]) (by kernel_rfl)) (To.pre (St.Rw [2] (K':=[(2,ls o1)]) (by kernel_rfl)) ?_))))))
 cases h
 exact To.done hΓ (by kernel_rfl)
def du(R_ref08_Left:af->Int->Int->Option (Int))(n:Nat)(v1:Int)(b3:af):Nat->Int->Int->Option (Sum (Int) (Int))
 |0,_,_=>none
 |k+1,v2,v7=>if(decide (v7<(List.length b3.aj:Int)))=true then(if(decide (0<=v7/\v7<(List.length b3.aj:Int)))=true then((R_ref08_Left ((b3.aj)[Int.toNat v7]?.getD (af.mk 0 [] [] [])) (IntKind.wrap .i64 (v1+1)) v2).bind fun r5 =>
 if(decide (r5<0))=true then(some (.inr (-1)))
 else(du R_ref08_Left n v1 b3 k r5 (IntKind.wrap .i64 (v7+1)))) else none)
 else(some (.inl v2))
abbrev zx3:af:=af.mk 0 [] [] []
abbrev tn4(l:List (af)):D:=.tree (α:=af) zx3 bF bu l
abbrev hR5(R_ref08_Left:af->Int->Int->Option (Int)):Prop:=∀(a0:af)(a1:Int)(a2:Int)(r:Int),R_ref08_Left a0 a1 a2=some r->bg Tryz.prog 40 [.agg [vi a0.aG,.str a0.av,ls a0.ay,tn4 a0.aj],vi a1,vi a2] (vi r)
abbrev qc6(x:af):List D:=[vi x.aG,.str x.av,ls x.ay,tn4 x.aj]
abbrev ex3(x0:af)(x1:Int):=((x0.aj)[Int.toNat x1]?.getD zx3)
abbrev ex4(x0:Int)(x1:af):=(decide (x0<(List.length x1.aj:Int)))
theorem zJ(R_ref08_Left:af->Int->Int->Option (Int))(hR_ref08_Left:hR5 R_ref08_Left)(n:Nat)(v1:Int)(b3:af)(k:Nat):∀(v2:Int)(v7:Int)(o:Sum (Int) (Int)),du R_ref08_Left n v1 b3 k v2 v7=some o->(Sum.elim (fun s=>To 105 F0 w0 [(2,vi s)] [] (.exit 0) Q) (fun s=>To 105 F0 w0 [(6,vi s)] [] .ret Q)) o->WL Tryz.prog 105 F0 w0 [(1,vi v1),(2,vi v2),(3,.own 3 0),(7,vi v7)] [(3,26,qc6 b3)] (cI (cI (cB (cA (cB (cB (cB (cB (cB (cF Tryz.f40)))))))))) Q:=by
 induction k with
 |zero=>intro v2 v7 o h;cases h
 |succ k ih =>
  intro v2 v7 o h hQ
  rw[du] at h
  refine WL.round (Wp.seq (Wp.seq (rg [1,2,3,7,90] [3] [(1,vi v1),(2,vi v2),(3,.own 3 0),(7,vi v7),(90,vb (ex4 v7 b3))] [(3,26,qc6 b3)] (To.ah (cn h (fun h=>?_) (fun h=>?_))))))
  ·refine Wp.skip (To.ah (Wp.seq (Wp.block (Wp.seq ?_))))
   obtain⟨hc6,h⟩:=aL h
   obtain⟨r5,hr5,h⟩:=aF h
   refine rr [] [(8,vi r5)] [] [1,2,3,7] [3] [(1,vi v1),(2,vi r5),(3,.own 3 0),(7,vi v7)] [(3,26,qc6 b3)] [_,(true=true->CX Tryz.prog 40 [.agg [vi ((ex3 b3 v7).aG),.str ((ex3 b3 v7).av),ls ((ex3 b3 v7).ay),tn4 ((ex3 b3 v7).aj)],vi (IntKind.wrap .i64 (v1+1)),vi v2] (vi r5))] (au.cons hc6 (au.cons (fun _=>cx (hR_ref08_Left (ex3 b3 v7) (IntKind.wrap .i64 (v1+1)) v2 _ hr5)) au.nil)) (To.ah (Wp.seq (rg [1,2,3,7,103] [3] [(1,vi v1),(2,vi r5),(3,.own 3 0),(7,vi v7),(103,vb (decide (r5<0)))] [(3,26,qc6 b3)] (To.ah (cn h (fun h=>?_) (fun h=>?_))))))
   ·refine Wp.seq (rg [6] [] [(6,vi (-1))] [] (To.ah (Wp.ret (To.aU (To.aO (To.aO ?_))))))
    cases h
    exact hQ
   ·refine Wp.skip (To.bf (To.ah (rg [1,2,3,7] [3] [(1,vi v1),(2,vi r5),(3,.own 3 0),(7,vi (IntKind.wrap .i64 (v7+1)))] [(3,26,qc6 b3)] (kt [1,2,3,7] [3] [(1,vi v1),(2,vi r5),(3,.own 3 0),(7,vi (IntKind.wrap .i64 (v7+1)))] [(3,26,qc6 b3)] (To.again ?_)))))
    exact ih r5 (IntKind.wrap .i64 (v7+1)) _ h hQ
  ·refine Wp.exit (To.dE (To.dE (kt [2] [] [(2,vi v2)] [] ?_)))
   cases h
   exact hQ
def iO(R_ref08_Left:af->Int->Int->Option (Int))(n:Nat)(a0:af)(a1:Int)(a2:Int):Option (Int) :=
 aR ((bif (bif (bif (decide ((IntKind.wrap .i64 (a2-1))<0)) then true else(decide (a1>12))) then true else(decide (a0.aG<0))) then true else(decide (a0.aG>3))):Bool) fun x1 =>
 if x1=true then(some (-1))
 else(aR ((bif (bif (bif (a0.aG != 1) then(decide ((List.length a0.av:Int)>0)) else false) then true else(bif (a0.aG != 3) then(decide ((List.length a0.ay:Int)>0)) else false)) then true else(bif (decide (a0.aG<2)) then(decide ((List.length a0.aj:Int)>0)) else false)):Bool) fun x2 =>
 if x2=true then(some (-1))
 else(((if(((bif ((List.length a0.ay:Int) != (List.length a0.aj:Int)) then true else(decide ((List.length a0.aj:Int)>(IntKind.wrap .i64 (a2-1)))))==false)&&((a0.aG==3)==true))=true then nc n a0.ay else some [])).bind fun r3 =>
 aR ((bif (a0.aG==3) then(bif (bif ((List.length a0.ay:Int) != (List.length a0.aj:Int)) then true else(decide ((List.length a0.aj:Int)>(IntKind.wrap .i64 (a2-1))))) then true else((List.length r3:Int) != (List.length a0.ay:Int))) else false):Bool) fun x4 =>
 if x4=true then(some (-1))
 else((du R_ref08_Left n a1 a0 n (IntKind.wrap .i64 (a2-1)) 0).bind fun o5 =>
 (Sum.elim (fun o5=>some o5) (fun o5=>some o5)) o5)))
abbrev ex5(x0:Int):Nat×D:=(2,vi (IntKind.wrap .i64 (x0-1)))
abbrev ex6(x0:af):=((List.length x0.ay:Int) != (List.length x0.aj:Int))
theorem AY(R_ref08_Left:af->Int->Int->Option (Int))(hR_ref08_Left:hR5 R_ref08_Left)(n:Nat)(a0:af)(a1:Int)(a2:Int)(r:Int)(h:iO R_ref08_Left n a0 a1 a2=some r):bg Tryz.prog 40 [.agg (qc6 a0),vi a1,vi a2] (vi r):=by
 unfold iO at h
 refine xo Tryz.f40 rfl fun F0 w0 _=>?_
 refine Wp.seq (rg [1,2,3] [3] [(1,vi a1),(2,vi a2),(3,.own 3 0)] [(3,26,qc6 a0)] (To.ah (Wp.seq (rg [1,2,3] [3] [(1,vi a1),(ex5 a2),(3,.own 3 0)] [(3,26,qc6 a0)] (To.ah (Wp.seq (Wp.seq ?_)))))))
 obtain⟨x1,hx1,h⟩:=bI h
 refine rg [1,2,3,25] [3] [(1,vi a1),(ex5 a2),(3,.own 3 0),(25,vb (bif (bif (bif (decide ((IntKind.wrap .i64 (a2-1))<0)) then true else(decide (a1>12))) then true else(decide (a0.aG<0))) then true else(decide (a0.aG>3))))] [(3,26,qc6 a0)] (To.eq (K':=[(1,vi a1),(ex5 a2),(3,.own 3 0),(25,vb x1)]) (L':=[(3,26,qc6 a0)]) (by cases hx1;rfl) (by cases hx1;rfl) (To.ah (cn h (fun h=>?_) (fun h=>?_))))
 ·refine Wp.seq (rg [6] [] [(6,vi (-1))] [] (To.ah (Wp.ret (To.aO ?_))))
  cases h
  exact To.done hΓ (by kernel_rfl)
 ·refine Wp.skip (To.ah (Wp.seq (Wp.seq ?_)))
  obtain⟨x2,hx2,h⟩:=bI h
  refine rg [1,2,3,56] [3] [(1,vi a1),(ex5 a2),(3,.own 3 0),(56,vb (bif (bif (bif (a0.aG != 1) then(decide ((List.length a0.av:Int)>0)) else false) then true else(bif (a0.aG != 3) then(decide ((List.length a0.ay:Int)>0)) else false)) then true else(bif (decide (a0.aG<2)) then(decide ((List.length a0.aj:Int)>0)) else false)))] [(3,26,qc6 a0)] (To.eq (K':=[(1,vi a1),(ex5 a2),(3,.own 3 0),(56,vb x2)]) (L':=[(3,26,qc6 a0)]) (by cases hx2;rfl) (by cases hx2;rfl) (To.ah (cn h (fun h=>?_) (fun h=>?_))))
  ·refine Wp.seq (rg [6] [] [(6,vi (-1))] [] (To.ah (Wp.ret (To.aO ?_))))
   cases h
   exact To.done hΓ (by kernel_rfl)
  ·refine Wp.skip (To.ah (Wp.seq (Wp.seq ?_)))
   obtain⟨r3,hr3,h⟩:=aF h
   obtain⟨x4,hx4,h⟩:=bI h
   refine Wp.eH hm hΓ [(21,ls r3)] [1,2,3,85] [3] (K':=[(1,vi a1),(ex5 a2),(3,.own 3 0),(85,vb (bif (a0.aG==3) then(bif (bif (ex6 a0) then true else(decide ((List.length a0.aj:Int)>(IntKind.wrap .i64 (a2-1))))) then true else((List.length r3:Int) != (List.length a0.ay:Int))) else false))]) (L':=[(3,26,qc6 a0)]) (ob:=[((((bif (ex6 a0) then true else(decide ((List.length a0.aj:Int)>(IntKind.wrap .i64 (a2-1)))))==false)&&((a0.aG==3)==true))=true->CX Tryz.prog 77 [ls a0.ay] (ls r3))]) (by kernel_rfl) (au.cons (fun hg=>cx (Ah n a0.ay _ (jl hg hr3))) au.nil) (To.eq (K':=[(1,vi a1),(ex5 a2),(3,.own 3 0),(85,vb x4)]) (L':=[(3,26,qc6 a0)]) (by cases hx4;rfl) (by cases hx4;rfl) (To.ah (cn h (fun h=>?_) (fun h=>?_))))
   ·refine Wp.seq (rg [6] [] [(6,vi (-1))] [] (To.ah (Wp.ret (To.aO ?_))))
    cases h
    exact To.done hΓ (by kernel_rfl)
   ·refine Wp.skip (To.ah (Wp.seq (Wp.seq (rg [1,2,3,7] [3] [(1,vi a1),(ex5 a2),(3,.own 3 0),(7,vi 0)] [(3,26,qc6 a0)] (To.ah (Wp.block ?_))))))
    obtain⟨o5,ho5,h⟩:=aF h
    refine kw [1,2,3,7] [3] [(1,vi a1),(ex5 a2),(3,.own 3 0),(7,vi 0)] [(3,26,qc6 a0)] (Wp.jB (zJ R_ref08_Left hR_ref08_Left n a1 a0 n (IntKind.wrap .i64 (a2-1)) 0 o5 ho5 ?_))
    rcases o5 with o5|o5
    ·replace h:=iU h
     refine To.iI (To.ah (Wp.seq (rg [6] [] [(6,vi o5)] [] (To.ah (Wp.ret ?_)))))
     cases h
     exact To.done hΓ (by kernel_rfl)
    ·replace h:=iV h
     refine To.aU (To.aO ?_)
     cases h
     exact To.done hΓ (by kernel_rfl)
def dW:Nat->af->Int->Int->Option (Int)
 |0=>fun _ _ _=>none
 |n+1=>iO (dW n) n
theorem Ei(n:Nat):∀(a0:af)(a1:Int)(a2:Int)(r:Int),dW n a0 a1 a2=some r->bg Tryz.prog 40 [.agg (qc6 a0),vi a1,vi a2] (vi r):=by
 induction n with
 |zero=>intro a0 a1 a2 r h;cases h
 |succ n ih=>exact fun a0 a1 a2 r h=>AY (dW n) ih n a0 a1 a2 r h
def iG(R_ref08_short:af->Option (Bool))(n:Nat)(b1:af):Nat->Int->Option (Sum (Unit) (Bool))
 |0,_=>none
 |k+1,v3=>if(decide (v3<(List.length b1.ay:Int)))=true then(if(decide (0<=v3/\v3<(List.length b1.ay:Int)))=true then(if(decide ((List.length ((b1.ay)[Int.toNat v3]?.getD []):Int)>200))=true then(some (.inr false))
 else(iG R_ref08_short n b1 k (IntKind.wrap .i64 (v3+1)))) else none)
 else(some (.inl ()))
abbrev hR7(R_ref08_short:af->Option (Bool)):Prop:=∀(a0:af)(r:Bool),R_ref08_short a0=some r->bg Tryz.prog 41 [.agg [vi a0.aG,.str a0.av,ls a0.ay,tn4 a0.aj]] (vb r)
theorem yR(R_ref08_short:af->Option (Bool))(hR_ref08_short:hR7 R_ref08_short)(n:Nat)(b1:af)(k:Nat):∀(v3:Int)(o:Sum (Unit) (Bool)),iG R_ref08_short n b1 k v3=some o->(Sum.elim (fun s=>To 37 F0 w0 [(1,.own 1 0)] [(1,26,qc6 b1)] (.exit 0) Q) (fun s=>To 37 F0 w0 [(2,vb s)] [] .ret Q)) o->WL Tryz.prog 37 F0 w0 [(1,.own 1 0),(3,vi v3)] [(1,26,qc6 b1)] (cI (cI (cB (cA (cB (cB (cF Tryz.f41))))))) Q:=by
 induction k with
 |zero=>intro v3 o h;cases h
 |succ k ih =>
  intro v3 o h hQ
  rw[iG] at h
  refine WL.round (Wp.seq (Wp.seq (rg [1,3,13] [1] [(1,.own 1 0),(3,vi v3),(13,vb (decide (v3<(List.length b1.ay:Int))))] [(1,26,qc6 b1)] (To.ah (cn h (fun h=>?_) (fun h=>?_))))))
  ·refine Wp.skip (To.ah (Wp.seq (Wp.block (Wp.seq ?_))))
   obtain⟨hc1,h⟩:=aL h
   refine r0 [1,3,22] [1] [(1,.own 1 0),(3,vi v3),(22,vb (decide ((List.length ((b1.ay)[Int.toNat v3]?.getD []):Int)>200)))] [(1,26,qc6 b1)] (au.cons hc1 au.nil) (To.ah (cn h (fun h=>?_) (fun h=>?_)))
   ·refine Wp.seq (rg [2] [] [(2,vb false)] [] (To.ah (Wp.ret (To.aU (To.aO (To.aO ?_))))))
    cases h
    exact hQ
   ·refine Wp.skip (To.bf (To.ah (rg [1,3] [1] [(1,.own 1 0),(3,vi (IntKind.wrap .i64 (v3+1)))] [(1,26,qc6 b1)] (kt [1,3] [1] [(1,.own 1 0),(3,vi (IntKind.wrap .i64 (v3+1)))] [(1,26,qc6 b1)] (To.again ?_)))))
    exact ih (IntKind.wrap .i64 (v3+1)) _ h hQ
  ·refine Wp.exit (To.dE (To.dE (kt [1] [1] [(1,.own 1 0)] [(1,26,qc6 b1)] ?_)))
   cases h
   exact hQ
def gQ(R_ref08_short:af->Option (Bool))(n:Nat)(b1:af):Nat->Int->Option (Sum (Unit) (Bool))
 |0,_=>none
 |k+1,v4=>if(decide (v4<(List.length b1.aj:Int)))=true then(if(decide (0<=v4/\v4<(List.length b1.aj:Int)))=true then((R_ref08_short ((b1.aj)[Int.toNat v4]?.getD (af.mk 0 [] [] []))).bind fun r2 =>
 if(!r2)=true then(some (.inr false))
 else(gQ R_ref08_short n b1 k (IntKind.wrap .i64 (v4+1)))) else none)
 else(some (.inl ()))
theorem yP(R_ref08_short:af->Option (Bool))(hR_ref08_short:hR7 R_ref08_short)(n:Nat)(b1:af)(k:Nat):∀(v4:Int)(o:Sum (Unit) (Bool)),gQ R_ref08_short n b1 k v4=some o->(Sum.elim (fun s=>To 37 F0 w0 [] [] (.exit 2) Q) (fun s=>To 37 F0 w0 [(2,vb s)] [] .ret Q)) o->WL Tryz.prog 37 F0 w0 [(1,.own 1 0),(4,vi v4)] [(1,26,qc6 b1)] (cI (cI (cB (cA (cB (cB (cB (cF Tryz.f41)))))))) Q:=by
 induction k with
 |zero=>intro v4 o h;cases h
 |succ k ih =>
  intro v4 o h hQ
  rw[gQ] at h
  refine WL.round (Wp.seq (Wp.seq (rg [1,4,27] [1] [(1,.own 1 0),(4,vi v4),(27,vb (ex4 v4 b1))] [(1,26,qc6 b1)] (To.ah (cn h (fun h=>?_) (fun h=>?_))))))
  ·refine Wp.skip (To.ah (Wp.seq (Wp.block (Wp.seq ?_))))
   obtain⟨hc3,h⟩:=aL h
   obtain⟨r2,hr2,h⟩:=aF h
   refine rr [] [(5,vb r2)] [] [1,4,36] [1] [(1,.own 1 0),(4,vi v4),(36,vb (!r2))] [(1,26,qc6 b1)] [_,(true=true->CX Tryz.prog 41 [.agg [vi ((ex3 b1 v4).aG),.str ((ex3 b1 v4).av),ls ((ex3 b1 v4).ay),tn4 ((ex3 b1 v4).aj)]] (vb r2))] (au.cons hc3 (au.cons (fun _=>cx (hR_ref08_short (ex3 b1 v4) _ hr2)) au.nil)) (To.ah (cn h (fun h=>?_) (fun h=>?_)))
   ·refine Wp.seq (rg [2] [] [(2,vb false)] [] (To.ah (Wp.ret (To.aU (To.aO (To.aO ?_))))))
    cases h
    exact hQ
   ·refine Wp.skip (To.bf (To.ah (rg [1,4] [1] [(1,.own 1 0),(4,vi (IntKind.wrap .i64 (v4+1)))] [(1,26,qc6 b1)] (kt [1,4] [1] [(1,.own 1 0),(4,vi (IntKind.wrap .i64 (v4+1)))] [(1,26,qc6 b1)] (To.again ?_)))))
    exact ih (IntKind.wrap .i64 (v4+1)) _ h hQ
  ·refine Wp.exit (To.dE (To.dE (kt [] [] [] [] ?_)))
   cases h
   exact hQ
def lI(R_ref08_short:af->Option (Bool))(n:Nat)(a0:af):Option (Bool) :=
 if(decide ((List.length a0.av:Int)>200))=true then some false
 else((iG R_ref08_short n a0 n 0).bind fun o1 =>
 (Sum.elim (fun o1=>(gQ R_ref08_short n a0 n 0).bind fun o2 =>
 (Sum.elim (fun o2=>some true) (fun o2=>some o2)) o2) (fun o1=>some o1)) o1)
theorem zx(R_ref08_short:af->Option (Bool))(hR_ref08_short:hR7 R_ref08_short)(n:Nat)(a0:af)(r:Bool)(h:lI R_ref08_short n a0=some r):bg Tryz.prog 41 [.agg (qc6 a0)] (vb r):=by
 unfold lI at h
 refine xo Tryz.f41 rfl fun F0 w0 _=>?_
 refine Wp.seq (rg [1] [1] [(1,.own 1 0)] [(1,26,qc6 a0)] (To.ah (Wp.seq (Wp.seq (rg [1,8] [1] [(1,.own 1 0),(8,vb (decide ((List.length a0.av:Int)>200)))] [(1,26,qc6 a0)] (To.ah (cn h (fun h=>?_) (fun h=>?_))))))))
 ·refine Wp.seq (rg [2] [] [(2,vb false)] [] (To.ah (Wp.ret (To.aO ?_))))
  cases h
  exact To.done hΓ (by kernel_rfl)
 ·refine Wp.skip (To.ah (Wp.seq (Wp.seq (rg [1,3] [1] [(1,.own 1 0),(3,vi 0)] [(1,26,qc6 a0)] (To.ah (Wp.block ?_))))))
  obtain⟨o1,ho1,h⟩:=aF h
  refine kw [1,3] [1] [(1,.own 1 0),(3,vi 0)] [(1,26,qc6 a0)] (Wp.jB (yR R_ref08_short hR_ref08_short n a0 n 0 o1 ho1 ?_))
  rcases o1 with o1|o1
  ·replace h:=iU h
   refine To.iI (To.ah (Wp.seq (Wp.seq (rg [1,4] [1] [(1,.own 1 0),(4,vi 0)] [(1,26,qc6 a0)] (To.ah (Wp.block ?_))))))
   obtain⟨o2,ho2,h⟩:=aF h
   refine kw [1,4] [1] [(1,.own 1 0),(4,vi 0)] [(1,26,qc6 a0)] (Wp.jB (yP R_ref08_short hR_ref08_short n a0 n 0 o2 ho2 ?_))
   rcases o2 with o2|o2
   ·replace h:=iU h
    refine To.iI (To.ah (Wp.seq (rg [2] [] [(2,vb true)] [] (To.ah (Wp.ret ?_)))))
    cases h
    exact To.done hΓ (by kernel_rfl)
   ·replace h:=iV h
    refine To.aU (To.aO ?_)
    cases h
    exact To.done hΓ (by kernel_rfl)
  ·replace h:=iV h
   refine To.aU (To.aO ?_)
   cases h
   exact To.done hΓ (by kernel_rfl)
def eG:Nat->af->Option (Bool)
 |0=>fun _=>none
 |n+1=>lI (eG n) n
theorem BM(n:Nat):∀(a0:af)(r:Bool),eG n a0=some r->bg Tryz.prog 41 [.agg (qc6 a0)] (vb r):=by
 induction n with
 |zero=>intro a0 r h;cases h
 |succ n ih=>exact fun a0 r h=>zx (eG n) ih n a0 r h
def lM(n:Nat)(a0:af)(a1:Int):Option (Bool) :=
 (dW n a0 1 a1).bind fun r1 =>
 ((if((decide (r1>=0))==true)=true then eG n a0 else some false)).bind fun r2 =>
 some (bif (decide (r1>=0)) then r2 else false)
theorem CV(n:Nat)(a0:af)(a1:Int)(r:Bool)(h:lM n a0 a1=some r):bg Tryz.prog 16 [.agg (qc6 a0),vi a1] (vb r):=by
 unfold lM at h
 refine xo Tryz.f16 rfl fun F0 w0 _=>?_
 refine Wp.seq (rg [1,2] [2] [(1,vi a1),(2,.own 2 0)] [(2,26,qc6 a0)] (To.ah (Wp.seq ?_)))
 obtain⟨r1,hr1,h⟩:=aF h
 obtain⟨r2,hr2,h⟩:=aF h
 refine rr [] [(2,vi r1),(6,vb r2)] [] [4] [] [(4,vb (bif (decide (r1>=0)) then r2 else false))] [] [_,(((decide (r1>=0))==true)=true->CX Tryz.prog 41 [.agg (qc6 a0)] (vb r2))] (au.cons (c1 (Ei n a0 1 a1 _ hr1)) (au.cons (fun hg=>cx (BM n a0 _ (jl hg hr2))) au.nil)) (To.ah (Wp.ret ?_))
 cases h
 exact To.done hΓ (by kernel_rfl)
structure ax where
 eP:Int
 aH:Int
 av:Bs
def lV:ax->List D:=fun x=>[.val (.int .i64 x.eP),.val (.int .i64 x.aH),.str x.av]
theorem jW(l:List (ax)):aX (.recs (ax.mk 0 0 []) lV l):=⟨Nat.le_of_ble_eq_true (by kernel_rfl),fun _=>⟨rfl,rfl⟩⟩
def fN(a0:Int):Bool :=
 (bif (decide (a0>=32)) then(a0 != 127) else false)
theorem uK(a0:Int)(r:Bool)(h:fN a0=r):bg Tryz.prog 64 [.val (.int .u8 a0)] (vb r):=by
 unfold fN at h
 refine xo Tryz.f64 rfl fun F0 w0 _=>?_
 refine Wp.seq (rg [0] [] [(0,.val (.int .u8 a0))] [] (To.ah (Wp.seq (rg [2] [] [(2,vb (bif (decide (a0>=32)) then(a0 != 127) else false))] [] (To.ah (Wp.ret ?_))))))
 cases h
 exact To.done hΓ (by kernel_rfl)
def qW(a0:Int):Int×Bool :=
 if(bif (decide (a0>=48)) then(decide (a0<=57)) else false)=true then(((IntKind.wrap .u8 (a0-48)),true))
 else(if(bif (decide (a0>=97)) then(decide (a0<=102)) else false)=true then(((IntKind.wrap .u8 ((IntKind.wrap .u8 (a0-97))+10)),true))
 else(if(bif (decide (a0>=65)) then(decide (a0<=70)) else false)=true then(((IntKind.wrap .u8 ((IntKind.wrap .u8 (a0-65))+10)),true))
 else((0,false))))
theorem xC(a0:Int)(r:Int×Bool)(h:qW a0=r):bg Tryz.prog 99 [.val (.int .u8 a0)] (.tup [.val (.int .u8 r.1),vb r.2]):=by
 unfold qW at h
 refine xo Tryz.f99 rfl fun F0 w0 _=>?_
 refine Wp.seq (rg [0] [] [(0,.val (.int .u8 a0))] [] (To.ah (Wp.seq (Wp.block (Wp.seq (rg [0,4] [] [(0,.val (.int .u8 a0)),(4,vb (bif (decide (a0>=48)) then(decide (a0<=57)) else false))] [] (To.ah (cn h (fun h=>?_) (fun h=>?_)))))))))
 ·refine Wp.seq (rg [2,3] [] [(2,.val (.int .u8 (IntKind.wrap .u8 (a0-48)))),(3,vb true)] [] (To.ah (Wp.ret (To.aU (To.aO ?_)))))
  cases h
  exact To.done hΓ (by kernel_rfl)
 ·refine Wp.seq (rg [0,13] [] [(0,.val (.int .u8 a0)),(13,vb (bif (decide (a0>=97)) then(decide (a0<=102)) else false))] [] (To.ah (cn h (fun h=>?_) (fun h=>?_))))
  ·refine Wp.seq (rg [2,3] [] [(2,.val (.int .u8 (IntKind.wrap .u8 ((IntKind.wrap .u8 (a0-97))+10)))),(3,vb true)] [] (To.ah (Wp.ret (To.aU (To.aO ?_)))))
   cases h
   exact To.done hΓ (by kernel_rfl)
  ·refine Wp.seq (rg [0,23] [] [(0,.val (.int .u8 a0)),(23,vb (bif (decide (a0>=65)) then(decide (a0<=70)) else false))] [] (To.ah (cn h (fun h=>?_) (fun h=>?_))))
   ·refine Wp.seq (rg [2,3] [] [(2,.val (.int .u8 (IntKind.wrap .u8 ((IntKind.wrap .u8 (a0-65))+10)))),(3,vb true)] [] (To.ah (Wp.ret (To.aU (To.aO ?_)))))
    cases h
    exact To.done hΓ (by kernel_rfl)
   ·refine Wp.skip (To.bf (To.ah (Wp.seq (rg [2,3] [] [(2,.val (.int .u8 0)),(3,vb false)] [] (To.ah (Wp.ret ?_))))))
    cases h
    exact To.done hΓ (by kernel_rfl)
def mD(n:Nat)(v0:Bs)(v12:Int)(v13:Bool):Option (Bool) :=
 if v13=true then some v13
 else(some (v12==34))
theorem xH(n:Nat)(v0:Bs)(v12:Int)(v13:Bool)(o:Bool)(h:mD n v0 v12 v13=some o)(hQ:To 47 F0 w0 [(0,.str v0),(12,.val (.int .u8 v12)),(13,vb o)] [] .normal Q):Wp Tryz.prog 47 F0 w0 [(0,.str v0),(12,.val (.int .u8 v12)),(13,vb v13)] [] (cB (cA (cI (cB (cA (cB (cB (cF Tryz.f65)))))))) Q:=by
 unfold mD at h
 refine cn h (fun h=>?_) (fun h=>?_)
 ·refine Wp.skip (kt [0,12,13] [] [(0,.str v0),(12,.val (.int .u8 v12)),(13,vb v13)] [] ?_)
  cases h
  exact hQ
 ·refine rg [0,12,13] [] [(0,.str v0),(12,.val (.int .u8 v12)),(13,vb (v12==34))] [] (kt [0,12,13] [] [(0,.str v0),(12,.val (.int .u8 v12)),(13,vb (v12==34))] [] ?_)
  cases h
  exact hQ
def mj(n:Nat)(v0:Bs)(v12:Int):Option (Sum (Unit) (Int×Int)) :=
 (mD n v0 v12 (v12==92)).bind fun o1 =>
 if o1=true then(if(decide (0<=(1:Int)/\(1:Int)<(List.length v0:Int)))=true then(some (.inr ((((v0)[Int.toNat 1]?.getD 0).toNat:Int),2))) else none)
 else(if(v12==110)=true then(some (.inr (10,2)))
 else(if(v12==116)=true then(some (.inr (9,2)))
 else(if(v12==120)=true then(if(decide ((List.length v0:Int)<4))=true then(some (.inr (0,0)))
 else(if(decide (0<=(2:Int)/\(2:Int)<(List.length v0:Int)))=true then(aR (qW (((v0)[Int.toNat 2]?.getD 0).toNat:Int)) fun r3 =>
 if(decide (0<=(3:Int)/\(3:Int)<(List.length v0:Int)))=true then(aR (qW (((v0)[Int.toNat 3]?.getD 0).toNat:Int)) fun r4 =>
 if(bif r3.2 then r4.2 else false)=true then(if(decide (0<=(4:Int)))=true then(aR ((IntKind.wrap .u8 ((BitVec.ofInt (IntKind.bits .u8) (IntKind.wrap .u8 (r3.1*2 ^ (min (Int.toNat 4) (IntKind.bits .u8)))) ||| BitVec.ofInt (IntKind.bits .u8) r4.1).toNat)):Int) fun x5 =>
 some (.inr (x5,4))) else none)
 else(some (.inl ()))) else none) else none))
 else(some (.inl ())))))
theorem wU(n:Nat)(v0:Bs)(v12:Int)(o:Sum (Unit) (Int×Int))(h:mj n v0 v12=some o)(hQ:(Sum.elim (fun s=>To 47 F0 w0 [] [] .normal Q) (fun s=>To 47 F0 w0 [(2,.val (.int .u8 s.1)),(3,vi s.2)] [] .ret Q)) o):Wp Tryz.prog 47 F0 w0 [(0,.str v0),(12,.val (.int .u8 v12))] [] (cB (cA (cB (cB (cF Tryz.f65))))) Q:=by
 unfold mj at h
 refine Wp.block (Wp.seq (Wp.seq (rg [0,12,13] [] [(0,.str v0),(12,.val (.int .u8 v12)),(13,vb (v12==92))] [] (To.ah ?_))))
 obtain⟨o1,ho1,h⟩:=aF h
 refine kw [0,12,13] [] [(0,.str v0),(12,.val (.int .u8 v12)),(13,vb (v12==92))] [] (xH n v0 v12 (v12==92) o1 ho1 (To.ah (cn h (fun h=>?_) (fun h=>?_))))
 ·refine Wp.seq ?_
  obtain⟨hc2,h⟩:=aL h
  refine r0 [2,3] [] [(2,.val (.int .u8 (((v0)[Int.toNat 1]?.getD 0).toNat:Int))),(3,vi 2)] [] (au.cons hc2 au.nil) (To.ah (Wp.ret (To.aU ?_)))
  cases h
  exact hQ
 ·refine Wp.seq (rg [0,12,18] [] [(0,.str v0),(12,.val (.int .u8 v12)),(18,vb (v12==110))] [] (To.ah (cn h (fun h=>?_) (fun h=>?_))))
  ·refine Wp.seq (rg [2,3] [] [(2,.val (.int .u8 10)),(3,vi 2)] [] (To.ah (Wp.ret (To.aU ?_))))
   cases h
   exact hQ
  ·refine Wp.seq (rg [0,12,20] [] [(0,.str v0),(12,.val (.int .u8 v12)),(20,vb (v12==116))] [] (To.ah (cn h (fun h=>?_) (fun h=>?_))))
   ·refine Wp.seq (rg [2,3] [] [(2,.val (.int .u8 9)),(3,vi 2)] [] (To.ah (Wp.ret (To.aU ?_))))
    cases h
    exact hQ
   ·refine Wp.seq (rg [0,22] [] [(0,.str v0),(22,vb (v12==120))] [] (To.ah (cn h (fun h=>?_) (fun h=>?_))))
    ·refine Wp.seq (Wp.seq (rg [0,26] [] [(0,.str v0),(26,vb (decide ((List.length v0:Int)<4)))] [] (To.ah (cn h (fun h=>?_) (fun h=>?_)))))
     ·refine Wp.seq (rg [2,3] [] [(2,.val (.int .u8 0)),(3,vi 0)] [] (To.ah (Wp.ret (To.aO (To.aU ?_)))))
      cases h
      exact hQ
     ·refine Wp.skip (To.ah (Wp.seq ?_))
      obtain⟨hc8,h⟩:=aL h
      obtain⟨r3,hr3,h⟩:=bI h
      refine rr [] [(2,.tup [.val (.int .u8 r3.1),vb r3.2])] [] [0,4,5] [] [(0,.str v0),(4,.val (.int .u8 r3.1)),(5,vb r3.2)] [] [_,_] (au.cons hc8 (au.cons (c1 (xC (((v0)[Int.toNat 2]?.getD 0).toNat:Int) _ hr3)) au.nil)) (To.ah (Wp.seq ?_))
      obtain⟨hc7,h⟩:=aL h
      obtain⟨r4,hr4,h⟩:=bI h
      refine rr [] [(2,.tup [.val (.int .u8 r4.1),vb r4.2])] [] [4,5,6,7] [] [(4,.val (.int .u8 r3.1)),(5,vb r3.2),(6,.val (.int .u8 r4.1)),(7,vb r4.2)] [] [_,_] (au.cons hc7 (au.cons (c1 (xC (((v0)[Int.toNat 3]?.getD 0).toNat:Int) _ hr4)) au.nil)) (To.ah (Wp.seq (rg [4,6,42] [] [(4,.val (.int .u8 r3.1)),(6,.val (.int .u8 r4.1)),(42,vb (bif r3.2 then r4.2 else false))] [] (To.ah (cn h (fun h=>?_) (fun h=>?_))))))
      ·refine Wp.seq ?_
       obtain⟨hc6,h⟩:=aL h
       obtain⟨x5,hx5,h⟩:=bI h
       refine r0 [2,3] [] [(2,.val (.int .u8 (IntKind.wrap .u8 ((BitVec.ofInt (IntKind.bits .u8) (IntKind.wrap .u8 (r3.1*2 ^ (min (Int.toNat 4) (IntKind.bits .u8)))) ||| BitVec.ofInt (IntKind.bits .u8) r4.1).toNat)))),(3,vi 4)] [] (au.cons hc6 au.nil) (To.eq (K':=[(2,.val (.int .u8 x5)),(3,vi 4)]) (L':=[]) (by cases hx5;rfl) (by cases hx5;rfl) (To.ah (Wp.ret (To.aU (kt [2,3] [] [(2,.val (.int .u8 x5)),(3,vi 4)] [] ?_)))))
       cases h
       exact hQ
      ·refine Wp.skip (To.bf (kt [] [] [] [] ?_))
       cases h
       exact hQ
    ·refine Wp.skip (To.bf (kt [] [] [] [] ?_))
     cases h
     exact hQ
def mT(n:Nat)(a0:Bs):Option (Int×Int) :=
 if(decide ((List.length a0:Int)<2))=true then(some (0,0))
 else(if(decide (0<=(1:Int)/\(1:Int)<(List.length a0:Int)))=true then((mj n a0 (((a0)[Int.toNat 1]?.getD 0).toNat:Int)).bind fun o1 =>
 (Sum.elim (fun o1=>some (0,0)) (fun o1=>some (o1.1,o1.2))) o1) else none)
theorem Bm(n:Nat)(a0:Bs)(r:Int×Int)(h:mT n a0=some r):bg Tryz.prog 65 [.str a0] (.tup [.val (.int .u8 r.1),vi r.2]):=by
 unfold mT at h
 refine xo Tryz.f65 rfl fun F0 w0 _=>?_
 refine Wp.seq (rg [0] [] [(0,.str a0)] [] (To.ah (Wp.seq (Wp.seq (rg [0,10] [] [(0,.str a0),(10,vb (decide ((List.length a0:Int)<2)))] [] (To.ah (cn h (fun h=>?_) (fun h=>?_))))))))
 ·refine Wp.seq (rg [2,3] [] [(2,.val (.int .u8 0)),(3,vi 0)] [] (To.ah (Wp.ret (To.aO ?_))))
  cases h
  exact To.done hΓ (by kernel_rfl)
 ·refine Wp.skip (To.ah (Wp.seq (Wp.seq ?_)))
  obtain⟨hc2,h⟩:=aL h
  refine r0 [0,12] [] [(0,.str a0),(12,.val (.int .u8 (((a0)[Int.toNat 1]?.getD 0).toNat:Int)))] [] (au.cons hc2 au.nil) (To.ah ?_)
  obtain⟨o1,ho1,h⟩:=aF h
  refine kw [0,12] [] [(0,.str a0),(12,.val (.int .u8 (((a0)[Int.toNat 1]?.getD 0).toNat:Int)))] [] (wU n a0 (((a0)[Int.toNat 1]?.getD 0).toNat:Int) o1 ho1 ?_)
  rcases o1 with o1|o1
  ·replace h:=iU h
   refine To.ah (Wp.seq (rg [2,3] [] [(2,.val (.int .u8 0)),(3,vi 0)] [] (To.ah (Wp.ret ?_))))
   cases h
   exact To.done hΓ (by kernel_rfl)
  ·replace h:=iV h
   refine To.aO ?_
   cases h
   exact To.done hΓ (by kernel_rfl)
def aT(n:Nat)(v0:Bs)(v7:Int):Nat->Int->(List (UInt8))->Option (Sum (Unit) (Bs×Int×Int))
 |0,_,_=>none
 |k+1,v1,v8=>if((!((decide (v1<(List.length v0:Int)))==true)||decide (0<=v1/\v1<(List.length v0:Int))))=true then(if(bif (decide (v1<(List.length v0:Int))) then(fN (((v0)[Int.toNat v1]?.getD 0).toNat:Int)) else false)=true then(if(decide (0<=v1/\v1<(List.length v0:Int)))=true then(if((!((bif (bif ((((v0)[Int.toNat v1]?.getD 0).toNat:Int)==39) then(v7==(((v0)[Int.toNat v1]?.getD 0).toNat:Int)) else false) then(decide ((IntKind.wrap .i64 (v1+1))<(List.length v0:Int))) else false)==true)||decide (0<=(IntKind.wrap .i64 (v1+1))/\(IntKind.wrap .i64 (v1+1))<(List.length v0:Int))))=true then(aR ((bif (bif (bif ((((v0)[Int.toNat v1]?.getD 0).toNat:Int)==39) then(v7==(((v0)[Int.toNat v1]?.getD 0).toNat:Int)) else false) then(decide ((IntKind.wrap .i64 (v1+1))<(List.length v0:Int))) else false) then((((v0)[Int.toNat (IntKind.wrap .i64 (v1+1))]?.getD 0).toNat:Int)==(((v0)[Int.toNat v1]?.getD 0).toNat:Int)) else false):Bool) fun x2 =>
 if x2=true then(if(decide ((List.length v8+List.length ([((v0)[Int.toNat v1]?.getD 0)]:List (UInt8)))*(1+1)<=limit))=true then(aT n v0 v7 k (IntKind.wrap .i64 (v1+2)) (v8++([((v0)[Int.toNat v1]?.getD 0)]:List (UInt8)))) else none)
 else(if((((v0)[Int.toNat v1]?.getD 0).toNat:Int)==v7)=true then(some (.inr (v8,(IntKind.wrap .i64 (v1+1)),0)))
 else(if(bif ((((v0)[Int.toNat v1]?.getD 0).toNat:Int)==92) then(v7==34) else false)=true then(if(decide (0<=v1/\v1<=(List.length v0:Int)))=true then((mT n (List.drop (Int.toNat v1) v0)).bind fun r4 =>
 if(r4.2==0)=true then(some (.inr ([],0,3)))
 else(if(decide (0<=r4.1/\r4.1<256))=true then(if(decide ((List.length v8+List.length ([(UInt8.ofNat (Int.toNat r4.1))]:List (UInt8)))*(1+1)<=limit))=true then(aT n v0 v7 k (IntKind.wrap .i64 (v1+r4.2)) (v8++([(UInt8.ofNat (Int.toNat r4.1))]:List (UInt8)))) else none) else none)) else none)
 else(if(decide ((List.length v8+List.length ([((v0)[Int.toNat v1]?.getD 0)]:List (UInt8)))*(1+1)<=limit))=true then(aT n v0 v7 k (IntKind.wrap .i64 (v1+1)) (v8++([((v0)[Int.toNat v1]?.getD 0)]:List (UInt8)))) else none)))) else none) else none)
 else(some (.inl ()))) else none
abbrev rc8(l:List (UInt8)):D:=.aP false (α:=UInt8) 0 e8 l
abbrev rs9(l:List (UInt8)):D:=.recs (α:=UInt8) 0 e8 l
abbrev ex7(x0:Bs)(x1:Int):=(((x0)[Int.toNat x1]?.getD 0).toNat:Int)
abbrev ex8(x0:Bs)(x1:Int):=([((x0)[Int.toNat x1]?.getD 0)]:List (UInt8))
abbrev ex9(x0:Int)(x1:Bs):=(0<=x0/\x0<(List.length x1:Int))
abbrev E0(x0:Int)(x1:Bs):=(decide (x0<(List.length x1:Int)))
abbrev C9(x0:Int):Nat×D:=(1,vi (IntKind.wrap .i64 (x0+1)))
abbrev FI(x0:Bs)(x1:Int):=([((x0)[Int.toNat x1]?.getD 0)])
abbrev Nr(x0:List (UInt8))(x1:Bs)(x2:Int):=(iN 0 e8 x0 (List.flatMap e8 (ex8 x1 x2)) (List.length (ex8 x1 x2)) (rs9 (x0++(ex8 x1 x2)))/\aX (rs9 (x0++(ex8 x1 x2))))
abbrev Nz(x0:Bs)(x1:Int):=(fD 1 [.val (.int .u8 (ex7 x0 x1))] 1 (rs9 (FI x0 x1))/\aX (rs9 (FI x0 x1)))
theorem zA(n:Nat)(v0:Bs)(v7:Int)(k:Nat):∀(v1:Int)(v8:List (UInt8))(o:Sum (Unit) (Bs×Int×Int)),aT n v0 v7 k v1 v8=some o->(Sum.elim (fun s=>To 116 F0 w0 [] [] (.exit 0) Q) (fun s=>To 116 F0 w0 [(4,.str s.1),(5,vi s.2.1),(6,vi s.2.2)] [] .ret Q)) o->WL Tryz.prog 116 F0 w0 [(0,.str v0),(1,vi v1),(7,.val (.int .u8 v7)),(8,.row 1008)] [(1008,5,[rc8 v8])] (cI (cI (cB (cA (cB (cB (cB (cB (cF Tryz.f31))))))))) Q:=by
 induction k with
 |zero=>intro v1 v8 o h;cases h
 |succ k ih =>
  intro v1 v8 o h hQ
  rw[aT] at h
  refine WL.round (Wp.seq (Wp.seq ?_))
  obtain⟨hc11,h⟩:=aL h
  refine rr [] [(8,vb (fN (ex7 v0 v1)))] [] [0,1,7,8,46] [1008] [(0,.str v0),(1,vi v1),(7,.val (.int .u8 v7)),(8,.row 1008),(46,vb (bif (E0 v1 v0) then(fN (ex7 v0 v1)) else false))] [(1008,5,[rc8 v8])] [_,(((E0 v1 v0)==true)=true->CX Tryz.prog 64 [.val (.int .u8 (ex7 v0 v1))] (vb (fN (ex7 v0 v1))))] (au.cons hc11 (au.cons (fun _=>cx (uK (ex7 v0 v1) _ rfl)) au.nil)) (To.ah (cn h (fun h=>?_) (fun h=>?_)))
  ·refine Wp.skip (To.ah (Wp.block (Wp.seq ?_)))
   obtain⟨hc10,h⟩:=aL h
   refine r0 [0,1,7,8,9] [1008] [(0,.str v0),(1,vi v1),(7,.val (.int .u8 v7)),(8,.row 1008),(9,.val (.int .u8 (ex7 v0 v1)))] [(1008,5,[rc8 v8])] (au.cons hc10 au.nil) (To.ah (Wp.block (Wp.seq ?_)))
   obtain⟨hc9,h⟩:=aL h
   obtain⟨x2,hx2,h⟩:=bI h
   refine r0 [0,1,7,8,9,56] [1008] [(0,.str v0),(1,vi v1),(7,.val (.int .u8 v7)),(8,.row 1008),(9,.val (.int .u8 (ex7 v0 v1))),(56,vb (bif (bif (bif ((ex7 v0 v1)==39) then(v7==(ex7 v0 v1)) else false) then(decide ((IntKind.wrap .i64 (v1+1))<(List.length v0:Int))) else false) then((((v0)[Int.toNat (IntKind.wrap .i64 (v1+1))]?.getD 0).toNat:Int)==(ex7 v0 v1)) else false))] [(1008,5,[rc8 v8])] (au.cons hc9 au.nil) (To.eq (K':=[(0,.str v0),(1,vi v1),(7,.val (.int .u8 v7)),(8,.row 1008),(9,.val (.int .u8 (ex7 v0 v1))),(56,vb x2)]) (L':=[(1008,5,[rc8 v8])]) (by cases hx2;rfl) (by cases hx2;rfl) (To.ah (cn h (fun h=>?_) (fun h=>?_))))
   ·refine Wp.seq ?_
    obtain⟨hc3,h⟩:=aL h
    refine rr [] [(2,rs9 (FI v0 v1)),(3,rs9 (v8++(ex8 v0 v1)))] [] [0,1,7,8] [82] [(0,.str v0),(1,vi v1),(7,.val (.int .u8 v7)),(8,.row 82)] [(82,5,[rc8 (v8++(ex8 v0 v1))])] [(Nz v0 v1),_,(Nr v8 v0 v1)] (au.cons (jN (lg.cells (ns:=[(ex7 v0 v1)]) (.cons rfl .nil)) rfl rfl (iJ _)) (au.cons hc3 (au.cons (iP rfl rfl (iJ _)) au.nil))) (To.ah (rg [0,1,7,8] [82] [(0,.str v0),(1,vi (IntKind.wrap .i64 (v1+2))),(7,.val (.int .u8 v7)),(8,.row 82)] [(82,5,[rc8 (v8++(ex8 v0 v1))])] (To.bf (To.bf (nt [0,1,7,8] [82] [(82,1008)] [0,1,7,8] [1008] [(0,.str v0),(1,vi (IntKind.wrap .i64 (v1+2))),(7,.val (.int .u8 v7)),(8,.row 1008)] [(1008,5,[rc8 (v8++(ex8 v0 v1))])] (To.again ?_))))))
    exact ih (IntKind.wrap .i64 (v1+2)) (v8++(ex8 v0 v1)) _ h hQ
   ·refine Wp.seq (rg [0,1,7,8,9,85] [1008] [(0,.str v0),(1,vi v1),(7,.val (.int .u8 v7)),(8,.row 1008),(9,.val (.int .u8 (ex7 v0 v1))),(85,vb ((ex7 v0 v1)==v7))] [(1008,5,[rc8 v8])] (To.ah (cn h (fun h=>?_) (fun h=>?_))))
    ·refine Wp.seq (rr [] [(1,.str v8)] [] [4,5,6] [] [(4,.str v8),(ex2 v1),(6,vi 0)] [] [(true=true->Bi (List.flatMap e8 v8) (.str v8))] (au.cons (fun _=>Ou (I7 _)) au.nil) (To.ah (Wp.ret (To.aU (To.aU (To.aO ?_))))))
     cases h
     exact hQ
    ·refine Wp.seq (rg [0,1,7,8,9,93] [1008] [(0,.str v0),(1,vi v1),(7,.val (.int .u8 v7)),(8,.row 1008),(9,.val (.int .u8 (ex7 v0 v1))),(93,vb (bif ((ex7 v0 v1)==92) then(v7==34) else false))] [(1008,5,[rc8 v8])] (To.ah (cn h (fun h=>?_) (fun h=>?_))))
     ·refine Wp.seq ?_
      obtain⟨hc7,h⟩:=aL h
      obtain⟨r4,hr4,h⟩:=aF h
      refine rr [] [(3,.tup [.val (.int .u8 r4.1),vi r4.2])] [] [0,1,7,8,10,11] [1008] [(0,.str v0),(1,vi v1),(7,.val (.int .u8 v7)),(8,.row 1008),(10,.val (.int .u8 r4.1)),(11,vi r4.2)] [(1008,5,[rc8 v8])] [_,_] (au.cons hc7 (au.cons (c1 (Bm n (List.drop (Int.toNat v1) v0) _ hr4)) au.nil)) (To.ah (Wp.seq (Wp.seq (rg [0,1,7,8,10,11,108] [1008] [(0,.str v0),(1,vi v1),(7,.val (.int .u8 v7)),(8,.row 1008),(10,.val (.int .u8 r4.1)),(11,vi r4.2),(108,vb (r4.2==0))] [(1008,5,[rc8 v8])] (To.ah (cn h (fun h=>?_) (fun h=>?_)))))))
      ·refine Wp.seq (rg [4,5,6] [] [(4,.str []),(5,vi 0),(6,vi 3)] [] (To.ah (Wp.ret (To.aO (To.aU (To.aU (To.aO ?_)))))))
       cases h
       exact hQ
      ·refine Wp.skip (To.ah (Wp.seq ?_))
       obtain⟨u5,h⟩:=aL h
       obtain⟨hc6,h⟩:=aL h
       refine rr [] [(2,rs9 [(UInt8.ofNat (Int.toNat r4.1))]),(3,rs9 (v8++([(UInt8.ofNat (Int.toNat r4.1))]:List (UInt8))))] [] [0,1,7,8,11] [112] [(0,.str v0),(1,vi v1),(7,.val (.int .u8 v7)),(8,.row 112),(11,vi r4.2)] [(112,5,[rc8 (v8++([(UInt8.ofNat (Int.toNat r4.1))]:List (UInt8)))])] [(fD 1 [.val (.int .u8 r4.1)] 1 (rs9 [(UInt8.ofNat (Int.toNat r4.1))])/\aX (rs9 [(UInt8.ofNat (Int.toNat r4.1))])),_,(iN 0 e8 v8 (List.flatMap e8 ([(UInt8.ofNat (Int.toNat r4.1))]:List (UInt8))) (List.length ([(UInt8.ofNat (Int.toNat r4.1))]:List (UInt8))) (rs9 (v8++([(UInt8.ofNat (Int.toNat r4.1))]:List (UInt8))))/\aX (rs9 (v8++([(UInt8.ofNat (Int.toNat r4.1))]:List (UInt8)))))] (au.cons (jN (lg.cells (ns:=[r4.1]) (.cons (RN u5) .nil)) rfl rfl (iJ _)) (au.cons hc6 (au.cons (iP rfl rfl (iJ _)) au.nil))) (To.ah (rg [0,1,7,8] [112] [(0,.str v0),(1,vi (IntKind.wrap .i64 (v1+r4.2))),(7,.val (.int .u8 v7)),(8,.row 112)] [(112,5,[rc8 (v8++([(UInt8.ofNat (Int.toNat r4.1))]:List (UInt8)))])] (To.bf (To.bf (nt [0,1,7,8] [112] [(112,1008)] [0,1,7,8] [1008] [(0,.str v0),(1,vi (IntKind.wrap .i64 (v1+r4.2))),(7,.val (.int .u8 v7)),(8,.row 1008)] [(1008,5,[rc8 (v8++([(UInt8.ofNat (Int.toNat r4.1))]:List (UInt8)))])] (To.again ?_))))))
       exact ih (IntKind.wrap .i64 (v1+r4.2)) (v8++([(UInt8.ofNat (Int.toNat r4.1))]:List (UInt8))) _ h hQ
     ·refine Wp.seq ?_
      obtain⟨hc8,h⟩:=aL h
      refine rr [] [(2,rs9 (FI v0 v1)),(3,rs9 (v8++(ex8 v0 v1)))] [] [0,1,7,8] [53] [(0,.str v0),(1,vi v1),(7,.val (.int .u8 v7)),(8,.row 53)] [(53,5,[rc8 (v8++(ex8 v0 v1))])] [(Nz v0 v1),_,(Nr v8 v0 v1)] (au.cons (jN (lg.cells (ns:=[(ex7 v0 v1)]) (.cons rfl .nil)) rfl rfl (iJ _)) (au.cons hc8 (au.cons (iP rfl rfl (iJ _)) au.nil))) (To.ah (rg [0,1,7,8] [53] [(0,.str v0),(C9 v1),(7,.val (.int .u8 v7)),(8,.row 53)] [(53,5,[rc8 (v8++(ex8 v0 v1))])] (To.bf (To.bf (nt [0,1,7,8] [53] [(53,1008)] [0,1,7,8] [1008] [(0,.str v0),(C9 v1),(7,.val (.int .u8 v7)),(8,.row 1008)] [(1008,5,[rc8 (v8++(ex8 v0 v1))])] (To.again ?_))))))
      exact ih (IntKind.wrap .i64 (v1+1)) (v8++(ex8 v0 v1)) _ h hQ
  ·refine Wp.exit (To.dE (To.dE (kt [] [] [] [] ?_)))
   cases h
   exact hQ
def br(n:Nat)(a0:Bs)(a1:Int):Option (Bs×Int×Int) :=
 if((!((bif (decide (a1<0)) then true else(decide (a1>=(List.length a0:Int))))==false)||decide (0<=a1/\a1<(List.length a0:Int))))=true then(if((!((((((a0)[Int.toNat a1]?.getD 0).toNat:Int) != 34)==true)&&((bif (decide (a1<0)) then true else(decide (a1>=(List.length a0:Int))))==false))||decide (0<=a1/\a1<(List.length a0:Int))))=true then(aR ((bif (bif (decide (a1<0)) then true else(decide (a1>=(List.length a0:Int)))) then true else(bif ((((a0)[Int.toNat a1]?.getD 0).toNat:Int) != 34) then((((a0)[Int.toNat a1]?.getD 0).toNat:Int) != 39) else false)):Bool) fun x1 =>
 if x1=true then(some ([],0,2))
 else(if(decide (0<=a1/\a1<(List.length a0:Int)))=true then((aT n a0 (((a0)[Int.toNat a1]?.getD 0).toNat:Int) n (IntKind.wrap .i64 (a1+1)) ([]:List (UInt8))).bind fun o2 =>
 (Sum.elim (fun o2=>some ([],0,3)) (fun o2=>some (o2.1,o2.2.1,o2.2.2))) o2) else none)) else none) else none
abbrev Qv(x0:Int)(x1:Bs):=(bif (decide (x0<0)) then true else(decide (x0>=(List.length x1:Int))))
theorem lL(n:Nat)(a0:Bs)(a1:Int)(r:Bs×Int×Int)(h:br n a0 a1=some r):bg Tryz.prog 31 [.str a0,vi a1] (.tup [.str r.1,vi r.2.1,vi r.2.2]):=by
 unfold br at h
 refine xo Tryz.f31 rfl fun F0 w0 _=>?_
 refine Wp.seq (rg [0,1] [] [(0,.str a0),(1,vi a1)] [] (To.ah (Wp.seq (Wp.seq ?_))))
 obtain⟨hc4,h⟩:=aL h
 obtain⟨hc5,h⟩:=aL h
 obtain⟨x1,hx1,h⟩:=bI h
 refine r0 [0,1,31] [] [(0,.str a0),(1,vi a1),(31,vb (bif (Qv a1 a0) then true else(bif ((ex7 a0 a1) != 34) then((ex7 a0 a1) != 39) else false)))] [] (au.cons hc4 (au.cons hc5 au.nil)) (To.eq (K':=[(0,.str a0),(1,vi a1),(31,vb x1)]) (L':=[]) (by cases hx1;rfl) (by cases hx1;rfl) (To.ah (cn h (fun h=>?_) (fun h=>?_))))
 ·refine Wp.seq (rg [4,5,6] [] [(4,.str []),(5,vi 0),(6,vi 2)] [] (To.ah (Wp.ret (To.aO ?_))))
  cases h
  exact To.done hΓ (by kernel_rfl)
 ·refine Wp.skip (To.ah (Wp.seq ?_))
  obtain⟨hc3,h⟩:=aL h
  refine r0 [0,1,7] [] [(0,.str a0),(1,vi a1),(7,.val (.int .u8 (ex7 a0 a1)))] [] (au.cons hc3 au.nil) (To.ah (Wp.seq (rg [0,1,7,8] [] [(0,.str a0),(1,vi a1),(7,.val (.int .u8 (ex7 a0 a1))),(8,.val (.slice none 0 0))] [] (To.ah (Wp.seq (Wp.seq (rg [0,1,7,8] [] [(0,.str a0),(C9 a1),(7,.val (.int .u8 (ex7 a0 a1))),(8,.val (.slice none 0 0))] [] (To.ah (Wp.block ?_)))))))))
  obtain⟨o2,ho2,h⟩:=aF h
  refine kw [0,1,7,8] [] [(0,.str a0),(C9 a1),(7,.val (.int .u8 (ex7 a0 a1))),(8,.val (.slice none 0 0))] [] (Wp.pre (St.AO (t:=8) (k:=1008) (e:=5) (K':=[(0,.str a0),(C9 a1),(7,.val (.int .u8 (ex7 a0 a1))),(8,.row 1008)]) (iJ _) (by decide) (by kernel_rfl) (by kernel_rfl)) (kw [0,1,7,8] [1008] [(0,.str a0),(C9 a1),(7,.val (.int .u8 (ex7 a0 a1))),(8,.row 1008)] [(1008,5,[rc8 []])] (Wp.jB (zA n a0 (ex7 a0 a1) n (IntKind.wrap .i64 (a1+1)) ([]:List (UInt8)) o2 ho2 ?_))))
  rcases o2 with o2|o2
  ·replace h:=iU h
   refine To.iI (To.ah (Wp.seq (rg [4,5,6] [] [(4,.str []),(5,vi 0),(6,vi 3)] [] (To.ah (Wp.ret ?_)))))
   cases h
   exact To.done hΓ (by kernel_rfl)
  ·replace h:=iV h
   refine To.aU (To.aO ?_)
   cases h
   exact To.done hΓ (by kernel_rfl)
def uP(n:Nat)(v0:Bs)(v4:Int)(v5:Int)(v6:Bool)(v7:Int):Option (Sum (Int×Int) (Sum (Int×Int) (Bs×Bool))) :=
 if(bif (v7==35) then v6 else false)=true then(if(decide (0<=v5/\v5<=(List.length v0:Int)))=true then(some (.inr (.inr ((List.take (Int.toNat v5) v0),true)))) else none)
 else(if((!((v6==false)&&((bif (v7==34) then true else(v7==39))==true))||decide (0<=(IntKind.wrap .i64 (v4-1))/\(IntKind.wrap .i64 (v4-1))<(List.length v0:Int))))=true then(aR ((bif (bif (v7==34) then true else(v7==39)) then(bif v6 then true else(decide ((Lib.indexByte ([91,123,44]:Bs) (Int.toNat (((v0)[Int.toNat (IntKind.wrap .i64 (v4-1))]?.getD 0).toNat:Int)).toUInt8)>=0))) else false):Bool) fun x3 =>
 if x3=true then((br n v0 v4).bind fun r4 =>
 if(r4.2.2 != 0)=true then(some (.inr (.inr ([],false))))
 else(some (.inr (.inl (r4.2.1,r4.2.1)))))
 else(if(bif (decide (v7<32)) then true else(v7==127))=true then(some (.inr (.inr ([],false))))
 else(if(v7 != 32)=true then(some (.inl (v4,(IntKind.wrap .i64 (v4+1)))))
 else(some (.inl (v4,v5)))))) else none)
abbrev BV(x0:Bs)(x1:Int):=(Lib.indexByte ([91,123,44]:Bs) (Int.toNat (((x0)[Int.toNat (IntKind.wrap .i64 (x1-1))]?.getD 0).toNat:Int)).toUInt8)
abbrev JC(x0:Int):=(bif (x0==34) then true else(x0==39))
abbrev SJ(x0:Int)(x1:Bs):=(0<=(IntKind.wrap .i64 (x0-1))/\(IntKind.wrap .i64 (x0-1))<(List.length x1:Int))
abbrev Ql(x0:Int):=(bif (decide (x0<32)) then true else(x0==127))
theorem Cj(n:Nat)(v0:Bs)(v4:Int)(v5:Int)(v6:Bool)(v7:Int)(o:Sum (Int×Int) (Sum (Int×Int) (Bs×Bool)))(h:uP n v0 v4 v5 v6 v7=some o)(hQ:(Sum.elim (fun s=>To 82 F0 w0 [(0,.str v0),(4,vi s.1),(5,vi s.2)] [] .normal Q) (Sum.elim (fun s=>To 82 F0 w0 [(0,.str v0),(4,vi s.1),(5,vi s.2)] [] (.goto 0) Q) (fun s=>To 82 F0 w0 [(2,.str s.1),(3,vb s.2)] [] .ret Q))) o):Wp Tryz.prog 82 F0 w0 [(0,.str v0),(4,vi v4),(5,vi v5),(6,vb v6),(7,.val (.int .u8 v7))] [] (cB (cA (cB (cB (cB (cB (cI (cB (cF Tryz.f54))))))))) Q:=by
 unfold uP at h
 refine Wp.block (Wp.seq (rg [0,4,5,6,7,30] [] [(0,.str v0),(4,vi v4),(5,vi v5),(6,vb v6),(7,.val (.int .u8 v7)),(30,vb (bif (v7==35) then v6 else false))] [] (To.ah (cn h (fun h=>?_) (fun h=>?_)))))
 ·refine Wp.seq ?_
  obtain⟨hc2,h⟩:=aL h
  refine r0 [2,3] [] [(2,.str (List.take (Int.toNat v5) v0)),(3,vb true)] [] (au.cons hc2 au.nil) (To.ah (Wp.ret (To.aU ?_)))
  cases h
  exact hQ
 ·refine Wp.seq ?_
  obtain⟨hc5,h⟩:=aL h
  obtain⟨x3,hx3,h⟩:=bI h
  refine rr [] [(13,vi (BV v0 v4))] [] [0,4,5,7,39] [] [(0,.str v0),(4,vi v4),(5,vi v5),(7,.val (.int .u8 v7)),(39,vb (bif (JC v7) then(bif v6 then true else(decide ((BV v0 v4)>=0))) else false))] [] [_,(((v6==false)&&((JC v7)==true))=true->CX Tryz.prog 66 [.str [91,123,44],.val (.int .u8 (((v0)[Int.toNat (IntKind.wrap .i64 (v4-1))]?.getD 0).toNat:Int))] (vi (BV v0 v4)))] (au.cons hc5 (au.cons (fun _=>cx (Sh.lN)) au.nil)) (To.eq (K':=[(0,.str v0),(4,vi v4),(5,vi v5),(7,.val (.int .u8 v7)),(39,vb x3)]) (L':=[]) (by cases hx3;rfl) (by cases hx3;rfl) (To.ah (cn h (fun h=>?_) (fun h=>?_))))
  ·refine Wp.seq ?_
   obtain⟨r4,hr4,h⟩:=aF h
   refine rc [] 2 [0,9,10] [] [(0,.str v0),(9,vi r4.2.1),(10,vi r4.2.2)] [] (lL n v0 v4 _ hr4) (To.ah (Wp.seq (Wp.seq (rg [0,9,65] [] [(0,.str v0),(9,vi r4.2.1),(65,vb (r4.2.2 != 0))] [] (To.ah (cn h (fun h=>?_) (fun h=>?_)))))))
   ·refine Wp.seq (rg [2,3] [] [(2,.str []),(3,vb false)] [] (To.ah (Wp.ret (To.aO (To.aU ?_)))))
    cases h
    exact hQ
   ·refine Wp.skip (To.ah (Wp.seq (rg [0,4,5] [] [(0,.str v0),(4,vi r4.2.1),(5,vi r4.2.1)] [] (To.ah (Wp.goto (To.LZ (kt [0,4,5] [] [(0,.str v0),(4,vi r4.2.1),(5,vi r4.2.1)] [] ?_)))))))
    cases h
    exact hQ
  ·refine Wp.seq (rg [0,4,5,7,68] [] [(0,.str v0),(4,vi v4),(5,vi v5),(7,.val (.int .u8 v7)),(68,vb (Ql v7))] [] (To.ah (cn h (fun h=>?_) (fun h=>?_))))
   ·refine Wp.seq (rg [2,3] [] [(2,.str []),(3,vb false)] [] (To.ah (Wp.ret (To.aU ?_))))
    cases h
    exact hQ
   ·refine Wp.seq (rg [0,4,5,75] [] [(0,.str v0),(4,vi v4),(5,vi v5),(75,vb (v7 != 32))] [] (To.ah (cn h (fun h=>?_) (fun h=>?_))))
    ·refine rg [0,4,5] [] [(0,.str v0),(4,vi v4),(ex2 v4)] [] (To.bf ?_)
     cases h
     exact hQ
    ·refine Wp.skip (To.bf (kt [0,4,5] [] [(0,.str v0),(4,vi v4),(5,vi v5)] [] ?_))
     cases h
     exact hQ
def nN(n:Nat)(v0:Bs)(v4:Int)(v5:Int)(v6:Bool)(v7:Int):Option (Sum (Int×Int) (Sum (Int×Int) (Bs×Bool))) :=
 if(bif (v7==35) then v6 else false)=true then(if(decide (0<=v5/\v5<=(List.length v0:Int)))=true then(some (.inr (.inr ((List.take (Int.toNat v5) v0),true)))) else none)
 else(if((!((v6==false)&&((bif (v7==34) then true else(v7==39))==true))||decide (0<=(IntKind.wrap .i64 (v4-1))/\(IntKind.wrap .i64 (v4-1))<(List.length v0:Int))))=true then(aR ((bif (bif (v7==34) then true else(v7==39)) then(bif v6 then true else(decide ((Lib.indexByte ([91,123,44]:Bs) (Int.toNat (((v0)[Int.toNat (IntKind.wrap .i64 (v4-1))]?.getD 0).toNat:Int)).toUInt8)>=0))) else false):Bool) fun x3 =>
 if x3=true then((br n v0 v4).bind fun r4 =>
 if(r4.2.2 != 0)=true then(some (.inr (.inr ([],false))))
 else(some (.inr (.inl (r4.2.1,r4.2.1)))))
 else(if(bif (decide (v7<32)) then true else(v7==127))=true then(some (.inr (.inr ([],false))))
 else(if(v7 != 32)=true then(some (.inl (v4,(IntKind.wrap .i64 (v4+1)))))
 else(some (.inl (v4,v5)))))) else none)
theorem B7(n:Nat)(v0:Bs)(v4:Int)(v5:Int)(v6:Bool)(v7:Int)(o:Sum (Int×Int) (Sum (Int×Int) (Bs×Bool)))(h:nN n v0 v4 v5 v6 v7=some o)(hQ:(Sum.elim (fun s=>To 82 F0 w0 [(0,.str v0),(4,vi s.1),(5,vi s.2)] [] .normal Q) (Sum.elim (fun s=>To 82 F0 w0 [(0,.str v0),(4,vi s.1),(5,vi s.2)] [] (.goto 0) Q) (fun s=>To 82 F0 w0 [(2,.str s.1),(3,vb s.2)] [] .ret Q))) o):Wp Tryz.prog 82 F0 w0 [(0,.str v0),(4,vi v4),(5,vi v5),(6,vb v6),(7,.val (.int .u8 v7))] [] (cB (cA (cB (cB (cB (cB (cI (cB (cF Tryz.f54))))))))) Q:=by
 unfold nN at h
 refine Wp.block (Wp.seq (rg [0,4,5,6,7,30] [] [(0,.str v0),(4,vi v4),(5,vi v5),(6,vb v6),(7,.val (.int .u8 v7)),(30,vb (bif (v7==35) then v6 else false))] [] (To.ah (cn h (fun h=>?_) (fun h=>?_)))))
 ·refine Wp.seq ?_
  obtain⟨hc2,h⟩:=aL h
  refine r0 [2,3] [] [(2,.str (List.take (Int.toNat v5) v0)),(3,vb true)] [] (au.cons hc2 au.nil) (To.ah (Wp.ret (To.aU ?_)))
  cases h
  exact hQ
 ·refine Wp.seq ?_
  obtain⟨hc5,h⟩:=aL h
  obtain⟨x3,hx3,h⟩:=bI h
  refine rr [] [(13,vi (BV v0 v4))] [] [0,4,5,7,39] [] [(0,.str v0),(4,vi v4),(5,vi v5),(7,.val (.int .u8 v7)),(39,vb (bif (JC v7) then(bif v6 then true else(decide ((BV v0 v4)>=0))) else false))] [] [_,(((v6==false)&&((JC v7)==true))=true->CX Tryz.prog 66 [.str [91,123,44],.val (.int .u8 (((v0)[Int.toNat (IntKind.wrap .i64 (v4-1))]?.getD 0).toNat:Int))] (vi (BV v0 v4)))] (au.cons hc5 (au.cons (fun _=>cx (Sh.lN)) au.nil)) (To.eq (K':=[(0,.str v0),(4,vi v4),(5,vi v5),(7,.val (.int .u8 v7)),(39,vb x3)]) (L':=[]) (by cases hx3;rfl) (by cases hx3;rfl) (To.ah (cn h (fun h=>?_) (fun h=>?_))))
  ·refine Wp.seq ?_
   obtain⟨r4,hr4,h⟩:=aF h
   refine rc [] 2 [0,9,10] [] [(0,.str v0),(9,vi r4.2.1),(10,vi r4.2.2)] [] (lL n v0 v4 _ hr4) (To.ah (Wp.seq (Wp.seq (rg [0,9,65] [] [(0,.str v0),(9,vi r4.2.1),(65,vb (r4.2.2 != 0))] [] (To.ah (cn h (fun h=>?_) (fun h=>?_)))))))
   ·refine Wp.seq (rg [2,3] [] [(2,.str []),(3,vb false)] [] (To.ah (Wp.ret (To.aO (To.aU ?_)))))
    cases h
    exact hQ
   ·refine Wp.skip (To.ah (Wp.seq (rg [0,4,5] [] [(0,.str v0),(4,vi r4.2.1),(5,vi r4.2.1)] [] (To.ah (Wp.goto (To.LZ (kt [0,4,5] [] [(0,.str v0),(4,vi r4.2.1),(5,vi r4.2.1)] [] ?_)))))))
    cases h
    exact hQ
  ·refine Wp.seq (rg [0,4,5,7,68] [] [(0,.str v0),(4,vi v4),(5,vi v5),(7,.val (.int .u8 v7)),(68,vb (Ql v7))] [] (To.ah (cn h (fun h=>?_) (fun h=>?_))))
   ·refine Wp.seq (rg [2,3] [] [(2,.str []),(3,vb false)] [] (To.ah (Wp.ret (To.aU ?_))))
    cases h
    exact hQ
   ·refine Wp.seq (rg [0,4,5,75] [] [(0,.str v0),(4,vi v4),(5,vi v5),(75,vb (v7 != 32))] [] (To.ah (cn h (fun h=>?_) (fun h=>?_))))
    ·refine rg [0,4,5] [] [(0,.str v0),(4,vi v4),(ex2 v4)] [] (To.bf ?_)
     cases h
     exact hQ
    ·refine Wp.skip (To.bf (kt [0,4,5] [] [(0,.str v0),(4,vi v4),(5,vi v5)] [] ?_))
     cases h
     exact hQ
mutual
def jG(n:Nat):Nat->Bs->Option (Bs×Bool)
 |0,_=>none
 |k+1,v0=>if((0:Int)==(List.length v0:Int))=true then(if(decide (0<=(0:Int)/\(0:Int)<=(List.length v0:Int)))=true then(some ((List.take (Int.toNat 0) v0),true)) else none)
 else(if((!(((0:Int)==0)==false)||decide (0<=(IntKind.wrap .i64 (0-1))/\(IntKind.wrap .i64 (0-1))<(List.length v0:Int))))=true then(if(decide (0<=(0:Int)/\(0:Int)<(List.length v0:Int)))=true then((uP n v0 0 0 (bif ((0:Int)==0) then true else((((v0)[Int.toNat (IntKind.wrap .i64 (0-1))]?.getD 0).toNat:Int)==32)) (((v0)[Int.toNat 0]?.getD 0).toNat:Int)).bind fun o2 =>
 (Sum.elim (fun o2=>aS n k v0 (IntKind.wrap .i64 (o2.1+1)) o2.2) (Sum.elim (fun o2=>aS n k v0 o2.1 o2.2) (fun o2=>some (o2.1,o2.2)))) o2) else none) else none)
def aS(n:Nat):Nat->Bs->Int->Int->Option (Bs×Bool)
 |0,_,_,_=>none
 |k+1,v0,v4,v5=>if(v4==(List.length v0:Int))=true then(if(decide (0<=v5/\v5<=(List.length v0:Int)))=true then(some ((List.take (Int.toNat v5) v0),true)) else none)
 else(if((!((v4==0)==false)||decide (0<=(IntKind.wrap .i64 (v4-1))/\(IntKind.wrap .i64 (v4-1))<(List.length v0:Int))))=true then(if(decide (0<=v4/\v4<(List.length v0:Int)))=true then((nN n v0 v4 v5 (bif (v4==0) then true else((((v0)[Int.toNat (IntKind.wrap .i64 (v4-1))]?.getD 0).toNat:Int)==32)) (((v0)[Int.toNat v4]?.getD 0).toNat:Int)).bind fun o2 =>
 (Sum.elim (fun o2=>aS n k v0 (IntKind.wrap .i64 (o2.1+1)) o2.2) (Sum.elim (fun o2=>aS n k v0 o2.1 o2.2) (fun o2=>some (o2.1,o2.2)))) o2) else none) else none)
end
abbrev pI(x0:Bs):=(((x0)[Int.toNat 0]?.getD 0).toNat:Int)
abbrev Jw(x0:Bs)(x1:Int):=(((x0)[Int.toNat (IntKind.wrap .i64 (x1-1))]?.getD 0).toNat:Int)
abbrev SK(x0:Bs):=(0<=(0:Int)/\(0:Int)<(List.length x0:Int))
abbrev Jc(x0:Bs):=(bif ((0:Int)==0) then true else((((x0)[Int.toNat (IntKind.wrap .i64 (0-1))]?.getD 0).toNat:Int)==32))
theorem Cc(n:Nat)(k:Nat):(∀(v0:Bs)(o:Bs×Bool),jG n k v0=some o->To 82 F0 w0 [(2,.str o.1),(3,vb o.2)] [] .ret Q->WG Tryz.prog 82 F0 w0 [(0,.str v0)] [] (cI (cB (cF Tryz.f54))) (cI (cB (cF Tryz.f54))) Q) /\
 (∀(v0:Bs)(v4:Int)(v5:Int)(o:Bs×Bool),aS n k v0 v4 v5=some o->To 82 F0 w0 [(2,.str o.1),(3,vb o.2)] [] .ret Q->WG Tryz.prog 82 F0 w0 [(0,.str v0),(4,vi v4),(5,vi v5)] [] (cI (cB (cF Tryz.f54))) (cG 0 (cB (cF Tryz.f54))) Q):=by
 induction k with
 |zero=>exact⟨(by intro v0 o h;cases h),(by intro v0 v4 v5 o h;cases h)⟩
 |succ k ih =>
  refine⟨?_,?_⟩
  ·intro v0 o h hQ
   rw[jG] at h
   refine WG.pass (Wp.seq (rg [0,4,5] [] [(0,.str v0),(4,vi 0),(5,vi 0)] [] (To.ah (Wp.seq (Wp.label (To.ah (Wp.seq (Wp.seq (rg [0,4,5,14] [] [(0,.str v0),(4,vi 0),(5,vi 0),(14,vb ((0:Int)==(List.length v0:Int)))] [] (To.ah ?_))))))))))
   refine cn h (fun h=>?_) (fun h=>?_)
   ·refine Wp.seq ?_
    obtain⟨hc1,h⟩:=aL h
    refine r0 [2,3] [] [(2,.str (List.take (Int.toNat 0) v0)),(3,vb true)] [] (au.cons hc1 au.nil) (To.ah (Wp.ret (To.aO (To.kF (.inr (.inl rfl)) (kt [2,3] [] [(2,.str (List.take (Int.toNat 0) v0)),(3,vb true)] [] ?_)))))
    cases h
    exact hQ
   ·refine Wp.skip (To.ah (Wp.seq ?_))
    obtain⟨hc4,h⟩:=aL h
    refine r0 [0,4,5,6] [] [(0,.str v0),(4,vi 0),(5,vi 0),(6,vb (Jc v0))] [] (au.cons hc4 au.nil) (To.ah (Wp.seq (Wp.seq ?_)))
    obtain⟨hc3,h⟩:=aL h
    refine r0 [0,4,5,6,7] [] [(0,.str v0),(4,vi 0),(5,vi 0),(6,vb (Jc v0)),(7,.val (.int .u8 (pI v0)))] [] (au.cons hc3 au.nil) (To.ah ?_)
    obtain⟨o2,ho2,h⟩:=aF h
    refine kw [0,4,5,6,7] [] [(0,.str v0),(4,vi 0),(5,vi 0),(6,vb (Jc v0)),(7,.val (.int .u8 (pI v0)))] [] (Cj n v0 0 0 (Jc v0) (pI v0) o2 ho2 ?_)
    rcases o2 with o2|o2
    ·replace h:=iU h
     refine To.ah (Wp.seq (rg [0,4,5] [] [(0,.str v0),(4,vi (IntKind.wrap .i64 (o2.1+1))),(5,vi o2.2)] [] (To.ah (Wp.goto (kt [0,4,5] [] [(0,.str v0),(4,vi (IntKind.wrap .i64 (o2.1+1))),(5,vi o2.2)] [] (To.goto (rest:=cG 0 (cB (cF Tryz.f54))) (by kernel_rfl) ?_))))))
     exact ih.2 v0 (IntKind.wrap .i64 (o2.1+1)) o2.2 _ h hQ
    ·replace h:=iV h
     rcases o2 with o2|o2
     ·replace h:=iU h
      refine To.yE (kt [0,4,5] [] [(0,.str v0),(4,vi o2.1),(5,vi o2.2)] [] (To.goto (rest:=cG 0 (cB (cF Tryz.f54))) (by kernel_rfl) ?_))
      exact ih.2 v0 o2.1 o2.2 _ h hQ
     ·replace h:=iV h
      refine To.aO (To.kF (.inr (.inl rfl)) (kt [2,3] [] [(2,.str o2.1),(3,vb o2.2)] [] ?_))
      cases h
      exact hQ
  ·intro v0 v4 v5 o h hQ
   rw[aS] at h
   refine WG.pass (Wp.seq (Wp.skip (To.ah (Wp.seq (Wp.seq (rg [0,4,5,14] [] [(0,.str v0),(4,vi v4),(5,vi v5),(14,vb (v4==(List.length v0:Int)))] [] (To.ah (cn h (fun h=>?_) (fun h=>?_)))))))))
   ·refine Wp.seq ?_
    obtain⟨hc1,h⟩:=aL h
    refine r0 [2,3] [] [(2,.str (List.take (Int.toNat v5) v0)),(3,vb true)] [] (au.cons hc1 au.nil) (To.ah (Wp.ret (To.aO (To.kF (.inr (.inl rfl)) (kt [2,3] [] [(2,.str (List.take (Int.toNat v5) v0)),(3,vb true)] [] ?_)))))
    cases h
    exact hQ
   ·refine Wp.skip (To.ah (Wp.seq ?_))
    obtain⟨hc4,h⟩:=aL h
    refine r0 [0,4,5,6] [] [(0,.str v0),(4,vi v4),(5,vi v5),(6,vb (bif (v4==0) then true else((Jw v0 v4)==32)))] [] (au.cons hc4 au.nil) (To.ah (Wp.seq (Wp.seq ?_)))
    obtain⟨hc3,h⟩:=aL h
    refine r0 [0,4,5,6,7] [] [(0,.str v0),(4,vi v4),(5,vi v5),(6,vb (bif (v4==0) then true else((Jw v0 v4)==32))),(7,.val (.int .u8 (ex7 v0 v4)))] [] (au.cons hc3 au.nil) (To.ah ?_)
    obtain⟨o2,ho2,h⟩:=aF h
    refine kw [0,4,5,6,7] [] [(0,.str v0),(4,vi v4),(5,vi v5),(6,vb (bif (v4==0) then true else((Jw v0 v4)==32))),(7,.val (.int .u8 (ex7 v0 v4)))] [] (B7 n v0 v4 v5 (bif (v4==0) then true else((Jw v0 v4)==32)) (ex7 v0 v4) o2 ho2 ?_)
    rcases o2 with o2|o2
    ·replace h:=iU h
     refine To.ah (Wp.seq (rg [0,4,5] [] [(0,.str v0),(4,vi (IntKind.wrap .i64 (o2.1+1))),(5,vi o2.2)] [] (To.ah (Wp.goto (kt [0,4,5] [] [(0,.str v0),(4,vi (IntKind.wrap .i64 (o2.1+1))),(5,vi o2.2)] [] (To.goto (rest:=cG 0 (cB (cF Tryz.f54))) (by kernel_rfl) ?_))))))
     exact ih.2 v0 (IntKind.wrap .i64 (o2.1+1)) o2.2 _ h hQ
    ·replace h:=iV h
     rcases o2 with o2|o2
     ·replace h:=iU h
      refine To.yE (kt [0,4,5] [] [(0,.str v0),(4,vi o2.1),(5,vi o2.2)] [] (To.goto (rest:=cG 0 (cB (cF Tryz.f54))) (by kernel_rfl) ?_))
      exact ih.2 v0 o2.1 o2.2 _ h hQ
     ·replace h:=iV h
      refine To.aO (To.kF (.inr (.inl rfl)) (kt [2,3] [] [(2,.str o2.1),(3,vb o2.2)] [] ?_))
      cases h
      exact hQ
def iF(n:Nat)(a0:Bs):Option (Bs×Bool) :=
 (jG n n a0).bind fun o1 =>
 some (o1.1,o1.2)
theorem GF(n:Nat)(a0:Bs)(r:Bs×Bool)(h:iF n a0=some r):bg Tryz.prog 54 [.str a0] (.tup [.str r.1,vb r.2]):=by
 unfold iF at h
 refine xo Tryz.f54 rfl fun F0 w0 _=>?_
 refine Wp.seq (rg [0] [] [(0,.str a0)] [] (To.ah ?_))
 obtain⟨o1,ho1,h⟩:=aF h
 refine kw [0] [] [(0,.str a0)] [] (Wp.FH ((Cc n n).1 a0 o1 ho1 ?_))
 cases h
 exact To.done hΓ (by kernel_rfl)
def nT(n:Nat)(v0:Bs)(v5:List (ax))(v6:Int):Option (Sum (Bs×(List (ax))) (Int×Int)) :=
 if(decide (List.length v0<4294967281))=true then(aR ((IntKind.wrap .i64 ((List.length ((Lib.cut v0 ([10]:Bs)).1):Int)-(List.length (Lib.trimLeftB ((Lib.cut v0 ([10]:Bs)).1) 32):Int))):Int) fun x2 =>
 if(decide (0<=x2/\x2<=(List.length ((Lib.cut v0 ([10]:Bs)).1):Int)))=true then((iF n (List.drop (Int.toNat x2) ((Lib.cut v0 ([10]:Bs)).1))).bind fun r3 =>
 aR ((bif (!r3.2) then true else(bif (x2==0) then(bif (r3.1==[45,45,45]) then true else(r3.1==[46,46,46])) else false)):Bool) fun x4 =>
 if x4=true then(some (.inr (v6,3)))
 else(if(!(r3.1==[]))=true then(if(decide ((List.length v5+List.length ([(ax.mk v6 x2 r3.1)]:List (ax)))*(32+1)<=limit))=true then(some (.inl ((Lib.cut v0 ([10]:Bs)).2.1,(v5++([(ax.mk v6 x2 r3.1)]:List (ax)))))) else none)
 else(some (.inl ((Lib.cut v0 ([10]:Bs)).2.1,v5))))) else none) else none
def gB(n:Nat):Nat->Bs->(List (ax))->Int->Option (Sum ((List (ax))) (Int×Int))
 |0,_,_,_=>none
 |k+1,v0,v5,v6=>if(!(v0==[]))=true then((nT n v0 v5 v6).bind fun o1 =>
 (Sum.elim (fun o1=>gB n k o1.1 o1.2 (IntKind.wrap .i64 (v6+1))) (fun o1=>some (.inr (o1.1,o1.2)))) o1)
 else(some (.inl v5))
def lG(n:Nat)(a0:Bs):Option ((List (ax))×Int×Int) :=
 if(decide ((List.length a0:Int)>8192))=true then(some ([],0,9))
 else((gB n n a0 ([]:List (ax)) 1).bind fun o1 =>
 (Sum.elim (fun o1=>some (o1,0,0)) (fun o1=>some ([],o1.1,o1.2))) o1)
structure ak where
 f_l:List (ax)
 aC:Int
 mF:Int
 f_e:Int
def ft(a0:Bs):Bool :=
 (bif (a0==[45]) then true else(Lib.hasPrefix a0 ([45,32]:Bs)))
theorem pH(a0:Bs)(r:Bool)(h:ft a0=r):bg Tryz.prog 14 [.str a0] (vb r):=by
 unfold ft at h
 refine xo Tryz.f14 rfl fun F0 w0 _=>?_
 refine Wp.seq (rg [0] [] [(0,.str a0)] [] (To.ah (Wp.seq (rr [] [(4,vb (Lib.hasPrefix a0 ([45,32]:Bs)))] [] [2] [] [(2,vb (bif (a0==[45]) then true else(Lib.hasPrefix a0 ([45,32]:Bs))))] [] [(((a0==[45])==false)=true->CX Tryz.prog 39 [.str a0,.str [45,32]] (vb (Lib.hasPrefix a0 ([45,32]:Bs))))] (au.cons (fun _=>cx (Sh.G7)) au.nil) (To.ah (Wp.ret ?_))))))
 cases h
 exact To.done hΓ (by kernel_rfl)
def nG(n:Nat)(a0:Bs)(a1:Int):Option (Bool) :=
 if((!((decide (a1<(List.length a0:Int)))==true)||decide (0<=a1/\a1<(List.length a0:Int))))=true then(if((!((((IntKind.wrap .i64 (a1+1))==(List.length a0:Int))==false)&&((bif (decide (a1<(List.length a0:Int))) then((((a0)[Int.toNat a1]?.getD 0).toNat:Int)==58) else false)==true))||decide (0<=(IntKind.wrap .i64 (a1+1))/\(IntKind.wrap .i64 (a1+1))<(List.length a0:Int))))=true then(aR ((bif (bif (decide (a1<(List.length a0:Int))) then((((a0)[Int.toNat a1]?.getD 0).toNat:Int)==58) else false) then(bif ((IntKind.wrap .i64 (a1+1))==(List.length a0:Int)) then true else((((a0)[Int.toNat (IntKind.wrap .i64 (a1+1))]?.getD 0).toNat:Int)==32)) else false):Bool) fun x1 =>
 some x1) else none) else none
theorem wI(n:Nat)(a0:Bs)(a1:Int)(r:Bool)(h:nG n a0 a1=some r):bg Tryz.prog 32 [.str a0,vi a1] (vb r):=by
 unfold nG at h
 refine xo Tryz.f32 rfl fun F0 w0 _=>?_
 refine Wp.seq (rg [0,1] [] [(0,.str a0),(1,vi a1)] [] (To.ah (Wp.seq ?_)))
 obtain⟨hc2,h⟩:=aL h
 obtain⟨hc3,h⟩:=aL h
 obtain⟨x1,hx1,h⟩:=bI h
 refine r0 [4] [] [(4,vb (bif (bif (E0 a1 a0) then((ex7 a0 a1)==58) else false) then(bif ((IntKind.wrap .i64 (a1+1))==(List.length a0:Int)) then true else((((a0)[Int.toNat (IntKind.wrap .i64 (a1+1))]?.getD 0).toNat:Int)==32)) else false))] [] (au.cons hc2 (au.cons hc3 au.nil)) (To.eq (K':=[(4,vb x1)]) (L':=[]) (by cases hx1;rfl) (by cases hx1;rfl) (To.ah (Wp.ret ?_)))
 cases h
 exact To.done hΓ (by kernel_rfl)
def gq(n:Nat)(a0:Int)(c0:Bs):Option (Bool) :=
 if((!((bif (decide (a0<0)) then true else(decide (a0>=(List.length c0:Int))))==false)||decide (0<=a0/\a0<(List.length c0:Int))))=true then(aR ((bif (bif (decide (a0<0)) then true else(decide (a0>=(List.length c0:Int)))) then true else((((c0)[Int.toNat a0]?.getD 0).toNat:Int)==32)):Bool) fun x1 =>
 some x1) else none
theorem l7(n:Nat)(a0:Int)(c0:Bs)(r:Bool)(h:gq n a0 c0=some r):bg Tryz.prog 67 [vi a0,.el [.str c0]] (vb r):=by
 unfold gq at h
 refine xo Tryz.f67 rfl fun F0 w0 _=>?_
 refine Wp.seq (rg [0,1] [] [(0,vi a0),(1,.el [.str c0])] [] (To.ah (Wp.seq ?_)))
 obtain⟨hc2,h⟩:=aL h
 obtain⟨x1,hx1,h⟩:=bI h
 refine r0 [3] [] [(3,vb (bif (Qv a0 c0) then true else((ex7 c0 a0)==32)))] [] (au.cons hc2 au.nil) (To.eq (K':=[(3,vb x1)]) (L':=[]) (by cases hx1;rfl) (by cases hx1;rfl) (To.ah (Wp.ret ?_)))
 cases h
 exact To.done hΓ (by kernel_rfl)
def jj(n:Nat)(v1:Bs)(v3_0:Bs)(v43:Int):Nat->Int->Option (Sum (Unit) (Bool))
 |0,_=>none
 |k+1,v44=>if(decide (v44<v43))=true then(if(decide (0<=v44/\v44<(List.length v1:Int)))=true then(if((!((!(fN (((v1)[Int.toNat v44]?.getD 0).toNat:Int)))==false)||decide (0<=v44/\v44<(List.length v1:Int))))=true then(((if((((((v1)[Int.toNat v44]?.getD 0).toNat:Int)==58)==true)&&((!(fN (((v1)[Int.toNat v44]?.getD 0).toNat:Int)))==false))=true then gq n (IntKind.wrap .i64 (v44+1)) v3_0 else some false)).bind fun r3 =>
 if((!((bif (!(fN (((v1)[Int.toNat v44]?.getD 0).toNat:Int))) then true else(bif ((((v1)[Int.toNat v44]?.getD 0).toNat:Int)==58) then r3 else false))==false)||decide (0<=v44/\v44<(List.length v1:Int))))=true then(((if((((((v1)[Int.toNat v44]?.getD 0).toNat:Int)==35)==true)&&((bif (!(fN (((v1)[Int.toNat v44]?.getD 0).toNat:Int))) then true else(bif ((((v1)[Int.toNat v44]?.getD 0).toNat:Int)==58) then r3 else false))==false))=true then gq n (IntKind.wrap .i64 (v44-1)) v3_0 else some false)).bind fun r4 =>
 aR ((bif (bif (!(fN (((v1)[Int.toNat v44]?.getD 0).toNat:Int))) then true else(bif ((((v1)[Int.toNat v44]?.getD 0).toNat:Int)==58) then r3 else false)) then true else(bif ((((v1)[Int.toNat v44]?.getD 0).toNat:Int)==35) then r4 else false)):Bool) fun x5 =>
 if x5=true then(some (.inr false))
 else(jj n v1 v3_0 v43 k (IntKind.wrap .i64 (v44+1)))) else none) else none) else none)
 else(some (.inl ()))
theorem yQ(n:Nat)(v1:Bs)(v3_0:Bs)(v43:Int)(k:Nat):∀(v44:Int)(o:Sum (Unit) (Bool)),jj n v1 v3_0 v43 k v44=some o->(Sum.elim (fun s=>To 77 F0 w0 [] [] (.exit 0) Q) (fun s=>To 77 F0 w0 [(2,vb s)] [] .ret Q)) o->WL Tryz.prog 77 F0 w0 [(1,.el [.str v1]),(3,.fn 67 [.el [.str v3_0]]),(43,vi v43),(44,vi v44)] [] (cI (cI (cB (cA (cB (cB (cB (cB (cF Tryz.f33))))))))) Q:=by
 induction k with
 |zero=>intro v44 o h;cases h
 |succ k ih =>
  intro v44 o h hQ
  rw[jj] at h
  refine WL.round (Wp.seq (rg [1,3,43,44,45] [] [(1,.el [.str v1]),(3,.fn 67 [.el [.str v3_0]]),(43,vi v43),(44,vi v44),(45,vb (decide (v44<v43)))] [] (To.ah (Wp.seq (cn h (fun h=>?_) (fun h=>?_))))))
  ·refine Wp.skip (To.ah (Wp.seq (Wp.block (Wp.seq (rg [1,3,4,43,44] [] [(1,.el [.str v1]),(3,.fn 67 [.el [.str v3_0]]),(4,vi v44),(43,vi v43),(44,vi v44)] [] (To.ah (Wp.seq ?_)))))))
   obtain⟨hc6,h⟩:=aL h
   obtain⟨hc7,h⟩:=aL h
   obtain⟨r3,hr3,h⟩:=aF h
   obtain⟨hc8,h⟩:=aL h
   obtain⟨r4,hr4,h⟩:=aF h
   obtain⟨x5,hx5,h⟩:=bI h
   refine rr [] [(3,vb (fN (ex7 v1 v44))),(14,vb r3),(26,vb r4)] [] [1,3,43,44,75] [] [(1,.el [.str v1]),(3,.fn 67 [.el [.str v3_0]]),(43,vi v43),(44,vi v44),(75,vb (bif (bif (!(fN (ex7 v1 v44))) then true else(bif ((ex7 v1 v44)==58) then r3 else false)) then true else(bif ((ex7 v1 v44)==35) then r4 else false)))] [] [_,_,_,(((((ex7 v1 v44)==58)==true)&&((!(fN (ex7 v1 v44)))==false))=true->CX Tryz.prog 67 [vi (IntKind.wrap .i64 (v44+1)),.el [.str v3_0]] (vb r3)),_,(((((ex7 v1 v44)==35)==true)&&((bif (!(fN (ex7 v1 v44))) then true else(bif ((ex7 v1 v44)==58) then r3 else false))==false))=true->CX Tryz.prog 67 [vi (IntKind.wrap .i64 (v44-1)),.el [.str v3_0]] (vb r4))] (au.cons hc6 (au.cons (c1 (uK (ex7 v1 v44) _ rfl)) (au.cons hc7 (au.cons (fun hg=>cx (l7 n (IntKind.wrap .i64 (v44+1)) v3_0 _ (jl hg hr3))) (au.cons hc8 (au.cons (fun hg=>cx (l7 n (IntKind.wrap .i64 (v44-1)) v3_0 _ (jl hg hr4))) au.nil)))))) (To.eq (K':=[(1,.el [.str v1]),(3,.fn 67 [.el [.str v3_0]]),(43,vi v43),(44,vi v44),(75,vb x5)]) (L':=[]) (by cases hx5;rfl) (by cases hx5;rfl) (To.ah (cn h (fun h=>?_) (fun h=>?_))))
   ·refine Wp.seq (rg [2] [] [(2,vb false)] [] (To.ah (Wp.ret (To.aU (To.aO (To.aO ?_))))))
    cases h
    exact hQ
   ·refine Wp.skip (To.bf (To.ah (rg [1,3,43,44] [] [(1,.el [.str v1]),(3,.fn 67 [.el [.str v3_0]]),(43,vi v43),(44,vi (IntKind.wrap .i64 (v44+1)))] [] (kt [1,3,43,44] [] [(1,.el [.str v1]),(3,.fn 67 [.el [.str v3_0]]),(43,vi v43),(44,vi (IntKind.wrap .i64 (v44+1)))] [] (To.again ?_)))))
    exact ih (IntKind.wrap .i64 (v44+1)) _ h hQ
  ·refine Wp.exit (To.dE (To.dE (kt [] [] [] [] ?_)))
   cases h
   exact hQ
def iz(n:Nat)(a0:Bs):Option (Bool) :=
 if((!((bif (bif (a0==[]) then true else(a0==[126])) then true else(a0==rM))==false)||decide (0<=(0:Int)/\(0:Int)<(List.length a0:Int))))=true then(if((!((bif (bif (bif (a0==[]) then true else(a0==[126])) then true else(a0==rM)) then true else((((a0)[Int.toNat 0]?.getD 0).toNat:Int)==32))==false)||decide (0<=(IntKind.wrap .i64 ((List.length a0:Int)-1))/\(IntKind.wrap .i64 ((List.length a0:Int)-1))<(List.length a0:Int))))=true then(if((!((bif (bif (bif (bif (a0==[]) then true else(a0==[126])) then true else(a0==rM)) then true else((((a0)[Int.toNat 0]?.getD 0).toNat:Int)==32)) then true else((((a0)[Int.toNat (IntKind.wrap .i64 ((List.length a0:Int)-1))]?.getD 0).toNat:Int)==32))==false)||decide (0<=(0:Int)/\(0:Int)<(List.length a0:Int))))=true then(aR ((bif (bif (bif (bif (bif (a0==[]) then true else(a0==[126])) then true else(a0==rM)) then true else((((a0)[Int.toNat 0]?.getD 0).toNat:Int)==32)) then true else((((a0)[Int.toNat (IntKind.wrap .i64 ((List.length a0:Int)-1))]?.getD 0).toNat:Int)==32)) then true else(decide ((Lib.indexByte (Je:Bs) (Int.toNat (((a0)[Int.toNat 0]?.getD 0).toNat:Int)).toUInt8)>=0))):Bool) fun x1 =>
 if x1=true then some false
 else(if(decide (0<=(0:Int)/\(0:Int)<(List.length a0:Int)))=true then(((if(((((a0)[Int.toNat 0]?.getD 0).toNat:Int)==45)==true)=true then gq n 1 a0 else some false)).bind fun r2 =>
 if(bif ((((a0)[Int.toNat 0]?.getD 0).toNat:Int)==45) then r2 else false)=true then some false
 else((jj n a0 a0 (List.length a0:Int) n 0).bind fun o3 =>
 (Sum.elim (fun o3=>some true) (fun o3=>some o3)) o3)) else none)) else none) else none) else none
abbrev Qq(x0:Bs):=(bif (bif (x0==[]) then true else(x0==[126])) then true else(x0==rM))
abbrev Sm(x0:Bs):=((((x0)[Int.toNat (IntKind.wrap .i64 ((List.length x0:Int)-1))]?.getD 0).toNat:Int)==32)
abbrev NR(x0:Bs):=(Lib.indexByte (Je:Bs) (Int.toNat (pI x0)).toUInt8)
abbrev Qi(x0:Bs):=(bif (bif (Qq x0) then true else((pI x0)==32)) then true else(Sm x0))
theorem nh(n:Nat)(a0:Bs)(r:Bool)(h:iz n a0=some r):bg Tryz.prog 33 [.str a0] (vb r):=by
 unfold iz at h
 refine xo Tryz.f33 rfl fun F0 w0 _=>?_
 refine Wp.seq (rg [1] [1] [(1,.own 1 0)] [(1,9,[.str a0])] (To.ah (Wp.seq (Wp.seq ?_))))
 obtain⟨hc5,h⟩:=aL h
 obtain⟨hc6,h⟩:=aL h
 obtain⟨hc7,h⟩:=aL h
 obtain⟨x1,hx1,h⟩:=bI h
 refine rr [] [(26,vi (NR a0))] [] [1,33] [1] [(1,.own 1 0),(33,vb (bif (Qi a0) then true else(decide ((NR a0)>=0))))] [(1,9,[.str a0])] [_,_,_,(((Qi a0)==false)=true->CX Tryz.prog 66 [.str Je,.val (.int .u8 (pI a0))] (vi (NR a0)))] (au.cons hc5 (au.cons hc6 (au.cons hc7 (au.cons (fun _=>cx (Sh.lN)) au.nil)))) (To.eq (K':=[(1,.own 1 0),(33,vb x1)]) (L':=[(1,9,[.str a0])]) (by cases hx1;rfl) (by cases hx1;rfl) (To.ah (cn h (fun h=>?_) (fun h=>?_))))
 ·refine Wp.seq (rg [2] [] [(2,vb false)] [] (To.ah (Wp.ret (To.aO ?_))))
  cases h
  exact To.done hΓ (by kernel_rfl)
 ·refine Wp.skip (To.ah (Wp.seq (rr [(0,[1])] [] [] [1,3] [] [(1,.el [.str a0]),(3,.fn 67 [.el [.str a0]])] [] [] au.nil (To.ah (Wp.seq (Wp.seq ?_))))))
  obtain⟨hc4,h⟩:=aL h
  obtain⟨r2,hr2,h⟩:=aF h
  refine rr [] [(5,vb r2)] [] [1,3,41] [] [(1,.el [.str a0]),(3,.fn 67 [.el [.str a0]]),(41,vb (bif ((pI a0)==45) then r2 else false))] [] [_,((((pI a0)==45)==true)=true->CX Tryz.prog 67 [vi 1,.el [.str a0]] (vb r2))] (au.cons hc4 (au.cons (fun hg=>cx (l7 n 1 a0 _ (jl hg hr2))) au.nil)) (To.ah (cn h (fun h=>?_) (fun h=>?_)))
  ·refine Wp.seq (rg [2] [] [(2,vb false)] [] (To.ah (Wp.ret (To.aO ?_))))
   cases h
   exact To.done hΓ (by kernel_rfl)
  ·refine Wp.skip (To.ah (Wp.seq (Wp.seq (rg [1,3,43,44] [] [(1,.el [.str a0]),(3,.fn 67 [.el [.str a0]]),(43,vi (List.length a0:Int)),(44,vi 0)] [] (To.ah (Wp.block ?_))))))
   obtain⟨o3,ho3,h⟩:=aF h
   refine kw [1,3,43,44] [] [(1,.el [.str a0]),(3,.fn 67 [.el [.str a0]]),(43,vi (List.length a0:Int)),(44,vi 0)] [] (Wp.jB (yQ n a0 a0 (List.length a0:Int) n 0 o3 ho3 ?_))
   rcases o3 with o3|o3
   ·replace h:=iU h
    refine To.iI (To.ah (Wp.seq (rg [2] [] [(2,vb true)] [] (To.ah (Wp.ret ?_)))))
    cases h
    exact To.done hΓ (by kernel_rfl)
   ·replace h:=iV h
    refine To.aU (To.aO ?_)
    cases h
    exact To.done hΓ (by kernel_rfl)
def ji(n:Nat)(v0:Bs):Nat->Int->Option (Int)
 |0,_=>none
 |k+1,v5=>((if((decide (v5<(List.length v0:Int)))==true)=true then nG n v0 v5 else some false)).bind fun r4 =>
 if(bif (decide (v5<(List.length v0:Int))) then(!r4) else false)=true then(ji n v0 k (IntKind.wrap .i64 (v5+1)))
 else some v5
theorem yV(n:Nat)(v0:Bs)(k:Nat):∀(v5:Int)(o:Int),ji n v0 k v5=some o->To 81 F0 w0 [(0,.str v0),(5,vi o)] [] (.exit 0) Q->WL Tryz.prog 81 F0 w0 [(0,.str v0),(5,vi v5)] [] (cI (cI (cA (cE (cB (cA (cB (cB (cB (cF Tryz.f12)))))))))) Q:=by
 induction k with
 |zero=>intro v5 o h;cases h
 |succ k ih =>
  intro v5 o h hQ
  rw[ji] at h
  refine WL.round (Wp.seq (Wp.seq ?_))
  obtain⟨r4,hr4,h⟩:=aF h
  refine rr [] [(7,vb r4)] [] [0,5,58] [] [(0,.str v0),(5,vi v5),(58,vb (bif (E0 v5 v0) then(!r4) else false))] [] [(((E0 v5 v0)==true)=true->CX Tryz.prog 32 [.str v0,vi v5] (vb r4))] (au.cons (fun hg=>cx (wI n v0 v5 _ (jl hg hr4))) au.nil) (To.ah (cn h (fun h=>?_) (fun h=>?_)))
  ·refine Wp.skip (To.ah (Wp.block (rg [0,5] [] [(0,.str v0),(ex2 v5)] [] (To.bf (To.again ?_)))))
   exact ih (IntKind.wrap .i64 (v5+1)) _ h hQ
  ·refine Wp.exit (To.dE (To.dE (kt [0,5] [] [(0,.str v0),(5,vi v5)] [] ?_)))
   cases h
   exact hQ
def nD(n:Nat)(v0:Bs)(v5:Int)(v32:Bool):Option (Sum (Bs×Int) (Bs×Bs×Int)) :=
 if v32=true then((br n v0 0).bind fun r2 =>
 ((if((r2.2.2 != 0)==false)=true then nG n v0 r2.2.1 else some false)).bind fun r3 =>
 if(bif (r2.2.2 != 0) then true else(!r3))=true then(some (.inr ([],[],0)))
 else(some (.inl (r2.1,r2.2.1))))
 else((ji n v0 n v5).bind fun o4 =>
 if(o4==(List.length v0:Int))=true then(some (.inr ([],[],0)))
 else(if(decide (0<=o4/\o4<=(List.length v0:Int)))=true then((iz n (List.take (Int.toNat o4) v0)).bind fun r5 =>
 if(bif (!r5) then true else((List.take (Int.toNat o4) v0)==[60,60]))=true then(some (.inr ([],[],(-1))))
 else(some (.inl ((List.take (Int.toNat o4) v0),o4)))) else none))
theorem yS(n:Nat)(v0:Bs)(v5:Int)(v32:Bool)(o:Sum (Bs×Int) (Bs×Bs×Int))(h:nD n v0 v5 v32=some o)(hQ:(Sum.elim (fun s=>To 81 F0 w0 [(0,.str v0),(2,.str s.1),(5,vi s.2)] [] .normal Q) (fun s=>To 81 F0 w0 [(2,.str s.1),(3,.str s.2.1),(4,vi s.2.2)] [] .ret Q)) o):Wp Tryz.prog 81 F0 w0 [(0,.str v0),(5,vi v5),(32,vb v32)] [] (cB (cA (cB (cB (cB (cF Tryz.f12)))))) Q:=by
 unfold nD at h
 refine cn h (fun h=>?_) (fun h=>?_)
 ·refine Wp.seq ?_
  obtain⟨r2,hr2,h⟩:=aF h
  refine rc [] 1 [0,6,7,8] [] [(0,.str v0),(6,.str r2.1),(7,vi r2.2.1),(8,vi r2.2.2)] [] (lL n v0 0 _ hr2) (To.ah (Wp.seq (Wp.seq ?_)))
  obtain⟨r3,hr3,h⟩:=aF h
  refine rr [] [(5,vb r3)] [] [0,6,7,46] [] [(0,.str v0),(6,.str r2.1),(7,vi r2.2.1),(46,vb (bif (r2.2.2 != 0) then true else(!r3)))] [] [(((r2.2.2 != 0)==false)=true->CX Tryz.prog 32 [.str v0,vi r2.2.1] (vb r3))] (au.cons (fun hg=>cx (wI n v0 r2.2.1 _ (jl hg hr3))) au.nil) (To.ah (cn h (fun h=>?_) (fun h=>?_)))
  ·refine Wp.seq (rg [2,3,4] [] [(2,.str []),(3,.str []),(4,vi 0)] [] (To.ah (Wp.ret (To.aO ?_))))
   cases h
   exact hQ
  ·refine Wp.skip (To.ah (rg [0,2,5] [] [(0,.str v0),(2,.str r2.1),(5,vi r2.2.1)] [] (kt [0,2,5] [] [(0,.str v0),(2,.str r2.1),(5,vi r2.2.1)] [] ?_)))
   cases h
   exact hQ
 ·refine Wp.seq (Wp.block ?_)
  obtain⟨o4,ho4,h⟩:=aF h
  refine kw [0,5] [] [(0,.str v0),(5,vi v5)] [] (Wp.jB (yV n v0 n v5 o4 ho4 (To.iI (To.ah (Wp.seq (Wp.seq (rg [0,5,64] [] [(0,.str v0),(5,vi o4),(64,vb (o4==(List.length v0:Int)))] [] (To.ah (cn h (fun h=>?_) (fun h=>?_))))))))))
  ·refine Wp.seq (rg [2,3,4] [] [(2,.str []),(3,.str []),(4,vi 0)] [] (To.ah (Wp.ret (To.aO ?_))))
   cases h
   exact hQ
  ·refine Wp.skip (To.ah (Wp.seq ?_))
   obtain⟨hc6,h⟩:=aL h
   refine r0 [0,2,5] [] [(0,.str v0),(2,.str (List.take (Int.toNat o4) v0)),(5,vi o4)] [] (au.cons hc6 au.nil) (To.ah (Wp.seq ?_))
   obtain⟨r5,hr5,h⟩:=aF h
   refine rc [] 1 [0,2,5,74] [] [(0,.str v0),(2,.str (List.take (Int.toNat o4) v0)),(5,vi o4),(74,vb (bif (!r5) then true else((List.take (Int.toNat o4) v0)==[60,60])))] [] (nh n (List.take (Int.toNat o4) v0) _ hr5) (To.ah (cn h (fun h=>?_) (fun h=>?_)))
   ·refine Wp.seq (rg [2,3,4] [] [(2,.str []),(3,.str []),(4,vi (-1))] [] (To.ah (Wp.ret ?_)))
    cases h
    exact hQ
   ·refine Wp.skip (kt [0,2,5] [] [(0,.str v0),(2,.str (List.take (Int.toNat o4) v0)),(5,vi o4)] [] ?_)
    cases h
    exact hQ
def jo(n:Nat)(a0:Bs):Option (Bs×Bs×Int) :=
 if((!((bif (a0==[]) then true else(ft a0))==false)||decide (0<=(0:Int)/\(0:Int)<(List.length a0:Int))))=true then(if((!((bif (bif (a0==[]) then true else(ft a0)) then true else((((a0)[Int.toNat 0]?.getD 0).toNat:Int)==91))==false)||decide (0<=(0:Int)/\(0:Int)<(List.length a0:Int))))=true then(aR ((bif (bif (bif (a0==[]) then true else(ft a0)) then true else((((a0)[Int.toNat 0]?.getD 0).toNat:Int)==91)) then true else((((a0)[Int.toNat 0]?.getD 0).toNat:Int)==123)):Bool) fun x1 =>
 if x1=true then(some ([],[],0))
 else(if(decide (0<=(0:Int)/\(0:Int)<(List.length a0:Int)))=true then(if((!(((((a0)[Int.toNat 0]?.getD 0).toNat:Int)==34)==false)||decide (0<=(0:Int)/\(0:Int)<(List.length a0:Int))))=true then((nD n a0 0 (bif ((((a0)[Int.toNat 0]?.getD 0).toNat:Int)==34) then true else((((a0)[Int.toNat 0]?.getD 0).toNat:Int)==39))).bind fun o2 =>
 (Sum.elim (fun o2=>if(decide (0<=(IntKind.wrap .i64 (o2.2+1))/\(IntKind.wrap .i64 (o2.2+1))<=(List.length a0:Int)))=true then(some (o2.1,(Lib.trimLeftB (List.drop (Int.toNat (IntKind.wrap .i64 (o2.2+1))) a0) 32),1)) else none) (fun o2=>some (o2.1,o2.2.1,o2.2.2))) o2) else none) else none)) else none) else none
abbrev Jf(x0:Bs):=(bif ((pI x0)==34) then true else((pI x0)==39))
theorem vk(n:Nat)(a0:Bs)(r:Bs×Bs×Int)(h:jo n a0=some r):bg Tryz.prog 12 [.str a0] (.tup [.str r.1,.str r.2.1,vi r.2.2]):=by
 unfold jo at h
 refine xo Tryz.f12 rfl fun F0 w0 _=>?_
 refine Wp.seq (rg [0] [] [(0,.str a0)] [] (To.ah (Wp.seq (Wp.seq ?_))))
 obtain⟨hc6,h⟩:=aL h
 obtain⟨hc7,h⟩:=aL h
 obtain⟨x1,hx1,h⟩:=bI h
 refine rr [] [(4,vb (ft a0))] [] [0,24] [] [(0,.str a0),(24,vb (bif (bif (bif (a0==[]) then true else(ft a0)) then true else((pI a0)==91)) then true else((pI a0)==123)))] [] [(((a0==[])==false)=true->CX Tryz.prog 14 [.str a0] (vb (ft a0))),_,_] (au.cons (fun _=>cx (pH a0 _ rfl)) (au.cons hc6 (au.cons hc7 au.nil))) (To.eq (K':=[(0,.str a0),(24,vb x1)]) (L':=[]) (by cases hx1;rfl) (by cases hx1;rfl) (To.ah (cn h (fun h=>?_) (fun h=>?_))))
 ·refine Wp.seq (rg [2,3,4] [] [(2,.str []),(3,.str []),(4,vi 0)] [] (To.ah (Wp.ret (To.aO ?_))))
  cases h
  exact To.done hΓ (by kernel_rfl)
 ·refine Wp.skip (To.ah (Wp.seq (rg [0,5] [] [(0,.str a0),(5,vi 0)] [] (To.ah (Wp.seq (Wp.seq ?_))))))
  obtain⟨hc4,h⟩:=aL h
  obtain⟨hc5,h⟩:=aL h
  refine r0 [0,5,32] [] [(0,.str a0),(5,vi 0),(32,vb (Jf a0))] [] (au.cons hc4 (au.cons hc5 au.nil)) (To.ah ?_)
  obtain⟨o2,ho2,h⟩:=aF h
  refine kw [0,5,32] [] [(0,.str a0),(5,vi 0),(32,vb (Jf a0))] [] (yS n a0 0 (Jf a0) o2 ho2 ?_)
  rcases o2 with o2|o2
  ·replace h:=iU h
   refine To.ah (Wp.seq ?_)
   obtain⟨hc3,h⟩:=aL h
   refine rr [] [(5,.str (Lib.trimLeftB (List.drop (Int.toNat (IntKind.wrap .i64 (o2.2+1))) a0) 32))] [] [2,3,4] [] [(2,.str o2.1),(3,.str (Lib.trimLeftB (List.drop (Int.toNat (IntKind.wrap .i64 (o2.2+1))) a0) 32)),(4,vi 1)] [] [_,(true=true->CX Tryz.prog 34 [.str (List.drop (Int.toNat (IntKind.wrap .i64 (o2.2+1))) a0),.str [32]] (.str (Lib.trimLeftB (List.drop (Int.toNat (IntKind.wrap .i64 (o2.2+1))) a0) 32)))] (au.cons hc3 (au.cons (fun _=>cx (Sh.uN (by decide))) au.nil)) (To.ah (Wp.ret ?_))
   cases h
   exact To.done hΓ (by kernel_rfl)
  ·replace h:=iV h
   refine To.aO ?_
   cases h
   exact To.done hΓ (by kernel_rfl)
theorem bU(l:List (af)):aX (.recs (af.mk 0 [] [] []) dV l):=⟨Nat.le_of_ble_eq_true (by kernel_rfl),fun _=>⟨rfl,rfl⟩⟩
end Go.Proofs.YtefojkdckfidcaaGreatDoor.M
