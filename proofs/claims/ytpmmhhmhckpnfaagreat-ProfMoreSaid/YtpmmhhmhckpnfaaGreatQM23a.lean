import Derived.Test.YtpmmhhmhckpnfaaGreatQRxAnyB
import Derived.Test.YtpmmhhmhckpnfaaGreatQRxOrd
import Derived.Test.YtpmmhhmhckpnfaaGreatProg
set_option linter.all false
namespace Go.Proofs.YtpmmhhmhckpnfaaGreat.M
open Go.RowKit Go.Proofs.YtpmmhhmhckpnfaaGreat.RX
set_option maxRecDepth 100000
def tab:List (Nat×TI):=[
 (3,{ agg:=false,size:=1,zero:=[.int .i64 0],kind:=.int .i64,eqs:=[] }),
 (4,{ agg:=false,size:=1,zero:=[.bool false],kind:=.bool,eqs:=[] }),
 (5,{ agg:=false,size:=1,zero:=[.int .u8 0],kind:=.int .u8,eqs:=[] }),
 (9,{ agg:=false,size:=1,zero:=[.string ⟨#[]⟩],kind:=.str,eqs:=[] }),
 (22,{ agg:=false,size:=1,zero:=[.slice none 0 0],kind:=.slice 1 false,elt:=9,eb:=16,ez:=[.string ⟨#[]⟩],ek:=none,eqs:=[] }),
 (23,{ agg:=false,size:=1,zero:=[.slice none 0 0],kind:=.slice 4 true,elt:=25,eb:=72,ez:=[.int .i64 0,.string ⟨#[]⟩,.slice none 0 0,.slice none 0 0],ek:=none,eqs:=[] }),
 (25,{ agg:=true,size:=4,zero:=[.int .i64 0,.string ⟨#[]⟩,.slice none 0 0,.slice none 0 0],kind:=.struct [(0,1,false),(1,1,false),(2,1,false),(3,1,false)],eqs:=[] }),
 (29,{ agg:=false,size:=1,zero:=[.int .i64 0],kind:=.int .i64,eqs:=[] }),
 (31,{ agg:=true,size:=6,zero:=[.int .i64 0,.string ⟨#[]⟩,.slice none 0 0,.slice none 0 0,.string ⟨#[]⟩,.int .i64 0],kind:=.struct [(0,4,true),(4,1,false),(5,1,false)],eqs:=[] }),
 (74,{ agg:=false,size:=1,zero:=[.slice none 0 0],kind:=.slice 1 false,elt:=22,eb:=24,ez:=[.slice none 0 0],ek:=none,eqs:=[] }),
 (76,{ agg:=false,size:=1,zero:=[.slice none 0 0],kind:=.slice 1 false,elt:=23,eb:=24,ez:=[.slice none 0 0],ek:=none,eqs:=[] }),
 (93,{ agg:=false,size:=1,zero:=[.int .u64 0],kind:=.int .u64,eqs:=[] }),
 (104,{ agg:=true,size:=3,zero:=[.string ⟨#[]⟩,.string ⟨#[]⟩,.bool false],kind:=.struct [(0,1,false),(1,1,false),(2,1,false)],eqs:=[] }),
 (124,{ agg:=true,size:=4,zero:=[.string ⟨#[]⟩,.int .i64 0,.int .i64 0,.string ⟨#[]⟩],kind:=.struct [(0,1,false),(1,1,false),(2,1,false),(3,1,false)],eqs:=[] }),
 (138,{ agg:=true,size:=4,zero:=[.int .i64 0,.int .i64 0,.int .i64 0,.int .i64 0],kind:=.array 4 1 false,eqs:=[] }),
 (142,{ agg:=true,size:=4,zero:=[.string ⟨#[]⟩,.string ⟨#[]⟩,.string ⟨#[]⟩,.string ⟨#[]⟩],kind:=.array 4 1 false,eqs:=[] }),
 (144,{ agg:=false,size:=1,zero:=[.slice none 0 0],kind:=.slice 1 false,elt:=5,eb:=1,ez:=[.int .u8 0],ek:=some .u8,eqs:=[] })]
theorem UV:yK Tryz.prog tab:=⟨⟨by kernel_rfl,fun h=>absurd rfl h⟩,⟨by kernel_rfl,fun h=>absurd rfl h⟩,⟨by kernel_rfl,fun h=>absurd rfl h⟩,⟨by kernel_rfl,fun h=>absurd rfl h⟩,⟨by kernel_rfl,fun h=>absurd rfl h⟩,⟨by kernel_rfl,fun h=>absurd rfl h⟩,⟨by kernel_rfl,fun h=>absurd rfl h⟩,⟨by kernel_rfl,fun h=>absurd rfl h⟩,⟨by kernel_rfl,fun h=>absurd rfl h⟩,⟨by kernel_rfl,fun h=>absurd rfl h⟩,⟨by kernel_rfl,fun h=>absurd rfl h⟩,⟨by kernel_rfl,fun h=>absurd rfl h⟩,⟨by kernel_rfl,fun h=>absurd rfl h⟩,⟨by kernel_rfl,fun h=>absurd rfl h⟩,⟨by kernel_rfl,fun h=>absurd rfl h⟩,⟨by kernel_rfl,fun h=>absurd rfl h⟩,⟨by kernel_rfl,fun h=>absurd rfl h⟩,trivial⟩
theorem hΓ:ΓOK Tryz.prog (E2 tab):=ΓOK.of UV
theorem hm:Tryz.prog.follows .mixedOrders=true:=by kernel_rfl
structure af where
 av:Int
 aC:Bs
 ak:Ls
 aj:List (af)
def aW:Bs->List D:=fun x=>[.str x]
abbrev vi(x:Int):D:=.val (.int .i64 x)
abbrev vb(x:Bool):D:=.val (.bool x)
abbrev ls(l:Ls):D:=.recs (α:=Bs) [] aW l
theorem rg{nt:Nat}{F0:Fz}{w0:Pt Tryz.prog}{K:List (Nat×D)}{L:aG}{Q:Exit->Act->World->Prop}{id:Nat}{l:List Oper}(kk kl:List Nat)(K':List (Nat×D))(L':aG)(hn:To nt F0 w0 K' L' .normal Q)(h:rF (CX Tryz.prog) (dh Tryz.prog) (E2 tab) nt [] [] l [] K L kk kl=some (K',L',[]):=by kernel_rfl):Wp Tryz.prog nt F0 w0 K L (.region id l.toArray false) Q:=Wp.region hΓ [] [] [] kk kl h ai.nil hn
theorem rr{nt:Nat}{F0:Fz}{w0:Pt Tryz.prog}{K:List (Nat×D)}{L:aG}{Q:Exit->Act->World->Prop}{id:Nat}{l:List Oper}(fz:List (Nat×List Nat))(orc:List (Nat×D))(orb:List (Nat×CBd))(kk kl:List Nat)(K':List (Nat×D))(L':aG)(ob:List Prop)(hob:ai ob)(hn:To nt F0 w0 K' L' .normal Q)(h:rF (CX Tryz.prog) (dh Tryz.prog) (E2 tab) nt orc orb l fz K L kk kl=some (K',L',ob):=by kernel_rfl):Wp Tryz.prog nt F0 w0 K L (.region id l.toArray false) Q:=Wp.region hΓ fz orc orb kk kl h hob hn
theorem kw{nt:Nat}{F0:Fz}{w0:Pt Tryz.prog}{K:List (Nat×D)}{L:aG}{Q:Exit->Act->World->Prop}{c:Code}(kk kl:List Nat)(K':List (Nat×D))(L':aG)(hn:Wp Tryz.prog nt F0 w0 K' L' c Q)(h1:qc K kk=some K':=by kernel_rfl)(h2:jX L kl=some L':=by kernel_rfl):Wp Tryz.prog nt F0 w0 K L c Q:=Wp.keep h1 h2 hn
theorem kt{nt:Nat}{F0:Fz}{w0:Pt Tryz.prog}{K:List (Nat×D)}{L:aG}{Q:Exit->Act->World->Prop}{e:Exit}(kk kl:List Nat)(K':List (Nat×D))(L':aG)(hn:To nt F0 w0 K' L' e Q)(h1:qc K kk=some K':=by kernel_rfl)(h2:jX L kl=some L':=by kernel_rfl):To nt F0 w0 K L e Q:=To.keep h1 h2 hn
theorem r0{nt:Nat}{F0:Fz}{w0:Pt Tryz.prog}{K:List (Nat×D)}{L:aG}{Q:Exit->Act->World->Prop}{id:Nat}{l:List Oper}{ob:List Prop}(kk kl:List Nat)(K':List (Nat×D))(L':aG)(hob:ai ob)(hn:To nt F0 w0 K' L' .normal Q)(h:rF (CX Tryz.prog) (dh Tryz.prog) (E2 tab) nt [] [] l [] K L kk kl=some (K',L',ob):=by kernel_rfl):Wp Tryz.prog nt F0 w0 K L (.region id l.toArray false) Q:=Wp.region hΓ [] [] [] kk kl h hob hn
theorem rc{nt:Nat}{F0:Fz}{w0:Pt Tryz.prog}{K:List (Nat×D)}{L:aG}{Q:Exit->Act->World->Prop}{id:Nat}{l:List Oper}{f:Nat}{ds:List D}{r:D}(fz:List (Nat×List Nat))(i:Nat)(kk kl:List Nat)(K':List (Nat×D))(L':aG)(hc:aJ Tryz.prog f ds r)(hn:To nt F0 w0 K' L' .normal Q)(h:rF (CX Tryz.prog) (dh Tryz.prog) (E2 tab) nt [(i,r)] [] l fz K L kk kl=some (K',L',[(true=true->CX Tryz.prog f ds r)]):=by kernel_rfl):Wp Tryz.prog nt F0 w0 K L (.region id l.toArray false) Q:=Wp.region hΓ fz [(i,r)] [] kk kl h (ai.cons (fun _=>cx hc) ai.nil) hn
theorem rb{nt:Nat}{F0:Fz}{w0:Pt Tryz.prog}{K:List (Nat×D)}{L:aG}{Q:Exit->Act->World->Prop}{id:Nat}{l:List Oper}{f:Nat}(fz:List (Nat×List Nat))(i:Nat)(c:CBd)(kk kl:List Nat)(K':List (Nat×D))(L':aG)(hc:dh Tryz.prog f c.ds c.Lin c.r c.iN)(hn:To nt F0 w0 K' L' .normal Q)(h:rF (CX Tryz.prog) (dh Tryz.prog) (E2 tab) nt [] [(i,c)] l fz K L kk kl=some (K',L',[AX (dh Tryz.prog) f (D.subs (dB never c.ren) c.ds) (c.Lin.map fun x=>some (x.2.1,D.subs (dB never c.ren) x.2.2)) c]):=by kernel_rfl):Wp Tryz.prog nt F0 w0 K L (.region id l.toArray false) Q:=Wp.region hΓ fz [] [(i,c)] kk kl h (ai.cons ⟨hc,rfl,rfl⟩ ai.nil) hn
theorem c1{f:Nat}{ds:List D}{r:D}(h:aJ Tryz.prog f ds r):true=true->CX Tryz.prog f ds r:=fun _=>cx h
theorem cn{nt:Nat}{F0:Fz}{w0:Pt Tryz.prog}{K:List (Nat×D)}{L:aG}{Q:Exit->Act->World->Prop}{t:Nat}{x y:Code}{b:Bool}{α:Type _}{p q r:α}(h:(if b=true then p else q)=r)(h1:p=r->Wp Tryz.prog nt F0 w0 K L x Q)(h2:q=r->Wp Tryz.prog nt F0 w0 K L y Q)(hc:K.lookup t=some (.val (.bool b)):=by kernel_rfl):Wp Tryz.prog nt F0 w0 K L (.cond (.tmp t) x y) Q:=Wp.cond hc (fun hb=>h1 (jB hb h)) (fun hb=>h2 (U4 hb h))
theorem xo{f : Nat}(fn : Func){c : Code}{ds : List D}{r : D}(hbody : fn.body=some c)(h : ∀(F0 : Fz)(w0 : World)(hsh : Shp Tryz.prog w0),Wp Tryz.prog fn.ntmps F0 (.top w0 hsh) (ds.zipIdx.map fun x=>(x.2,x.1)) [] c (bodyPost Tryz.prog fn (vw F0 w0 r)))(hf : Tryz.prog.funcs[f]? = some fn:=by kernel_rfl)(hname : (fn.name == "runtime.NumGoroutine")=false:=by kernel_rfl)(hn : ds.length.ble fn.ntmps=true:=by kernel_rfl) : aJ Tryz.prog f ds r:=I9 hf hbody hname (Nat.le_of_ble_eq_true hn) h
theorem bo{f : Nat}(fn : Func){c : Code}{ds : List D}{Lin : aG}{r : D}{iN : aG}(hbody : fn.body=some c)(h : ∀(F0 : Fz)(w0 : Pt Tryz.prog),Wp Tryz.prog fn.ntmps F0 w0.cl (ds.zipIdx.map fun x=>(x.2,x.1)) Lin c (bodyPost Tryz.prog fn (PostB F0 w0.cl r iN)))(hf : Tryz.prog.funcs[f]? = some fn:=by kernel_rfl)(hname : (fn.name == "runtime.NumGoroutine")=false:=by kernel_rfl)(hn : ds.length.ble fn.ntmps=true:=by kernel_rfl) : dh Tryz.prog f ds Lin r iN:=Qk hf hbody hname (Nat.le_of_ble_eq_true hn) h
def rnA:List (Nat×Nat)->List (Nat×D)->aG->Option (List (Nat×D)×aG)
 |[],K,L=>some (K,L)
 |x::rs,K,L=>if(Nat.blt x.2 1000000&&oZ x.2 K L)=true then rnA rs (Ux x.1 x.2 K) (Om x.1 x.2 L) else none
theorem K8{nt:Nat}{F0:Fz}{w0:Pt Tryz.prog}:∀(rs:List (Nat×Nat)){K K':List (Nat×D)}{L L':aG},rnA rs K L=some (K',L')->∀a w,St nt F0 w0 K L a w->St nt F0 w0 K' L' a w
 |[],_,_,_,_,h,_,_,hs=>by cases h;exact hs
 |x::rs,K,K',L,L',h,a,w,hs=>by
  unfold rnA at h
  split at h
  ·rename_i hc
   rw[Bool.and_eq_true] at hc
   exact K8 rs h a w (St.rename x.1 x.2 (by simpa using hc.1) hc.2 rfl rfl a w hs)
  ·cases h
def knA(rs:List (Nat×Nat))(k0 l0 kk kl:List Nat)(K:List (Nat×D))(L:aG):Option (List (Nat×D)×aG) :=
 match qc K k0,jX L l0 with
 |some K0,some L0=>(match rnA rs K0 L0 with
  |some (K1,L1)=>(match qc K1 kk,jX L1 kl with|some K2,some L2=>some (K2,L2)|_,_=>none)
  |none=>none)
 |_,_=>none
theorem QA{nt:Nat}{F0:Fz}{w0:Pt Tryz.prog}{rs:List (Nat×Nat)}{k0 l0 kk kl:List Nat}{K K':List (Nat×D)}{L L':aG}(h:knA rs k0 l0 kk kl K L=some (K',L')):∃K0 L0 K1 L1,qc K k0=some K0/\jX L l0=some L0/\rnA rs K0 L0=some (K1,L1)/\qc K1 kk=some K'/\jX L1 kl=some L':=by
 unfold knA at h
 split at h
 ·rename_i K0 L0 e1 e2
  split at h
  ·rename_i K1 L1 e3
   split at h
   ·rename_i K2 L2 e4 e5
    cases h
    exact⟨K0,L0,K1,L1,e1,e2,e3,e4,e5⟩
   ·cases h
  ·cases h
 ·cases h
theorem nw{nt:Nat}{F0:Fz}{w0:Pt Tryz.prog}{K:List (Nat×D)}{L:aG}{Q:Exit->Act->World->Prop}{c:Code}(k0 l0:List Nat)(rs:List (Nat×Nat))(kk kl:List Nat)(K':List (Nat×D))(L':aG)(hn:Wp Tryz.prog nt F0 w0 K' L' c Q)(h:knA rs k0 l0 kk kl K L=some (K',L'):=by kernel_rfl):Wp Tryz.prog nt F0 w0 K L c Q :=
 let ⟨_,_,_,_,e1,e2,e3,e4,e5⟩:=QA (w0:=w0) (F0:=F0) (nt:=nt) h
 Wp.keep e1 e2 (Wp.pre (K8 rs e3) (Wp.keep e4 e5 hn))
theorem nt{nt:Nat}{F0:Fz}{w0:Pt Tryz.prog}{K:List (Nat×D)}{L:aG}{Q:Exit->Act->World->Prop}{e:Exit}(k0 l0:List Nat)(rs:List (Nat×Nat))(kk kl:List Nat)(K':List (Nat×D))(L':aG)(hn:To nt F0 w0 K' L' e Q)(h:knA rs k0 l0 kk kl K L=some (K',L'):=by kernel_rfl):To nt F0 w0 K L e Q :=
 let ⟨_,_,_,_,e1,e2,e3,e4,e5⟩:=QA (w0:=w0) (F0:=F0) (nt:=nt) h
 To.keep e1 e2 (To.pre (K8 rs e3) (To.keep e4 e5 hn))
def fF:af->List D:=fun x=>[.val (.int .i64 x.av),.str x.aC,.recs (α:=Bs) [] aW x.ak]
def eQ:af->List (af):=fun x=>x.aj
def zh:af->List D:=tX (af.mk 0 [] [] []) fF eQ
def bY:af->List D:=zh
theorem aI(l:Ls):aM (.recs [] aW l):=⟨Nat.le_of_ble_eq_true (by kernel_rfl),fun _=>⟨rfl,rfl⟩⟩
def l6(n:Nat)(v0:Ls)(v3:Ls)(v4:Int)(v5:Int):Option (Int) :=
 if((!(((List.length v3:Int)==0)==false)||decide (0<=v5/\v5<(List.length v0:Int))))=true then(if((!(((List.length v3:Int)==0)==false)||decide (0<=(IntKind.wrap .i64 ((List.length v3:Int)-1))/\(IntKind.wrap .i64 ((List.length v3:Int)-1))<(List.length v3:Int))))=true then(if((!(((decide (v4<0))==false)&&((bif ((List.length v3:Int)==0) then true else(!(Op.bytesLess ((v0)[Int.toNat v5]?.getD []) ((v3)[Int.toNat (IntKind.wrap .i64 ((List.length v3:Int)-1))]?.getD [])||((v0)[Int.toNat v5]?.getD [])==((v3)[Int.toNat (IntKind.wrap .i64 ((List.length v3:Int)-1))]?.getD []))))==true))||decide (0<=v5/\v5<(List.length v0:Int))))=true then(if((!(((decide (v4<0))==false)&&((bif ((List.length v3:Int)==0) then true else(!(Op.bytesLess ((v0)[Int.toNat v5]?.getD []) ((v3)[Int.toNat (IntKind.wrap .i64 ((List.length v3:Int)-1))]?.getD [])||((v0)[Int.toNat v5]?.getD [])==((v3)[Int.toNat (IntKind.wrap .i64 ((List.length v3:Int)-1))]?.getD []))))==true))||decide (0<=v4/\v4<(List.length v0:Int))))=true then(aQ ((bif (bif ((List.length v3:Int)==0) then true else(!(Op.bytesLess ((v0)[Int.toNat v5]?.getD []) ((v3)[Int.toNat (IntKind.wrap .i64 ((List.length v3:Int)-1))]?.getD [])||((v0)[Int.toNat v5]?.getD [])==((v3)[Int.toNat (IntKind.wrap .i64 ((List.length v3:Int)-1))]?.getD [])))) then(bif (decide (v4<0)) then true else(Op.bytesLess ((v0)[Int.toNat v5]?.getD []) ((v0)[Int.toNat v4]?.getD []))) else false):Bool) fun x1 =>
 if x1=true then some v5
 else some v4) else none) else none) else none) else none
abbrev rc1(l:Ls):D:=.aX false (α:=Bs) [] aW l
abbrev ex1(x0:Int)(x1:Ls):=(0<=x0/\x0<(List.length x1:Int))
abbrev ex2(x0:Ls)(x1:Ls)(x2:Int):=(bif ((List.length x0:Int)==0) then true else(!(Op.bytesLess ((x1)[Int.toNat x2]?.getD []) ((x0)[Int.toNat (IntKind.wrap .i64 ((List.length x0:Int)-1))]?.getD [])||((x1)[Int.toNat x2]?.getD [])==((x0)[Int.toNat (IntKind.wrap .i64 ((List.length x0:Int)-1))]?.getD []))))
variable {F0:Fz} {w0:Pt Tryz.prog} {Q:Exit->Act->World->Prop}
theorem AB(n:Nat)(v0:Ls)(v3:Ls)(v4:Int)(v5:Int)(o:Int)(h:l6 n v0 v3 v4 v5=some o)(hQ:To 55 F0 w0 [(0,ls v0),(3,.row 1003),(4,vi o),(5,vi v5)] [(1003,9,[rc1 v3])] .normal Q):Wp Tryz.prog 55 F0 w0 [(0,ls v0),(3,.row 1003),(4,vi v4),(5,vi v5)] [(1003,9,[rc1 v3])] (cA (cB (cI (cI (cB (cA (cB (cI (cI (cI (cB (cB (cF Tryz.f40))))))))))))) Q:=by
 unfold l6 at h
 refine Wp.block (Wp.seq ?_)
 obtain⟨hc2,h⟩:=ax h
 obtain⟨hc3,h⟩:=ax h
 obtain⟨hc4,h⟩:=ax h
 obtain⟨hc5,h⟩:=ax h
 obtain⟨x1,hx1,h⟩:=aS h
 refine Wp.bI hm hΓ [] [0,3,4,5,43] [1003] (K':=[(0,ls v0),(3,.row 1003),(4,vi v4),(5,vi v5),(43,vb (bif (ex2 v3 v0 v5) then(bif (decide (v4<0)) then true else(Op.bytesLess ((v0)[Int.toNat v5]?.getD []) ((v0)[Int.toNat v4]?.getD []))) else false))]) (L':=[(1003,9,[rc1 v3])]) (ob:=[(!(((List.length v3:Int)==0)==false)||decide (ex1 v5 v0))=true,(!(((List.length v3:Int)==0)==false)||decide (0<=(IntKind.wrap .i64 ((List.length v3:Int)-1))/\(IntKind.wrap .i64 ((List.length v3:Int)-1))<(List.length v3:Int)))=true,(!(((List.length v3:Int)==0)==false)||decide (0<=(IntKind.wrap .i64 ((List.length v3:Int)-1))/\(IntKind.wrap .i64 ((List.length v3:Int)-1))<(List.length v3:Int)))=true,(!(((decide (v4<0))==false)&&((ex2 v3 v0 v5)==true))||decide (ex1 v5 v0))=true,(!(((decide (v4<0))==false)&&((ex2 v3 v0 v5)==true))||decide (ex1 v4 v0))=true]) (by kernel_rfl) (ai.cons hc2 (ai.cons hc3 (ai.cons hc3 (ai.cons hc4 (ai.cons hc5 ai.nil))))) (To.eq (K':=[(0,ls v0),(3,.row 1003),(4,vi v4),(5,vi v5),(43,vb x1)]) (L':=[(1003,9,[rc1 v3])]) (by cases hx1;rfl) (by cases hx1;rfl) (To.ah (cn h (fun h=>?_) (fun h=>?_))))
 ·refine rg [0,3,4,5] [1003] [(0,ls v0),(3,.row 1003),(4,vi v5),(5,vi v5)] [(1003,9,[rc1 v3])] (To.aR ?_)
  cases h
  exact hQ
 ·refine Wp.skip (To.aR (kt [0,3,4,5] [1003] [(0,ls v0),(3,.row 1003),(4,vi v4),(5,vi v5)] [(1003,9,[rc1 v3])] ?_))
  cases h
  exact hQ
def jr(n:Nat)(v0:Ls)(v3:Ls):Nat->Int->Int->Option (Int)
 |0,_,_=>none
 |k+1,v4,v5=>if(decide (v5<(List.length v0:Int)))=true then((l6 n v0 v3 v4 v5).bind fun o1 =>
 jr n v0 v3 k o1 (IntKind.wrap .i64 (v5+1)))
 else some v4
abbrev ex3(x0:Int):Nat×D:=(5,vi (IntKind.wrap .i64 (x0+1)))
abbrev ex4(x0:Int)(x1:Ls):=(decide (x0<(List.length x1:Int)))
theorem AO(n:Nat)(v0:Ls)(v3:Ls)(k:Nat):∀(v4:Int)(v5:Int)(o:Int),jr n v0 v3 k v4 v5=some o->To 55 F0 w0 [(0,ls v0),(3,.row 1003),(4,vi o)] [(1003,9,[rc1 v3])] (.exit 2) Q->WL Tryz.prog 55 F0 w0 [(0,ls v0),(3,.row 1003),(4,vi v4),(5,vi v5)] [(1003,9,[rc1 v3])] (cI (cI (cB (cA (cB (cI (cI (cI (cB (cB (cF Tryz.f40))))))))))) Q:=by
 induction k with
 |zero=>intro v4 v5 o h;cases h
 |succ k ih =>
  intro v4 v5 o h hQ
  rw[jr] at h
  refine WL.round (Wp.seq (Wp.seq (rg [0,3,4,5,10] [1003] [(0,ls v0),(3,.row 1003),(4,vi v4),(5,vi v5),(10,vb (ex4 v5 v0))] [(1003,9,[rc1 v3])] (To.ah (cn h (fun h=>?_) (fun h=>?_))))))
  ·refine Wp.skip (To.ah (Wp.seq ?_))
   obtain⟨o1,ho1,h⟩:=au h
   refine kw [0,3,4,5] [1003] [(0,ls v0),(3,.row 1003),(4,vi v4),(5,vi v5)] [(1003,9,[rc1 v3])] (AB n v0 v3 v4 v5 o1 ho1 (To.ah (rg [0,3,4,5] [1003] [(0,ls v0),(3,.row 1003),(4,vi o1),(ex3 v5)] [(1003,9,[rc1 v3])] (kt [0,3,4,5] [1003] [(0,ls v0),(3,.row 1003),(4,vi o1),(ex3 v5)] [(1003,9,[rc1 v3])] (To.again ?_)))))
   exact ih o1 (IntKind.wrap .i64 (v5+1)) _ h hQ
  ·refine Wp.exit (To.aK (To.aK (kt [0,3,4] [1003] [(0,ls v0),(3,.row 1003),(4,vi v4)] [(1003,9,[rc1 v3])] ?_)))
   cases h
   exact hQ
def ku(n:Nat)(v0:Ls):Nat->(Ls)->Option ((Ls))
 |0,_=>none
 |k+1,v3=>(jr n v0 v3 n (-1) 0).bind fun o1 =>
 if(decide (o1<0))=true then some v3
 else(if(decide (0<=o1/\o1<(List.length v0:Int)))=true then(if(decide ((List.length v3+List.length ([((v0)[Int.toNat o1]?.getD [])]:Ls))*(16+1)<=limit))=true then(ku n v0 k (v3++([((v0)[Int.toNat o1]?.getD [])]:Ls))) else none) else none)
theorem zU(n:Nat)(v0:Ls)(k:Nat):∀(v3:Ls)(o:(Ls)),ku n v0 k v3=some o->To 55 F0 w0 [(2,.row 1002)] [(1002,9,[rc1 o])] .ret Q->WL Tryz.prog 55 F0 w0 [(0,ls v0),(3,.row 1003)] [(1003,9,[rc1 v3])] (cI (cI (cB (cB (cF Tryz.f40))))) Q:=by
 induction k with
 |zero=>intro v3 o h;cases h
 |succ k ih =>
  intro v3 o h hQ
  rw[ku] at h
  refine WL.round (Wp.block (Wp.seq (rg [0,3,4] [1003] [(0,ls v0),(3,.row 1003),(4,vi (-1))] [(1003,9,[rc1 v3])] (To.ah (Wp.seq (Wp.seq (rg [0,3,4,5] [1003] [(0,ls v0),(3,.row 1003),(4,vi (-1)),(5,vi 0)] [(1003,9,[rc1 v3])] (To.ah (Wp.block ?_)))))))))
  obtain⟨o1,ho1,h⟩:=au h
  refine kw [0,3,4,5] [1003] [(0,ls v0),(3,.row 1003),(4,vi (-1)),(5,vi 0)] [(1003,9,[rc1 v3])] (Wp.bE (AO n v0 v3 n (-1) 0 o1 ho1 (To.aY (To.ah (Wp.seq (Wp.seq (rg [0,3,4,46] [1003] [(0,ls v0),(3,.row 1003),(4,vi o1),(46,vb (decide (o1<0)))] [(1003,9,[rc1 v3])] (To.ah (cn h (fun h=>?_) (fun h=>?_))))))))))
  ·refine Wp.seq (rg [2] [1003] [(2,.row 1003)] [(1003,9,[rc1 v3])] (To.ah (Wp.ret (To.aA (To.aP (To.aA (nt [2] [1003] [(1003,1002)] [2] [1002] [(2,.row 1002)] [(1002,9,[rc1 v3])] ?_)))))))
   cases h
   exact hQ
  ·refine Wp.skip (To.ah ?_)
   obtain⟨hc2,h⟩:=ax h
   obtain⟨hc3,h⟩:=ax h
   refine rr [] [(5,ls ([((v0)[Int.toNat o1]?.getD [])])),(6,ls (v3++([((v0)[Int.toNat o1]?.getD [])]:Ls)))] [] [0,3] [54] [(0,ls v0),(3,.row 54)] [(54,9,[rc1 (v3++([((v0)[Int.toNat o1]?.getD [])]:Ls))])] [_,(ck 1 [.str ((v0)[Int.toNat o1]?.getD [])] 1 (ls ([((v0)[Int.toNat o1]?.getD [])]))/\aM (ls ([((v0)[Int.toNat o1]?.getD [])]))),_,(gY [] aW v3 (List.flatMap aW ([((v0)[Int.toNat o1]?.getD [])]:Ls)) (List.length ([((v0)[Int.toNat o1]?.getD [])]:Ls)) (ls (v3++([((v0)[Int.toNat o1]?.getD [])]:Ls)))/\aM (ls (v3++([((v0)[Int.toNat o1]?.getD [])]:Ls))))] (ai.cons hc2 (ai.cons (du (by kernel_rfl) rfl (by kernel_rfl) (aI _)) (ai.cons hc3 (ai.cons (iI rfl rfl (aI _)) ai.nil)))) (To.aR (nt [0,3] [54] [(54,1003)] [0,3] [1003] [(0,ls v0),(3,.row 1003)] [(1003,9,[rc1 (v3++([((v0)[Int.toNat o1]?.getD [])]:Ls))])] (To.again ?_)))
   exact ih (v3++([((v0)[Int.toNat o1]?.getD [])]:Ls)) _ h hQ
def jH(n:Nat)(a0:Ls):Option ((Ls)) :=
 (ku n a0 n ([]:Ls)).bind fun o1 =>
 some o1
abbrev rc2(l:Ls):D:=.aX true (α:=Bs) [] aW l
theorem sJ(n:Nat)(a0:Ls)(r:(Ls))(h:jH n a0=some r):aJ Tryz.prog 40 [ls a0] (ls r):=by
 unfold jH at h
 refine xo Tryz.f40 rfl fun F0 w0 _=>?_
 refine Wp.seq (rg [0] [] [(0,ls a0)] [] (To.ah (Wp.seq (rr [] [(0,ls [])] [] [0,3] [6] [(0,ls a0),(3,.row 6)] [(6,9,[rc1 []])] [(ck 1 [] 0 (ls [])/\aM (ls []))] (ai.cons (du (by kernel_rfl) rfl (by kernel_rfl) (aI _)) ai.nil) (To.ah (Wp.block ?_))))))
 obtain⟨o1,ho1,h⟩:=au h
 refine nw [0,3] [6] [(6,1003)] [0,3] [1003] [(0,ls a0),(3,.row 1003)] [(1003,9,[rc1 []])] (Wp.bE (zU n a0 n ([]:Ls) o1 ho1 (To.aP (kt [2] [1002] [(2,.row 1002)] [(1002,9,[rc1 o1])] (To.pre (St.settle (ks:=[1002]) (kk:=[2]) (kl:=[1002]) (K':=[(2,.row 1002)]) (L':=[(1002,9,[rc2 o1])]) (by kernel_rfl)) (To.pre (St.xk [2] (K':=[(2,ls o1)]) (by kernel_rfl)) ?_))))))
 cases h
 exact To.done hΓ (by kernel_rfl)
def cH(R_ref08_Left:af->Int->Int->Option (Int))(n:Nat)(v1:Int)(b3:af):Nat->Int->Int->Option (Sum (Int) (Int))
 |0,_,_=>none
 |k+1,v2,v7=>if(decide (v7<(List.length b3.aj:Int)))=true then(if(decide (0<=v7/\v7<(List.length b3.aj:Int)))=true then((R_ref08_Left ((b3.aj)[Int.toNat v7]?.getD (af.mk 0 [] [] [])) (IntKind.wrap .i64 (v1+1)) v2).bind fun r5 =>
 if(decide (r5<0))=true then(some (.inr (-1)))
 else(cH R_ref08_Left n v1 b3 k r5 (IntKind.wrap .i64 (v7+1)))) else none)
 else(some (.inl v2))
abbrev zx3:af:=af.mk 0 [] [] []
abbrev tn4(l:List (af)):D:=.tree (α:=af) zx3 fF eQ l
abbrev hR5(R_ref08_Left:af->Int->Int->Option (Int)):Prop:=∀(a0:af)(a1:Int)(a2:Int)(r:Int),R_ref08_Left a0 a1 a2=some r->aJ Tryz.prog 23 [.agg [vi a0.av,.str a0.aC,ls a0.ak,tn4 a0.aj],vi a1,vi a2] (vi r)
abbrev qc6(x:af):List D:=[vi x.av,.str x.aC,ls x.ak,tn4 x.aj]
abbrev ex5(x0:af)(x1:Int):=((x0.aj)[Int.toNat x1]?.getD zx3)
abbrev ex6(x0:Int)(x1:af):=(0<=x0/\x0<(List.length x1.aj:Int))
abbrev ex7(x0:Int):Nat×D:=(7,vi (IntKind.wrap .i64 (x0+1)))
abbrev ex8(x0:Int)(x1:af):=(decide (x0<(List.length x1.aj:Int)))
theorem Ea(R_ref08_Left:af->Int->Int->Option (Int))(hR_ref08_Left:hR5 R_ref08_Left)(n:Nat)(v1:Int)(b3:af)(k:Nat):∀(v2:Int)(v7:Int)(o:Sum (Int) (Int)),cH R_ref08_Left n v1 b3 k v2 v7=some o->(Sum.elim (fun s=>To 105 F0 w0 [(2,vi s)] [] (.exit 0) Q) (fun s=>To 105 F0 w0 [(6,vi s)] [] .ret Q)) o->WL Tryz.prog 105 F0 w0 [(1,vi v1),(2,vi v2),(3,.own 3 0),(7,vi v7)] [(3,25,qc6 b3)] (cI (cI (cB (cA (cB (cB (cB (cB (cB (cF Tryz.f23)))))))))) Q:=by
 induction k with
 |zero=>intro v2 v7 o h;cases h
 |succ k ih =>
  intro v2 v7 o h hQ
  rw[cH] at h
  refine WL.round (Wp.seq (Wp.seq (rg [1,2,3,7,90] [3] [(1,vi v1),(2,vi v2),(3,.own 3 0),(7,vi v7),(90,vb (ex8 v7 b3))] [(3,25,qc6 b3)] (To.ah (cn h (fun h=>?_) (fun h=>?_))))))
  ·refine Wp.skip (To.ah (Wp.seq (Wp.block (Wp.seq ?_))))
   obtain⟨hc6,h⟩:=ax h
   obtain⟨r5,hr5,h⟩:=au h
   refine rr [] [(8,vi r5)] [] [1,2,3,7] [3] [(1,vi v1),(2,vi r5),(3,.own 3 0),(7,vi v7)] [(3,25,qc6 b3)] [_,(true=true->CX Tryz.prog 23 [.agg [vi ((ex5 b3 v7).av),.str ((ex5 b3 v7).aC),ls ((ex5 b3 v7).ak),tn4 ((ex5 b3 v7).aj)],vi (IntKind.wrap .i64 (v1+1)),vi v2] (vi r5))] (ai.cons hc6 (ai.cons (fun _=>cx (hR_ref08_Left (ex5 b3 v7) (IntKind.wrap .i64 (v1+1)) v2 _ hr5)) ai.nil)) (To.ah (Wp.seq (rg [1,2,3,7,103] [3] [(1,vi v1),(2,vi r5),(3,.own 3 0),(7,vi v7),(103,vb (decide (r5<0)))] [(3,25,qc6 b3)] (To.ah (cn h (fun h=>?_) (fun h=>?_))))))
   ·refine Wp.seq (rg [6] [] [(6,vi (-1))] [] (To.ah (Wp.ret (To.aP (To.aA (To.aA ?_))))))
    cases h
    exact hQ
   ·refine Wp.skip (To.aR (To.ah (rg [1,2,3,7] [3] [(1,vi v1),(2,vi r5),(3,.own 3 0),(ex7 v7)] [(3,25,qc6 b3)] (kt [1,2,3,7] [3] [(1,vi v1),(2,vi r5),(3,.own 3 0),(ex7 v7)] [(3,25,qc6 b3)] (To.again ?_)))))
    exact ih r5 (IntKind.wrap .i64 (v7+1)) _ h hQ
  ·refine Wp.exit (To.aK (To.aK (kt [2] [] [(2,vi v2)] [] ?_)))
   cases h
   exact hQ
def jD(R_ref08_Left:af->Int->Int->Option (Int))(n:Nat)(a0:af)(a1:Int)(a2:Int):Option (Int) :=
 aQ ((bif (bif (bif (decide ((IntKind.wrap .i64 (a2-1))<0)) then true else(decide (a1>12))) then true else(decide (a0.av<0))) then true else(decide (a0.av>3))):Bool) fun x1 =>
 if x1=true then(some (-1))
 else(aQ ((bif (bif (bif (a0.av != 1) then(decide ((List.length a0.aC:Int)>0)) else false) then true else(bif (a0.av != 3) then(decide ((List.length a0.ak:Int)>0)) else false)) then true else(bif (decide (a0.av<2)) then(decide ((List.length a0.aj:Int)>0)) else false)):Bool) fun x2 =>
 if x2=true then(some (-1))
 else(((if(((bif ((List.length a0.ak:Int) != (List.length a0.aj:Int)) then true else(decide ((List.length a0.aj:Int)>(IntKind.wrap .i64 (a2-1)))))==false)&&((a0.av==3)==true))=true then jH n a0.ak else some [])).bind fun r3 =>
 aQ ((bif (a0.av==3) then(bif (bif ((List.length a0.ak:Int) != (List.length a0.aj:Int)) then true else(decide ((List.length a0.aj:Int)>(IntKind.wrap .i64 (a2-1))))) then true else((List.length r3:Int) != (List.length a0.ak:Int))) else false):Bool) fun x4 =>
 if x4=true then(some (-1))
 else((cH R_ref08_Left n a1 a0 n (IntKind.wrap .i64 (a2-1)) 0).bind fun o5 =>
 (Sum.elim (fun o5=>some o5) (fun o5=>some o5)) o5)))
abbrev ex9(x0:Int):Nat×D:=(2,vi (IntKind.wrap .i64 (x0-1)))
abbrev Rn(x0:af):=((List.length x0.ak:Int) != (List.length x0.aj:Int))
theorem E8(R_ref08_Left:af->Int->Int->Option (Int))(hR_ref08_Left:hR5 R_ref08_Left)(n:Nat)(a0:af)(a1:Int)(a2:Int)(r:Int)(h:jD R_ref08_Left n a0 a1 a2=some r):aJ Tryz.prog 23 [.agg (qc6 a0),vi a1,vi a2] (vi r):=by
 unfold jD at h
 refine xo Tryz.f23 rfl fun F0 w0 _=>?_
 refine Wp.seq (rg [1,2,3] [3] [(1,vi a1),(2,vi a2),(3,.own 3 0)] [(3,25,qc6 a0)] (To.ah (Wp.seq (rg [1,2,3] [3] [(1,vi a1),(ex9 a2),(3,.own 3 0)] [(3,25,qc6 a0)] (To.ah (Wp.seq (Wp.seq ?_)))))))
 obtain⟨x1,hx1,h⟩:=aS h
 refine rg [1,2,3,25] [3] [(1,vi a1),(ex9 a2),(3,.own 3 0),(25,vb (bif (bif (bif (decide ((IntKind.wrap .i64 (a2-1))<0)) then true else(decide (a1>12))) then true else(decide (a0.av<0))) then true else(decide (a0.av>3))))] [(3,25,qc6 a0)] (To.eq (K':=[(1,vi a1),(ex9 a2),(3,.own 3 0),(25,vb x1)]) (L':=[(3,25,qc6 a0)]) (by cases hx1;rfl) (by cases hx1;rfl) (To.ah (cn h (fun h=>?_) (fun h=>?_))))
 ·refine Wp.seq (rg [6] [] [(6,vi (-1))] [] (To.ah (Wp.ret (To.aA ?_))))
  cases h
  exact To.done hΓ (by kernel_rfl)
 ·refine Wp.skip (To.ah (Wp.seq (Wp.seq ?_)))
  obtain⟨x2,hx2,h⟩:=aS h
  refine rg [1,2,3,56] [3] [(1,vi a1),(ex9 a2),(3,.own 3 0),(56,vb (bif (bif (bif (a0.av != 1) then(decide ((List.length a0.aC:Int)>0)) else false) then true else(bif (a0.av != 3) then(decide ((List.length a0.ak:Int)>0)) else false)) then true else(bif (decide (a0.av<2)) then(decide ((List.length a0.aj:Int)>0)) else false)))] [(3,25,qc6 a0)] (To.eq (K':=[(1,vi a1),(ex9 a2),(3,.own 3 0),(56,vb x2)]) (L':=[(3,25,qc6 a0)]) (by cases hx2;rfl) (by cases hx2;rfl) (To.ah (cn h (fun h=>?_) (fun h=>?_))))
  ·refine Wp.seq (rg [6] [] [(6,vi (-1))] [] (To.ah (Wp.ret (To.aA ?_))))
   cases h
   exact To.done hΓ (by kernel_rfl)
  ·refine Wp.skip (To.ah (Wp.seq (Wp.seq ?_)))
   obtain⟨r3,hr3,h⟩:=au h
   obtain⟨x4,hx4,h⟩:=aS h
   refine Wp.bI hm hΓ [(21,ls r3)] [1,2,3,85] [3] (K':=[(1,vi a1),(ex9 a2),(3,.own 3 0),(85,vb (bif (a0.av==3) then(bif (bif (Rn a0) then true else(decide ((List.length a0.aj:Int)>(IntKind.wrap .i64 (a2-1))))) then true else((List.length r3:Int) != (List.length a0.ak:Int))) else false))]) (L':=[(3,25,qc6 a0)]) (ob:=[((((bif (Rn a0) then true else(decide ((List.length a0.aj:Int)>(IntKind.wrap .i64 (a2-1)))))==false)&&((a0.av==3)==true))=true->CX Tryz.prog 40 [ls a0.ak] (ls r3))]) (by kernel_rfl) (ai.cons (fun hg=>cx (sJ n a0.ak _ (jB hg hr3))) ai.nil) (To.eq (K':=[(1,vi a1),(ex9 a2),(3,.own 3 0),(85,vb x4)]) (L':=[(3,25,qc6 a0)]) (by cases hx4;rfl) (by cases hx4;rfl) (To.ah (cn h (fun h=>?_) (fun h=>?_))))
   ·refine Wp.seq (rg [6] [] [(6,vi (-1))] [] (To.ah (Wp.ret (To.aA ?_))))
    cases h
    exact To.done hΓ (by kernel_rfl)
   ·refine Wp.skip (To.ah (Wp.seq (Wp.seq (rg [1,2,3,7] [3] [(1,vi a1),(ex9 a2),(3,.own 3 0),(7,vi 0)] [(3,25,qc6 a0)] (To.ah (Wp.block ?_))))))
    obtain⟨o5,ho5,h⟩:=au h
    refine kw [1,2,3,7] [3] [(1,vi a1),(ex9 a2),(3,.own 3 0),(7,vi 0)] [(3,25,qc6 a0)] (Wp.bE (Ea R_ref08_Left hR_ref08_Left n a1 a0 n (IntKind.wrap .i64 (a2-1)) 0 o5 ho5 ?_))
    rcases o5 with o5|o5
    ·replace h:=cv h
     refine To.aY (To.ah (Wp.seq (rg [6] [] [(6,vi o5)] [] (To.ah (Wp.ret ?_)))))
     cases h
     exact To.done hΓ (by kernel_rfl)
    ·replace h:=cy h
     refine To.aP (To.aA ?_)
     cases h
     exact To.done hΓ (by kernel_rfl)
def dD:Nat->af->Int->Int->Option (Int)
 |0=>fun _ _ _=>none
 |n+1=>jD (dD n) n
theorem yZ(n:Nat):∀(a0:af)(a1:Int)(a2:Int)(r:Int),dD n a0 a1 a2=some r->aJ Tryz.prog 23 [.agg (qc6 a0),vi a1,vi a2] (vi r):=by
 induction n with
 |zero=>intro a0 a1 a2 r h;cases h
 |succ n ih=>exact fun a0 a1 a2 r h=>E8 (dD n) ih n a0 a1 a2 r h
def jg(R_ref08_short:af->Option (Bool))(n:Nat)(b1:af):Nat->Int->Option (Sum (Unit) (Bool))
 |0,_=>none
 |k+1,v3=>if(decide (v3<(List.length b1.ak:Int)))=true then(if(decide (0<=v3/\v3<(List.length b1.ak:Int)))=true then(if(decide ((List.length ((b1.ak)[Int.toNat v3]?.getD []):Int)>200))=true then(some (.inr false))
 else(jg R_ref08_short n b1 k (IntKind.wrap .i64 (v3+1)))) else none)
 else(some (.inl ()))
abbrev hR7(R_ref08_short:af->Option (Bool)):Prop:=∀(a0:af)(r:Bool),R_ref08_short a0=some r->aJ Tryz.prog 24 [.agg [vi a0.av,.str a0.aC,ls a0.ak,tn4 a0.aj]] (vb r)
abbrev df(x0:af)(x1:Int):=((x0.ak)[Int.toNat x1]?.getD [])
abbrev Ip(x0:Int)(x1:af):=(decide (0<=x0/\x0<(List.length x1.ak:Int)))
abbrev yF(x0:Int)(x1:af):=(decide (x0<(List.length x1.ak:Int)))
abbrev uz(x0:Int):Nat×D:=(3,vi (IntKind.wrap .i64 (x0+1)))
theorem CS(R_ref08_short:af->Option (Bool))(hR_ref08_short:hR7 R_ref08_short)(n:Nat)(b1:af)(k:Nat):∀(v3:Int)(o:Sum (Unit) (Bool)),jg R_ref08_short n b1 k v3=some o->(Sum.elim (fun s=>To 37 F0 w0 [(1,.own 1 0)] [(1,25,qc6 b1)] (.exit 0) Q) (fun s=>To 37 F0 w0 [(2,vb s)] [] .ret Q)) o->WL Tryz.prog 37 F0 w0 [(1,.own 1 0),(3,vi v3)] [(1,25,qc6 b1)] (cI (cI (cB (cA (cB (cB (cF Tryz.f24))))))) Q:=by
 induction k with
 |zero=>intro v3 o h;cases h
 |succ k ih =>
  intro v3 o h hQ
  rw[jg] at h
  refine WL.round (Wp.seq (Wp.seq (rg [1,3,13] [1] [(1,.own 1 0),(3,vi v3),(13,vb (yF v3 b1))] [(1,25,qc6 b1)] (To.ah (cn h (fun h=>?_) (fun h=>?_))))))
  ·refine Wp.skip (To.ah (Wp.seq (Wp.block (Wp.seq ?_))))
   obtain⟨hc1,h⟩:=ax h
   refine r0 [1,3,22] [1] [(1,.own 1 0),(3,vi v3),(22,vb (decide ((List.length (df b1 v3):Int)>200)))] [(1,25,qc6 b1)] (ai.cons hc1 ai.nil) (To.ah (cn h (fun h=>?_) (fun h=>?_)))
   ·refine Wp.seq (rg [2] [] [(2,vb false)] [] (To.ah (Wp.ret (To.aP (To.aA (To.aA ?_))))))
    cases h
    exact hQ
   ·refine Wp.skip (To.aR (To.ah (rg [1,3] [1] [(1,.own 1 0),(uz v3)] [(1,25,qc6 b1)] (kt [1,3] [1] [(1,.own 1 0),(uz v3)] [(1,25,qc6 b1)] (To.again ?_)))))
    exact ih (IntKind.wrap .i64 (v3+1)) _ h hQ
  ·refine Wp.exit (To.aK (To.aK (kt [1] [1] [(1,.own 1 0)] [(1,25,qc6 b1)] ?_)))
   cases h
   exact hQ
def iE(R_ref08_short:af->Option (Bool))(n:Nat)(b1:af):Nat->Int->Option (Sum (Unit) (Bool))
 |0,_=>none
 |k+1,v4=>if(decide (v4<(List.length b1.aj:Int)))=true then(if(decide (0<=v4/\v4<(List.length b1.aj:Int)))=true then((R_ref08_short ((b1.aj)[Int.toNat v4]?.getD (af.mk 0 [] [] []))).bind fun r2 =>
 if(!r2)=true then(some (.inr false))
 else(iE R_ref08_short n b1 k (IntKind.wrap .i64 (v4+1)))) else none)
 else(some (.inl ()))
abbrev lL(x0:Int):Nat×D:=(4,vi (IntKind.wrap .i64 (x0+1)))
theorem Cf(R_ref08_short:af->Option (Bool))(hR_ref08_short:hR7 R_ref08_short)(n:Nat)(b1:af)(k:Nat):∀(v4:Int)(o:Sum (Unit) (Bool)),iE R_ref08_short n b1 k v4=some o->(Sum.elim (fun s=>To 37 F0 w0 [] [] (.exit 2) Q) (fun s=>To 37 F0 w0 [(2,vb s)] [] .ret Q)) o->WL Tryz.prog 37 F0 w0 [(1,.own 1 0),(4,vi v4)] [(1,25,qc6 b1)] (cI (cI (cB (cA (cB (cB (cB (cF Tryz.f24)))))))) Q:=by
 induction k with
 |zero=>intro v4 o h;cases h
 |succ k ih =>
  intro v4 o h hQ
  rw[iE] at h
  refine WL.round (Wp.seq (Wp.seq (rg [1,4,27] [1] [(1,.own 1 0),(4,vi v4),(27,vb (ex8 v4 b1))] [(1,25,qc6 b1)] (To.ah (cn h (fun h=>?_) (fun h=>?_))))))
  ·refine Wp.skip (To.ah (Wp.seq (Wp.block (Wp.seq ?_))))
   obtain⟨hc3,h⟩:=ax h
   obtain⟨r2,hr2,h⟩:=au h
   refine rr [] [(5,vb r2)] [] [1,4,36] [1] [(1,.own 1 0),(4,vi v4),(36,vb (!r2))] [(1,25,qc6 b1)] [_,(true=true->CX Tryz.prog 24 [.agg [vi ((ex5 b1 v4).av),.str ((ex5 b1 v4).aC),ls ((ex5 b1 v4).ak),tn4 ((ex5 b1 v4).aj)]] (vb r2))] (ai.cons hc3 (ai.cons (fun _=>cx (hR_ref08_short (ex5 b1 v4) _ hr2)) ai.nil)) (To.ah (cn h (fun h=>?_) (fun h=>?_)))
   ·refine Wp.seq (rg [2] [] [(2,vb false)] [] (To.ah (Wp.ret (To.aP (To.aA (To.aA ?_))))))
    cases h
    exact hQ
   ·refine Wp.skip (To.aR (To.ah (rg [1,4] [1] [(1,.own 1 0),(lL v4)] [(1,25,qc6 b1)] (kt [1,4] [1] [(1,.own 1 0),(lL v4)] [(1,25,qc6 b1)] (To.again ?_)))))
    exact ih (IntKind.wrap .i64 (v4+1)) _ h hQ
  ·refine Wp.exit (To.aK (To.aK (kt [] [] [] [] ?_)))
   cases h
   exact hQ
def nY(R_ref08_short:af->Option (Bool))(n:Nat)(a0:af):Option (Bool) :=
 if(decide ((List.length a0.aC:Int)>200))=true then some false
 else((jg R_ref08_short n a0 n 0).bind fun o1 =>
 (Sum.elim (fun o1=>(iE R_ref08_short n a0 n 0).bind fun o2 =>
 (Sum.elim (fun o2=>some true) (fun o2=>some o2)) o2) (fun o1=>some o1)) o1)
theorem DW(R_ref08_short:af->Option (Bool))(hR_ref08_short:hR7 R_ref08_short)(n:Nat)(a0:af)(r:Bool)(h:nY R_ref08_short n a0=some r):aJ Tryz.prog 24 [.agg (qc6 a0)] (vb r):=by
 unfold nY at h
 refine xo Tryz.f24 rfl fun F0 w0 _=>?_
 refine Wp.seq (rg [1] [1] [(1,.own 1 0)] [(1,25,qc6 a0)] (To.ah (Wp.seq (Wp.seq (rg [1,8] [1] [(1,.own 1 0),(8,vb (decide ((List.length a0.aC:Int)>200)))] [(1,25,qc6 a0)] (To.ah (cn h (fun h=>?_) (fun h=>?_))))))))
 ·refine Wp.seq (rg [2] [] [(2,vb false)] [] (To.ah (Wp.ret (To.aA ?_))))
  cases h
  exact To.done hΓ (by kernel_rfl)
 ·refine Wp.skip (To.ah (Wp.seq (Wp.seq (rg [1,3] [1] [(1,.own 1 0),(3,vi 0)] [(1,25,qc6 a0)] (To.ah (Wp.block ?_))))))
  obtain⟨o1,ho1,h⟩:=au h
  refine kw [1,3] [1] [(1,.own 1 0),(3,vi 0)] [(1,25,qc6 a0)] (Wp.bE (CS R_ref08_short hR_ref08_short n a0 n 0 o1 ho1 ?_))
  rcases o1 with o1|o1
  ·replace h:=cv h
   refine To.aY (To.ah (Wp.seq (Wp.seq (rg [1,4] [1] [(1,.own 1 0),(4,vi 0)] [(1,25,qc6 a0)] (To.ah (Wp.block ?_))))))
   obtain⟨o2,ho2,h⟩:=au h
   refine kw [1,4] [1] [(1,.own 1 0),(4,vi 0)] [(1,25,qc6 a0)] (Wp.bE (Cf R_ref08_short hR_ref08_short n a0 n 0 o2 ho2 ?_))
   rcases o2 with o2|o2
   ·replace h:=cv h
    refine To.aY (To.ah (Wp.seq (rg [2] [] [(2,vb true)] [] (To.ah (Wp.ret ?_)))))
    cases h
    exact To.done hΓ (by kernel_rfl)
   ·replace h:=cy h
    refine To.aP (To.aA ?_)
    cases h
    exact To.done hΓ (by kernel_rfl)
  ·replace h:=cy h
   refine To.aP (To.aA ?_)
   cases h
   exact To.done hΓ (by kernel_rfl)
def eY:Nat->af->Option (Bool)
 |0=>fun _=>none
 |n+1=>nY (eY n) n
theorem G9(n:Nat):∀(a0:af)(r:Bool),eY n a0=some r->aJ Tryz.prog 24 [.agg (qc6 a0)] (vb r):=by
 induction n with
 |zero=>intro a0 r h;cases h
 |succ n ih=>exact fun a0 r h=>DW (eY n) ih n a0 r h
def qR(n:Nat)(a0:af)(a1:Int):Option (Bool) :=
 (dD n a0 1 a1).bind fun r1 =>
 ((if((decide (r1>=0))==true)=true then eY n a0 else some false)).bind fun r2 =>
 some (bif (decide (r1>=0)) then r2 else false)
theorem G4(n:Nat)(a0:af)(a1:Int)(r:Bool)(h:qR n a0 a1=some r):aJ Tryz.prog 5 [.agg (qc6 a0),vi a1] (vb r):=by
 unfold qR at h
 refine xo Tryz.f5 rfl fun F0 w0 _=>?_
 refine Wp.seq (rg [1,2] [2] [(1,vi a1),(2,.own 2 0)] [(2,25,qc6 a0)] (To.ah (Wp.seq ?_)))
 obtain⟨r1,hr1,h⟩:=au h
 obtain⟨r2,hr2,h⟩:=au h
 refine rr [] [(2,vi r1),(6,vb r2)] [] [4] [] [(4,vb (bif (decide (r1>=0)) then r2 else false))] [] [_,(((decide (r1>=0))==true)=true->CX Tryz.prog 24 [.agg (qc6 a0)] (vb r2))] (ai.cons (c1 (yZ n a0 1 a1 _ hr1)) (ai.cons (fun hg=>cx (G9 n a0 _ (jB hg hr2))) ai.nil)) (To.ah (Wp.ret ?_))
 cases h
 exact To.done hΓ (by kernel_rfl)
def ki(n:Nat)(v0:Ls):Nat->Int->Option (Sum (Unit) (Bool))
 |0,_=>none
 |k+1,v5=>if(decide (v5<(List.length v0:Int)))=true then(if(decide (0<=v5/\v5<(List.length v0:Int)))=true then(if(decide ((List.length ((v0)[Int.toNat v5]?.getD []):Int)>100))=true then(some (.inr false))
 else(ki n v0 k (IntKind.wrap .i64 (v5+1)))) else none)
 else(some (.inl ()))
abbrev zw(x0:Int)(x1:Ls):=(decide (0<=x0/\x0<(List.length x1:Int)))
abbrev H7(x0:Ls)(x1:Int):=(List.length ((x0)[Int.toNat x1]?.getD []):Int)
theorem GL(n:Nat)(v0:Ls)(k:Nat):∀(v5:Int)(o:Sum (Unit) (Bool)),ki n v0 k v5=some o->(Sum.elim (fun s=>To 22 F0 w0 [] [] (.exit 0) Q) (fun s=>To 22 F0 w0 [(4,vb s)] [] .ret Q)) o->WL Tryz.prog 22 F0 w0 [(0,ls v0),(5,vi v5)] [] (cI (cI (cB (cA (cB (cB (cF Tryz.f6))))))) Q:=by
 induction k with
 |zero=>intro v5 o h;cases h
 |succ k ih =>
  intro v5 o h hQ
  rw[ki] at h
  refine WL.round (Wp.seq (Wp.seq (rg [0,5,13] [] [(0,ls v0),(5,vi v5),(13,vb (ex4 v5 v0))] [] (To.ah (cn h (fun h=>?_) (fun h=>?_))))))
  ·refine Wp.skip (To.ah (Wp.seq (Wp.block (Wp.seq ?_))))
   obtain⟨hc1,h⟩:=ax h
   refine r0 [0,5,21] [] [(0,ls v0),(5,vi v5),(21,vb (decide ((H7 v0 v5)>100)))] [] (ai.cons hc1 ai.nil) (To.ah (cn h (fun h=>?_) (fun h=>?_)))
   ·refine Wp.seq (rg [4] [] [(4,vb false)] [] (To.ah (Wp.ret (To.aP (To.aA (To.aA ?_))))))
    cases h
    exact hQ
   ·refine Wp.skip (To.aR (To.ah (rg [0,5] [] [(0,ls v0),(ex3 v5)] [] (kt [0,5] [] [(0,ls v0),(ex3 v5)] [] (To.again ?_)))))
    exact ih (IntKind.wrap .i64 (v5+1)) _ h hQ
  ·refine Wp.exit (To.aK (To.aK (kt [] [] [] [] ?_)))
   cases h
   exact hQ
def nz(n:Nat)(a0:Ls)(a1:Int):Option (Bool) :=
 if(decide ((List.length a0:Int)>a1))=true then some false
 else((ki n a0 n 0).bind fun o1 =>
 (Sum.elim (fun o1=>some true) (fun o1=>some o1)) o1)
theorem zD(n:Nat)(a0:Ls)(a1:Int)(r:Bool)(h:nz n a0 a1=some r):aJ Tryz.prog 6 [ls a0,vi a1] (vb r):=by
 unfold nz at h
 refine xo Tryz.f6 rfl fun F0 w0 _=>?_
 refine Wp.seq (rg [0,1] [] [(0,ls a0),(1,vi a1)] [] (To.ah (Wp.seq (Wp.seq (rg [0,9] [] [(0,ls a0),(9,vb (decide ((List.length a0:Int)>a1)))] [] (To.ah (cn h (fun h=>?_) (fun h=>?_))))))))
 ·refine Wp.seq (rg [4] [] [(4,vb false)] [] (To.ah (Wp.ret (To.aA ?_))))
  cases h
  exact To.done hΓ (by kernel_rfl)
 ·refine Wp.skip (To.ah (Wp.seq (Wp.seq (rg [0,5] [] [(0,ls a0),(5,vi 0)] [] (To.ah (Wp.block ?_))))))
  obtain⟨o1,ho1,h⟩:=au h
  refine kw [0,5] [] [(0,ls a0),(5,vi 0)] [] (Wp.bE (GL n a0 n 0 o1 ho1 ?_))
  rcases o1 with o1|o1
  ·replace h:=cv h
   refine To.aY (To.ah (Wp.seq (rg [4] [] [(4,vb true)] [] (To.ah (Wp.ret ?_)))))
   cases h
   exact To.done hΓ (by kernel_rfl)
  ·replace h:=cy h
   refine To.aP (To.aA ?_)
   cases h
   exact To.done hΓ (by kernel_rfl)
theorem bg(l:List (af)):aM (.recs (af.mk 0 [] [] []) bY l):=⟨Nat.le_of_ble_eq_true (by kernel_rfl),fun _=>⟨rfl,rfl⟩⟩
def fZ(a0:Bs)(a1:af):af :=
 (af.mk 3 [] [a0] [a1])
abbrev rs8(l:List (af)):D:=.recs (α:=af) zx3 bY l
abbrev rc9(l:List (af)):D:=.aX false (α:=af) zx3 bY l
abbrev iY(l:List (af)):D:=.aX true (α:=af) zx3 bY l
abbrev Ln(x0:af):=(ck 4 (qc6 x0) 1 (rs8 [x0])/\aM (rs8 [x0]))
theorem tN(a0:Bs)(a1:af)(r:af)(h:fZ a0 a1=r):aJ Tryz.prog 25 [.str a0,.agg (qc6 a1)] (.agg (qc6 r)):=by
 unfold fZ at h
 refine xo Tryz.f25 rfl fun F0 w0 _=>?_
 refine Wp.seq (rg [0,3,4] [3,4] [(0,.str a0),(3,.own 3 0),(4,.own 4 0)] [(3,25,qc6 a1),(4,25,[vi 0,.str [],.val (.slice none 0 0),.val (.slice none 0 0)])] (To.ah (Wp.seq (rr [] [(1,ls [a0]),(3,rs8 [a1])] [] [4] [4,6,8] [(4,.own 4 0)] [(4,25,[vi 3,.str [],.row 6,.row 8]),(6,9,[rc1 [a0]]),(8,25,[rc9 [a1]])] [(ck 1 [.str a0] 1 (ls [a0])/\aM (ls [a0])),(Ln a1)] (ai.cons (du (by kernel_rfl) rfl (by kernel_rfl) (aI _)) (ai.cons (du (by kernel_rfl) rfl (by kernel_rfl) (bg _)) ai.nil)) (To.ah (Wp.ret (To.pre (St.settle (ks:=[6,8]) (kk:=[4]) (kl:=[4,6,8]) (K':=[(4,.own 4 0)]) (L':=[(4,25,[vi 3,.str [],.row 6,.row 8]),(6,9,[rc2 [a0]]),(8,25,[iY [a1]])]) (by kernel_rfl)) (To.pre (St.uS [4] (L':=[(4,25,[vi 3,.str [],ls [a0],rs8 [a1]]),(6,9,[rc2 [a0]]),(8,25,[iY [a1]])]) (by kernel_rfl)) (To.weak (K':=[(4,.own 4 0)]) (L':=[(4,25,[vi 3,.str [],ls [a0],tn4 [a1]]),(6,9,[rc2 [a0]]),(8,25,[iY [a1]])]) (.cons (.refl _) .nil) (.cons (.cons (.refl _) (.cons (.refl _) (.cons (.refl _) (.cons (.close _ _ _ _) .nil)))) (.cons (.cons (.refl _) .nil) (.cons (.cons (.refl _) .nil) .nil))) ?_)))))))))
 cases h
 exact To.done hΓ (by kernel_rfl)
def bC(n:Nat)(v0:Ls)(v1:Bs)(v7:Int):Nat->Int->Option (Sum (Unit) (Int))
 |0,_=>none
 |k+1,v8=>if(decide (v8<v7))=true then(if(decide (0<=v8/\v8<(List.length v0:Int)))=true then(if(v1==((v0)[Int.toNat v8]?.getD []))=true then(some (.inr v8))
 else(bC n v0 v1 v7 k (IntKind.wrap .i64 (v8+1)))) else none)
 else(some (.inl ()))
abbrev xE(x0:Int):Nat×D:=(8,vi (IntKind.wrap .i64 (x0+1)))
theorem rH(n:Nat)(v0:Ls)(v1:Bs)(v7:Int)(k:Nat):∀(v8:Int)(o:Sum (Unit) (Int)),bC n v0 v1 v7 k v8=some o->(Sum.elim (fun s=>To 19 F0 w0 [] [] (.exit 0) Q) (fun s=>To 19 F0 w0 [(4,vi s)] [] .ret Q)) o->WL Tryz.prog 19 F0 w0 [(0,ls v0),(1,.str v1),(7,vi v7),(8,vi v8)] [] (cI (cI (cB (cA (cB (cF Tryz.f60)))))) Q:=by
 induction k with
 |zero=>intro v8 o h;cases h
 |succ k ih =>
  intro v8 o h hQ
  rw[bC] at h
  refine WL.round (Wp.seq (rg [0,1,7,8,9] [] [(0,ls v0),(1,.str v1),(7,vi v7),(8,vi v8),(9,vb (decide (v8<v7)))] [] (To.ah (Wp.seq (cn h (fun h=>?_) (fun h=>?_))))))
  ·refine Wp.skip (To.ah (Wp.seq (Wp.block (Wp.seq (rg [0,1,5,7,8] [] [(0,ls v0),(1,.str v1),(5,vi v8),(7,vi v7),(8,vi v8)] [] (To.ah (Wp.seq ?_)))))))
   obtain⟨hc1,h⟩:=ax h
   refine r0 [0,1,5,7,8,16] [] [(0,ls v0),(1,.str v1),(5,vi v8),(7,vi v7),(8,vi v8),(16,vb (v1==((v0)[Int.toNat v8]?.getD [])))] [] (ai.cons hc1 ai.nil) (To.ah (cn h (fun h=>?_) (fun h=>?_)))
   ·refine Wp.seq (rg [4] [] [(4,vi v8)] [] (To.ah (Wp.ret (To.aP (To.aA (To.aA ?_))))))
    cases h
    exact hQ
   ·refine Wp.skip (To.aR (To.ah (rg [0,1,7,8] [] [(0,ls v0),(1,.str v1),(7,vi v7),(xE v8)] [] (kt [0,1,7,8] [] [(0,ls v0),(1,.str v1),(7,vi v7),(xE v8)] [] (To.again ?_)))))
    exact ih (IntKind.wrap .i64 (v8+1)) _ h hQ
  ·refine Wp.exit (To.aK (To.aK (kt [] [] [] [] ?_)))
   cases h
   exact hQ
def dW(n:Nat)(a0:Ls)(a1:Bs):Option (Int) :=
 (bC n a0 a1 (List.length a0:Int) n 0).bind fun o1 =>
 (Sum.elim (fun o1=>some (-1)) (fun o1=>some o1)) o1
theorem mF(n:Nat)(a0:Ls)(a1:Bs)(r:Int)(h:dW n a0 a1=some r):aJ Tryz.prog 60 [ls a0,.str a1] (vi r):=by
 unfold dW at h
 refine xo Tryz.f60 rfl fun F0 w0 _=>?_
 refine Wp.seq (rg [0,1] [] [(0,ls a0),(1,.str a1)] [] (To.ah (Wp.seq (Wp.seq (rg [0,1,7,8] [] [(0,ls a0),(1,.str a1),(7,vi (List.length a0:Int)),(8,vi 0)] [] (To.ah (Wp.block ?_)))))))
 obtain⟨o1,ho1,h⟩:=au h
 refine kw [0,1,7,8] [] [(0,ls a0),(1,.str a1),(7,vi (List.length a0:Int)),(8,vi 0)] [] (Wp.bE (rH n a0 a1 (List.length a0:Int) n 0 o1 ho1 ?_))
 rcases o1 with o1|o1
 ·replace h:=cv h
  refine To.aY (To.ah (Wp.seq (rg [4] [] [(4,vi (-1))] [] (To.ah (Wp.ret ?_)))))
  cases h
  exact To.done hΓ (by kernel_rfl)
 ·replace h:=cy h
  refine To.aP (To.aA ?_)
  cases h
  exact To.done hΓ (by kernel_rfl)
def vR(n:Nat)(a0:Ls)(a1:Bs):Option (Int) :=
 (dW n a0 a1).bind fun r1 =>
 some r1
theorem NU(n:Nat)(a0:Ls)(a1:Bs)(r:Int)(h:vR n a0 a1=some r):aJ Tryz.prog 64 [ls a0,.str a1] (vi r):=by
 unfold vR at h
 refine xo Tryz.f64 rfl fun F0 w0 _=>?_
 refine Wp.seq (rg [0,1] [] [(0,ls a0),(1,.str a1)] [] (To.ah (Wp.seq ?_)))
 obtain⟨r1,hr1,h⟩:=au h
 refine rc [] 2 [4] [] [(4,vi r1)] [] (mF n a0 a1 _ hr1) (To.ah (Wp.ret ?_))
 cases h
 exact To.done hΓ (by kernel_rfl)
def jE(n:Nat)(a0:af)(a1:Bs):Option (Int) :=
 if(bif (a0.av != 3) then true else((List.length a0.ak:Int) != (List.length a0.aj:Int)))=true then(some (-1))
 else((vR n a0.ak a1).bind fun r1 =>
 some r1)
theorem vo(n:Nat)(a0:af)(a1:Bs)(r:Int)(h:jE n a0 a1=some r):aJ Tryz.prog 55 [.agg (qc6 a0),.str a1] (vi r):=by
 unfold jE at h
 refine xo Tryz.f55 rfl fun F0 w0 _=>?_
 refine Wp.seq (rg [1,2] [2] [(1,.str a1),(2,.own 2 0)] [(2,25,qc6 a0)] (To.ah (Wp.seq (Wp.seq (rg [1,2,16] [2] [(1,.str a1),(2,.own 2 0),(16,vb (bif (a0.av != 3) then true else(Rn a0)))] [(2,25,qc6 a0)] (To.ah (cn h (fun h=>?_) (fun h=>?_))))))))
 ·refine Wp.seq (rg [4] [] [(4,vi (-1))] [] (To.ah (Wp.ret (To.aA ?_))))
  cases h
  exact To.done hΓ (by kernel_rfl)
 ·refine Wp.skip (To.ah (Wp.seq ?_))
  obtain⟨r1,hr1,h⟩:=au h
  refine rc [] 3 [4] [] [(4,vi r1)] [] (NU n a0.ak a1 _ hr1) (To.ah (Wp.ret ?_))
  cases h
  exact To.done hΓ (by kernel_rfl)
def uv(n:Nat)(a0:af)(a1:Bs):Option (af×Bool) :=
 (jE n a0 a1).bind fun r1 =>
 if(decide (r1<0))=true then(some ((af.mk 0 [] [] []),false))
 else(if(decide (0<=r1/\r1<(List.length a0.aj:Int)))=true then(some (((a0.aj)[Int.toNat r1]?.getD (af.mk 0 [] [] [])),true)) else none)
theorem Dw(n:Nat)(a0:af)(a1:Bs)(r:af×Bool)(h:uv n a0 a1=some r):aJ Tryz.prog 51 [.agg (qc6 a0),.str a1] (.tup [.agg (qc6 r.1),vb r.2]):=by
 unfold uv at h
 refine xo Tryz.f51 rfl fun F0 w0 _=>?_
 refine Wp.seq (rg [1,2,4] [2,4] [(1,.str a1),(2,.own 2 0),(4,.own 4 0)] [(2,25,qc6 a0),(4,25,[vi 0,.str [],.val (.slice none 0 0),.val (.slice none 0 0)])] (To.ah (Wp.seq ?_)))
 obtain⟨r1,hr1,h⟩:=au h
 refine rc [] 2 [2,4,6] [2,4] [(2,.own 2 0),(4,.own 4 0),(6,vi r1)] [(2,25,qc6 a0),(4,25,[vi 0,.str [],.val (.slice none 0 0),.val (.slice none 0 0)])] (vo n a0 a1 _ hr1) (To.ah (Wp.seq (Wp.seq (rg [2,4,6,11] [2,4] [(2,.own 2 0),(4,.own 4 0),(6,vi r1),(11,vb (decide (r1<0)))] [(2,25,qc6 a0),(4,25,[vi 0,.str [],.val (.slice none 0 0),.val (.slice none 0 0)])] (To.ah (cn h (fun h=>?_) (fun h=>?_)))))))
 ·refine Wp.seq (rg [4,5] [4] [(4,.own 4 0),(5,vb false)] [(4,25,[vi 0,.str [],.val (.slice none 0 0),.val (.slice none 0 0)])] (To.ah (Wp.ret (To.aA (To.weak (K':=[(4,.own 4 0),(5,vb false)]) (L':=[(4,25,[vi 0,.str [],ls [],tn4 []])]) (.cons (.refl _) (.cons (.refl _) .nil)) (.cons (.cons (.refl _) (.cons (.refl _) (.cons (.zero _ _) (.cons (.bu _ _ _) .nil)))) .nil) ?_)))))
  cases h
  exact To.done hΓ (by kernel_rfl)
 ·refine Wp.skip (To.ah (Wp.seq ?_))
  obtain⟨hc2,h⟩:=ax h
  refine r0 [4,5] [4] [(4,.own 4 0),(5,vb true)] [(4,25,[vi (((a0.aj)[Int.toNat r1]?.getD zx3).av),.str (((a0.aj)[Int.toNat r1]?.getD zx3).aC),ls (((a0.aj)[Int.toNat r1]?.getD zx3).ak),tn4 (((a0.aj)[Int.toNat r1]?.getD zx3).aj)])] (ai.cons hc2 ai.nil) (To.ah (Wp.ret ?_))
  cases h
  exact To.done hΓ (by kernel_rfl)
end Go.Proofs.YtpmmhhmhckpnfaaGreat.M
