import Derived.Test.YtaecmkldkljioaaQRxAnyD
import Derived.Test.YtaecmkldkljioaaQRxArgs
import Derived.Test.YtaecmkldkljioaaQRxGoto
import Derived.Test.YtaecmkldkljioaaQRxNil
import Derived.Test.YtaecmkldkljioaaQRxOrd
import Derived.Test.YtaecmkldkljioaaQRxEqArr
import Derived.Test.YtaecmkldkljioaaQRxEnd
import Derived.Test.YtaecmkldkljioaaProg
set_option linter.all false
namespace Go.Proofs.Ytaecmkldkljioaa.M
open Go.RowKit Go.Proofs.Ytaecmkldkljioaa.RX
set_option maxRecDepth 100000
def tab:List (Nat × TI):=[
 (3,{ agg:=false,size:=1,zero:=[.int .i64 0],kind:=.int .i64,eqs:=[] }),
 (4,{ agg:=false,size:=1,zero:=[.bool false],kind:=.bool,eqs:=[] }),
 (9,{ agg:=false,size:=1,zero:=[.string ⟨#[]⟩],kind:=.str,eqs:=[] }),
 (22,{ agg:=false,size:=1,zero:=[.slice none 0 0],kind:=.slice 18 true,elt:=49,eb:=216,ez:=[.int .i64 0,.string ⟨#[]⟩,.string ⟨#[]⟩,.string ⟨#[]⟩,.int .i64 0,.string ⟨#[]⟩,.slice none 0 0,.slice none 0 0,.string ⟨#[]⟩,.int .i64 0,.int .i64 0,.int .i64 0,.int .i64 0,.int .i64 0,.int .i64 0,.int .i64 0,.int .i64 0,.int .i64 0],ek:=none,eqs:=[] }),
 (23,{ agg:=false,size:=1,zero:=[.slice none 0 0],kind:=.slice 2 true,elt:=78,eb:=32,ez:=[.string ⟨#[]⟩,.string ⟨#[]⟩],ek:=none,eqs:=[] }),
 (25,{ agg:=true,size:=3,zero:=[.slice none 0 0,.slice none 0 0,.slice none 0 0],kind:=.struct [(0,1,false),(1,1,false),(2,1,false)],eqs:=[] }),
 (26,{ agg:=false,size:=1,zero:=[.slice none 0 0],kind:=.slice 18 true,elt:=41,eb:=280,ez:=[.string ⟨#[]⟩,.string ⟨#[]⟩,.slice none 0 0,.slice none 0 0,.slice none 0 0,.slice none 0 0,.slice none 0 0,.slice none 0 0,.slice none 0 0,.int .i64 0,.string ⟨#[]⟩,.int .i64 0,.int .i64 0,.int .i64 0,.int .i64 0,.int .i64 0,.int .i64 0,.int .i64 0],ek:=none,eqs:=[] }),
 (27,{ agg:=false,size:=1,zero:=[.slice none 0 0],kind:=.slice 1 false,elt:=9,eb:=16,ez:=[.string ⟨#[]⟩],ek:=none,eqs:=[] }),
 (29,{ agg:=true,size:=4,zero:=[.string ⟨#[]⟩,.slice none 0 0,.slice none 0 0,.slice none 0 0],kind:=.struct [(0,1,false),(1,1,false),(2,1,false),(3,1,false)],eqs:=[] }),
 (32,{ agg:=true,size:=3,zero:=[.slice none 0 0,.slice none 0 0,.slice none 0 0],kind:=.struct [(0,1,false),(1,1,false),(2,1,false)],eqs:=[] }),
 (39,{ agg:=true,size:=4,zero:=[.string ⟨#[]⟩,.int .i64 0,.int .i64 0,.int .i64 0],kind:=.struct [(0,1,false),(1,1,false),(2,1,false),(3,1,false)],eqs:=[2,0,0,0] }),
 (41,{ agg:=true,size:=18,zero:=[.string ⟨#[]⟩,.string ⟨#[]⟩,.slice none 0 0,.slice none 0 0,.slice none 0 0,.slice none 0 0,.slice none 0 0,.slice none 0 0,.slice none 0 0,.int .i64 0,.string ⟨#[]⟩,.int .i64 0,.int .i64 0,.int .i64 0,.int .i64 0,.int .i64 0,.int .i64 0,.int .i64 0],kind:=.struct [(0,1,false),(1,1,false),(2,1,false),(3,1,false),(4,1,false),(5,1,false),(6,1,false),(7,1,false),(8,1,false),(9,1,false),(10,4,true),(14,1,false),(15,1,false),(16,1,false),(17,1,false)],eqs:=[] }),
 (47,{ agg:=true,size:=13,zero:=[.string ⟨#[]⟩,.string ⟨#[]⟩,.string ⟨#[]⟩,.int .i64 0,.string ⟨#[]⟩,.slice none 0 0,.slice none 0 0,.string ⟨#[]⟩,.int .i64 0,.int .i64 0,.int .i64 0,.int .i64 0,.int .i64 0],kind:=.struct [(0,1,false),(1,1,false),(2,1,false),(3,1,false),(4,1,false),(5,1,false),(6,1,false),(7,4,true),(11,1,false),(12,1,false)],eqs:=[] }),
 (49,{ agg:=true,size:=18,zero:=[.int .i64 0,.string ⟨#[]⟩,.string ⟨#[]⟩,.string ⟨#[]⟩,.int .i64 0,.string ⟨#[]⟩,.slice none 0 0,.slice none 0 0,.string ⟨#[]⟩,.int .i64 0,.int .i64 0,.int .i64 0,.int .i64 0,.int .i64 0,.int .i64 0,.int .i64 0,.int .i64 0,.int .i64 0],kind:=.struct [(0,1,false),(1,13,true),(14,1,false),(15,1,false),(16,1,false),(17,1,false)],eqs:=[] }),
 (78,{ agg:=true,size:=2,zero:=[.string ⟨#[]⟩,.string ⟨#[]⟩],kind:=.struct [(0,1,false),(1,1,false)],eqs:=[] }),
 (101,{ agg:=false,size:=1,zero:=[.slice none 0 0],kind:=.slice 1 false,elt:=3,eb:=8,ez:=[.int .i64 0],ek:=some .i64,eqs:=[] }),
 (141,{ agg:=false,size:=1,zero:=[.int .u64 0],kind:=.int .u64,eqs:=[] })]
theorem tabOK:TabOK Try.prog tab:=⟨⟨by kernel_rfl,fun h=>absurd rfl h⟩,⟨by kernel_rfl,fun h=>absurd rfl h⟩,⟨by kernel_rfl,fun h=>absurd rfl h⟩,⟨by kernel_rfl,fun h=>absurd rfl h⟩,⟨by kernel_rfl,fun h=>absurd rfl h⟩,⟨by kernel_rfl,fun h=>absurd rfl h⟩,⟨by kernel_rfl,fun h=>absurd rfl h⟩,⟨by kernel_rfl,fun h=>absurd rfl h⟩,⟨by kernel_rfl,fun h=>absurd rfl h⟩,⟨by kernel_rfl,fun h=>absurd rfl h⟩,⟨by kernel_rfl,fun _=>eqCells_of (by kernel_rfl)⟩,⟨by kernel_rfl,fun h=>absurd rfl h⟩,⟨by kernel_rfl,fun h=>absurd rfl h⟩,⟨by kernel_rfl,fun h=>absurd rfl h⟩,⟨by kernel_rfl,fun h=>absurd rfl h⟩,⟨by kernel_rfl,fun h=>absurd rfl h⟩,⟨by kernel_rfl,fun h=>absurd rfl h⟩,trivial⟩
theorem hΓ:ΓOK Try.prog (tabΓ tab):=ΓOK.of tabOK
theorem hm:Try.prog.follows .mixedOrders = true:=by kernel_rfl
structure S_api_Check where
 f_Test:List UInt8
 f_Every:Int
 f_Start:Int
 f_Retries:Int
structure S_api_Spec where
 f_Name:List UInt8
 f_Project:List UInt8
 f_Service:List UInt8
 f_Number:Int
 f_Hash:List UInt8
 f_Nets:List (List UInt8)
 f_Vols:List (List UInt8)
 f_Health:S_api_Check
 f_Restart:Int
 f_Tries:Int
structure S_api_Container where
 f_Id:Int
 f_Spec:S_api_Spec
 f_State:Int
 f_Code:Int
 f_Health:Int
 f_Runs:Int
structure S_api_Kept where
 f_Name:List UInt8
 f_Project:List UInt8
structure S_ref36_Seen where
 f_Boxes:List (S_api_Container)
 f_Nets:List (S_api_Kept)
 f_Vols:List (S_api_Kept)
structure S_api_Var where
 f_Key:List UInt8
 f_Val:List UInt8
structure S_api_Port where
 f_Host:List UInt8
 f_Out:Int
 f_In:Int
 f_Proto:List UInt8
structure S_api_Mount where
 f_Source:List UInt8
 f_Target:List UInt8
 f_ReadOnly:Bool
structure S_api_Dep where
 f_Service:List UInt8
 f_Cond:Int
 f_Restart:Bool
 f_Required:Bool
structure S_api_Service where
 f_Name:List UInt8
 f_Image:List UInt8
 f_Command:List (List UInt8)
 f_Env:List (S_api_Var)
 f_Labels:List (S_api_Var)
 f_Ports:List (S_api_Port)
 f_Mounts:List (S_api_Mount)
 f_Nets:List (List UInt8)
 f_Deps:List (S_api_Dep)
 f_Replicas:Int
 f_Health:S_api_Check
 f_Restart:Int
 f_Tries:Int
 f_Cpus:Int
 f_Mem:Int
structure S_api_Project where
 f_Name:List UInt8
 f_Services:List (S_api_Service)
 f_Nets:List (List UInt8)
 f_Vols:List (List UInt8)
abbrev Z_api_Spec:S_api_Spec:=(S_api_Spec.mk [] [] [] 0 [] [] [] (S_api_Check.mk [] 0 0 0) 0 0)
abbrev Z_api_Container:S_api_Container:=(S_api_Container.mk 0 Z_api_Spec 0 0 0 0)
def E_string:List UInt8 → List D:=fun x=>[.str x]
abbrev vi (x:Int):D:=.val (.int .i64 x)
abbrev vb (x:Bool):D:=.val (.bool x)
abbrev ls (l:List (List UInt8)):D:=.recs (α:=List UInt8) [] E_string l
theorem rg {nt:Nat} {F0:Fz} {w0:Pt Try.prog} {K:List (Nat × D)} {L:Boxes} {Q:Exit → Act → World → Prop} {id:Nat} {l:List Oper} (kk kl:List Nat) (K':List (Nat × D)) (L':Boxes) (hn:To nt F0 w0 K' L' .normal Q) (h:evRegion (CX Try.prog) (CallsB Try.prog) (tabΓ tab) nt [] [] l [] K L kk kl = some (K',L',[]):=by kernel_rfl):Wp Try.prog nt F0 w0 K L (.region id l.toArray false) Q:=Wp.region hΓ [] [] [] kk kl h AllP.nil hn
theorem rr {nt:Nat} {F0:Fz} {w0:Pt Try.prog} {K:List (Nat × D)} {L:Boxes} {Q:Exit → Act → World → Prop} {id:Nat} {l:List Oper} (fz:List (Nat × List Nat)) (orc:List (Nat × D)) (orb:List (Nat × CBd)) (kk kl:List Nat) (K':List (Nat × D)) (L':Boxes) (ob:List Prop) (hob:AllP ob) (hn:To nt F0 w0 K' L' .normal Q) (h:evRegion (CX Try.prog) (CallsB Try.prog) (tabΓ tab) nt orc orb l fz K L kk kl = some (K',L',ob):=by kernel_rfl):Wp Try.prog nt F0 w0 K L (.region id l.toArray false) Q:=Wp.region hΓ fz orc orb kk kl h hob hn
theorem kw {nt:Nat} {F0:Fz} {w0:Pt Try.prog} {K:List (Nat × D)} {L:Boxes} {Q:Exit → Act → World → Prop} {c:Code} (kk kl:List Nat) (K':List (Nat × D)) (L':Boxes) (hn:Wp Try.prog nt F0 w0 K' L' c Q) (h1:keepS K kk = some K':=by kernel_rfl) (h2:keepL L kl = some L':=by kernel_rfl):Wp Try.prog nt F0 w0 K L c Q:=Wp.keep h1 h2 hn
theorem kt {nt:Nat} {F0:Fz} {w0:Pt Try.prog} {K:List (Nat × D)} {L:Boxes} {Q:Exit → Act → World → Prop} {e:Exit} (kk kl:List Nat) (K':List (Nat × D)) (L':Boxes) (hn:To nt F0 w0 K' L' e Q) (h1:keepS K kk = some K':=by kernel_rfl) (h2:keepL L kl = some L':=by kernel_rfl):To nt F0 w0 K L e Q:=To.keep h1 h2 hn
theorem r0 {nt:Nat} {F0:Fz} {w0:Pt Try.prog} {K:List (Nat × D)} {L:Boxes} {Q:Exit → Act → World → Prop} {id:Nat} {l:List Oper} {ob:List Prop} (kk kl:List Nat) (K':List (Nat × D)) (L':Boxes) (hob:AllP ob) (hn:To nt F0 w0 K' L' .normal Q) (h:evRegion (CX Try.prog) (CallsB Try.prog) (tabΓ tab) nt [] [] l [] K L kk kl = some (K',L',ob):=by kernel_rfl):Wp Try.prog nt F0 w0 K L (.region id l.toArray false) Q:=Wp.region hΓ [] [] [] kk kl h hob hn
theorem rc {nt:Nat} {F0:Fz} {w0:Pt Try.prog} {K:List (Nat × D)} {L:Boxes} {Q:Exit → Act → World → Prop} {id:Nat} {l:List Oper} {f:Nat} {ds:List D} {r:D} (fz:List (Nat × List Nat)) (i:Nat) (kk kl:List Nat) (K':List (Nat × D)) (L':Boxes) (hc:CallsX Try.prog f ds r) (hn:To nt F0 w0 K' L' .normal Q) (h:evRegion (CX Try.prog) (CallsB Try.prog) (tabΓ tab) nt [(i,r)] [] l fz K L kk kl = some (K',L',[(true = true → CX Try.prog f ds r)]):=by kernel_rfl):Wp Try.prog nt F0 w0 K L (.region id l.toArray false) Q:=Wp.region hΓ fz [(i,r)] [] kk kl h (AllP.cons (fun _=>cx hc) AllP.nil) hn
theorem rb {nt:Nat} {F0:Fz} {w0:Pt Try.prog} {K:List (Nat × D)} {L:Boxes} {Q:Exit → Act → World → Prop} {id:Nat} {l:List Oper} {f:Nat} (fz:List (Nat × List Nat)) (i:Nat) (c:CBd) (kk kl:List Nat) (K':List (Nat × D)) (L':Boxes) (hc:CallsB Try.prog f c.ds c.Lin c.r c.Lout) (hn:To nt F0 w0 K' L' .normal Q) (h:evRegion (CX Try.prog) (CallsB Try.prog) (tabΓ tab) nt [] [(i,c)] l fz K L kk kl = some (K',L',[CbOb (CallsB Try.prog) f (D.subs (renF never c.ren) c.ds) (c.Lin.map fun x=>some (x.2.1,D.subs (renF never c.ren) x.2.2)) c]):=by kernel_rfl):Wp Try.prog nt F0 w0 K L (.region id l.toArray false) Q:=Wp.region hΓ fz [] [(i,c)] kk kl h (AllP.cons ⟨hc,rfl,rfl⟩ AllP.nil) hn
theorem c1 {f:Nat} {ds:List D} {r:D} (h:CallsX Try.prog f ds r):true = true → CX Try.prog f ds r:=fun _=>cx h
theorem cn {nt:Nat} {F0:Fz} {w0:Pt Try.prog} {K:List (Nat × D)} {L:Boxes} {Q:Exit → Act → World → Prop} {t:Nat} {x y:Code} {b:Bool} {α:Type _} {p q r:α} (h:(if b = true then p else q) = r) (h1:p = r → Wp Try.prog nt F0 w0 K L x Q) (h2:q = r → Wp Try.prog nt F0 w0 K L y Q) (hc:K.lookup t = some (.val (.bool b)):=by kernel_rfl):Wp Try.prog nt F0 w0 K L (.cond (.tmp t) x y) Q:=Wp.cond hc (fun hb=>h1 (if_t hb h)) (fun hb=>h2 (if_f hb h))
theorem xo {f : Nat} (fn : Func) {c : Code} {ds : List D} {r : D} (hbody : fn.body = some c) (h : ∀ (F0 : Fz) (w0 : World) (hsh : Shp Try.prog w0), Wp Try.prog fn.ntmps F0 (.top w0 hsh) (ds.zipIdx.map fun x => (x.2, x.1)) [] c (bodyPost Try.prog fn (PostX F0 w0 r))) (hf : Try.prog.funcs[f]? = some fn := by kernel_rfl) (hname : (fn.name == "runtime.NumGoroutine") = false := by kernel_rfl) (hn : ds.length.ble fn.ntmps = true := by kernel_rfl) : CallsX Try.prog f ds r := callsX_of hf hbody hname (Nat.le_of_ble_eq_true hn) h
theorem bo {f : Nat} (fn : Func) {c : Code} {ds : List D} {Lin : Boxes} {r : D} {Lout : Boxes} (hbody : fn.body = some c) (h : ∀ (F0 : Fz) (w0 : Pt Try.prog), Wp Try.prog fn.ntmps F0 w0 (ds.zipIdx.map fun x => (x.2, x.1)) Lin c (bodyPost Try.prog fn (PostB F0 w0 r Lout))) (hf : Try.prog.funcs[f]? = some fn := by kernel_rfl) (hname : (fn.name == "runtime.NumGoroutine") = false := by kernel_rfl) (hn : ds.length.ble fn.ntmps = true := by kernel_rfl) : CallsB Try.prog f ds Lin r Lout := callsB_of hf hbody hname (Nat.le_of_ble_eq_true hn) h
def rnA:List (Nat × Nat) → List (Nat × D) → Boxes → Option (List (Nat × D) × Boxes)
 | [],K,L=>some (K,L)
 | x :: rs,K,L=>if (Nat.blt x.2 1000000 && freshKey x.2 K L) = true then rnA rs (renK x.1 x.2 K) (renL x.1 x.2 L) else none
theorem rnA_st {nt:Nat} {F0:Fz} {w0:Pt Try.prog}:∀ (rs:List (Nat × Nat)) {K K':List (Nat × D)} {L L':Boxes},rnA rs K L = some (K',L') → ∀ a w,St nt F0 w0 K L a w → St nt F0 w0 K' L' a w
 | [],_,_,_,_,h,_,_,hs=>by cases h; exact hs
 | x :: rs,K,K',L,L',h,a,w,hs=>by
  unfold rnA at h
  split at h
  ·rename_i hc
   rw [Bool.and_eq_true] at hc
   exact rnA_st rs h a w (St.rename x.1 x.2 (by simpa using hc.1) hc.2 rfl rfl a w hs)
  ·cases h
def knA (rs:List (Nat × Nat)) (k0 l0 kk kl:List Nat) (K:List (Nat × D)) (L:Boxes):Option (List (Nat × D) × Boxes) :=
 match keepS K k0,keepL L l0 with
 | some K0,some L0=>(match rnA rs K0 L0 with
  | some (K1,L1)=>(match keepS K1 kk,keepL L1 kl with | some K2,some L2=>some (K2,L2) | _,_=>none)
  | none=>none)
 | _,_=>none
theorem knA_st {nt:Nat} {F0:Fz} {w0:Pt Try.prog} {rs:List (Nat × Nat)} {k0 l0 kk kl:List Nat} {K K':List (Nat × D)} {L L':Boxes} (h:knA rs k0 l0 kk kl K L = some (K',L')):∃ K0 L0 K1 L1,keepS K k0 = some K0 ∧ keepL L l0 = some L0 ∧ rnA rs K0 L0 = some (K1,L1) ∧ keepS K1 kk = some K' ∧ keepL L1 kl = some L':=by
 unfold knA at h
 split at h
 ·rename_i K0 L0 e1 e2
  split at h
  ·rename_i K1 L1 e3
   split at h
   ·rename_i K2 L2 e4 e5
    cases h
    exact ⟨K0,L0,K1,L1,e1,e2,e3,e4,e5⟩
   ·cases h
  ·cases h
 ·cases h
theorem nw {nt:Nat} {F0:Fz} {w0:Pt Try.prog} {K:List (Nat × D)} {L:Boxes} {Q:Exit → Act → World → Prop} {c:Code} (k0 l0:List Nat) (rs:List (Nat × Nat)) (kk kl:List Nat) (K':List (Nat × D)) (L':Boxes) (hn:Wp Try.prog nt F0 w0 K' L' c Q) (h:knA rs k0 l0 kk kl K L = some (K',L'):=by kernel_rfl):Wp Try.prog nt F0 w0 K L c Q :=
 let ⟨_,_,_,_,e1,e2,e3,e4,e5⟩:=knA_st (w0:=w0) (F0:=F0) (nt:=nt) h
 Wp.keep e1 e2 (Wp.pre (rnA_st rs e3) (Wp.keep e4 e5 hn))
theorem nt {nt:Nat} {F0:Fz} {w0:Pt Try.prog} {K:List (Nat × D)} {L:Boxes} {Q:Exit → Act → World → Prop} {e:Exit} (k0 l0:List Nat) (rs:List (Nat × Nat)) (kk kl:List Nat) (K':List (Nat × D)) (L':Boxes) (hn:To nt F0 w0 K' L' e Q) (h:knA rs k0 l0 kk kl K L = some (K',L'):=by kernel_rfl):To nt F0 w0 K L e Q :=
 let ⟨_,_,_,_,e1,e2,e3,e4,e5⟩:=knA_st (w0:=w0) (F0:=F0) (nt:=nt) h
 To.keep e1 e2 (To.pre (rnA_st rs e3) (To.keep e4 e5 hn))
def E_api_Container:S_api_Container → List D:=fun x=>[.val (.int .i64 x.f_Id),.str x.f_Spec.f_Name,.str x.f_Spec.f_Project,.str x.f_Spec.f_Service,.val (.int .i64 x.f_Spec.f_Number),.str x.f_Spec.f_Hash,.recs (α:=List UInt8) [] E_string x.f_Spec.f_Nets,.recs (α:=List UInt8) [] E_string x.f_Spec.f_Vols,.str x.f_Spec.f_Health.f_Test,.val (.int .i64 x.f_Spec.f_Health.f_Every),.val (.int .i64 x.f_Spec.f_Health.f_Start),.val (.int .i64 x.f_Spec.f_Health.f_Retries),.val (.int .i64 x.f_Spec.f_Restart),.val (.int .i64 x.f_Spec.f_Tries),.val (.int .i64 x.f_State),.val (.int .i64 x.f_Code),.val (.int .i64 x.f_Health),.val (.int .i64 x.f_Runs)]
def E_api_Kept:S_api_Kept → List D:=fun x=>[.str x.f_Name,.str x.f_Project]
abbrev Z_api_Service:S_api_Service:=(S_api_Service.mk [] [] [] [] [] [] [] [] [] 0 (S_api_Check.mk [] 0 0 0) 0 0 0 0)
def E_api_Var:S_api_Var → List D:=fun x=>[.str x.f_Key,.str x.f_Val]
def E_api_Port:S_api_Port → List D:=fun x=>[.str x.f_Host,.val (.int .i64 x.f_Out),.val (.int .i64 x.f_In),.str x.f_Proto]
def E_api_Mount:S_api_Mount → List D:=fun x=>[.str x.f_Source,.str x.f_Target,.val (.bool x.f_ReadOnly)]
def E_api_Dep:S_api_Dep → List D:=fun x=>[.str x.f_Service,.val (.int .i64 x.f_Cond),.val (.bool x.f_Restart),.val (.bool x.f_Required)]
def E_api_Service:S_api_Service → List D:=fun x=>[.str x.f_Name,.str x.f_Image,.recs (α:=List UInt8) [] E_string x.f_Command,.recs (α:=S_api_Var) (S_api_Var.mk [] []) E_api_Var x.f_Env,.recs (α:=S_api_Var) (S_api_Var.mk [] []) E_api_Var x.f_Labels,.recs (α:=S_api_Port) (S_api_Port.mk [] 0 0 []) E_api_Port x.f_Ports,.recs (α:=S_api_Mount) (S_api_Mount.mk [] [] false) E_api_Mount x.f_Mounts,.recs (α:=List UInt8) [] E_string x.f_Nets,.recs (α:=S_api_Dep) (S_api_Dep.mk [] 0 false false) E_api_Dep x.f_Deps,.val (.int .i64 x.f_Replicas),.str x.f_Health.f_Test,.val (.int .i64 x.f_Health.f_Every),.val (.int .i64 x.f_Health.f_Start),.val (.int .i64 x.f_Health.f_Retries),.val (.int .i64 x.f_Restart),.val (.int .i64 x.f_Tries),.val (.int .i64 x.f_Cpus),.val (.int .i64 x.f_Mem)]
def law36_Few_l2 (n:Nat) (v3:Int) (b1:S_ref36_Seen):Nat → Int → Option (Sum (Unit) (Bool))
 | 0,_=>none
 | k + 1,v4=>if (decide (v4 < v3)) = true then (if (decide (0 ≤ v3 ∧ v3 < (List.length b1.f_Boxes:Int))) = true then (if (decide (0 ≤ v4 ∧ v4 < (List.length b1.f_Boxes:Int))) = true then (if ((((b1.f_Boxes)[Int.toNat v3]?.getD Z_api_Container).f_Id) == (((b1.f_Boxes)[Int.toNat v4]?.getD Z_api_Container).f_Id)) = true then (some (.inr false))
 else (law36_Few_l2 n v3 b1 k (IntKind.wrap .i64 (v4 + 1)))) else none) else none)
 else (some (.inl ()))
abbrev zx1:S_api_Kept:=S_api_Kept.mk [] []
abbrev rs2 (l:List (S_api_Container)):D:=.recs (α:=S_api_Container) Z_api_Container E_api_Container l
abbrev rs3 (l:List (S_api_Kept)):D:=.recs (α:=S_api_Kept) zx1 E_api_Kept l
abbrev qc4 (x:S_ref36_Seen):List D:=[rs2 x.f_Boxes,rs3 x.f_Nets,rs3 x.f_Vols]
abbrev ex1 (x0:S_ref36_Seen) (x1:Int):=((x0.f_Boxes)[Int.toNat x1]?.getD Z_api_Container)
theorem ok_law36_Few_l2 (n:Nat) (v3:Int) (b1:S_ref36_Seen) {F0:Fz} {w0:Pt Try.prog} {Q:Exit → Act → World → Prop} (k:Nat):∀ (v4:Int) (o:Sum (Unit) (Bool)),law36_Few_l2 n v3 b1 k v4 = some o → (Sum.elim (fun s=>To 66 F0 w0 [(1,.own 1 0),(3,vi v3)] [(1,25,qc4 b1)] (.exit 2) Q) (fun s=>To 66 F0 w0 [(2,vb s)] [] .ret Q)) o → WL Try.prog 66 F0 w0 [(1,.own 1 0),(3,vi v3),(4,vi v4)] [(1,25,qc4 b1)] (cI (cI (cB (cB (cI (cA (cB (cI (cI (cB (cA (cB (cB (cF Try.f7)))))))))))))) Q:=by
 induction k with
 | zero=>intro v4 o h; cases h
 | succ k ih =>
  intro v4 o h hQ
  rw [law36_Few_l2] at h
  refine WL.round (Wp.seq (Wp.seq (rg [1,3,4,50] [1] [(1,.own 1 0),(3,vi v3),(4,vi v4),(50,vb (decide (v4 < v3)))] [(1,25,qc4 b1)] (To.thenN (cn h (fun h=>?_) (fun h=>?_))))))
  ·refine Wp.skip (To.thenN (Wp.seq (Wp.block (Wp.seq ?_))))
   obtain ⟨hc3,h⟩:=chk_of h
   obtain ⟨hc4,h⟩:=chk_of h
   refine Wp.regionD hm hΓ [] [1,3,4,65] [1] (K':=[(1,.own 1 0),(3,vi v3),(4,vi v4),(65,vb (((ex1 b1 v3).f_Id) == ((ex1 b1 v4).f_Id)))]) (L':=[(1,25,qc4 b1)]) (ob:=[(decide (0 ≤ v3 ∧ v3 < (List.length b1.f_Boxes:Int))) = true,(decide (0 ≤ v4 ∧ v4 < (List.length b1.f_Boxes:Int))) = true]) (by kernel_rfl) (AllP.cons hc3 (AllP.cons hc4 AllP.nil)) (To.thenN (cn h (fun h=>?_) (fun h=>?_)))
   ·refine Wp.seq (rg [2] [] [(2,vb false)] [] (To.thenN (Wp.ret (To.blockR (To.thenR (To.thenR ?_))))))
    cases h
    exact hQ
   ·refine Wp.skip (To.blockN (To.thenN (rg [1,3,4] [1] [(1,.own 1 0),(3,vi v3),(4,vi (IntKind.wrap .i64 (v4 + 1)))] [(1,25,qc4 b1)] (kt [1,3,4] [1] [(1,.own 1 0),(3,vi v3),(4,vi (IntKind.wrap .i64 (v4 + 1)))] [(1,25,qc4 b1)] (To.again ?_)))))
    exact ih (IntKind.wrap .i64 (v4 + 1)) _ h hQ
  ·refine Wp.exit (To.thenX (To.thenX (kt [1,3] [1] [(1,.own 1 0),(3,vi v3)] [(1,25,qc4 b1)] ?_)))
   cases h
   exact hQ
def law36_Few_l1 (n:Nat) (b1:S_ref36_Seen):Nat → Int → Option (Sum (Unit) (Bool))
 | 0,_=>none
 | k + 1,v3=>if (decide (v3 < (List.length b1.f_Boxes:Int))) = true then (if (decide (0 ≤ v3 ∧ v3 < (List.length b1.f_Boxes:Int))) = true then (if ((!((decide ((List.length (((b1.f_Boxes)[Int.toNat v3]?.getD Z_api_Container).f_Spec.f_Nets):Int) > 10)) == false) || decide (0 ≤ v3 ∧ v3 < (List.length b1.f_Boxes:Int)))) = true then (lett ((bif (decide ((List.length (((b1.f_Boxes)[Int.toNat v3]?.getD Z_api_Container).f_Spec.f_Nets):Int) > 10)) then true else (decide ((List.length (((b1.f_Boxes)[Int.toNat v3]?.getD Z_api_Container).f_Spec.f_Vols):Int) > 10))):Bool) fun x2 =>
 if x2 = true then (some (.inr false))
 else ((law36_Few_l2 n v3 b1 n 0).bind fun o3 =>
 (Sum.elim (fun o3=>law36_Few_l1 n b1 k (IntKind.wrap .i64 (v3 + 1))) (fun o3=>some (.inr o3))) o3)) else none) else none)
 else (some (.inl ()))
theorem ok_law36_Few_l1 (n:Nat) (b1:S_ref36_Seen) {F0:Fz} {w0:Pt Try.prog} {Q:Exit → Act → World → Prop} (k:Nat):∀ (v3:Int) (o:Sum (Unit) (Bool)),law36_Few_l1 n b1 k v3 = some o → (Sum.elim (fun s=>To 66 F0 w0 [] [] (.exit 0) Q) (fun s=>To 66 F0 w0 [(2,vb s)] [] .ret Q)) o → WL Try.prog 66 F0 w0 [(1,.own 1 0),(3,vi v3)] [(1,25,qc4 b1)] (cI (cI (cB (cA (cB (cB (cF Try.f7))))))) Q:=by
 induction k with
 | zero=>intro v3 o h; cases h
 | succ k ih =>
  intro v3 o h hQ
  rw [law36_Few_l1] at h
  refine WL.round (Wp.seq (Wp.seq (rg [1,3,25] [1] [(1,.own 1 0),(3,vi v3),(25,vb (decide (v3 < (List.length b1.f_Boxes:Int))))] [(1,25,qc4 b1)] (To.thenN (cn h (fun h=>?_) (fun h=>?_))))))
  ·refine Wp.skip (To.thenN (Wp.seq (Wp.block (Wp.seq (Wp.seq ?_)))))
   obtain ⟨hc4,h⟩:=chk_of h
   obtain ⟨hc5,h⟩:=chk_of h
   obtain ⟨x2,hx2,h⟩:=lett_of h
   refine r0 [1,3,47] [1] [(1,.own 1 0),(3,vi v3),(47,vb (bif (decide ((List.length ((ex1 b1 v3).f_Spec.f_Nets):Int) > 10)) then true else (decide ((List.length ((ex1 b1 v3).f_Spec.f_Vols):Int) > 10))))] [(1,25,qc4 b1)] (AllP.cons hc4 (AllP.cons hc5 AllP.nil)) (To.eq (K':=[(1,.own 1 0),(3,vi v3),(47,vb x2)]) (L':=[(1,25,qc4 b1)]) (by cases hx2; rfl) (by cases hx2; rfl) (To.thenN (cn h (fun h=>?_) (fun h=>?_))))
   ·refine Wp.seq (rg [2] [] [(2,vb false)] [] (To.thenN (Wp.ret (To.thenR (To.blockR (To.thenR (To.thenR ?_)))))))
    cases h
    exact hQ
   ·refine Wp.skip (To.thenN (Wp.seq (rg [1,3,4] [1] [(1,.own 1 0),(3,vi v3),(4,vi 0)] [(1,25,qc4 b1)] (To.thenN (Wp.block ?_)))))
    obtain ⟨o3,ho3,h⟩:=bind_of h
    refine kw [1,3,4] [1] [(1,.own 1 0),(3,vi v3),(4,vi 0)] [(1,25,qc4 b1)] (Wp.loopL (ok_law36_Few_l2 n v3 b1 n 0 o3 ho3 ?_))
    rcases o3 with o3 | o3
    ·replace h:=sum_l h
     refine To.blockX (To.blockN (To.thenN (rg [1,3] [1] [(1,.own 1 0),(3,vi (IntKind.wrap .i64 (v3 + 1)))] [(1,25,qc4 b1)] (kt [1,3] [1] [(1,.own 1 0),(3,vi (IntKind.wrap .i64 (v3 + 1)))] [(1,25,qc4 b1)] (To.again ?_)))))
     exact ih (IntKind.wrap .i64 (v3 + 1)) _ h hQ
    ·replace h:=sum_r h
     refine To.blockR (To.blockR (To.thenR (To.thenR (kt [2] [] [(2,vb o3)] [] ?_))))
     cases h
     exact hQ
  ·refine Wp.exit (To.thenX (To.thenX (kt [] [] [] [] ?_)))
   cases h
   exact hQ
def law36_Few (n:Nat) (a0:S_ref36_Seen):Option (Bool) :=
 lett ((bif (bif (decide ((List.length a0.f_Boxes:Int) > 40)) then true else (decide ((List.length a0.f_Nets:Int) > 40))) then true else (decide ((List.length a0.f_Vols:Int) > 40))):Bool) fun x1 =>
 if x1 = true then some false
 else ((law36_Few_l1 n a0 n 0).bind fun o2 =>
 (Sum.elim (fun o2=>some true) (fun o2=>some o2)) o2)
theorem ok_law36_Few (n:Nat) (a0:S_ref36_Seen) (r:Bool) (h:law36_Few n a0 = some r):CallsX Try.prog 7 [.agg (qc4 a0)] (vb r):=by
 unfold law36_Few at h
 refine xo Try.f7 rfl fun F0 w0 _=>?_
 refine Wp.seq (rg [1] [1] [(1,.own 1 0)] [(1,25,qc4 a0)] (To.thenN (Wp.seq (Wp.seq ?_))))
 obtain ⟨x1,hx1,h⟩:=lett_of h
 refine rg [1,20] [1] [(1,.own 1 0),(20,vb (bif (bif (decide ((List.length a0.f_Boxes:Int) > 40)) then true else (decide ((List.length a0.f_Nets:Int) > 40))) then true else (decide ((List.length a0.f_Vols:Int) > 40))))] [(1,25,qc4 a0)] (To.eq (K':=[(1,.own 1 0),(20,vb x1)]) (L':=[(1,25,qc4 a0)]) (by cases hx1; rfl) (by cases hx1; rfl) (To.thenN (cn h (fun h=>?_) (fun h=>?_))))
 ·refine Wp.seq (rg [2] [] [(2,vb false)] [] (To.thenN (Wp.ret (To.thenR ?_))))
  cases h
  exact To.done hΓ (by kernel_rfl)
 ·refine Wp.skip (To.thenN (Wp.seq (Wp.seq (rg [1,3] [1] [(1,.own 1 0),(3,vi 0)] [(1,25,qc4 a0)] (To.thenN (Wp.block ?_))))))
  obtain ⟨o2,ho2,h⟩:=bind_of h
  refine kw [1,3] [1] [(1,.own 1 0),(3,vi 0)] [(1,25,qc4 a0)] (Wp.loopL (ok_law36_Few_l1 n a0 n 0 o2 ho2 ?_))
  rcases o2 with o2 | o2
  ·replace h:=sum_l h
   refine To.blockX (To.thenN (Wp.seq (rg [2] [] [(2,vb true)] [] (To.thenN (Wp.ret ?_)))))
   cases h
   exact To.done hΓ (by kernel_rfl)
  ·replace h:=sum_r h
   refine To.blockR (To.thenR ?_)
   cases h
   exact To.done hΓ (by kernel_rfl)
theorem good_E_api_Container (l:List (S_api_Container)):GoodR (.recs Z_api_Container E_api_Container l):=⟨Nat.le_of_ble_eq_true (by kernel_rfl),fun _=>⟨rfl,rfl⟩⟩
def view_Mine_1__e (a0:S_api_Container) (c0:List UInt8):Bool :=
 (a0.f_Spec.f_Project == c0)
abbrev qc5 (x:S_api_Container):List D:=[vi x.f_Id,.str x.f_Spec.f_Name,.str x.f_Spec.f_Project,.str x.f_Spec.f_Service,vi x.f_Spec.f_Number,.str x.f_Spec.f_Hash,ls x.f_Spec.f_Nets,ls x.f_Spec.f_Vols,.str x.f_Spec.f_Health.f_Test,vi x.f_Spec.f_Health.f_Every,vi x.f_Spec.f_Health.f_Start,vi x.f_Spec.f_Health.f_Retries,vi x.f_Spec.f_Restart,vi x.f_Spec.f_Tries,vi x.f_State,vi x.f_Code,vi x.f_Health,vi x.f_Runs]
theorem ok_view_Mine_1__e (a0:S_api_Container) (c0:List UInt8) (r:Bool) (h:view_Mine_1__e a0 c0 = r):CallsX Try.prog 44 [.agg (qc5 a0),.el [.str c0]] (vb r):=by
 unfold view_Mine_1__e at h
 refine xo Try.f44 rfl fun F0 w0 _=>?_
 refine Wp.seq (rg [1,2] [2] [(1,.el [.str c0]),(2,.own 2 0)] [(2,49,(E_api_Container a0))] (To.thenN (Wp.seq (rg [3] [] [(3,vb (a0.f_Spec.f_Project == c0))] [] (To.thenN (Wp.ret ?_))))))
 cases h
 exact To.done hΓ (by kernel_rfl)
def cmp_isNaN_string (a0:List UInt8):Bool :=
 (!(a0 == a0))
theorem ok_cmp_isNaN_string (a0:List UInt8) (r:Bool) (h:cmp_isNaN_string a0 = r):CallsX Try.prog 88 [.str a0] (vb r):=by
 unfold cmp_isNaN_string at h
 refine xo Try.f88 rfl fun F0 w0 _=>?_
 refine Wp.seq (rg [0] [] [(0,.str a0)] [] (To.thenN (Wp.seq (rg [2] [] [(2,vb (!(a0 == a0)))] [] (To.thenN (Wp.ret ?_))))))
 cases h
 exact To.done hΓ (by kernel_rfl)
def cmp_Compare_string (a0:List UInt8) (a1:List UInt8):Int :=
 if (cmp_isNaN_string a0) = true then (if (cmp_isNaN_string a1) = true then 0
 else ((-1)))
 else (if (cmp_isNaN_string a1) = true then 1
 else (if (Op.bytesLess a0 a1) = true then ((-1))
 else (if (!(Op.bytesLess a0 a1 || a0 == a1)) = true then 1
 else 0)))
theorem ok_cmp_Compare_string (a0:List UInt8) (a1:List UInt8) (r:Int) (h:cmp_Compare_string a0 a1 = r):CallsX Try.prog 69 [.str a0,.str a1] (vi r):=by
 unfold cmp_Compare_string at h
 refine xo Try.f69 rfl fun F0 w0 _=>?_
 refine Wp.seq (rg [0,1] [] [(0,.str a0),(1,.str a1)] [] (To.thenN (Wp.seq (rc [] 1 [0,1,5] [] [(0,.str a0),(1,.str a1),(5,vb (cmp_isNaN_string a0))] [] (ok_cmp_isNaN_string a0 _ rfl) (To.thenN (Wp.seq (rc [] 1 [0,1,5,6] [] [(0,.str a0),(1,.str a1),(5,vb (cmp_isNaN_string a0)),(6,vb (cmp_isNaN_string a1))] [] (ok_cmp_isNaN_string a1 _ rfl) (To.thenN (Wp.seq (Wp.seq ?_))))))))))
 refine rg [0,1,6,11] [] [(0,.str a0),(1,.str a1),(6,vb (cmp_isNaN_string a1)),(11,vb (cmp_isNaN_string a0))] [] (To.thenN (cn h (fun h=>?_) (fun h=>?_)))
 ·refine Wp.seq (Wp.seq (rg [12] [] [(12,vb (cmp_isNaN_string a1))] [] (To.thenN (cn h (fun h=>?_) (fun h=>?_)))))
  ·refine Wp.seq (rg [4] [] [(4,vi 0)] [] (To.thenN (Wp.ret (To.thenR (To.thenR ?_)))))
   cases h
   exact To.done hΓ (by kernel_rfl)
  ·refine Wp.skip (To.thenN (Wp.seq (rg [4] [] [(4,vi (-1))] [] (To.thenN (Wp.ret (To.thenR ?_))))))
   cases h
   exact To.done hΓ (by kernel_rfl)
 ·refine Wp.skip (To.thenN (Wp.seq (Wp.seq (rg [0,1,13] [] [(0,.str a0),(1,.str a1),(13,vb (cmp_isNaN_string a1))] [] (To.thenN (cn h (fun h=>?_) (fun h=>?_)))))))
  ·refine Wp.seq (rg [4] [] [(4,vi 1)] [] (To.thenN (Wp.ret (To.thenR ?_))))
   cases h
   exact To.done hΓ (by kernel_rfl)
  ·refine Wp.skip (To.thenN (Wp.seq (Wp.seq (rg [0,1,16] [] [(0,.str a0),(1,.str a1),(16,vb (Op.bytesLess a0 a1))] [] (To.thenN (cn h (fun h=>?_) (fun h=>?_)))))))
   ·refine Wp.seq (rg [4] [] [(4,vi (-1))] [] (To.thenN (Wp.ret (To.thenR ?_))))
    cases h
    exact To.done hΓ (by kernel_rfl)
   ·refine Wp.skip (To.thenN (Wp.seq (Wp.seq (rg [19] [] [(19,vb (!(Op.bytesLess a0 a1 || a0 == a1)))] [] (To.thenN (cn h (fun h=>?_) (fun h=>?_)))))))
    ·refine Wp.seq (rg [4] [] [(4,vi 1)] [] (To.thenN (Wp.ret (To.thenR ?_))))
     cases h
     exact To.done hΓ (by kernel_rfl)
    ·refine Wp.skip (To.thenN (Wp.seq (rg [4] [] [(4,vi 0)] [] (To.thenN (Wp.ret ?_)))))
     cases h
     exact To.done hΓ (by kernel_rfl)
def cmp_isNaN_int (a0:Int):Bool :=
 (a0 != a0)
theorem ok_cmp_isNaN_int (a0:Int) (r:Bool) (h:cmp_isNaN_int a0 = r):CallsX Try.prog 89 [vi a0] (vb r):=by
 unfold cmp_isNaN_int at h
 refine xo Try.f89 rfl fun F0 w0 _=>?_
 refine Wp.seq (rg [0] [] [(0,vi a0)] [] (To.thenN (Wp.seq (rg [2] [] [(2,vb (a0 != a0))] [] (To.thenN (Wp.ret ?_))))))
 cases h
 exact To.done hΓ (by kernel_rfl)
def cmp_Compare_int (a0:Int) (a1:Int):Int :=
 if (cmp_isNaN_int a0) = true then (if (cmp_isNaN_int a1) = true then 0
 else ((-1)))
 else (if (cmp_isNaN_int a1) = true then 1
 else (if (decide (a0 < a1)) = true then ((-1))
 else (if (decide (a0 > a1)) = true then 1
 else 0)))
theorem ok_cmp_Compare_int (a0:Int) (a1:Int) (r:Int) (h:cmp_Compare_int a0 a1 = r):CallsX Try.prog 70 [vi a0,vi a1] (vi r):=by
 unfold cmp_Compare_int at h
 refine xo Try.f70 rfl fun F0 w0 _=>?_
 refine Wp.seq (rg [0,1] [] [(0,vi a0),(1,vi a1)] [] (To.thenN (Wp.seq (rc [] 1 [0,1,5] [] [(0,vi a0),(1,vi a1),(5,vb (cmp_isNaN_int a0))] [] (ok_cmp_isNaN_int a0 _ rfl) (To.thenN (Wp.seq (rc [] 1 [0,1,5,6] [] [(0,vi a0),(1,vi a1),(5,vb (cmp_isNaN_int a0)),(6,vb (cmp_isNaN_int a1))] [] (ok_cmp_isNaN_int a1 _ rfl) (To.thenN (Wp.seq (Wp.seq ?_))))))))))
 refine rg [0,1,6,11] [] [(0,vi a0),(1,vi a1),(6,vb (cmp_isNaN_int a1)),(11,vb (cmp_isNaN_int a0))] [] (To.thenN (cn h (fun h=>?_) (fun h=>?_)))
 ·refine Wp.seq (Wp.seq (rg [12] [] [(12,vb (cmp_isNaN_int a1))] [] (To.thenN (cn h (fun h=>?_) (fun h=>?_)))))
  ·refine Wp.seq (rg [4] [] [(4,vi 0)] [] (To.thenN (Wp.ret (To.thenR (To.thenR ?_)))))
   cases h
   exact To.done hΓ (by kernel_rfl)
  ·refine Wp.skip (To.thenN (Wp.seq (rg [4] [] [(4,vi (-1))] [] (To.thenN (Wp.ret (To.thenR ?_))))))
   cases h
   exact To.done hΓ (by kernel_rfl)
 ·refine Wp.skip (To.thenN (Wp.seq (Wp.seq (rg [0,1,13] [] [(0,vi a0),(1,vi a1),(13,vb (cmp_isNaN_int a1))] [] (To.thenN (cn h (fun h=>?_) (fun h=>?_)))))))
  ·refine Wp.seq (rg [4] [] [(4,vi 1)] [] (To.thenN (Wp.ret (To.thenR ?_))))
   cases h
   exact To.done hΓ (by kernel_rfl)
  ·refine Wp.skip (To.thenN (Wp.seq (Wp.seq (rg [0,1,16] [] [(0,vi a0),(1,vi a1),(16,vb (decide (a0 < a1)))] [] (To.thenN (cn h (fun h=>?_) (fun h=>?_)))))))
   ·refine Wp.seq (rg [4] [] [(4,vi (-1))] [] (To.thenN (Wp.ret (To.thenR ?_))))
    cases h
    exact To.done hΓ (by kernel_rfl)
   ·refine Wp.skip (To.thenN (Wp.seq (Wp.seq (rg [19] [] [(19,vb (decide (a0 > a1)))] [] (To.thenN (cn h (fun h=>?_) (fun h=>?_)))))))
    ·refine Wp.seq (rg [4] [] [(4,vi 1)] [] (To.thenN (Wp.ret (To.thenR ?_))))
     cases h
     exact To.done hΓ (by kernel_rfl)
    ·refine Wp.skip (To.thenN (Wp.seq (rg [4] [] [(4,vi 0)] [] (To.thenN (Wp.ret ?_)))))
     cases h
     exact To.done hΓ (by kernel_rfl)
def E_i64:Int → List D:=fun x=>[.val (.int .i64 x)]
def cmp_Or_int_l1 (n:Nat) (v3:Int) (v6:List (Int)) (v7:Int):Nat → Int → Option (Sum (Unit) (Int))
 | 0,_=>none
 | k + 1,v8=>if (decide (v8 < v7)) = true then (if (decide (0 ≤ v8 ∧ v8 < (List.length v6:Int))) = true then (if (((v6)[Int.toNat v8]?.getD 0) != v3) = true then (some (.inr ((v6)[Int.toNat v8]?.getD 0)))
 else (cmp_Or_int_l1 n v3 v6 v7 k (IntKind.wrap .i64 (v8 + 1)))) else none)
 else (some (.inl ()))
abbrev rs6 (l:List (Int)):D:=.recs (α:=Int) 0 E_i64 l
abbrev ex2 (x0:Int):Nat × D:=(8,vi (IntKind.wrap .i64 (x0 + 1)))
theorem ok_cmp_Or_int_l1 (n:Nat) (v3:Int) (v6:List (Int)) (v7:Int) {F0:Fz} {w0:Pt Try.prog} {Q:Exit → Act → World → Prop} (k:Nat):∀ (v8:Int) (o:Sum (Unit) (Int)),cmp_Or_int_l1 n v3 v6 v7 k v8 = some o → (Sum.elim (fun s=>To 18 F0 w0 [(3,vi v3)] [] (.exit 0) Q) (fun s=>To 18 F0 w0 [(2,vi s)] [] .ret Q)) o → WL Try.prog 18 F0 w0 [(3,vi v3),(6,rs6 v6),(7,vi v7),(8,vi v8)] [] (cI (cI (cB (cA (cB (cB (cF Try.f68))))))) Q:=by
 induction k with
 | zero=>intro v8 o h; cases h
 | succ k ih =>
  intro v8 o h hQ
  rw [cmp_Or_int_l1] at h
  refine WL.round (Wp.seq (rg [3,6,7,8,9] [] [(3,vi v3),(6,rs6 v6),(7,vi v7),(8,vi v8),(9,vb (decide (v8 < v7)))] [] (To.thenN (Wp.seq (cn h (fun h=>?_) (fun h=>?_))))))
  ·refine Wp.skip (To.thenN (Wp.seq (Wp.block (Wp.seq ?_))))
   obtain ⟨hc1,h⟩:=chk_of h
   refine r0 [3,5,6,7,8] [] [(3,vi v3),(5,vi ((v6)[Int.toNat v8]?.getD 0)),(6,rs6 v6),(7,vi v7),(8,vi v8)] [] (AllP.cons hc1 AllP.nil) (To.thenN (Wp.seq (rg [3,5,6,7,8,14] [] [(3,vi v3),(5,vi ((v6)[Int.toNat v8]?.getD 0)),(6,rs6 v6),(7,vi v7),(8,vi v8),(14,vb (((v6)[Int.toNat v8]?.getD 0) != v3))] [] (To.thenN (cn h (fun h=>?_) (fun h=>?_))))))
   ·refine Wp.seq (rg [2] [] [(2,vi ((v6)[Int.toNat v8]?.getD 0))] [] (To.thenN (Wp.ret (To.blockR (To.thenR (To.thenR ?_))))))
    cases h
    exact hQ
   ·refine Wp.skip (To.blockN (To.thenN (rg [3,6,7,8] [] [(3,vi v3),(6,rs6 v6),(7,vi v7),(ex2 v8)] [] (kt [3,6,7,8] [] [(3,vi v3),(6,rs6 v6),(7,vi v7),(ex2 v8)] [] (To.again ?_)))))
    exact ih (IntKind.wrap .i64 (v8 + 1)) _ h hQ
  ·refine Wp.exit (To.thenX (To.thenX (kt [3] [] [(3,vi v3)] [] ?_)))
   cases h
   exact hQ
def cmp_Or_int (n:Nat) (a0:List (Int)):Option (Int) :=
 (cmp_Or_int_l1 n 0 a0 (List.length a0:Int) n 0).bind fun o1 =>
 (Sum.elim (fun o1=>some 0) (fun o1=>some o1)) o1
theorem ok_cmp_Or_int (n:Nat) (a0:List (Int)) (r:Int) (h:cmp_Or_int n a0 = some r):CallsX Try.prog 68 [rs6 a0] (vi r):=by
 unfold cmp_Or_int at h
 refine xo Try.f68 rfl fun F0 w0 _=>?_
 refine Wp.seq (rg [0] [] [(0,rs6 a0)] [] (To.thenN (Wp.seq (rg [0,3] [] [(0,rs6 a0),(3,vi 0)] [] (To.thenN (Wp.seq (Wp.seq (rg [3,6,7,8] [] [(3,vi 0),(6,rs6 a0),(7,vi (List.length a0:Int)),(8,vi 0)] [] (To.thenN (Wp.block ?_))))))))))
 obtain ⟨o1,ho1,h⟩:=bind_of h
 refine kw [3,6,7,8] [] [(3,vi 0),(6,rs6 a0),(7,vi (List.length a0:Int)),(8,vi 0)] [] (Wp.loopL (ok_cmp_Or_int_l1 n 0 a0 (List.length a0:Int) n 0 o1 ho1 ?_))
 rcases o1 with o1 | o1
 ·replace h:=sum_l h
  refine To.blockX (To.thenN (Wp.seq (rg [2] [] [(2,vi 0)] [] (To.thenN (Wp.ret ?_)))))
  cases h
  exact To.done hΓ (by kernel_rfl)
 ·replace h:=sum_r h
  refine To.blockR (To.thenR ?_)
  cases h
  exact To.done hΓ (by kernel_rfl)
theorem good_E_i64 (l:List (Int)):GoodR (.recs 0 E_i64 l):=⟨Nat.le_of_ble_eq_true (by kernel_rfl),fun _=>⟨rfl,rfl⟩⟩
def view_sorted_1 (n:Nat) (a0:S_api_Container) (a1:S_api_Container):Option (Int) :=
 (cmp_Or_int n [(cmp_Compare_string a0.f_Spec.f_Service a1.f_Spec.f_Service),(cmp_Compare_int a0.f_Spec.f_Number a1.f_Spec.f_Number),(cmp_Compare_int a0.f_Id a1.f_Id)]).bind fun r1 =>
 some r1
abbrev ex3 (x0:S_api_Container) (x1:S_api_Container):=(cmp_Compare_string x0.f_Spec.f_Service x1.f_Spec.f_Service)
abbrev ex4 (x0:S_api_Container) (x1:S_api_Container):=(cmp_Compare_int x0.f_Spec.f_Number x1.f_Spec.f_Number)
theorem ok_view_sorted_1 (n:Nat) (a0:S_api_Container) (a1:S_api_Container) (r:Int) (h:view_sorted_1 n a0 a1 = some r):CallsX Try.prog 67 [.agg (qc5 a0),.agg (qc5 a1)] (vi r):=by
 unfold view_sorted_1 at h
 refine xo Try.f67 rfl fun F0 w0 _=>?_
 refine Wp.seq (rg [2,3] [2,3] [(2,.own 2 0),(3,.own 3 0)] [(2,49,(E_api_Container a0)),(3,49,(E_api_Container a1))] (To.thenN (Wp.seq ?_)))
 obtain ⟨r1,hr1,h⟩:=bind_of h
 refine Wp.regionD hm hΓ [(6,vi (ex3 a0 a1)),(13,vi (ex4 a0 a1)),(18,vi (cmp_Compare_int a0.f_Id a1.f_Id)),(19,rs6 [(ex3 a0 a1),(ex4 a0 a1),(cmp_Compare_int a0.f_Id a1.f_Id)]),(20,vi r1)] [4] [] (K':=[(4,vi r1)]) (L':=[]) (ob:=[(true = true → CX Try.prog 69 [.str a0.f_Spec.f_Service,.str a1.f_Spec.f_Service] (vi (ex3 a0 a1))),(true = true → CX Try.prog 70 [vi a0.f_Spec.f_Number,vi a1.f_Spec.f_Number] (vi (ex4 a0 a1))),(true = true → CX Try.prog 70 [vi a0.f_Id,vi a1.f_Id] (vi (cmp_Compare_int a0.f_Id a1.f_Id))),(true = true → MkOb 1 [vi (ex3 a0 a1),vi (ex4 a0 a1),vi (cmp_Compare_int a0.f_Id a1.f_Id)] 3 (rs6 [(ex3 a0 a1),(ex4 a0 a1),(cmp_Compare_int a0.f_Id a1.f_Id)]) ∧ GoodR (rs6 [(ex3 a0 a1),(ex4 a0 a1),(cmp_Compare_int a0.f_Id a1.f_Id)])),(true = true → CX Try.prog 68 [rs6 [(ex3 a0 a1),(ex4 a0 a1),(cmp_Compare_int a0.f_Id a1.f_Id)]] (vi r1))]) (by kernel_rfl) (AllP.cons (fun _=>cx (ok_cmp_Compare_string a0.f_Spec.f_Service a1.f_Spec.f_Service _ rfl)) (AllP.cons (fun _=>cx (ok_cmp_Compare_int a0.f_Spec.f_Number a1.f_Spec.f_Number _ rfl)) (AllP.cons (fun _=>cx (ok_cmp_Compare_int a0.f_Id a1.f_Id _ rfl)) (AllP.cons (fun _=>mkOb (by kernel_rfl) rfl (by kernel_rfl) (good_E_i64 _)) (AllP.cons (fun _=>cx (ok_cmp_Or_int n [(ex3 a0 a1),(ex4 a0 a1),(cmp_Compare_int a0.f_Id a1.f_Id)] _ hr1)) AllP.nil))))) (To.thenN (Wp.ret ?_))
 cases h
 exact To.done hΓ (by kernel_rfl)
def view_those_api_Container_o__view_Mine_1_e_j2 (n:Nat) (v1_0:List UInt8) (v5:List (S_api_Container)) (v8:List (S_api_Container)) (v9:Int) (v10:Int):Option ((List (S_api_Container))) :=
 if (decide (0 ≤ v10 ∧ v10 < (List.length v8:Int))) = true then (lett (view_Mine_1__e ((v8)[Int.toNat v10]?.getD Z_api_Container) v1_0) fun r1 =>
 if r1 = true then (if (decide ((List.length v5 + List.length ([((v8)[Int.toNat v10]?.getD Z_api_Container)]:List (S_api_Container))) * (216 + 1) ≤ limit)) = true then (some (v5 ++ ([((v8)[Int.toNat v10]?.getD Z_api_Container)]:List (S_api_Container)))) else none)
 else some v5) else none
abbrev rc7 (l:List (S_api_Container)):D:=.rowc false (α:=S_api_Container) Z_api_Container E_api_Container l
abbrev ex5 (x0:List (S_api_Container)) (x1:Int):=((x0)[Int.toNat x1]?.getD Z_api_Container)
abbrev ex6 (x0:Int) (x1:List (S_api_Container)):=(decide (0 ≤ x0 ∧ x0 < (List.length x1:Int)))
abbrev ex20 (x0:List (S_api_Container)) (x1:Int):=([(ex5 x0 x1)]:List (S_api_Container))
abbrev ex21 (x0:List (S_api_Container)) (x1:Int):=((ex5 x0 x1).f_Spec.f_Health.f_Retries)
abbrev ex22 (x0:List (S_api_Container)) (x1:Int):=((ex5 x0 x1).f_Spec.f_Health.f_Every)
abbrev ex23 (x0:List (S_api_Container)) (x1:Int):=((ex5 x0 x1).f_Spec.f_Health.f_Start)
abbrev ex24 (x0:List (S_api_Container)) (x1:Int):=((ex5 x0 x1).f_Spec.f_Health.f_Test)
abbrev ex25 (x0:List (S_api_Container)) (x1:Int):=((ex5 x0 x1).f_Spec.f_Service)
abbrev ex26 (x0:List (S_api_Container)) (x1:Int):=((ex5 x0 x1).f_Spec.f_Project)
abbrev ex27 (x0:List (S_api_Container)) (x1:Int):=((ex5 x0 x1).f_Spec.f_Restart)
abbrev ex28 (x0:List (S_api_Container)) (x1:Int):Nat × Nat × List D:=(7,49,(E_api_Container (ex5 x0 x1)))
abbrev ex32 (x0:List (S_api_Container)) (x1:List (S_api_Container)) (x2:Int):=(AppOb Z_api_Container E_api_Container x0 (List.flatMap E_api_Container (ex20 x1 x2)) (List.length (ex20 x1 x2)) (rs2 (x0 ++ (ex20 x1 x2))) ∧ GoodR (rs2 (x0 ++ (ex20 x1 x2))))
theorem ok_view_those_api_Container_o__view_Mine_1_e_j2 (n:Nat) (v1_0:List UInt8) (v5:List (S_api_Container)) (v8:List (S_api_Container)) (v9:Int) (v10:Int) (o:(List (S_api_Container))) (h:view_those_api_Container_o__view_Mine_1_e_j2 n v1_0 v5 v8 v9 v10 = some o) {F0:Fz} {w0:Pt Try.prog} {Q:Exit → Act → World → Prop} (hQ:To 23 F0 w0 [(1,.fn 44 [.el [.str v1_0]]),(5,.row 1005),(8,rs2 v8),(9,vi v9),(10,vi v10)] [(1005,49,[rc7 o])] .normal Q):Wp Try.prog 23 F0 w0 [(1,.fn 44 [.el [.str v1_0]]),(5,.row 1005),(8,rs2 v8),(9,vi v9),(10,vi v10)] [(1005,49,[rc7 v5])] (cA (cB (cB (cI (cI (cB (cA (cB (cB (cF Try.f40)))))))))) Q:=by
 unfold view_those_api_Container_o__view_Mine_1_e_j2 at h
 refine Wp.block (Wp.seq ?_)
 obtain ⟨hc3,h⟩:=chk_of h
 refine r0 [1,5,7,8,9,10] [7,1005] [(1,.fn 44 [.el [.str v1_0]]),(5,.row 1005),(7,.own 7 0),(8,rs2 v8),(9,vi v9),(10,vi v10)] [(ex28 v8 v10),(1005,49,[rc7 v5])] (AllP.cons hc3 AllP.nil) (To.thenN (Wp.seq ?_))
 obtain ⟨r1,hr1,h⟩:=lett_of h
 refine rc [] 2 [1,5,7,8,9,10,16] [7,1005] [(1,.fn 44 [.el [.str v1_0]]),(5,.row 1005),(7,.own 7 0),(8,rs2 v8),(9,vi v9),(10,vi v10),(16,vb r1)] [(ex28 v8 v10),(1005,49,[rc7 v5])] (ok_view_Mine_1__e (ex5 v8 v10) v1_0 _ hr1) (To.thenN (cn h (fun h=>?_) (fun h=>?_)))
 ·obtain ⟨hc2,h⟩:=chk_of h
  refine rr [] [(2,rs2 ([(ex5 v8 v10)])),(3,rs2 (v5 ++ (ex20 v8 v10)))] [] [1,5,8,9,10] [20] [(1,.fn 44 [.el [.str v1_0]]),(5,.row 20),(8,rs2 v8),(9,vi v9),(10,vi v10)] [(20,49,[rc7 (v5 ++ (ex20 v8 v10))])] [(MkOb 18 [vi ((ex5 v8 v10).f_Id),.str ((ex5 v8 v10).f_Spec.f_Name),.str (ex26 v8 v10),.str (ex25 v8 v10),vi ((ex5 v8 v10).f_Spec.f_Number),.str ((ex5 v8 v10).f_Spec.f_Hash),ls ((ex5 v8 v10).f_Spec.f_Nets),ls ((ex5 v8 v10).f_Spec.f_Vols),.str (ex24 v8 v10),vi (ex22 v8 v10),vi (ex23 v8 v10),vi (ex21 v8 v10),vi (ex27 v8 v10),vi ((ex5 v8 v10).f_Spec.f_Tries),vi ((ex5 v8 v10).f_State),vi ((ex5 v8 v10).f_Code),vi ((ex5 v8 v10).f_Health),vi ((ex5 v8 v10).f_Runs)] 1 (rs2 ([(ex5 v8 v10)])) ∧ GoodR (rs2 ([(ex5 v8 v10)]))),_,(ex32 v5 v8 v10)] (AllP.cons (mkOb (by kernel_rfl) rfl (by kernel_rfl) (good_E_api_Container _)) (AllP.cons hc2 (AllP.cons (appOb rfl rfl (good_E_api_Container _)) AllP.nil))) (To.blockN (nt [1,5,8,9,10] [20] [(20,1005)] [1,5,8,9,10] [1005] [(1,.fn 44 [.el [.str v1_0]]),(5,.row 1005),(8,rs2 v8),(9,vi v9),(10,vi v10)] [(1005,49,[rc7 (v5 ++ (ex20 v8 v10))])] ?_))
  cases h
  exact hQ
 ·refine Wp.skip (To.blockN (kt [1,5,8,9,10] [1005] [(1,.fn 44 [.el [.str v1_0]]),(5,.row 1005),(8,rs2 v8),(9,vi v9),(10,vi v10)] [(1005,49,[rc7 v5])] ?_))
  cases h
  exact hQ
def view_those_api_Container_o__view_Mine_1_e_l1 (n:Nat) (v1_0:List UInt8) (v8:List (S_api_Container)) (v9:Int):Nat → (List (S_api_Container)) → Int → Option ((List (S_api_Container)))
 | 0,_,_=>none
 | k + 1,v5,v10=>if (decide (v10 < v9)) = true then ((view_those_api_Container_o__view_Mine_1_e_j2 n v1_0 v5 v8 v9 v10).bind fun o1 =>
 view_those_api_Container_o__view_Mine_1_e_l1 n v1_0 v8 v9 k o1 (IntKind.wrap .i64 (v10 + 1)))
 else some v5
abbrev ex7 (x0:Int):Nat × D:=(10,vi (IntKind.wrap .i64 (x0 + 1)))
theorem ok_view_those_api_Container_o__view_Mine_1_e_l1 (n:Nat) (v1_0:List UInt8) (v8:List (S_api_Container)) (v9:Int) {F0:Fz} {w0:Pt Try.prog} {Q:Exit → Act → World → Prop} (k:Nat):∀ (v5:List (S_api_Container)) (v10:Int) (o:(List (S_api_Container))),view_those_api_Container_o__view_Mine_1_e_l1 n v1_0 v8 v9 k v5 v10 = some o → To 23 F0 w0 [(5,.row 1005)] [(1005,49,[rc7 o])] (.exit 0) Q → WL Try.prog 23 F0 w0 [(1,.fn 44 [.el [.str v1_0]]),(5,.row 1005),(8,rs2 v8),(9,vi v9),(10,vi v10)] [(1005,49,[rc7 v5])] (cI (cI (cB (cA (cB (cB (cF Try.f40))))))) Q:=by
 induction k with
 | zero=>intro v5 v10 o h; cases h
 | succ k ih =>
  intro v5 v10 o h hQ
  rw [view_those_api_Container_o__view_Mine_1_e_l1] at h
  refine WL.round (Wp.seq (rg [1,5,8,9,10,11] [1005] [(1,.fn 44 [.el [.str v1_0]]),(5,.row 1005),(8,rs2 v8),(9,vi v9),(10,vi v10),(11,vb (decide (v10 < v9)))] [(1005,49,[rc7 v5])] (To.thenN (Wp.seq (cn h (fun h=>?_) (fun h=>?_))))))
  ·refine Wp.skip (To.thenN (Wp.seq ?_))
   obtain ⟨o1,ho1,h⟩:=bind_of h
   refine kw [1,5,8,9,10] [1005] [(1,.fn 44 [.el [.str v1_0]]),(5,.row 1005),(8,rs2 v8),(9,vi v9),(10,vi v10)] [(1005,49,[rc7 v5])] (ok_view_those_api_Container_o__view_Mine_1_e_j2 n v1_0 v5 v8 v9 v10 o1 ho1 (To.thenN (rg [1,5,8,9,10] [1005] [(1,.fn 44 [.el [.str v1_0]]),(5,.row 1005),(8,rs2 v8),(9,vi v9),(ex7 v10)] [(1005,49,[rc7 o1])] (kt [1,5,8,9,10] [1005] [(1,.fn 44 [.el [.str v1_0]]),(5,.row 1005),(8,rs2 v8),(9,vi v9),(ex7 v10)] [(1005,49,[rc7 o1])] (To.again ?_)))))
   exact ih o1 (IntKind.wrap .i64 (v10 + 1)) _ h hQ
  ·refine Wp.exit (To.thenX (To.thenX (kt [5] [1005] [(5,.row 1005)] [(1005,49,[rc7 v5])] ?_)))
   cases h
   exact hQ
def view_those_api_Container_o__view_Mine_1_e (n:Nat) (a0:List (S_api_Container)) (c0:List UInt8):Option ((List (S_api_Container))) :=
 (view_those_api_Container_o__view_Mine_1_e_l1 n c0 a0 (List.length a0:Int) n ([]:List (S_api_Container)) 0).bind fun o1 =>
 some o1
abbrev ex8 (x0:List (S_api_Container)):Nat × D:=(9,vi (List.length x0:Int))
theorem ok_view_those_api_Container_o__view_Mine_1_e (n:Nat) (a0:List (S_api_Container)) (c0:List UInt8) (r:(List (S_api_Container))) (h:view_those_api_Container_o__view_Mine_1_e n a0 c0 = some r):CallsB Try.prog 40 [rs2 a0,.fn 44 [.el [.str c0]]] [] (.row 1) [(1,49,[rc7 r])]:=by
 unfold view_those_api_Container_o__view_Mine_1_e at h
 refine bo Try.f40 rfl fun F0 w0=>?_
 refine Wp.seq (rg [0,1] [] [(0,rs2 a0),(1,.fn 44 [.el [.str c0]])] [] (To.thenN (Wp.seq (rg [0,1,5] [] [(0,rs2 a0),(1,.fn 44 [.el [.str c0]]),(5,.val (.slice none 0 0))] [] (To.thenN (Wp.seq (Wp.seq (rg [1,5,8,9,10] [] [(1,.fn 44 [.el [.str c0]]),(5,.val (.slice none 0 0)),(8,rs2 a0),(ex8 a0),(10,vi 0)] [] (To.thenN (Wp.block ?_))))))))))
 obtain ⟨o1,ho1,h⟩:=bind_of h
 refine kw [1,5,8,9,10] [] [(1,.fn 44 [.el [.str c0]]),(5,.val (.slice none 0 0)),(8,rs2 a0),(ex8 a0),(10,vi 0)] [] (Wp.pre (St.vacant (t:=5) (k:=1005) (e:=49) (K':=[(1,.fn 44 [.el [.str c0]]),(5,.row 1005),(8,rs2 a0),(ex8 a0),(10,vi 0)]) (good_E_api_Container _) (by decide) (by kernel_rfl) (by kernel_rfl)) (kw [1,5,8,9,10] [1005] [(1,.fn 44 [.el [.str c0]]),(5,.row 1005),(8,rs2 a0),(ex8 a0),(10,vi 0)] [(1005,49,[rc7 []])] (Wp.loopL (ok_view_those_api_Container_o__view_Mine_1_e_l1 n c0 a0 (List.length a0:Int) n ([]:List (S_api_Container)) 0 o1 ho1 (To.blockX (To.thenN (Wp.seq (rg [4] [1005] [(4,.row 1005)] [(1005,49,[rc7 o1])] (To.thenN (Wp.ret ?_))))))))))
 refine nt [4] [1005] [(1005,1004)] [4] [1004] [(4,.row 1004)] [(1004,49,[rc7 o1])] (To.pre (St.rename 1004 1 (by decide) (K':=[(4,.row 1)]) (L':=[(1,49,[rc7 o1])]) (by kernel_rfl) (by kernel_rfl) (by kernel_rfl)) ?_)
 cases h
 exact To.doneB hΓ [1] (by kernel_rfl) (by kernel_rfl)
def slices_insertionSortCmpFunc_api_Container__r0__view_sorted_1_l2 (n:Nat) (v1:Int) (v2:Int) (v8:Int):Nat → (List (S_api_Container)) → Int → Option ((List (S_api_Container)))
 | 0,_,_=>none
 | k + 1,v0,v9=>if ((!((decide (v9 > v1)) == true) || decide (0 ≤ v9 ∧ v9 < (List.length v0:Int)))) = true then (if ((!((decide (v9 > v1)) == true) || decide (0 ≤ (IntKind.wrap .i64 (v9 - 1)) ∧ (IntKind.wrap .i64 (v9 - 1)) < (List.length v0:Int)))) = true then (((if ((decide (v9 > v1)) == true) = true then view_sorted_1 n ((v0)[Int.toNat v9]?.getD Z_api_Container) ((v0)[Int.toNat (IntKind.wrap .i64 (v9 - 1))]?.getD Z_api_Container) else some 0)).bind fun r1 =>
 if (bif (decide (v9 > v1)) then (decide (r1 < 0)) else false) = true then (if (decide (0 ≤ (IntKind.wrap .i64 (v9 - 1)) ∧ (IntKind.wrap .i64 (v9 - 1)) < (List.length v0:Int))) = true then (if (decide (0 ≤ v9 ∧ v9 < (List.length v0:Int))) = true then (if (decide (0 ≤ (IntKind.wrap .i64 (v9 - 1)) ∧ (IntKind.wrap .i64 (v9 - 1)) < (List.length (List.set v0 (Int.toNat v9) ((v0)[Int.toNat (IntKind.wrap .i64 (v9 - 1))]?.getD Z_api_Container)):Int))) = true then (lett ((List.set (List.set v0 (Int.toNat v9) ((v0)[Int.toNat (IntKind.wrap .i64 (v9 - 1))]?.getD Z_api_Container)) (Int.toNat (IntKind.wrap .i64 (v9 - 1))) ((v0)[Int.toNat v9]?.getD Z_api_Container)):List (S_api_Container)) fun x2 =>
 slices_insertionSortCmpFunc_api_Container__r0__view_sorted_1_l2 n v1 v2 v8 k x2 (IntKind.wrap .i64 (v9 - 1))) else none) else none) else none)
 else some v0) else none) else none
abbrev ex9 (x0:List (S_api_Container)) (x1:Int):=((x0)[Int.toNat (IntKind.wrap .i64 (x1 - 1))]?.getD Z_api_Container)
abbrev ex10 (x0:Int) (x1:List (S_api_Container)):=(0 ≤ (IntKind.wrap .i64 (x0 - 1)) ∧ (IntKind.wrap .i64 (x0 - 1)) < (List.length x1:Int))
abbrev ex11 (x0:Int):=(Int.toNat (IntKind.wrap .i64 (x0 - 1)))
abbrev ex29 (x0:List (S_api_Container)) (x1:Int):=(List.set x0 (Int.toNat x1) (ex9 x0 x1))
abbrev ex33 (x0:Int) (x1:List (S_api_Container)):=(decide (0 ≤ (IntKind.wrap .i64 (x0 - 1)) ∧ (IntKind.wrap .i64 (x0 - 1)) < (List.length (ex29 x1 x0):Int)))
abbrev ex34 (x0:List (S_api_Container)) (x1:Int):=(List.set (ex29 x0 x1) (ex11 x1) (ex5 x0 x1))
theorem ok_slices_insertionSortCmpFunc_api_Container__r0__view_sorted_1_l2 (n:Nat) (v1:Int) (v2:Int) (v8:Int) {F0:Fz} {w0:Pt Try.prog} {Q:Exit → Act → World → Prop} (k:Nat):∀ (v0:List (S_api_Container)) (v9:Int) (o:(List (S_api_Container))),slices_insertionSortCmpFunc_api_Container__r0__view_sorted_1_l2 n v1 v2 v8 k v0 v9 = some o → To 53 F0 w0 [(0,.row 1000000),(1,vi v1),(2,vi v2),(3,.fn 67 []),(8,vi v8)] [(1000000,49,[rc7 o])] (.exit 2) Q → WL Try.prog 53 F0 w0 [(0,.row 1000000),(1,vi v1),(2,vi v2),(3,.fn 67 []),(8,vi v8),(9,vi v9)] [(1000000,49,[rc7 v0])] (cI (cI (cB (cI (cA (cB (cI (cI (cB (cF Try.f101)))))))))) Q:=by
 induction k with
 | zero=>intro v0 v9 o h; cases h
 | succ k ih =>
  intro v0 v9 o h hQ
  rw [slices_insertionSortCmpFunc_api_Container__r0__view_sorted_1_l2] at h
  refine WL.round (Wp.seq (Wp.seq ?_))
  obtain ⟨hc6,h⟩:=chk_of h
  obtain ⟨hc7,h⟩:=chk_of h
  obtain ⟨r1,hr1,h⟩:=bind_of h
  refine Wp.regionD hm hΓ [(14,vi r1)] [0,1,2,3,8,9,34] [1000000] (K':=[(0,.row 1000000),(1,vi v1),(2,vi v2),(3,.fn 67 []),(8,vi v8),(9,vi v9),(34,vb (bif (decide (v9 > v1)) then (decide (r1 < 0)) else false))]) (L':=[(1000000,49,[rc7 v0])]) (ob:=[(!((decide (v9 > v1)) == true) || decide (0 ≤ v9 ∧ v9 < (List.length v0:Int))) = true,(!((decide (v9 > v1)) == true) || decide (0 ≤ v9 ∧ v9 < (List.length v0:Int))) = true,(!((decide (v9 > v1)) == true) || decide (ex10 v9 v0)) = true,(!((decide (v9 > v1)) == true) || decide (ex10 v9 v0)) = true,(((decide (v9 > v1)) == true) = true → CX Try.prog 67 [.agg [vi ((ex5 v0 v9).f_Id),.str ((ex5 v0 v9).f_Spec.f_Name),.str (ex26 v0 v9),.str (ex25 v0 v9),vi ((ex5 v0 v9).f_Spec.f_Number),.str ((ex5 v0 v9).f_Spec.f_Hash),ls ((ex5 v0 v9).f_Spec.f_Nets),ls ((ex5 v0 v9).f_Spec.f_Vols),.str (ex24 v0 v9),vi (ex22 v0 v9),vi (ex23 v0 v9),vi (ex21 v0 v9),vi (ex27 v0 v9),vi ((ex5 v0 v9).f_Spec.f_Tries),vi ((ex5 v0 v9).f_State),vi ((ex5 v0 v9).f_Code),vi ((ex5 v0 v9).f_Health),vi ((ex5 v0 v9).f_Runs)],.agg [vi ((ex9 v0 v9).f_Id),.str ((ex9 v0 v9).f_Spec.f_Name),.str ((ex9 v0 v9).f_Spec.f_Project),.str ((ex9 v0 v9).f_Spec.f_Service),vi ((ex9 v0 v9).f_Spec.f_Number),.str ((ex9 v0 v9).f_Spec.f_Hash),ls ((ex9 v0 v9).f_Spec.f_Nets),ls ((ex9 v0 v9).f_Spec.f_Vols),.str ((ex9 v0 v9).f_Spec.f_Health.f_Test),vi ((ex9 v0 v9).f_Spec.f_Health.f_Every),vi ((ex9 v0 v9).f_Spec.f_Health.f_Start),vi ((ex9 v0 v9).f_Spec.f_Health.f_Retries),vi ((ex9 v0 v9).f_Spec.f_Restart),vi ((ex9 v0 v9).f_Spec.f_Tries),vi ((ex9 v0 v9).f_State),vi ((ex9 v0 v9).f_Code),vi ((ex9 v0 v9).f_Health),vi ((ex9 v0 v9).f_Runs)]] (vi r1))]) (by kernel_rfl) (AllP.cons hc6 (AllP.cons hc6 (AllP.cons hc7 (AllP.cons hc7 (AllP.cons (fun hg=>cx (ok_view_sorted_1 n (ex5 v0 v9) (ex9 v0 v9) _ (if_t hg hr1))) AllP.nil))))) (To.thenN (cn h (fun h=>?_) (fun h=>?_)))
  ·refine Wp.skip (To.thenN (Wp.seq (Wp.block ?_)))
   obtain ⟨hc3,h⟩:=chk_of h
   obtain ⟨hc4,h⟩:=chk_of h
   obtain ⟨hc5,h⟩:=chk_of h
   obtain ⟨x2,hx2,h⟩:=lett_of h
   refine Wp.regionO hm hΓ [] [(15,rs2 (ex29 v0 v9)),(17,rs2 (ex34 v0 v9))] [] [0,1,2,3,8,9,34,37,38,39,40,41,42,43,44,45,46,47,48,49,50,51,52] [1000000] [0,1,2,3,8,9] [1000000] (K':=[(0,.row 1000000),(1,vi v1),(2,vi v2),(3,.fn 67 []),(8,vi v8),(9,vi v9)]) (L':=[(1000000,49,[rc7 (ex34 v0 v9)])]) (ob:=[(decide (ex10 v9 v0)) = true,(decide (ex10 v9 v0)) = true,(ex6 v9 v0) = true,(ex6 v9 v0) = true,(ex6 v9 v0) = true,(ex6 v9 v0) = true,UpdOb Z_api_Container E_api_Container v0 v9 0 [vi ((ex9 v0 v9).f_Id),.str ((ex9 v0 v9).f_Spec.f_Name),.str ((ex9 v0 v9).f_Spec.f_Project),.str ((ex9 v0 v9).f_Spec.f_Service),vi ((ex9 v0 v9).f_Spec.f_Number),.str ((ex9 v0 v9).f_Spec.f_Hash),ls ((ex9 v0 v9).f_Spec.f_Nets),ls ((ex9 v0 v9).f_Spec.f_Vols),.str ((ex9 v0 v9).f_Spec.f_Health.f_Test),vi ((ex9 v0 v9).f_Spec.f_Health.f_Every),vi ((ex9 v0 v9).f_Spec.f_Health.f_Start),vi ((ex9 v0 v9).f_Spec.f_Health.f_Retries),vi ((ex9 v0 v9).f_Spec.f_Restart),vi ((ex9 v0 v9).f_Spec.f_Tries),vi ((ex9 v0 v9).f_State),vi ((ex9 v0 v9).f_Code),vi ((ex9 v0 v9).f_Health),vi ((ex9 v0 v9).f_Runs)] (rs2 (ex29 v0 v9)),(ex33 v9 v0) = true,(ex33 v9 v0) = true,UpdOb Z_api_Container E_api_Container (ex29 v0 v9) (IntKind.wrap .i64 (v9 - 1)) 0 [vi ((ex5 v0 v9).f_Id),.str ((ex5 v0 v9).f_Spec.f_Name),.str (ex26 v0 v9),.str (ex25 v0 v9),vi ((ex5 v0 v9).f_Spec.f_Number),.str ((ex5 v0 v9).f_Spec.f_Hash),ls ((ex5 v0 v9).f_Spec.f_Nets),ls ((ex5 v0 v9).f_Spec.f_Vols),.str (ex24 v0 v9),vi (ex22 v0 v9),vi (ex23 v0 v9),vi (ex21 v0 v9),vi (ex27 v0 v9),vi ((ex5 v0 v9).f_Spec.f_Tries),vi ((ex5 v0 v9).f_State),vi ((ex5 v0 v9).f_Code),vi ((ex5 v0 v9).f_Health),vi ((ex5 v0 v9).f_Runs)] (rs2 (ex34 v0 v9))]) (by kernel_rfl) (by kernel_rfl) (AllP.cons hc3 (AllP.cons hc3 (AllP.cons hc4 (AllP.cons hc4 (AllP.cons hc4 (AllP.cons hc4 (AllP.cons (updOb (by kernel_rfl)) (AllP.cons hc5 (AllP.cons hc5 (AllP.cons (updOb (by kernel_rfl)) AllP.nil)))))))))) (To.eq (K':=[(0,.row 1000000),(1,vi v1),(2,vi v2),(3,.fn 67 []),(8,vi v8),(9,vi v9)]) (L':=[(1000000,49,[rc7 x2])]) (by cases hx2; rfl) (by cases hx2; rfl) (To.blockN (To.thenN (rg [0,1,2,3,8,9] [1000000] [(0,.row 1000000),(1,vi v1),(2,vi v2),(3,.fn 67 []),(8,vi v8),(9,vi (IntKind.wrap .i64 (v9 - 1)))] [(1000000,49,[rc7 x2])] (kt [0,1,2,3,8,9] [1000000] [(0,.row 1000000),(1,vi v1),(2,vi v2),(3,.fn 67 []),(8,vi v8),(9,vi (IntKind.wrap .i64 (v9 - 1)))] [(1000000,49,[rc7 x2])] (To.again ?_))))))
   exact ih x2 (IntKind.wrap .i64 (v9 - 1)) _ h hQ
  ·refine Wp.exit (To.thenX (To.thenX (kt [0,1,2,3,8] [1000000] [(0,.row 1000000),(1,vi v1),(2,vi v2),(3,.fn 67 []),(8,vi v8)] [(1000000,49,[rc7 v0])] ?_)))
   cases h
   exact hQ
def slices_insertionSortCmpFunc_api_Container__r0__view_sorted_1_l1 (n:Nat) (v1:Int) (v2:Int):Nat → (List (S_api_Container)) → Int → Option ((List (S_api_Container)))
 | 0,_,_=>none
 | k + 1,v0,v8=>if (decide (v8 < v2)) = true then ((slices_insertionSortCmpFunc_api_Container__r0__view_sorted_1_l2 n v1 v2 v8 n v0 v8).bind fun o1 =>
 slices_insertionSortCmpFunc_api_Container__r0__view_sorted_1_l1 n v1 v2 k o1 (IntKind.wrap .i64 (v8 + 1)))
 else some v0
theorem ok_slices_insertionSortCmpFunc_api_Container__r0__view_sorted_1_l1 (n:Nat) (v1:Int) (v2:Int) {F0:Fz} {w0:Pt Try.prog} {Q:Exit → Act → World → Prop} (k:Nat):∀ (v0:List (S_api_Container)) (v8:Int) (o:(List (S_api_Container))),slices_insertionSortCmpFunc_api_Container__r0__view_sorted_1_l1 n v1 v2 k v0 v8 = some o → To 53 F0 w0 [] [(1000000,49,[rc7 o])] (.exit 0) Q → WL Try.prog 53 F0 w0 [(0,.row 1000000),(1,vi v1),(2,vi v2),(3,.fn 67 []),(8,vi v8)] [(1000000,49,[rc7 v0])] (cI (cI (cB (cF Try.f101)))) Q:=by
 induction k with
 | zero=>intro v0 v8 o h; cases h
 | succ k ih =>
  intro v0 v8 o h hQ
  rw [slices_insertionSortCmpFunc_api_Container__r0__view_sorted_1_l1] at h
  refine WL.round (Wp.seq (Wp.seq (rg [0,1,2,3,8,14] [1000000] [(0,.row 1000000),(1,vi v1),(2,vi v2),(3,.fn 67 []),(8,vi v8),(14,vb (decide (v8 < v2)))] [(1000000,49,[rc7 v0])] (To.thenN (cn h (fun h=>?_) (fun h=>?_))))))
  ·refine Wp.skip (To.thenN (Wp.seq (Wp.block (Wp.seq (rg [0,1,2,3,8,9] [1000000] [(0,.row 1000000),(1,vi v1),(2,vi v2),(3,.fn 67 []),(8,vi v8),(9,vi v8)] [(1000000,49,[rc7 v0])] (To.thenN (Wp.block ?_)))))))
   obtain ⟨o1,ho1,h⟩:=bind_of h
   refine kw [0,1,2,3,8,9] [1000000] [(0,.row 1000000),(1,vi v1),(2,vi v2),(3,.fn 67 []),(8,vi v8),(9,vi v8)] [(1000000,49,[rc7 v0])] (Wp.loopL (ok_slices_insertionSortCmpFunc_api_Container__r0__view_sorted_1_l2 n v1 v2 v8 n v0 v8 o1 ho1 (To.blockX (To.blockN (To.thenN (rg [0,1,2,3,8] [1000000] [(0,.row 1000000),(1,vi v1),(2,vi v2),(3,.fn 67 []),(ex2 v8)] [(1000000,49,[rc7 o1])] (kt [0,1,2,3,8] [1000000] [(0,.row 1000000),(1,vi v1),(2,vi v2),(3,.fn 67 []),(ex2 v8)] [(1000000,49,[rc7 o1])] (To.again ?_))))))))
   exact ih o1 (IntKind.wrap .i64 (v8 + 1)) _ h hQ
  ·refine Wp.exit (To.thenX (To.thenX (kt [] [1000000] [] [(1000000,49,[rc7 v0])] ?_)))
   cases h
   exact hQ
def slices_insertionSortCmpFunc_api_Container__r0__view_sorted_1 (n:Nat) (a1:Int) (a2:Int) (h0:List (S_api_Container)):Option ((List (S_api_Container))) :=
 (slices_insertionSortCmpFunc_api_Container__r0__view_sorted_1_l1 n a1 a2 n h0 (IntKind.wrap .i64 (a1 + 1))).bind fun o1 =>
 some o1
theorem ok_slices_insertionSortCmpFunc_api_Container__r0__view_sorted_1 (n:Nat) (a1:Int) (a2:Int) (h0:List (S_api_Container)) (r:(List (S_api_Container))) (h:slices_insertionSortCmpFunc_api_Container__r0__view_sorted_1 n a1 a2 h0 = some r):CallsB Try.prog 101 [.row 1000000,vi a1,vi a2,.fn 67 []] [(1000000,49,[rc7 h0])] (.tup []) [(1000000,49,[rc7 r])]:=by
 unfold slices_insertionSortCmpFunc_api_Container__r0__view_sorted_1 at h
 refine bo Try.f101 rfl fun F0 w0=>?_
 refine Wp.seq (rg [0,1,2,3,8] [1000000] [(0,.row 1000000),(1,vi a1),(2,vi a2),(3,.fn 67 []),(ex2 a1)] [(1000000,49,[rc7 h0])] (To.thenN (Wp.block ?_)))
 obtain ⟨o1,ho1,h⟩:=bind_of h
 refine kw [0,1,2,3,8] [1000000] [(0,.row 1000000),(1,vi a1),(2,vi a2),(3,.fn 67 []),(ex2 a1)] [(1000000,49,[rc7 h0])] (Wp.loopL (ok_slices_insertionSortCmpFunc_api_Container__r0__view_sorted_1_l1 n a1 a2 n h0 (IntKind.wrap .i64 (a1 + 1)) o1 ho1 (To.blockX (To.fin ?_))))
 cases h
 exact To.doneB hΓ [1000000] (by kernel_rfl) (by kernel_rfl)
def slices_swapRangeCmpFunc_api_Container__r0__view_sorted_1_l1 (n:Nat) (v1:Int) (v2:Int) (v3:Int):Nat → (List (S_api_Container)) → Int → Option ((List (S_api_Container)))
 | 0,_,_=>none
 | k + 1,v0,v10=>if (decide (v10 < v3)) = true then (if (decide (0 ≤ (IntKind.wrap .i64 (v2 + v10)) ∧ (IntKind.wrap .i64 (v2 + v10)) < (List.length v0:Int))) = true then (if (decide (0 ≤ (IntKind.wrap .i64 (v1 + v10)) ∧ (IntKind.wrap .i64 (v1 + v10)) < (List.length v0:Int))) = true then (if (decide (0 ≤ (IntKind.wrap .i64 (v2 + v10)) ∧ (IntKind.wrap .i64 (v2 + v10)) < (List.length (List.set v0 (Int.toNat (IntKind.wrap .i64 (v1 + v10))) ((v0)[Int.toNat (IntKind.wrap .i64 (v2 + v10))]?.getD Z_api_Container)):Int))) = true then (lett ((List.set (List.set v0 (Int.toNat (IntKind.wrap .i64 (v1 + v10))) ((v0)[Int.toNat (IntKind.wrap .i64 (v2 + v10))]?.getD Z_api_Container)) (Int.toNat (IntKind.wrap .i64 (v2 + v10))) ((v0)[Int.toNat (IntKind.wrap .i64 (v1 + v10))]?.getD Z_api_Container)):List (S_api_Container)) fun x1 =>
 slices_swapRangeCmpFunc_api_Container__r0__view_sorted_1_l1 n v1 v2 v3 k x1 (IntKind.wrap .i64 (v10 + 1))) else none) else none) else none)
 else some v0
abbrev ex12 (x0:List (S_api_Container)) (x1:Int) (x2:Int):=((x0)[Int.toNat (IntKind.wrap .i64 (x1 + x2))]?.getD Z_api_Container)
abbrev ex13 (x0:Int) (x1:Int) (x2:List (S_api_Container)):=(decide (0 ≤ (IntKind.wrap .i64 (x0 + x1)) ∧ (IntKind.wrap .i64 (x0 + x1)) < (List.length x2:Int)))
abbrev ex14 (x0:Int) (x1:Int):=(Int.toNat (IntKind.wrap .i64 (x0 + x1)))
theorem ok_slices_swapRangeCmpFunc_api_Container__r0__view_sorted_1_l1 (n:Nat) (v1:Int) (v2:Int) (v3:Int) {F0:Fz} {w0:Pt Try.prog} {Q:Exit → Act → World → Prop} (k:Nat):∀ (v0:List (S_api_Container)) (v10:Int) (o:(List (S_api_Container))),slices_swapRangeCmpFunc_api_Container__r0__view_sorted_1_l1 n v1 v2 v3 k v0 v10 = some o → To 38 F0 w0 [] [(1000000,49,[rc7 o])] (.exit 0) Q → WL Try.prog 38 F0 w0 [(0,.row 1000000),(1,vi v1),(2,vi v2),(3,vi v3),(10,vi v10)] [(1000000,49,[rc7 v0])] (cI (cI (cB (cF Try.f134)))) Q:=by
 induction k with
 | zero=>intro v0 v10 o h; cases h
 | succ k ih =>
  intro v0 v10 o h hQ
  rw [slices_swapRangeCmpFunc_api_Container__r0__view_sorted_1_l1] at h
  refine WL.round (Wp.seq (Wp.seq (rg [0,1,2,3,10,13] [1000000] [(0,.row 1000000),(1,vi v1),(2,vi v2),(3,vi v3),(10,vi v10),(13,vb (decide (v10 < v3)))] [(1000000,49,[rc7 v0])] (To.thenN (cn h (fun h=>?_) (fun h=>?_))))))
  ·refine Wp.skip (To.thenN (Wp.seq (Wp.block ?_)))
   obtain ⟨hc2,h⟩:=chk_of h
   obtain ⟨hc3,h⟩:=chk_of h
   obtain ⟨hc4,h⟩:=chk_of h
   obtain ⟨x1,hx1,h⟩:=lett_of h
   refine Wp.regionO hm hΓ [] [(21,rs2 (List.set v0 (ex14 v1 v10) (ex12 v0 v2 v10))),(23,rs2 (List.set (List.set v0 (ex14 v1 v10) (ex12 v0 v2 v10)) (ex14 v2 v10) (ex12 v0 v1 v10)))] [] [0,1,2,3,10,13,16,17,18,19,20,21,22,23,24,25,26,27,28,29,30,31,32,33,34,35,36,37] [1000000] [0,1,2,3,10] [1000000] (K':=[(0,.row 1000000),(1,vi v1),(2,vi v2),(3,vi v3),(10,vi v10)]) (L':=[(1000000,49,[rc7 (List.set (List.set v0 (ex14 v1 v10) (ex12 v0 v2 v10)) (ex14 v2 v10) (ex12 v0 v1 v10))])]) (ob:=[(ex13 v2 v10 v0) = true,(ex13 v2 v10 v0) = true,(ex13 v1 v10 v0) = true,(ex13 v1 v10 v0) = true,(ex13 v1 v10 v0) = true,(ex13 v1 v10 v0) = true,UpdOb Z_api_Container E_api_Container v0 (IntKind.wrap .i64 (v1 + v10)) 0 [vi ((ex12 v0 v2 v10).f_Id),.str ((ex12 v0 v2 v10).f_Spec.f_Name),.str ((ex12 v0 v2 v10).f_Spec.f_Project),.str ((ex12 v0 v2 v10).f_Spec.f_Service),vi ((ex12 v0 v2 v10).f_Spec.f_Number),.str ((ex12 v0 v2 v10).f_Spec.f_Hash),ls ((ex12 v0 v2 v10).f_Spec.f_Nets),ls ((ex12 v0 v2 v10).f_Spec.f_Vols),.str ((ex12 v0 v2 v10).f_Spec.f_Health.f_Test),vi ((ex12 v0 v2 v10).f_Spec.f_Health.f_Every),vi ((ex12 v0 v2 v10).f_Spec.f_Health.f_Start),vi ((ex12 v0 v2 v10).f_Spec.f_Health.f_Retries),vi ((ex12 v0 v2 v10).f_Spec.f_Restart),vi ((ex12 v0 v2 v10).f_Spec.f_Tries),vi ((ex12 v0 v2 v10).f_State),vi ((ex12 v0 v2 v10).f_Code),vi ((ex12 v0 v2 v10).f_Health),vi ((ex12 v0 v2 v10).f_Runs)] (rs2 (List.set v0 (ex14 v1 v10) (ex12 v0 v2 v10))),(decide (0 ≤ (IntKind.wrap .i64 (v2 + v10)) ∧ (IntKind.wrap .i64 (v2 + v10)) < (List.length (List.set v0 (ex14 v1 v10) (ex12 v0 v2 v10)):Int))) = true,(decide (0 ≤ (IntKind.wrap .i64 (v2 + v10)) ∧ (IntKind.wrap .i64 (v2 + v10)) < (List.length (List.set v0 (ex14 v1 v10) (ex12 v0 v2 v10)):Int))) = true,UpdOb Z_api_Container E_api_Container (List.set v0 (ex14 v1 v10) (ex12 v0 v2 v10)) (IntKind.wrap .i64 (v2 + v10)) 0 [vi ((ex12 v0 v1 v10).f_Id),.str ((ex12 v0 v1 v10).f_Spec.f_Name),.str ((ex12 v0 v1 v10).f_Spec.f_Project),.str ((ex12 v0 v1 v10).f_Spec.f_Service),vi ((ex12 v0 v1 v10).f_Spec.f_Number),.str ((ex12 v0 v1 v10).f_Spec.f_Hash),ls ((ex12 v0 v1 v10).f_Spec.f_Nets),ls ((ex12 v0 v1 v10).f_Spec.f_Vols),.str ((ex12 v0 v1 v10).f_Spec.f_Health.f_Test),vi ((ex12 v0 v1 v10).f_Spec.f_Health.f_Every),vi ((ex12 v0 v1 v10).f_Spec.f_Health.f_Start),vi ((ex12 v0 v1 v10).f_Spec.f_Health.f_Retries),vi ((ex12 v0 v1 v10).f_Spec.f_Restart),vi ((ex12 v0 v1 v10).f_Spec.f_Tries),vi ((ex12 v0 v1 v10).f_State),vi ((ex12 v0 v1 v10).f_Code),vi ((ex12 v0 v1 v10).f_Health),vi ((ex12 v0 v1 v10).f_Runs)] (rs2 (List.set (List.set v0 (ex14 v1 v10) (ex12 v0 v2 v10)) (ex14 v2 v10) (ex12 v0 v1 v10)))]) (by kernel_rfl) (by kernel_rfl) (AllP.cons hc2 (AllP.cons hc2 (AllP.cons hc3 (AllP.cons hc3 (AllP.cons hc3 (AllP.cons hc3 (AllP.cons (updOb (by kernel_rfl)) (AllP.cons hc4 (AllP.cons hc4 (AllP.cons (updOb (by kernel_rfl)) AllP.nil)))))))))) (To.eq (K':=[(0,.row 1000000),(1,vi v1),(2,vi v2),(3,vi v3),(10,vi v10)]) (L':=[(1000000,49,[rc7 x1])]) (by cases hx1; rfl) (by cases hx1; rfl) (To.blockN (To.thenN (rg [0,1,2,3,10] [1000000] [(0,.row 1000000),(1,vi v1),(2,vi v2),(3,vi v3),(ex7 v10)] [(1000000,49,[rc7 x1])] (kt [0,1,2,3,10] [1000000] [(0,.row 1000000),(1,vi v1),(2,vi v2),(3,vi v3),(ex7 v10)] [(1000000,49,[rc7 x1])] (To.again ?_))))))
   exact ih x1 (IntKind.wrap .i64 (v10 + 1)) _ h hQ
  ·refine Wp.exit (To.thenX (To.thenX (kt [] [1000000] [] [(1000000,49,[rc7 v0])] ?_)))
   cases h
   exact hQ
def slices_swapRangeCmpFunc_api_Container__r0__view_sorted_1 (n:Nat) (a1:Int) (a2:Int) (a3:Int) (h0:List (S_api_Container)):Option ((List (S_api_Container))) :=
 (slices_swapRangeCmpFunc_api_Container__r0__view_sorted_1_l1 n a1 a2 a3 n h0 0).bind fun o1 =>
 some o1
theorem ok_slices_swapRangeCmpFunc_api_Container__r0__view_sorted_1 (n:Nat) (a1:Int) (a2:Int) (a3:Int) (h0:List (S_api_Container)) (r:(List (S_api_Container))) (h:slices_swapRangeCmpFunc_api_Container__r0__view_sorted_1 n a1 a2 a3 h0 = some r):CallsB Try.prog 134 [.row 1000000,vi a1,vi a2,vi a3,.fn 67 []] [(1000000,49,[rc7 h0])] (.tup []) [(1000000,49,[rc7 r])]:=by
 unfold slices_swapRangeCmpFunc_api_Container__r0__view_sorted_1 at h
 refine bo Try.f134 rfl fun F0 w0=>?_
 refine Wp.seq (rg [0,1,2,3,10] [1000000] [(0,.row 1000000),(1,vi a1),(2,vi a2),(3,vi a3),(10,vi 0)] [(1000000,49,[rc7 h0])] (To.thenN (Wp.block ?_)))
 obtain ⟨o1,ho1,h⟩:=bind_of h
 refine kw [0,1,2,3,10] [1000000] [(0,.row 1000000),(1,vi a1),(2,vi a2),(3,vi a3),(10,vi 0)] [(1000000,49,[rc7 h0])] (Wp.loopL (ok_slices_swapRangeCmpFunc_api_Container__r0__view_sorted_1_l1 n a1 a2 a3 n h0 0 o1 ho1 (To.blockX (To.fin ?_))))
 cases h
 exact To.doneB hΓ [1000000] (by kernel_rfl) (by kernel_rfl)
def slices_rotateCmpFunc_api_Container__r0__view_sorted_1_l1 (n:Nat) (v2:Int):Nat → (List (S_api_Container)) → Int → Int → Option ((List (S_api_Container)) × Int)
 | 0,_,_,_=>none
 | k + 1,v0,v10,v11=>if (v10 != v11) = true then (if (decide (v10 > v11)) = true then ((slices_swapRangeCmpFunc_api_Container__r0__view_sorted_1 n (IntKind.wrap .i64 (v2 - v10)) v2 v11 v0).bind fun r1 =>
 slices_rotateCmpFunc_api_Container__r0__view_sorted_1_l1 n v2 k r1 (IntKind.wrap .i64 (v10 - v11)) v11)
 else ((slices_swapRangeCmpFunc_api_Container__r0__view_sorted_1 n (IntKind.wrap .i64 (v2 - v10)) (IntKind.wrap .i64 ((IntKind.wrap .i64 (v2 + v11)) - v10)) v10 v0).bind fun r2 =>
 slices_rotateCmpFunc_api_Container__r0__view_sorted_1_l1 n v2 k r2 v10 (IntKind.wrap .i64 (v11 - v10))))
 else (some (v0,v10))
abbrev ex15 (x0:Int) (x1:Int):=(IntKind.wrap .i64 (x0 + x1))
abbrev ex16 (x0:Int) (x1:Int):=(IntKind.wrap .i64 (x0 - x1))
theorem ok_slices_rotateCmpFunc_api_Container__r0__view_sorted_1_l1 (n:Nat) (v2:Int) {F0:Fz} {w0:Pt Try.prog} {Q:Exit → Act → World → Prop} (k:Nat):∀ (v0:List (S_api_Container)) (v10:Int) (v11:Int) (o:(List (S_api_Container)) × Int),slices_rotateCmpFunc_api_Container__r0__view_sorted_1_l1 n v2 k v0 v10 v11 = some o → To 58 F0 w0 [(0,.row 1000000),(2,vi v2),(4,.fn 67 []),(10,vi o.2)] [(1000000,49,[rc7 o.1])] (.exit 0) Q → WL Try.prog 58 F0 w0 [(0,.row 1000000),(2,vi v2),(4,.fn 67 []),(10,vi v10),(11,vi v11)] [(1000000,49,[rc7 v0])] (cI (cI (cA (cB (cB (cF Try.f118)))))) Q:=by
 induction k with
 | zero=>intro v0 v10 v11 o h; cases h
 | succ k ih =>
  intro v0 v10 v11 o h hQ
  rw [slices_rotateCmpFunc_api_Container__r0__view_sorted_1_l1] at h
  refine WL.round (Wp.seq (Wp.seq (rg [0,2,4,10,11,20] [1000000] [(0,.row 1000000),(2,vi v2),(4,.fn 67 []),(10,vi v10),(11,vi v11),(20,vb (v10 != v11))] [(1000000,49,[rc7 v0])] (To.thenN (cn h (fun h=>?_) (fun h=>?_))))))
  ·refine Wp.skip (To.thenN (Wp.block (Wp.seq (rg [0,2,4,10,11,23] [1000000] [(0,.row 1000000),(2,vi v2),(4,.fn 67 []),(10,vi v10),(11,vi v11),(23,vb (decide (v10 > v11)))] [(1000000,49,[rc7 v0])] (To.thenN (cn h (fun h=>?_) (fun h=>?_)))))))
   ·refine Wp.seq ?_
    obtain ⟨r1,hr1,h⟩:=bind_of h
    refine rb [] 7 ⟨[(1000000,1000000)],[(1000000,1000000)],[.row 1000000,vi (ex16 v2 v10),vi v2,vi v11,.fn 67 []],[(1000000,49,[rc7 v0])],.tup [],[(1000000,49,[rc7 r1])]⟩ [0,2,4,10,11] [1000000] [(0,.row 1000000),(2,vi v2),(4,.fn 67 []),(10,vi v10),(11,vi v11)] [(1000000,49,[rc7 r1])] ((ok_slices_swapRangeCmpFunc_api_Container__r0__view_sorted_1 n (ex16 v2 v10) v2 v11 v0 _ hr1)) (To.thenN (rg [0,2,4,10,11] [1000000] [(0,.row 1000000),(2,vi v2),(4,.fn 67 []),(10,vi (ex16 v10 v11)),(11,vi v11)] [(1000000,49,[rc7 r1])] (To.blockN (To.again ?_))))
    exact ih r1 (ex16 v10 v11) v11 _ h hQ
   ·refine Wp.seq ?_
    obtain ⟨r2,hr2,h⟩:=bind_of h
    refine rb [] 11 ⟨[(1000000,1000000)],[(1000000,1000000)],[.row 1000000,vi (ex16 v2 v10),vi (IntKind.wrap .i64 ((ex15 v2 v11) - v10)),vi v10,.fn 67 []],[(1000000,49,[rc7 v0])],.tup [],[(1000000,49,[rc7 r2])]⟩ [0,2,4,10,11] [1000000] [(0,.row 1000000),(2,vi v2),(4,.fn 67 []),(10,vi v10),(11,vi v11)] [(1000000,49,[rc7 r2])] ((ok_slices_swapRangeCmpFunc_api_Container__r0__view_sorted_1 n (ex16 v2 v10) (IntKind.wrap .i64 ((ex15 v2 v11) - v10)) v10 v0 _ hr2)) (To.thenN (rg [0,2,4,10,11] [1000000] [(0,.row 1000000),(2,vi v2),(4,.fn 67 []),(10,vi v10),(11,vi (ex16 v11 v10))] [(1000000,49,[rc7 r2])] (To.blockN (To.again ?_))))
    exact ih r2 v10 (ex16 v11 v10) _ h hQ
  ·refine Wp.exit (To.thenX (To.thenX (kt [0,2,4,10] [1000000] [(0,.row 1000000),(2,vi v2),(4,.fn 67 []),(10,vi v10)] [(1000000,49,[rc7 v0])] ?_)))
   cases h
   exact hQ
def slices_rotateCmpFunc_api_Container__r0__view_sorted_1 (n:Nat) (a1:Int) (a2:Int) (a3:Int) (h0:List (S_api_Container)):Option ((List (S_api_Container))) :=
 (slices_rotateCmpFunc_api_Container__r0__view_sorted_1_l1 n a2 n h0 (IntKind.wrap .i64 (a2 - a1)) (IntKind.wrap .i64 (a3 - a2))).bind fun o1 =>
 (slices_swapRangeCmpFunc_api_Container__r0__view_sorted_1 n (IntKind.wrap .i64 (a2 - o1.2)) a2 o1.2 o1.1).bind fun r2 =>
 some r2
theorem ok_slices_rotateCmpFunc_api_Container__r0__view_sorted_1 (n:Nat) (a1:Int) (a2:Int) (a3:Int) (h0:List (S_api_Container)) (r:(List (S_api_Container))) (h:slices_rotateCmpFunc_api_Container__r0__view_sorted_1 n a1 a2 a3 h0 = some r):CallsB Try.prog 118 [.row 1000000,vi a1,vi a2,vi a3,.fn 67 []] [(1000000,49,[rc7 h0])] (.tup []) [(1000000,49,[rc7 r])]:=by
 unfold slices_rotateCmpFunc_api_Container__r0__view_sorted_1 at h
 refine bo Try.f118 rfl fun F0 w0=>?_
 refine Wp.seq (rg [0,2,3,4,10] [1000000] [(0,.row 1000000),(2,vi a2),(3,vi a3),(4,.fn 67 []),(10,vi (IntKind.wrap .i64 (a2 - a1)))] [(1000000,49,[rc7 h0])] (To.thenN (Wp.seq (rg [0,2,4,10,11] [1000000] [(0,.row 1000000),(2,vi a2),(4,.fn 67 []),(10,vi (IntKind.wrap .i64 (a2 - a1))),(11,vi (IntKind.wrap .i64 (a3 - a2)))] [(1000000,49,[rc7 h0])] (To.thenN (Wp.seq (Wp.block ?_)))))))
 obtain ⟨o1,ho1,h⟩:=bind_of h
 refine kw [0,2,4,10,11] [1000000] [(0,.row 1000000),(2,vi a2),(4,.fn 67 []),(10,vi (IntKind.wrap .i64 (a2 - a1))),(11,vi (IntKind.wrap .i64 (a3 - a2)))] [(1000000,49,[rc7 h0])] (Wp.loopL (ok_slices_rotateCmpFunc_api_Container__r0__view_sorted_1_l1 n a2 n h0 (IntKind.wrap .i64 (a2 - a1)) (IntKind.wrap .i64 (a3 - a2)) o1 ho1 (To.blockX (To.thenN ?_))))
 obtain ⟨r2,hr2,h⟩:=bind_of h
 refine rb [] 7 ⟨[(1000000,1000000)],[(1000000,1000000)],[.row 1000000,vi (IntKind.wrap .i64 (a2 - o1.2)),vi a2,vi o1.2,.fn 67 []],[(1000000,49,[rc7 o1.1])],.tup [],[(1000000,49,[rc7 r2])]⟩ [] [1000000] [] [(1000000,49,[rc7 r2])] ((ok_slices_swapRangeCmpFunc_api_Container__r0__view_sorted_1 n (IntKind.wrap .i64 (a2 - o1.2)) a2 o1.2 o1.1 _ hr2)) (To.fin ?_)
 cases h
 exact To.doneB hΓ [1000000] (by kernel_rfl) (by kernel_rfl)
def slices_symMergeCmpFunc_api_Container__r0__view_sorted_1_l1 (R_slices_symMergeCmpFunc_api_Container__r0__view_sorted_1:Int → Int → Int → (List (S_api_Container)) → Option ((List (S_api_Container)))) (n:Nat) (v0:List (S_api_Container)) (v1:Int):Nat → Int → Int → Option (Int)
 | 0,_,_=>none
 | k + 1,v10,v11=>if (decide (v10 < v11)) = true then (if (decide (0 ≤ (1:Int))) = true then (lett ((IntKind.wrap .i64 ((Int.fdiv (IntKind.wrap .u64 ((IntKind.wrap .i64 (v10 + v11)))) (2 ^ (min (Int.toNat 1) (IntKind.bits .u64)))))):Int) fun x1 =>
 if (decide (0 ≤ x1 ∧ x1 < (List.length v0:Int))) = true then (if (decide (0 ≤ v1 ∧ v1 < (List.length v0:Int))) = true then ((view_sorted_1 n ((v0)[Int.toNat x1]?.getD Z_api_Container) ((v0)[Int.toNat v1]?.getD Z_api_Container)).bind fun r2 =>
 if (decide (r2 < 0)) = true then (slices_symMergeCmpFunc_api_Container__r0__view_sorted_1_l1 R_slices_symMergeCmpFunc_api_Container__r0__view_sorted_1 n v0 v1 k (IntKind.wrap .i64 (x1 + 1)) v11)
 else (slices_symMergeCmpFunc_api_Container__r0__view_sorted_1_l1 R_slices_symMergeCmpFunc_api_Container__r0__view_sorted_1 n v0 v1 k v10 x1)) else none) else none) else none)
 else some v10
abbrev hR8 (R_slices_symMergeCmpFunc_api_Container__r0__view_sorted_1:Int → Int → Int → (List (S_api_Container)) → Option ((List (S_api_Container)))):Prop:=∀ (a1:Int) (a2:Int) (a3:Int) (h0:List (S_api_Container)) (r:(List (S_api_Container))),R_slices_symMergeCmpFunc_api_Container__r0__view_sorted_1 a1 a2 a3 h0 = some r → CallsB Try.prog 102 [.row 1000000,vi a1,vi a2,vi a3,.fn 67 []] [(1000000,49,[rc7 h0])] (.tup []) [(1000000,49,[rc7 r])]
abbrev ex30 (x0:Int) (x1:Int):=(IntKind.wrap .i64 ((Int.fdiv (IntKind.wrap .u64 ((ex15 x0 x1))) (2 ^ (min (Int.toNat 1) (IntKind.bits .u64))))))
theorem ok_slices_symMergeCmpFunc_api_Container__r0__view_sorted_1_l1 (R_slices_symMergeCmpFunc_api_Container__r0__view_sorted_1:Int → Int → Int → (List (S_api_Container)) → Option ((List (S_api_Container)))) (hR_slices_symMergeCmpFunc_api_Container__r0__view_sorted_1:hR8 R_slices_symMergeCmpFunc_api_Container__r0__view_sorted_1) (n:Nat) (v0:List (S_api_Container)) (v1:Int) {F0:Fz} {w0:Pt Try.prog} {Q:Exit → Act → World → Prop} (k:Nat):∀ (v10:Int) (v11:Int) (o:Int),slices_symMergeCmpFunc_api_Container__r0__view_sorted_1_l1 R_slices_symMergeCmpFunc_api_Container__r0__view_sorted_1 n v0 v1 k v10 v11 = some o → To 220 F0 w0 [(0,.row 1000000),(1,vi v1),(10,vi o)] [(1000000,49,[rc7 v0])] (.exit 0) Q → WL Try.prog 220 F0 w0 [(0,.row 1000000),(1,vi v1),(4,.fn 67 []),(10,vi v10),(11,vi v11)] [(1000000,49,[rc7 v0])] (cI (cI (cA (cB (cB (cT (cB (cA (cF Try.f102))))))))) Q:=by
 induction k with
 | zero=>intro v10 v11 o h; cases h
 | succ k ih =>
  intro v10 v11 o h hQ
  rw [slices_symMergeCmpFunc_api_Container__r0__view_sorted_1_l1] at h
  refine WL.round (Wp.seq (Wp.seq (rg [0,1,4,10,11,33] [1000000] [(0,.row 1000000),(1,vi v1),(4,.fn 67 []),(10,vi v10),(11,vi v11),(33,vb (decide (v10 < v11)))] [(1000000,49,[rc7 v0])] (To.thenN (cn h (fun h=>?_) (fun h=>?_))))))
  ·refine Wp.skip (To.thenN (Wp.block (Wp.seq ?_)))
   obtain ⟨hc5,h⟩:=chk_of h
   obtain ⟨x1,hx1,h⟩:=lett_of h
   refine r0 [0,1,4,10,11,12] [1000000] [(0,.row 1000000),(1,vi v1),(4,.fn 67 []),(10,vi v10),(11,vi v11),(12,vi (ex30 v10 v11))] [(1000000,49,[rc7 v0])] (AllP.cons hc5 AllP.nil) (To.eq (K':=[(0,.row 1000000),(1,vi v1),(4,.fn 67 []),(10,vi v10),(11,vi v11),(12,vi x1)]) (L':=[(1000000,49,[rc7 v0])]) (by cases hx1; rfl) (by cases hx1; rfl) (To.thenN (Wp.seq ?_)))
   obtain ⟨hc3,h⟩:=chk_of h
   obtain ⟨hc4,h⟩:=chk_of h
   obtain ⟨r2,hr2,h⟩:=bind_of h
   refine Wp.regionD hm hΓ [(9,vi r2)] [0,1,4,10,11,12,50] [1000000] (K':=[(0,.row 1000000),(1,vi v1),(4,.fn 67 []),(10,vi v10),(11,vi v11),(12,vi x1),(50,vb (decide (r2 < 0)))]) (L':=[(1000000,49,[rc7 v0])]) (ob:=[(decide (0 ≤ x1 ∧ x1 < (List.length v0:Int))) = true,(decide (0 ≤ x1 ∧ x1 < (List.length v0:Int))) = true,(ex6 v1 v0) = true,(ex6 v1 v0) = true,(true = true → CX Try.prog 67 [.agg [vi (((v0)[Int.toNat x1]?.getD Z_api_Container).f_Id),.str (((v0)[Int.toNat x1]?.getD Z_api_Container).f_Spec.f_Name),.str (((v0)[Int.toNat x1]?.getD Z_api_Container).f_Spec.f_Project),.str (((v0)[Int.toNat x1]?.getD Z_api_Container).f_Spec.f_Service),vi (((v0)[Int.toNat x1]?.getD Z_api_Container).f_Spec.f_Number),.str (((v0)[Int.toNat x1]?.getD Z_api_Container).f_Spec.f_Hash),ls (((v0)[Int.toNat x1]?.getD Z_api_Container).f_Spec.f_Nets),ls (((v0)[Int.toNat x1]?.getD Z_api_Container).f_Spec.f_Vols),.str (((v0)[Int.toNat x1]?.getD Z_api_Container).f_Spec.f_Health.f_Test),vi (((v0)[Int.toNat x1]?.getD Z_api_Container).f_Spec.f_Health.f_Every),vi (((v0)[Int.toNat x1]?.getD Z_api_Container).f_Spec.f_Health.f_Start),vi (((v0)[Int.toNat x1]?.getD Z_api_Container).f_Spec.f_Health.f_Retries),vi (((v0)[Int.toNat x1]?.getD Z_api_Container).f_Spec.f_Restart),vi (((v0)[Int.toNat x1]?.getD Z_api_Container).f_Spec.f_Tries),vi (((v0)[Int.toNat x1]?.getD Z_api_Container).f_State),vi (((v0)[Int.toNat x1]?.getD Z_api_Container).f_Code),vi (((v0)[Int.toNat x1]?.getD Z_api_Container).f_Health),vi (((v0)[Int.toNat x1]?.getD Z_api_Container).f_Runs)],.agg [vi ((ex5 v0 v1).f_Id),.str ((ex5 v0 v1).f_Spec.f_Name),.str (ex26 v0 v1),.str (ex25 v0 v1),vi ((ex5 v0 v1).f_Spec.f_Number),.str ((ex5 v0 v1).f_Spec.f_Hash),ls ((ex5 v0 v1).f_Spec.f_Nets),ls ((ex5 v0 v1).f_Spec.f_Vols),.str (ex24 v0 v1),vi (ex22 v0 v1),vi (ex23 v0 v1),vi (ex21 v0 v1),vi (ex27 v0 v1),vi ((ex5 v0 v1).f_Spec.f_Tries),vi ((ex5 v0 v1).f_State),vi ((ex5 v0 v1).f_Code),vi ((ex5 v0 v1).f_Health),vi ((ex5 v0 v1).f_Runs)]] (vi r2))]) (by kernel_rfl) (AllP.cons hc3 (AllP.cons hc3 (AllP.cons hc4 (AllP.cons hc4 (AllP.cons (fun _=>cx (ok_view_sorted_1 n ((v0)[Int.toNat x1]?.getD Z_api_Container) (ex5 v0 v1) _ hr2)) AllP.nil))))) (To.thenN (cn h (fun h=>?_) (fun h=>?_)))
   ·refine rg [0,1,4,10,11] [1000000] [(0,.row 1000000),(1,vi v1),(4,.fn 67 []),(10,vi (IntKind.wrap .i64 (x1 + 1))),(11,vi v11)] [(1000000,49,[rc7 v0])] (To.blockN (To.again ?_))
    exact ih (IntKind.wrap .i64 (x1 + 1)) v11 _ h hQ
   ·refine rg [0,1,4,10,11] [1000000] [(0,.row 1000000),(1,vi v1),(4,.fn 67 []),(10,vi v10),(11,vi x1)] [(1000000,49,[rc7 v0])] (To.blockN (To.again ?_))
    exact ih v10 x1 _ h hQ
  ·refine Wp.exit (To.thenX (To.thenX (kt [0,1,10] [1000000] [(0,.row 1000000),(1,vi v1),(10,vi v10)] [(1000000,49,[rc7 v0])] ?_)))
   cases h
   exact hQ
def slices_symMergeCmpFunc_api_Container__r0__view_sorted_1_l2 (R_slices_symMergeCmpFunc_api_Container__r0__view_sorted_1:Int → Int → Int → (List (S_api_Container)) → Option ((List (S_api_Container)))) (n:Nat) (v10:Int):Nat → (List (S_api_Container)) → Int → Option ((List (S_api_Container)))
 | 0,_,_=>none
 | k + 1,v0,v13=>if (decide (v13 < (IntKind.wrap .i64 (v10 - 1)))) = true then (if (decide (0 ≤ (IntKind.wrap .i64 (v13 + 1)) ∧ (IntKind.wrap .i64 (v13 + 1)) < (List.length v0:Int))) = true then (if (decide (0 ≤ v13 ∧ v13 < (List.length v0:Int))) = true then (if (decide (0 ≤ (IntKind.wrap .i64 (v13 + 1)) ∧ (IntKind.wrap .i64 (v13 + 1)) < (List.length (List.set v0 (Int.toNat v13) ((v0)[Int.toNat (IntKind.wrap .i64 (v13 + 1))]?.getD Z_api_Container)):Int))) = true then (lett ((List.set (List.set v0 (Int.toNat v13) ((v0)[Int.toNat (IntKind.wrap .i64 (v13 + 1))]?.getD Z_api_Container)) (Int.toNat (IntKind.wrap .i64 (v13 + 1))) ((v0)[Int.toNat v13]?.getD Z_api_Container)):List (S_api_Container)) fun x2 =>
 slices_symMergeCmpFunc_api_Container__r0__view_sorted_1_l2 R_slices_symMergeCmpFunc_api_Container__r0__view_sorted_1 n v10 k x2 (IntKind.wrap .i64 (v13 + 1))) else none) else none) else none)
 else some v0
abbrev ex17 (x0:List (S_api_Container)) (x1:Int):=((x0)[Int.toNat (IntKind.wrap .i64 (x1 + 1))]?.getD Z_api_Container)
abbrev ex31 (x0:List (S_api_Container)) (x1:Int):=(List.set x0 (Int.toNat x1) (ex17 x0 x1))
theorem ok_slices_symMergeCmpFunc_api_Container__r0__view_sorted_1_l2 (R_slices_symMergeCmpFunc_api_Container__r0__view_sorted_1:Int → Int → Int → (List (S_api_Container)) → Option ((List (S_api_Container)))) (hR_slices_symMergeCmpFunc_api_Container__r0__view_sorted_1:hR8 R_slices_symMergeCmpFunc_api_Container__r0__view_sorted_1) (n:Nat) (v10:Int) {F0:Fz} {w0:Pt Try.prog} {Q:Exit → Act → World → Prop} (k:Nat):∀ (v0:List (S_api_Container)) (v13:Int) (o:(List (S_api_Container))),slices_symMergeCmpFunc_api_Container__r0__view_sorted_1_l2 R_slices_symMergeCmpFunc_api_Container__r0__view_sorted_1 n v10 k v0 v13 = some o → To 220 F0 w0 [] [(1000000,49,[rc7 o])] (.exit 2) Q → WL Try.prog 220 F0 w0 [(0,.row 1000000),(10,vi v10),(13,vi v13)] [(1000000,49,[rc7 v0])] (cI (cI (cB (cA (cB (cB (cB (cT (cB (cA (cF Try.f102))))))))))) Q:=by
 induction k with
 | zero=>intro v0 v13 o h; cases h
 | succ k ih =>
  intro v0 v13 o h hQ
  rw [slices_symMergeCmpFunc_api_Container__r0__view_sorted_1_l2] at h
  refine WL.round (Wp.seq (Wp.seq (rg [0,10,13,58] [1000000] [(0,.row 1000000),(10,vi v10),(13,vi v13),(58,vb (decide (v13 < (IntKind.wrap .i64 (v10 - 1)))))] [(1000000,49,[rc7 v0])] (To.thenN (cn h (fun h=>?_) (fun h=>?_))))))
  ·refine Wp.skip (To.thenN (Wp.seq (Wp.block ?_)))
   obtain ⟨hc3,h⟩:=chk_of h
   obtain ⟨hc4,h⟩:=chk_of h
   obtain ⟨hc5,h⟩:=chk_of h
   obtain ⟨x2,hx2,h⟩:=lett_of h
   refine Wp.regionO hm hΓ [] [(15,rs2 (ex31 v0 v13)),(17,rs2 (List.set (ex31 v0 v13) (Int.toNat (IntKind.wrap .i64 (v13 + 1))) (ex5 v0 v13)))] [] [0,10,13,58,61,62,63,64,65,66,67,68,69,70,71,72,73,74,75,76] [1000000] [0,10,13] [1000000] (K':=[(0,.row 1000000),(10,vi v10),(13,vi v13)]) (L':=[(1000000,49,[rc7 (List.set (ex31 v0 v13) (Int.toNat (IntKind.wrap .i64 (v13 + 1))) (ex5 v0 v13))])]) (ob:=[(decide (0 ≤ (IntKind.wrap .i64 (v13 + 1)) ∧ (IntKind.wrap .i64 (v13 + 1)) < (List.length v0:Int))) = true,(decide (0 ≤ (IntKind.wrap .i64 (v13 + 1)) ∧ (IntKind.wrap .i64 (v13 + 1)) < (List.length v0:Int))) = true,(ex6 v13 v0) = true,(ex6 v13 v0) = true,(ex6 v13 v0) = true,(ex6 v13 v0) = true,UpdOb Z_api_Container E_api_Container v0 v13 0 [vi ((ex17 v0 v13).f_Id),.str ((ex17 v0 v13).f_Spec.f_Name),.str ((ex17 v0 v13).f_Spec.f_Project),.str ((ex17 v0 v13).f_Spec.f_Service),vi ((ex17 v0 v13).f_Spec.f_Number),.str ((ex17 v0 v13).f_Spec.f_Hash),ls ((ex17 v0 v13).f_Spec.f_Nets),ls ((ex17 v0 v13).f_Spec.f_Vols),.str ((ex17 v0 v13).f_Spec.f_Health.f_Test),vi ((ex17 v0 v13).f_Spec.f_Health.f_Every),vi ((ex17 v0 v13).f_Spec.f_Health.f_Start),vi ((ex17 v0 v13).f_Spec.f_Health.f_Retries),vi ((ex17 v0 v13).f_Spec.f_Restart),vi ((ex17 v0 v13).f_Spec.f_Tries),vi ((ex17 v0 v13).f_State),vi ((ex17 v0 v13).f_Code),vi ((ex17 v0 v13).f_Health),vi ((ex17 v0 v13).f_Runs)] (rs2 (ex31 v0 v13)),(decide (0 ≤ (IntKind.wrap .i64 (v13 + 1)) ∧ (IntKind.wrap .i64 (v13 + 1)) < (List.length (ex31 v0 v13):Int))) = true,(decide (0 ≤ (IntKind.wrap .i64 (v13 + 1)) ∧ (IntKind.wrap .i64 (v13 + 1)) < (List.length (ex31 v0 v13):Int))) = true,UpdOb Z_api_Container E_api_Container (ex31 v0 v13) (IntKind.wrap .i64 (v13 + 1)) 0 [vi ((ex5 v0 v13).f_Id),.str ((ex5 v0 v13).f_Spec.f_Name),.str (ex26 v0 v13),.str (ex25 v0 v13),vi ((ex5 v0 v13).f_Spec.f_Number),.str ((ex5 v0 v13).f_Spec.f_Hash),ls ((ex5 v0 v13).f_Spec.f_Nets),ls ((ex5 v0 v13).f_Spec.f_Vols),.str (ex24 v0 v13),vi (ex22 v0 v13),vi (ex23 v0 v13),vi (ex21 v0 v13),vi (ex27 v0 v13),vi ((ex5 v0 v13).f_Spec.f_Tries),vi ((ex5 v0 v13).f_State),vi ((ex5 v0 v13).f_Code),vi ((ex5 v0 v13).f_Health),vi ((ex5 v0 v13).f_Runs)] (rs2 (List.set (ex31 v0 v13) (Int.toNat (IntKind.wrap .i64 (v13 + 1))) (ex5 v0 v13)))]) (by kernel_rfl) (by kernel_rfl) (AllP.cons hc3 (AllP.cons hc3 (AllP.cons hc4 (AllP.cons hc4 (AllP.cons hc4 (AllP.cons hc4 (AllP.cons (updOb (by kernel_rfl)) (AllP.cons hc5 (AllP.cons hc5 (AllP.cons (updOb (by kernel_rfl)) AllP.nil)))))))))) (To.eq (K':=[(0,.row 1000000),(10,vi v10),(13,vi v13)]) (L':=[(1000000,49,[rc7 x2])]) (by cases hx2; rfl) (by cases hx2; rfl) (To.blockN (To.thenN (rg [0,10,13] [1000000] [(0,.row 1000000),(10,vi v10),(13,vi (IntKind.wrap .i64 (v13 + 1)))] [(1000000,49,[rc7 x2])] (kt [0,10,13] [1000000] [(0,.row 1000000),(10,vi v10),(13,vi (IntKind.wrap .i64 (v13 + 1)))] [(1000000,49,[rc7 x2])] (To.again ?_))))))
   exact ih x2 (IntKind.wrap .i64 (v13 + 1)) _ h hQ
  ·refine Wp.exit (To.thenX (To.thenX (kt [] [1000000] [] [(1000000,49,[rc7 v0])] ?_)))
   cases h
   exact hQ
def slices_symMergeCmpFunc_api_Container__r0__view_sorted_1_l3 (R_slices_symMergeCmpFunc_api_Container__r0__view_sorted_1:Int → Int → Int → (List (S_api_Container)) → Option ((List (S_api_Container)))) (n:Nat) (v0:List (S_api_Container)) (v2:Int):Nat → Int → Int → Option (Int)
 | 0,_,_=>none
 | k + 1,v14,v15=>if (decide (v14 < v15)) = true then (if (decide (0 ≤ (1:Int))) = true then (lett ((IntKind.wrap .i64 ((Int.fdiv (IntKind.wrap .u64 ((IntKind.wrap .i64 (v14 + v15)))) (2 ^ (min (Int.toNat 1) (IntKind.bits .u64)))))):Int) fun x3 =>
 if (decide (0 ≤ v2 ∧ v2 < (List.length v0:Int))) = true then (if (decide (0 ≤ x3 ∧ x3 < (List.length v0:Int))) = true then ((view_sorted_1 n ((v0)[Int.toNat v2]?.getD Z_api_Container) ((v0)[Int.toNat x3]?.getD Z_api_Container)).bind fun r4 =>
 if (!(decide (r4 < 0))) = true then (slices_symMergeCmpFunc_api_Container__r0__view_sorted_1_l3 R_slices_symMergeCmpFunc_api_Container__r0__view_sorted_1 n v0 v2 k (IntKind.wrap .i64 (x3 + 1)) v15)
 else (slices_symMergeCmpFunc_api_Container__r0__view_sorted_1_l3 R_slices_symMergeCmpFunc_api_Container__r0__view_sorted_1 n v0 v2 k v14 x3)) else none) else none) else none)
 else some v14
theorem ok_slices_symMergeCmpFunc_api_Container__r0__view_sorted_1_l3 (R_slices_symMergeCmpFunc_api_Container__r0__view_sorted_1:Int → Int → Int → (List (S_api_Container)) → Option ((List (S_api_Container)))) (hR_slices_symMergeCmpFunc_api_Container__r0__view_sorted_1:hR8 R_slices_symMergeCmpFunc_api_Container__r0__view_sorted_1) (n:Nat) (v0:List (S_api_Container)) (v2:Int) {F0:Fz} {w0:Pt Try.prog} {Q:Exit → Act → World → Prop} (k:Nat):∀ (v14:Int) (v15:Int) (o:Int),slices_symMergeCmpFunc_api_Container__r0__view_sorted_1_l3 R_slices_symMergeCmpFunc_api_Container__r0__view_sorted_1 n v0 v2 k v14 v15 = some o → To 220 F0 w0 [(0,.row 1000000),(2,vi v2),(14,vi o)] [(1000000,49,[rc7 v0])] (.exit 4) Q → WL Try.prog 220 F0 w0 [(0,.row 1000000),(2,vi v2),(4,.fn 67 []),(14,vi v14),(15,vi v15)] [(1000000,49,[rc7 v0])] (cI (cI (cA (cB (cB (cT (cB (cA (cB (cF Try.f102)))))))))) Q:=by
 induction k with
 | zero=>intro v14 v15 o h; cases h
 | succ k ih =>
  intro v14 v15 o h hQ
  rw [slices_symMergeCmpFunc_api_Container__r0__view_sorted_1_l3] at h
  refine WL.round (Wp.seq (Wp.seq (rg [0,2,4,14,15,85] [1000000] [(0,.row 1000000),(2,vi v2),(4,.fn 67 []),(14,vi v14),(15,vi v15),(85,vb (decide (v14 < v15)))] [(1000000,49,[rc7 v0])] (To.thenN (cn h (fun h=>?_) (fun h=>?_))))))
  ·refine Wp.skip (To.thenN (Wp.block (Wp.seq ?_)))
   obtain ⟨hc7,h⟩:=chk_of h
   obtain ⟨x3,hx3,h⟩:=lett_of h
   refine r0 [0,2,4,14,15,16] [1000000] [(0,.row 1000000),(2,vi v2),(4,.fn 67 []),(14,vi v14),(15,vi v15),(16,vi (ex30 v14 v15))] [(1000000,49,[rc7 v0])] (AllP.cons hc7 AllP.nil) (To.eq (K':=[(0,.row 1000000),(2,vi v2),(4,.fn 67 []),(14,vi v14),(15,vi v15),(16,vi x3)]) (L':=[(1000000,49,[rc7 v0])]) (by cases hx3; rfl) (by cases hx3; rfl) (To.thenN (Wp.seq ?_)))
   obtain ⟨hc5,h⟩:=chk_of h
   obtain ⟨hc6,h⟩:=chk_of h
   obtain ⟨r4,hr4,h⟩:=bind_of h
   refine Wp.regionD hm hΓ [(9,vi r4)] [0,2,4,14,15,16,103] [1000000] (K':=[(0,.row 1000000),(2,vi v2),(4,.fn 67 []),(14,vi v14),(15,vi v15),(16,vi x3),(103,vb (!(decide (r4 < 0))))]) (L':=[(1000000,49,[rc7 v0])]) (ob:=[(ex6 v2 v0) = true,(ex6 v2 v0) = true,(decide (0 ≤ x3 ∧ x3 < (List.length v0:Int))) = true,(decide (0 ≤ x3 ∧ x3 < (List.length v0:Int))) = true,(true = true → CX Try.prog 67 [.agg [vi ((ex5 v0 v2).f_Id),.str ((ex5 v0 v2).f_Spec.f_Name),.str (ex26 v0 v2),.str (ex25 v0 v2),vi ((ex5 v0 v2).f_Spec.f_Number),.str ((ex5 v0 v2).f_Spec.f_Hash),ls ((ex5 v0 v2).f_Spec.f_Nets),ls ((ex5 v0 v2).f_Spec.f_Vols),.str (ex24 v0 v2),vi (ex22 v0 v2),vi (ex23 v0 v2),vi (ex21 v0 v2),vi (ex27 v0 v2),vi ((ex5 v0 v2).f_Spec.f_Tries),vi ((ex5 v0 v2).f_State),vi ((ex5 v0 v2).f_Code),vi ((ex5 v0 v2).f_Health),vi ((ex5 v0 v2).f_Runs)],.agg [vi (((v0)[Int.toNat x3]?.getD Z_api_Container).f_Id),.str (((v0)[Int.toNat x3]?.getD Z_api_Container).f_Spec.f_Name),.str (((v0)[Int.toNat x3]?.getD Z_api_Container).f_Spec.f_Project),.str (((v0)[Int.toNat x3]?.getD Z_api_Container).f_Spec.f_Service),vi (((v0)[Int.toNat x3]?.getD Z_api_Container).f_Spec.f_Number),.str (((v0)[Int.toNat x3]?.getD Z_api_Container).f_Spec.f_Hash),ls (((v0)[Int.toNat x3]?.getD Z_api_Container).f_Spec.f_Nets),ls (((v0)[Int.toNat x3]?.getD Z_api_Container).f_Spec.f_Vols),.str (((v0)[Int.toNat x3]?.getD Z_api_Container).f_Spec.f_Health.f_Test),vi (((v0)[Int.toNat x3]?.getD Z_api_Container).f_Spec.f_Health.f_Every),vi (((v0)[Int.toNat x3]?.getD Z_api_Container).f_Spec.f_Health.f_Start),vi (((v0)[Int.toNat x3]?.getD Z_api_Container).f_Spec.f_Health.f_Retries),vi (((v0)[Int.toNat x3]?.getD Z_api_Container).f_Spec.f_Restart),vi (((v0)[Int.toNat x3]?.getD Z_api_Container).f_Spec.f_Tries),vi (((v0)[Int.toNat x3]?.getD Z_api_Container).f_State),vi (((v0)[Int.toNat x3]?.getD Z_api_Container).f_Code),vi (((v0)[Int.toNat x3]?.getD Z_api_Container).f_Health),vi (((v0)[Int.toNat x3]?.getD Z_api_Container).f_Runs)]] (vi r4))]) (by kernel_rfl) (AllP.cons hc5 (AllP.cons hc5 (AllP.cons hc6 (AllP.cons hc6 (AllP.cons (fun _=>cx (ok_view_sorted_1 n (ex5 v0 v2) ((v0)[Int.toNat x3]?.getD Z_api_Container) _ hr4)) AllP.nil))))) (To.thenN (cn h (fun h=>?_) (fun h=>?_)))
   ·refine rg [0,2,4,14,15] [1000000] [(0,.row 1000000),(2,vi v2),(4,.fn 67 []),(14,vi (IntKind.wrap .i64 (x3 + 1))),(15,vi v15)] [(1000000,49,[rc7 v0])] (To.blockN (To.again ?_))
    exact ih (IntKind.wrap .i64 (x3 + 1)) v15 _ h hQ
   ·refine rg [0,2,4,14,15] [1000000] [(0,.row 1000000),(2,vi v2),(4,.fn 67 []),(14,vi v14),(15,vi x3)] [(1000000,49,[rc7 v0])] (To.blockN (To.again ?_))
    exact ih v14 x3 _ h hQ
  ·refine Wp.exit (To.thenX (To.thenX (kt [0,2,14] [1000000] [(0,.row 1000000),(2,vi v2),(14,vi v14)] [(1000000,49,[rc7 v0])] ?_)))
   cases h
   exact hQ
def slices_symMergeCmpFunc_api_Container__r0__view_sorted_1_l4 (R_slices_symMergeCmpFunc_api_Container__r0__view_sorted_1:Int → Int → Int → (List (S_api_Container)) → Option ((List (S_api_Container)))) (n:Nat) (v14:Int):Nat → (List (S_api_Container)) → Int → Option ((List (S_api_Container)))
 | 0,_,_=>none
 | k + 1,v0,v17=>if (decide (v17 > v14)) = true then (if (decide (0 ≤ (IntKind.wrap .i64 (v17 - 1)) ∧ (IntKind.wrap .i64 (v17 - 1)) < (List.length v0:Int))) = true then (if (decide (0 ≤ v17 ∧ v17 < (List.length v0:Int))) = true then (if (decide (0 ≤ (IntKind.wrap .i64 (v17 - 1)) ∧ (IntKind.wrap .i64 (v17 - 1)) < (List.length (List.set v0 (Int.toNat v17) ((v0)[Int.toNat (IntKind.wrap .i64 (v17 - 1))]?.getD Z_api_Container)):Int))) = true then (lett ((List.set (List.set v0 (Int.toNat v17) ((v0)[Int.toNat (IntKind.wrap .i64 (v17 - 1))]?.getD Z_api_Container)) (Int.toNat (IntKind.wrap .i64 (v17 - 1))) ((v0)[Int.toNat v17]?.getD Z_api_Container)):List (S_api_Container)) fun x4 =>
 slices_symMergeCmpFunc_api_Container__r0__view_sorted_1_l4 R_slices_symMergeCmpFunc_api_Container__r0__view_sorted_1 n v14 k x4 (IntKind.wrap .i64 (v17 - 1))) else none) else none) else none)
 else some v0
theorem ok_slices_symMergeCmpFunc_api_Container__r0__view_sorted_1_l4 (R_slices_symMergeCmpFunc_api_Container__r0__view_sorted_1:Int → Int → Int → (List (S_api_Container)) → Option ((List (S_api_Container)))) (hR_slices_symMergeCmpFunc_api_Container__r0__view_sorted_1:hR8 R_slices_symMergeCmpFunc_api_Container__r0__view_sorted_1) (n:Nat) (v14:Int) {F0:Fz} {w0:Pt Try.prog} {Q:Exit → Act → World → Prop} (k:Nat):∀ (v0:List (S_api_Container)) (v17:Int) (o:(List (S_api_Container))),slices_symMergeCmpFunc_api_Container__r0__view_sorted_1_l4 R_slices_symMergeCmpFunc_api_Container__r0__view_sorted_1 n v14 k v0 v17 = some o → To 220 F0 w0 [] [(1000000,49,[rc7 o])] (.exit 6) Q → WL Try.prog 220 F0 w0 [(0,.row 1000000),(14,vi v14),(17,vi v17)] [(1000000,49,[rc7 v0])] (cI (cI (cB (cA (cB (cB (cB (cT (cB (cA (cB (cF Try.f102)))))))))))) Q:=by
 induction k with
 | zero=>intro v0 v17 o h; cases h
 | succ k ih =>
  intro v0 v17 o h hQ
  rw [slices_symMergeCmpFunc_api_Container__r0__view_sorted_1_l4] at h
  refine WL.round (Wp.seq (Wp.seq (rg [0,14,17,110] [1000000] [(0,.row 1000000),(14,vi v14),(17,vi v17),(110,vb (decide (v17 > v14)))] [(1000000,49,[rc7 v0])] (To.thenN (cn h (fun h=>?_) (fun h=>?_))))))
  ·refine Wp.skip (To.thenN (Wp.seq (Wp.block ?_)))
   obtain ⟨hc5,h⟩:=chk_of h
   obtain ⟨hc6,h⟩:=chk_of h
   obtain ⟨hc7,h⟩:=chk_of h
   obtain ⟨x4,hx4,h⟩:=lett_of h
   refine Wp.regionO hm hΓ [] [(15,rs2 (ex29 v0 v17)),(17,rs2 (ex34 v0 v17))] [] [0,14,17,110,113,114,115,116,117,118,119,120,121,122,123,124,125,126,127,128] [1000000] [0,14,17] [1000000] (K':=[(0,.row 1000000),(14,vi v14),(17,vi v17)]) (L':=[(1000000,49,[rc7 (ex34 v0 v17)])]) (ob:=[(decide (ex10 v17 v0)) = true,(decide (ex10 v17 v0)) = true,(ex6 v17 v0) = true,(ex6 v17 v0) = true,(ex6 v17 v0) = true,(ex6 v17 v0) = true,UpdOb Z_api_Container E_api_Container v0 v17 0 [vi ((ex9 v0 v17).f_Id),.str ((ex9 v0 v17).f_Spec.f_Name),.str ((ex9 v0 v17).f_Spec.f_Project),.str ((ex9 v0 v17).f_Spec.f_Service),vi ((ex9 v0 v17).f_Spec.f_Number),.str ((ex9 v0 v17).f_Spec.f_Hash),ls ((ex9 v0 v17).f_Spec.f_Nets),ls ((ex9 v0 v17).f_Spec.f_Vols),.str ((ex9 v0 v17).f_Spec.f_Health.f_Test),vi ((ex9 v0 v17).f_Spec.f_Health.f_Every),vi ((ex9 v0 v17).f_Spec.f_Health.f_Start),vi ((ex9 v0 v17).f_Spec.f_Health.f_Retries),vi ((ex9 v0 v17).f_Spec.f_Restart),vi ((ex9 v0 v17).f_Spec.f_Tries),vi ((ex9 v0 v17).f_State),vi ((ex9 v0 v17).f_Code),vi ((ex9 v0 v17).f_Health),vi ((ex9 v0 v17).f_Runs)] (rs2 (ex29 v0 v17)),(ex33 v17 v0) = true,(ex33 v17 v0) = true,UpdOb Z_api_Container E_api_Container (ex29 v0 v17) (IntKind.wrap .i64 (v17 - 1)) 0 [vi ((ex5 v0 v17).f_Id),.str ((ex5 v0 v17).f_Spec.f_Name),.str (ex26 v0 v17),.str (ex25 v0 v17),vi ((ex5 v0 v17).f_Spec.f_Number),.str ((ex5 v0 v17).f_Spec.f_Hash),ls ((ex5 v0 v17).f_Spec.f_Nets),ls ((ex5 v0 v17).f_Spec.f_Vols),.str (ex24 v0 v17),vi (ex22 v0 v17),vi (ex23 v0 v17),vi (ex21 v0 v17),vi (ex27 v0 v17),vi ((ex5 v0 v17).f_Spec.f_Tries),vi ((ex5 v0 v17).f_State),vi ((ex5 v0 v17).f_Code),vi ((ex5 v0 v17).f_Health),vi ((ex5 v0 v17).f_Runs)] (rs2 (ex34 v0 v17))]) (by kernel_rfl) (by kernel_rfl) (AllP.cons hc5 (AllP.cons hc5 (AllP.cons hc6 (AllP.cons hc6 (AllP.cons hc6 (AllP.cons hc6 (AllP.cons (updOb (by kernel_rfl)) (AllP.cons hc7 (AllP.cons hc7 (AllP.cons (updOb (by kernel_rfl)) AllP.nil)))))))))) (To.eq (K':=[(0,.row 1000000),(14,vi v14),(17,vi v17)]) (L':=[(1000000,49,[rc7 x4])]) (by cases hx4; rfl) (by cases hx4; rfl) (To.blockN (To.thenN (rg [0,14,17] [1000000] [(0,.row 1000000),(14,vi v14),(17,vi (IntKind.wrap .i64 (v17 - 1)))] [(1000000,49,[rc7 x4])] (kt [0,14,17] [1000000] [(0,.row 1000000),(14,vi v14),(17,vi (IntKind.wrap .i64 (v17 - 1)))] [(1000000,49,[rc7 x4])] (To.again ?_))))))
   exact ih x4 (IntKind.wrap .i64 (v17 - 1)) _ h hQ
  ·refine Wp.exit (To.thenX (To.thenX (kt [] [1000000] [] [(1000000,49,[rc7 v0])] ?_)))
   cases h
   exact hQ
def slices_symMergeCmpFunc_api_Container__r0__view_sorted_1_j5 (R_slices_symMergeCmpFunc_api_Container__r0__view_sorted_1:Int → Int → Int → (List (S_api_Container)) → Option ((List (S_api_Container)))) (n:Nat) (v0:List (S_api_Container)) (v1:Int) (v2:Int) (v3:Int) (v18:Int) (v19:Int) (v140:Bool):Option (Int × Int) :=
 if v140 = true then (some ((IntKind.wrap .i64 (v19 - v3)),v18))
 else (some (v1,v2))
theorem ok_slices_symMergeCmpFunc_api_Container__r0__view_sorted_1_j5 (R_slices_symMergeCmpFunc_api_Container__r0__view_sorted_1:Int → Int → Int → (List (S_api_Container)) → Option ((List (S_api_Container)))) (hR_slices_symMergeCmpFunc_api_Container__r0__view_sorted_1:hR8 R_slices_symMergeCmpFunc_api_Container__r0__view_sorted_1) (n:Nat) (v0:List (S_api_Container)) (v1:Int) (v2:Int) (v3:Int) (v18:Int) (v19:Int) (v140:Bool) (o:Int × Int) (h:slices_symMergeCmpFunc_api_Container__r0__view_sorted_1_j5 R_slices_symMergeCmpFunc_api_Container__r0__view_sorted_1 n v0 v1 v2 v3 v18 v19 v140 = some o) {F0:Fz} {w0:Pt Try.prog} {Q:Exit → Act → World → Prop} (hQ:To 220 F0 w0 [(0,.row 1000000),(1,vi v1),(2,vi v2),(3,vi v3),(4,.fn 67 []),(18,vi v18),(19,vi v19),(20,vi o.1),(21,vi o.2)] [(1000000,49,[rc7 v0])] .normal Q):Wp Try.prog 220 F0 w0 [(0,.row 1000000),(1,vi v1),(2,vi v2),(3,vi v3),(4,.fn 67 []),(18,vi v18),(19,vi v19),(140,vb v140)] [(1000000,49,[rc7 v0])] (cB (cA (cB (cB (cB (cB (cB (cF Try.f102)))))))) Q:=by
 unfold slices_symMergeCmpFunc_api_Container__r0__view_sorted_1_j5 at h
 refine cn h (fun h=>?_) (fun h=>?_)
 ·refine Wp.seq (rg [0,1,2,3,4,18,19,20] [1000000] [(0,.row 1000000),(1,vi v1),(2,vi v2),(3,vi v3),(4,.fn 67 []),(18,vi v18),(19,vi v19),(20,vi (ex16 v19 v3))] [(1000000,49,[rc7 v0])] (To.thenN (rg [0,1,2,3,4,18,19,20,21] [1000000] [(0,.row 1000000),(1,vi v1),(2,vi v2),(3,vi v3),(4,.fn 67 []),(18,vi v18),(19,vi v19),(20,vi (ex16 v19 v3)),(21,vi v18)] [(1000000,49,[rc7 v0])] (kt [0,1,2,3,4,18,19,20,21] [1000000] [(0,.row 1000000),(1,vi v1),(2,vi v2),(3,vi v3),(4,.fn 67 []),(18,vi v18),(19,vi v19),(20,vi (ex16 v19 v3)),(21,vi v18)] [(1000000,49,[rc7 v0])] ?_))))
  cases h
  exact hQ
 ·refine Wp.seq (rg [0,1,2,3,4,18,19,20] [1000000] [(0,.row 1000000),(1,vi v1),(2,vi v2),(3,vi v3),(4,.fn 67 []),(18,vi v18),(19,vi v19),(20,vi v1)] [(1000000,49,[rc7 v0])] (To.thenN (rg [0,1,2,3,4,18,19,20,21] [1000000] [(0,.row 1000000),(1,vi v1),(2,vi v2),(3,vi v3),(4,.fn 67 []),(18,vi v18),(19,vi v19),(20,vi v1),(21,vi v2)] [(1000000,49,[rc7 v0])] (kt [0,1,2,3,4,18,19,20,21] [1000000] [(0,.row 1000000),(1,vi v1),(2,vi v2),(3,vi v3),(4,.fn 67 []),(18,vi v18),(19,vi v19),(20,vi v1),(21,vi v2)] [(1000000,49,[rc7 v0])] ?_))))
  cases h
  exact hQ
def slices_symMergeCmpFunc_api_Container__r0__view_sorted_1_l6 (R_slices_symMergeCmpFunc_api_Container__r0__view_sorted_1:Int → Int → Int → (List (S_api_Container)) → Option ((List (S_api_Container)))) (n:Nat) (v0:List (S_api_Container)) (v1:Int) (v2:Int) (v3:Int) (v18:Int) (v19:Int) (v22:Int):Nat → Int → Int → Option (Int)
 | 0,_,_=>none
 | k + 1,v20,v21=>if (decide (v20 < v21)) = true then (if (decide (0 ≤ (1:Int))) = true then (lett ((IntKind.wrap .i64 ((Int.fdiv (IntKind.wrap .u64 ((IntKind.wrap .i64 (v20 + v21)))) (2 ^ (min (Int.toNat 1) (IntKind.bits .u64)))))):Int) fun x7 =>
 if (decide (0 ≤ (IntKind.wrap .i64 (v22 - x7)) ∧ (IntKind.wrap .i64 (v22 - x7)) < (List.length v0:Int))) = true then (if (decide (0 ≤ x7 ∧ x7 < (List.length v0:Int))) = true then ((view_sorted_1 n ((v0)[Int.toNat (IntKind.wrap .i64 (v22 - x7))]?.getD Z_api_Container) ((v0)[Int.toNat x7]?.getD Z_api_Container)).bind fun r8 =>
 if (!(decide (r8 < 0))) = true then (slices_symMergeCmpFunc_api_Container__r0__view_sorted_1_l6 R_slices_symMergeCmpFunc_api_Container__r0__view_sorted_1 n v0 v1 v2 v3 v18 v19 v22 k (IntKind.wrap .i64 (x7 + 1)) v21)
 else (slices_symMergeCmpFunc_api_Container__r0__view_sorted_1_l6 R_slices_symMergeCmpFunc_api_Container__r0__view_sorted_1 n v0 v1 v2 v3 v18 v19 v22 k v20 x7)) else none) else none) else none)
 else some v20
theorem ok_slices_symMergeCmpFunc_api_Container__r0__view_sorted_1_l6 (R_slices_symMergeCmpFunc_api_Container__r0__view_sorted_1:Int → Int → Int → (List (S_api_Container)) → Option ((List (S_api_Container)))) (hR_slices_symMergeCmpFunc_api_Container__r0__view_sorted_1:hR8 R_slices_symMergeCmpFunc_api_Container__r0__view_sorted_1) (n:Nat) (v0:List (S_api_Container)) (v1:Int) (v2:Int) (v3:Int) (v18:Int) (v19:Int) (v22:Int) {F0:Fz} {w0:Pt Try.prog} {Q:Exit → Act → World → Prop} (k:Nat):∀ (v20:Int) (v21:Int) (o:Int),slices_symMergeCmpFunc_api_Container__r0__view_sorted_1_l6 R_slices_symMergeCmpFunc_api_Container__r0__view_sorted_1 n v0 v1 v2 v3 v18 v19 v22 k v20 v21 = some o → To 220 F0 w0 [(0,.row 1000000),(1,vi v1),(2,vi v2),(3,vi v3),(4,.fn 67 []),(18,vi v18),(19,vi v19),(20,vi o)] [(1000000,49,[rc7 v0])] (.exit 8) Q → WL Try.prog 220 F0 w0 [(0,.row 1000000),(1,vi v1),(2,vi v2),(3,vi v3),(4,.fn 67 []),(18,vi v18),(19,vi v19),(20,vi v20),(21,vi v21),(22,vi v22)] [(1000000,49,[rc7 v0])] (cI (cI (cA (cB (cB (cB (cB (cB (cB (cB (cF Try.f102))))))))))) Q:=by
 induction k with
 | zero=>intro v20 v21 o h; cases h
 | succ k ih =>
  intro v20 v21 o h hQ
  rw [slices_symMergeCmpFunc_api_Container__r0__view_sorted_1_l6] at h
  refine WL.round (Wp.seq (Wp.seq (rg [0,1,2,3,4,18,19,20,21,22,151] [1000000] [(0,.row 1000000),(1,vi v1),(2,vi v2),(3,vi v3),(4,.fn 67 []),(18,vi v18),(19,vi v19),(20,vi v20),(21,vi v21),(22,vi v22),(151,vb (decide (v20 < v21)))] [(1000000,49,[rc7 v0])] (To.thenN (cn h (fun h=>?_) (fun h=>?_))))))
  ·refine Wp.skip (To.thenN (Wp.block (Wp.seq ?_)))
   obtain ⟨hc11,h⟩:=chk_of h
   obtain ⟨x7,hx7,h⟩:=lett_of h
   refine r0 [0,1,2,3,4,18,19,20,21,22,23] [1000000] [(0,.row 1000000),(1,vi v1),(2,vi v2),(3,vi v3),(4,.fn 67 []),(18,vi v18),(19,vi v19),(20,vi v20),(21,vi v21),(22,vi v22),(23,vi (ex30 v20 v21))] [(1000000,49,[rc7 v0])] (AllP.cons hc11 AllP.nil) (To.eq (K':=[(0,.row 1000000),(1,vi v1),(2,vi v2),(3,vi v3),(4,.fn 67 []),(18,vi v18),(19,vi v19),(20,vi v20),(21,vi v21),(22,vi v22),(23,vi x7)]) (L':=[(1000000,49,[rc7 v0])]) (by cases hx7; rfl) (by cases hx7; rfl) (To.thenN (Wp.seq ?_)))
   obtain ⟨hc9,h⟩:=chk_of h
   obtain ⟨hc10,h⟩:=chk_of h
   obtain ⟨r8,hr8,h⟩:=bind_of h
   refine Wp.regionD hm hΓ [(11,vi r8)] [0,1,2,3,4,18,19,20,21,22,23,171] [1000000] (K':=[(0,.row 1000000),(1,vi v1),(2,vi v2),(3,vi v3),(4,.fn 67 []),(18,vi v18),(19,vi v19),(20,vi v20),(21,vi v21),(22,vi v22),(23,vi x7),(171,vb (!(decide (r8 < 0))))]) (L':=[(1000000,49,[rc7 v0])]) (ob:=[(decide (0 ≤ (IntKind.wrap .i64 (v22 - x7)) ∧ (IntKind.wrap .i64 (v22 - x7)) < (List.length v0:Int))) = true,(decide (0 ≤ (IntKind.wrap .i64 (v22 - x7)) ∧ (IntKind.wrap .i64 (v22 - x7)) < (List.length v0:Int))) = true,(decide (0 ≤ x7 ∧ x7 < (List.length v0:Int))) = true,(decide (0 ≤ x7 ∧ x7 < (List.length v0:Int))) = true,(true = true → CX Try.prog 67 [.agg [vi (((v0)[Int.toNat (IntKind.wrap .i64 (v22 - x7))]?.getD Z_api_Container).f_Id),.str (((v0)[Int.toNat (IntKind.wrap .i64 (v22 - x7))]?.getD Z_api_Container).f_Spec.f_Name),.str (((v0)[Int.toNat (IntKind.wrap .i64 (v22 - x7))]?.getD Z_api_Container).f_Spec.f_Project),.str (((v0)[Int.toNat (IntKind.wrap .i64 (v22 - x7))]?.getD Z_api_Container).f_Spec.f_Service),vi (((v0)[Int.toNat (IntKind.wrap .i64 (v22 - x7))]?.getD Z_api_Container).f_Spec.f_Number),.str (((v0)[Int.toNat (IntKind.wrap .i64 (v22 - x7))]?.getD Z_api_Container).f_Spec.f_Hash),ls (((v0)[Int.toNat (IntKind.wrap .i64 (v22 - x7))]?.getD Z_api_Container).f_Spec.f_Nets),ls (((v0)[Int.toNat (IntKind.wrap .i64 (v22 - x7))]?.getD Z_api_Container).f_Spec.f_Vols),.str (((v0)[Int.toNat (IntKind.wrap .i64 (v22 - x7))]?.getD Z_api_Container).f_Spec.f_Health.f_Test),vi (((v0)[Int.toNat (IntKind.wrap .i64 (v22 - x7))]?.getD Z_api_Container).f_Spec.f_Health.f_Every),vi (((v0)[Int.toNat (IntKind.wrap .i64 (v22 - x7))]?.getD Z_api_Container).f_Spec.f_Health.f_Start),vi (((v0)[Int.toNat (IntKind.wrap .i64 (v22 - x7))]?.getD Z_api_Container).f_Spec.f_Health.f_Retries),vi (((v0)[Int.toNat (IntKind.wrap .i64 (v22 - x7))]?.getD Z_api_Container).f_Spec.f_Restart),vi (((v0)[Int.toNat (IntKind.wrap .i64 (v22 - x7))]?.getD Z_api_Container).f_Spec.f_Tries),vi (((v0)[Int.toNat (IntKind.wrap .i64 (v22 - x7))]?.getD Z_api_Container).f_State),vi (((v0)[Int.toNat (IntKind.wrap .i64 (v22 - x7))]?.getD Z_api_Container).f_Code),vi (((v0)[Int.toNat (IntKind.wrap .i64 (v22 - x7))]?.getD Z_api_Container).f_Health),vi (((v0)[Int.toNat (IntKind.wrap .i64 (v22 - x7))]?.getD Z_api_Container).f_Runs)],.agg [vi (((v0)[Int.toNat x7]?.getD Z_api_Container).f_Id),.str (((v0)[Int.toNat x7]?.getD Z_api_Container).f_Spec.f_Name),.str (((v0)[Int.toNat x7]?.getD Z_api_Container).f_Spec.f_Project),.str (((v0)[Int.toNat x7]?.getD Z_api_Container).f_Spec.f_Service),vi (((v0)[Int.toNat x7]?.getD Z_api_Container).f_Spec.f_Number),.str (((v0)[Int.toNat x7]?.getD Z_api_Container).f_Spec.f_Hash),ls (((v0)[Int.toNat x7]?.getD Z_api_Container).f_Spec.f_Nets),ls (((v0)[Int.toNat x7]?.getD Z_api_Container).f_Spec.f_Vols),.str (((v0)[Int.toNat x7]?.getD Z_api_Container).f_Spec.f_Health.f_Test),vi (((v0)[Int.toNat x7]?.getD Z_api_Container).f_Spec.f_Health.f_Every),vi (((v0)[Int.toNat x7]?.getD Z_api_Container).f_Spec.f_Health.f_Start),vi (((v0)[Int.toNat x7]?.getD Z_api_Container).f_Spec.f_Health.f_Retries),vi (((v0)[Int.toNat x7]?.getD Z_api_Container).f_Spec.f_Restart),vi (((v0)[Int.toNat x7]?.getD Z_api_Container).f_Spec.f_Tries),vi (((v0)[Int.toNat x7]?.getD Z_api_Container).f_State),vi (((v0)[Int.toNat x7]?.getD Z_api_Container).f_Code),vi (((v0)[Int.toNat x7]?.getD Z_api_Container).f_Health),vi (((v0)[Int.toNat x7]?.getD Z_api_Container).f_Runs)]] (vi r8))]) (by kernel_rfl) (AllP.cons hc9 (AllP.cons hc9 (AllP.cons hc10 (AllP.cons hc10 (AllP.cons (fun _=>cx (ok_view_sorted_1 n ((v0)[Int.toNat (IntKind.wrap .i64 (v22 - x7))]?.getD Z_api_Container) ((v0)[Int.toNat x7]?.getD Z_api_Container) _ hr8)) AllP.nil))))) (To.thenN (cn h (fun h=>?_) (fun h=>?_)))
   ·refine rg [0,1,2,3,4,18,19,20,21,22] [1000000] [(0,.row 1000000),(1,vi v1),(2,vi v2),(3,vi v3),(4,.fn 67 []),(18,vi v18),(19,vi v19),(20,vi (IntKind.wrap .i64 (x7 + 1))),(21,vi v21),(22,vi v22)] [(1000000,49,[rc7 v0])] (To.blockN (To.again ?_))
    exact ih (IntKind.wrap .i64 (x7 + 1)) v21 _ h hQ
   ·refine rg [0,1,2,3,4,18,19,20,21,22] [1000000] [(0,.row 1000000),(1,vi v1),(2,vi v2),(3,vi v3),(4,.fn 67 []),(18,vi v18),(19,vi v19),(20,vi v20),(21,vi x7),(22,vi v22)] [(1000000,49,[rc7 v0])] (To.blockN (To.again ?_))
    exact ih v20 x7 _ h hQ
  ·refine Wp.exit (To.thenX (To.thenX (kt [0,1,2,3,4,18,19,20] [1000000] [(0,.row 1000000),(1,vi v1),(2,vi v2),(3,vi v3),(4,.fn 67 []),(18,vi v18),(19,vi v19),(20,vi v20)] [(1000000,49,[rc7 v0])] ?_)))
   cases h
   exact hQ
def slices_symMergeCmpFunc_api_Container__r0__view_sorted_1_j7 (R_slices_symMergeCmpFunc_api_Container__r0__view_sorted_1:Int → Int → Int → (List (S_api_Container)) → Option ((List (S_api_Container)))) (n:Nat) (v0:List (S_api_Container)) (v1:Int) (v2:Int) (v3:Int) (v18:Int) (v20:Int) (v24:Int) (v185:Bool):Option ((List (S_api_Container))) :=
 if v185 = true then ((slices_rotateCmpFunc_api_Container__r0__view_sorted_1 n v20 v2 v24 v0).bind fun r8 =>
 some r8)
 else some v0
theorem ok_slices_symMergeCmpFunc_api_Container__r0__view_sorted_1_j7 (R_slices_symMergeCmpFunc_api_Container__r0__view_sorted_1:Int → Int → Int → (List (S_api_Container)) → Option ((List (S_api_Container)))) (hR_slices_symMergeCmpFunc_api_Container__r0__view_sorted_1:hR8 R_slices_symMergeCmpFunc_api_Container__r0__view_sorted_1) (n:Nat) (v0:List (S_api_Container)) (v1:Int) (v2:Int) (v3:Int) (v18:Int) (v20:Int) (v24:Int) (v185:Bool) (o:(List (S_api_Container))) (h:slices_symMergeCmpFunc_api_Container__r0__view_sorted_1_j7 R_slices_symMergeCmpFunc_api_Container__r0__view_sorted_1 n v0 v1 v2 v3 v18 v20 v24 v185 = some o) {F0:Fz} {w0:Pt Try.prog} {Q:Exit → Act → World → Prop} (hQ:To 220 F0 w0 [(0,.row 1000000),(1,vi v1),(3,vi v3),(4,.fn 67 []),(18,vi v18),(20,vi v20),(24,vi v24)] [(1000000,49,[rc7 o])] .normal Q):Wp Try.prog 220 F0 w0 [(0,.row 1000000),(1,vi v1),(2,vi v2),(3,vi v3),(4,.fn 67 []),(18,vi v18),(20,vi v20),(24,vi v24),(185,vb v185)] [(1000000,49,[rc7 v0])] (cB (cA (cB (cB (cB (cB (cB (cB (cB (cB (cB (cF Try.f102)))))))))))) Q:=by
 unfold slices_symMergeCmpFunc_api_Container__r0__view_sorted_1_j7 at h
 refine cn h (fun h=>?_) (fun h=>?_)
 ·obtain ⟨r8,hr8,h⟩:=bind_of h
  refine rb [] 5 ⟨[(1000000,1000000)],[(1000000,1000000)],[.row 1000000,vi v20,vi v2,vi v24,.fn 67 []],[(1000000,49,[rc7 v0])],.tup [],[(1000000,49,[rc7 r8])]⟩ [0,1,3,4,18,20,24] [1000000] [(0,.row 1000000),(1,vi v1),(3,vi v3),(4,.fn 67 []),(18,vi v18),(20,vi v20),(24,vi v24)] [(1000000,49,[rc7 r8])] ((ok_slices_rotateCmpFunc_api_Container__r0__view_sorted_1 n v20 v2 v24 v0 _ hr8)) (kt [0,1,3,4,18,20,24] [1000000] [(0,.row 1000000),(1,vi v1),(3,vi v3),(4,.fn 67 []),(18,vi v18),(20,vi v20),(24,vi v24)] [(1000000,49,[rc7 r8])] ?_)
  cases h
  exact hQ
 ·refine Wp.skip (kt [0,1,3,4,18,20,24] [1000000] [(0,.row 1000000),(1,vi v1),(3,vi v3),(4,.fn 67 []),(18,vi v18),(20,vi v20),(24,vi v24)] [(1000000,49,[rc7 v0])] ?_)
  cases h
  exact hQ
def slices_symMergeCmpFunc_api_Container__r0__view_sorted_1_j8 (R_slices_symMergeCmpFunc_api_Container__r0__view_sorted_1:Int → Int → Int → (List (S_api_Container)) → Option ((List (S_api_Container)))) (n:Nat) (v0:List (S_api_Container)) (v1:Int) (v3:Int) (v18:Int) (v20:Int) (v24:Int) (v199:Bool):Option ((List (S_api_Container))) :=
 if v199 = true then ((R_slices_symMergeCmpFunc_api_Container__r0__view_sorted_1 v1 v20 v18 v0).bind fun r9 =>
 some r9)
 else some v0
theorem ok_slices_symMergeCmpFunc_api_Container__r0__view_sorted_1_j8 (R_slices_symMergeCmpFunc_api_Container__r0__view_sorted_1:Int → Int → Int → (List (S_api_Container)) → Option ((List (S_api_Container)))) (hR_slices_symMergeCmpFunc_api_Container__r0__view_sorted_1:hR8 R_slices_symMergeCmpFunc_api_Container__r0__view_sorted_1) (n:Nat) (v0:List (S_api_Container)) (v1:Int) (v3:Int) (v18:Int) (v20:Int) (v24:Int) (v199:Bool) (o:(List (S_api_Container))) (h:slices_symMergeCmpFunc_api_Container__r0__view_sorted_1_j8 R_slices_symMergeCmpFunc_api_Container__r0__view_sorted_1 n v0 v1 v3 v18 v20 v24 v199 = some o) {F0:Fz} {w0:Pt Try.prog} {Q:Exit → Act → World → Prop} (hQ:To 220 F0 w0 [(0,.row 1000000),(3,vi v3),(4,.fn 67 []),(18,vi v18),(24,vi v24)] [(1000000,49,[rc7 o])] .normal Q):Wp Try.prog 220 F0 w0 [(0,.row 1000000),(1,vi v1),(3,vi v3),(4,.fn 67 []),(18,vi v18),(20,vi v20),(24,vi v24),(199,vb v199)] [(1000000,49,[rc7 v0])] (cB (cA (cB (cB (cB (cB (cB (cB (cB (cB (cB (cB (cF Try.f102))))))))))))) Q:=by
 unfold slices_symMergeCmpFunc_api_Container__r0__view_sorted_1_j8 at h
 refine cn h (fun h=>?_) (fun h=>?_)
 ·obtain ⟨r9,hr9,h⟩:=bind_of h
  refine rb [] 5 ⟨[(1000000,1000000)],[(1000000,1000000)],[.row 1000000,vi v1,vi v20,vi v18,.fn 67 []],[(1000000,49,[rc7 v0])],.tup [],[(1000000,49,[rc7 r9])]⟩ [0,3,4,18,24] [1000000] [(0,.row 1000000),(3,vi v3),(4,.fn 67 []),(18,vi v18),(24,vi v24)] [(1000000,49,[rc7 r9])] ((hR_slices_symMergeCmpFunc_api_Container__r0__view_sorted_1 v1 v20 v18 v0 _ hr9)) (kt [0,3,4,18,24] [1000000] [(0,.row 1000000),(3,vi v3),(4,.fn 67 []),(18,vi v18),(24,vi v24)] [(1000000,49,[rc7 r9])] ?_)
  cases h
  exact hQ
 ·refine Wp.skip (kt [0,3,4,18,24] [1000000] [(0,.row 1000000),(3,vi v3),(4,.fn 67 []),(18,vi v18),(24,vi v24)] [(1000000,49,[rc7 v0])] ?_)
  cases h
  exact hQ
def slices_symMergeCmpFunc_api_Container__r0__view_sorted_1_b (R_slices_symMergeCmpFunc_api_Container__r0__view_sorted_1:Int → Int → Int → (List (S_api_Container)) → Option ((List (S_api_Container)))) (n:Nat) (a1:Int) (a2:Int) (a3:Int) (h0:List (S_api_Container)):Option ((List (S_api_Container))) :=
 if ((IntKind.wrap .i64 (a2 - a1)) == 1) = true then ((slices_symMergeCmpFunc_api_Container__r0__view_sorted_1_l1 R_slices_symMergeCmpFunc_api_Container__r0__view_sorted_1 n h0 a1 n a2 a3).bind fun o1 =>
 (slices_symMergeCmpFunc_api_Container__r0__view_sorted_1_l2 R_slices_symMergeCmpFunc_api_Container__r0__view_sorted_1 n o1 n h0 a1).bind fun o2 =>
 some o2)
 else (if ((IntKind.wrap .i64 (a3 - a2)) == 1) = true then ((slices_symMergeCmpFunc_api_Container__r0__view_sorted_1_l3 R_slices_symMergeCmpFunc_api_Container__r0__view_sorted_1 n h0 a2 n a1 a2).bind fun o3 =>
 (slices_symMergeCmpFunc_api_Container__r0__view_sorted_1_l4 R_slices_symMergeCmpFunc_api_Container__r0__view_sorted_1 n o3 n h0 a2).bind fun o4 =>
 some o4)
 else (if (decide (0 ≤ (1:Int))) = true then (lett ((IntKind.wrap .i64 ((Int.fdiv (IntKind.wrap .u64 ((IntKind.wrap .i64 (a1 + a3)))) (2 ^ (min (Int.toNat 1) (IntKind.bits .u64)))))):Int) fun x5 =>
 (slices_symMergeCmpFunc_api_Container__r0__view_sorted_1_j5 R_slices_symMergeCmpFunc_api_Container__r0__view_sorted_1 n h0 a1 a2 a3 x5 (IntKind.wrap .i64 (x5 + a2)) (decide (a2 > x5))).bind fun o6 =>
 (slices_symMergeCmpFunc_api_Container__r0__view_sorted_1_l6 R_slices_symMergeCmpFunc_api_Container__r0__view_sorted_1 n h0 a1 a2 a3 x5 (IntKind.wrap .i64 (x5 + a2)) (IntKind.wrap .i64 ((IntKind.wrap .i64 (x5 + a2)) - 1)) n o6.1 o6.2).bind fun o7 =>
 (slices_symMergeCmpFunc_api_Container__r0__view_sorted_1_j7 R_slices_symMergeCmpFunc_api_Container__r0__view_sorted_1 n h0 a1 a2 a3 x5 o7 (IntKind.wrap .i64 ((IntKind.wrap .i64 (x5 + a2)) - o7)) (bif (decide (o7 < a2)) then (decide (a2 < (IntKind.wrap .i64 ((IntKind.wrap .i64 (x5 + a2)) - o7)))) else false)).bind fun o8 =>
 (slices_symMergeCmpFunc_api_Container__r0__view_sorted_1_j8 R_slices_symMergeCmpFunc_api_Container__r0__view_sorted_1 n o8 a1 a3 x5 o7 (IntKind.wrap .i64 ((IntKind.wrap .i64 (x5 + a2)) - o7)) (bif (decide (a1 < o7)) then (decide (o7 < x5)) else false)).bind fun o9 =>
 lett ((bif (decide (x5 < (IntKind.wrap .i64 ((IntKind.wrap .i64 (x5 + a2)) - o7)))) then (decide ((IntKind.wrap .i64 ((IntKind.wrap .i64 (x5 + a2)) - o7)) < a3)) else false):Bool) fun x10 =>
 if x10 = true then ((R_slices_symMergeCmpFunc_api_Container__r0__view_sorted_1 x5 (IntKind.wrap .i64 ((IntKind.wrap .i64 (x5 + a2)) - o7)) a3 o9).bind fun r11 =>
 some r11)
 else some o9) else none))
end Go.Proofs.Ytaecmkldkljioaa.M
