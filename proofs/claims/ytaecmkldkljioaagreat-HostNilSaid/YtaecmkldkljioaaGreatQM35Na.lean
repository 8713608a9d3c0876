import Derived.Test.YtaecmkldkljioaaGreatQRxAnyD
import Derived.Test.YtaecmkldkljioaaGreatQRxArgs
import Derived.Test.YtaecmkldkljioaaGreatQRxGoto
import Derived.Test.YtaecmkldkljioaaGreatQRxNil
import Derived.Test.YtaecmkldkljioaaGreatQRxOrd
import Derived.Test.YtaecmkldkljioaaGreatQRxEqArr
import Derived.Test.YtaecmkldkljioaaGreatQRxEnd
import Derived.Test.YtaecmkldkljioaaGreatQRxRange
import Derived.Test.YtaecmkldkljioaaGreatQRxKeysI
import Derived.Test.YtaecmkldkljioaaGreatQSh35
import Derived.Test.YtaecmkldkljioaaGreatProg
set_option linter.all false
namespace Go.Proofs.YtaecmkldkljioaaGreat.M
open Go.RowKit Go.Proofs.YtaecmkldkljioaaGreat.RX
set_option maxRecDepth 100000
def tab:List (Nat × TI):=[
 (3,{ agg:=false,size:=1,zero:=[.int .i64 0],kind:=.int .i64,eqs:=[] }),
 (4,{ agg:=false,size:=1,zero:=[.bool false],kind:=.bool,eqs:=[] }),
 (9,{ agg:=false,size:=1,zero:=[.string ⟨#[]⟩],kind:=.str,eqs:=[] }),
 (25,{ agg:=false,size:=1,zero:=[.pointer none],kind:=.ptr,eqs:=[] }),
 (28,{ agg:=false,size:=1,zero:=[.slice none 0 0],kind:=.slice 2 true,elt:=134,eb:=32,ez:=[.string ⟨#[]⟩,.string ⟨#[]⟩],ek:=none,eqs:=[] }),
 (34,{ agg:=false,size:=1,zero:=[.slice none 0 0],kind:=.slice 1 false,elt:=9,eb:=16,ez:=[.string ⟨#[]⟩],ek:=none,eqs:=[] }),
 (36,{ agg:=true,size:=4,zero:=[.string ⟨#[]⟩,.int .i64 0,.int .i64 0,.int .i64 0],kind:=.struct [(0,1,false),(1,1,false),(2,1,false),(3,1,false)],eqs:=[] }),
 (38,{ agg:=true,size:=13,zero:=[.string ⟨#[]⟩,.string ⟨#[]⟩,.string ⟨#[]⟩,.int .i64 0,.string ⟨#[]⟩,.slice none 0 0,.slice none 0 0,.string ⟨#[]⟩,.int .i64 0,.int .i64 0,.int .i64 0,.int .i64 0,.int .i64 0],kind:=.struct [(0,1,false),(1,1,false),(2,1,false),(3,1,false),(4,1,false),(5,1,false),(6,1,false),(7,4,true),(11,1,false),(12,1,false)],eqs:=[] }),
 (40,{ agg:=true,size:=16,zero:=[.int .i64 0,.string ⟨#[]⟩,.int .i64 0,.string ⟨#[]⟩,.string ⟨#[]⟩,.string ⟨#[]⟩,.int .i64 0,.string ⟨#[]⟩,.slice none 0 0,.slice none 0 0,.string ⟨#[]⟩,.int .i64 0,.int .i64 0,.int .i64 0,.int .i64 0,.int .i64 0],kind:=.struct [(0,1,false),(1,1,false),(2,1,false),(3,13,true)],eqs:=[] }),
 (44,{ agg:=false,size:=1,zero:=[.slice none 0 0],kind:=.slice 18 true,elt:=120,eb:=216,ez:=[.int .i64 0,.string ⟨#[]⟩,.string ⟨#[]⟩,.string ⟨#[]⟩,.int .i64 0,.string ⟨#[]⟩,.slice none 0 0,.slice none 0 0,.string ⟨#[]⟩,.int .i64 0,.int .i64 0,.int .i64 0,.int .i64 0,.int .i64 0,.int .i64 0,.int .i64 0,.int .i64 0,.int .i64 0],ek:=none,eqs:=[] }),
 (51,{ agg:=true,size:=4,zero:=[.int .i64 0,.int .i64 0,.int .i64 0,.int .i64 0],kind:=.struct [(0,1,false),(1,1,false),(2,1,false),(3,1,false)],eqs:=[] }),
 (53,{ agg:=true,size:=25,zero:=[.string ⟨#[]⟩,.string ⟨#[]⟩,.string ⟨#[]⟩,.int .i64 0,.string ⟨#[]⟩,.slice none 0 0,.slice none 0 0,.string ⟨#[]⟩,.int .i64 0,.int .i64 0,.int .i64 0,.int .i64 0,.int .i64 0,.int .i64 0,.int .i64 0,.int .i64 0,.int .i64 0,.int .i64 0,.int .i64 0,.bool false,.bool false,.int .i64 0,.int .i64 0,.int .i64 0,.int .i64 0],kind:=.struct [(0,13,true),(13,1,false),(14,1,false),(15,1,false),(16,1,false),(17,1,false),(18,1,false),(19,1,false),(20,1,false),(21,4,true)],eqs:=[] }),
 (61,{ agg:=false,size:=1,zero:=[.pointer none],kind:=.ptr,eqs:=[] }),
 (63,{ agg:=false,size:=1,zero:=[.slice none 0 0],kind:=.slice 2 true,elt:=97,eb:=16,ez:=[.int .i64 0,.int .i64 0],ek:=none,eqs:=[] }),
 (68,{ agg:=true,size:=2,zero:=[.slice none 0 0,.int .i64 0],kind:=.struct [(0,1,false),(1,1,false)],eqs:=[] }),
 (75,{ agg:=true,size:=19,zero:=[.int .i64 0,.int .i64 0,.int .i64 0,.int .i64 0,.string ⟨#[]⟩,.int .i64 0,.string ⟨#[]⟩,.string ⟨#[]⟩,.string ⟨#[]⟩,.int .i64 0,.string ⟨#[]⟩,.slice none 0 0,.slice none 0 0,.string ⟨#[]⟩,.int .i64 0,.int .i64 0,.int .i64 0,.int .i64 0,.int .i64 0],kind:=.struct [(0,1,false),(1,1,false),(2,1,false),(3,16,true)],eqs:=[] }),
 (79,{ agg:=false,size:=1,zero:=[.slice none 0 0],kind:=.slice 4 true,elt:=137,eb:=32,ez:=[.int .i64 0,.int .i64 0,.int .i64 0,.int .i64 0],ek:=none,eqs:=[] }),
 (97,{ agg:=true,size:=2,zero:=[.int .i64 0,.int .i64 0],kind:=.struct [(0,1,false),(1,1,false)],eqs:=[] }),
 (105,{ agg:=false,size:=1,zero:=[.map none],kind:=.map (some .i64) 25 true,elt:=53,eb:=0,ez:=[.string ⟨#[]⟩,.string ⟨#[]⟩,.string ⟨#[]⟩,.int .i64 0,.string ⟨#[]⟩,.slice none 0 0,.slice none 0 0,.string ⟨#[]⟩,.int .i64 0,.int .i64 0,.int .i64 0,.int .i64 0,.int .i64 0,.int .i64 0,.int .i64 0,.int .i64 0,.int .i64 0,.int .i64 0,.int .i64 0,.bool false,.bool false,.int .i64 0,.int .i64 0,.int .i64 0,.int .i64 0],ek:=none,eqs:=[] }),
 (107,{ agg:=false,size:=1,zero:=[.map none],kind:=.map none 2 true,elt:=134,eb:=0,ez:=[.string ⟨#[]⟩,.string ⟨#[]⟩],ek:=none,eqs:=[] }),
 (109,{ agg:=true,size:=4,zero:=[.map none,.map none,.map none,.int .i64 0],kind:=.struct [(0,1,false),(1,1,false),(2,1,false),(3,1,false)],eqs:=[] }),
 (120,{ agg:=true,size:=18,zero:=[.int .i64 0,.string ⟨#[]⟩,.string ⟨#[]⟩,.string ⟨#[]⟩,.int .i64 0,.string ⟨#[]⟩,.slice none 0 0,.slice none 0 0,.string ⟨#[]⟩,.int .i64 0,.int .i64 0,.int .i64 0,.int .i64 0,.int .i64 0,.int .i64 0,.int .i64 0,.int .i64 0,.int .i64 0],kind:=.struct [(0,1,false),(1,13,true),(14,1,false),(15,1,false),(16,1,false),(17,1,false)],eqs:=[] }),
 (122,{ agg:=false,size:=1,zero:=[.slice none 0 0],kind:=.slice 1 false,elt:=3,eb:=8,ez:=[.int .i64 0],ek:=some .i64,eqs:=[] }),
 (134,{ agg:=true,size:=2,zero:=[.string ⟨#[]⟩,.string ⟨#[]⟩],kind:=.struct [(0,1,false),(1,1,false)],eqs:=[] }),
 (137,{ agg:=true,size:=4,zero:=[.int .i64 0,.int .i64 0,.int .i64 0,.int .i64 0],kind:=.struct [(0,1,false),(1,1,false),(2,1,false),(3,1,false)],eqs:=[0,0,0,0] }),
 (139,{ agg:=true,size:=4,zero:=[.pointer none,.slice none 0 0,.int .i64 0,.int .i64 0],kind:=.struct [(0,1,false),(1,2,true),(3,1,false)],eqs:=[] })]
theorem tabOK:TabOK Tryz.prog tab:=⟨⟨by kernel_rfl,fun h=>absurd rfl h⟩,⟨by kernel_rfl,fun h=>absurd rfl h⟩,⟨by kernel_rfl,fun h=>absurd rfl h⟩,⟨by kernel_rfl,fun h=>absurd rfl h⟩,⟨by kernel_rfl,fun h=>absurd rfl h⟩,⟨by kernel_rfl,fun h=>absurd rfl h⟩,⟨by kernel_rfl,fun h=>absurd rfl h⟩,⟨by kernel_rfl,fun h=>absurd rfl h⟩,⟨by kernel_rfl,fun h=>absurd rfl h⟩,⟨by kernel_rfl,fun h=>absurd rfl h⟩,⟨by kernel_rfl,fun h=>absurd rfl h⟩,⟨by kernel_rfl,fun h=>absurd rfl h⟩,⟨by kernel_rfl,fun h=>absurd rfl h⟩,⟨by kernel_rfl,fun h=>absurd rfl h⟩,⟨by kernel_rfl,fun h=>absurd rfl h⟩,⟨by kernel_rfl,fun h=>absurd rfl h⟩,⟨by kernel_rfl,fun h=>absurd rfl h⟩,⟨by kernel_rfl,fun h=>absurd rfl h⟩,⟨by kernel_rfl,fun h=>absurd rfl h⟩,⟨by kernel_rfl,fun h=>absurd rfl h⟩,⟨by kernel_rfl,fun h=>absurd rfl h⟩,⟨by kernel_rfl,fun h=>absurd rfl h⟩,⟨by kernel_rfl,fun h=>absurd rfl h⟩,⟨by kernel_rfl,fun h=>absurd rfl h⟩,⟨by kernel_rfl,fun _=>eqCells_of (by kernel_rfl)⟩,⟨by kernel_rfl,fun h=>absurd rfl h⟩,trivial⟩
theorem hΓ:ΓOK Tryz.prog (tabΓ tab):=ΓOK.of tabOK
theorem hm:Tryz.prog.follows .mixedOrders = true:=by kernel_rfl
structure S_api_Check where
 f_Test:List UInt8
 f_Every:Int
 f_Start:Int
 f_Retries:Int
structure S_api_Spec where
 f_Name:List UInt8
 f_Project:List UInt8
 f_Service:List UInt8
 f_Number:Int
 f_Hash:List UInt8
 f_Nets:List (List UInt8)
 f_Vols:List (List UInt8)
 f_Health:S_api_Check
 f_Restart:Int
 f_Tries:Int
structure S_api_Call where
 f_Kind:Int
 f_Name:List UInt8
 f_Id:Int
 f_Spec:S_api_Spec
structure S_law35_Deed where
 f_Kind:Int
 f_N:Int
 f_M:Int
 f_Call:S_api_Call
def E_string:List UInt8 → List D:=fun x=>[.str x]
abbrev vi (x:Int):D:=.val (.int .i64 x)
abbrev vb (x:Bool):D:=.val (.bool x)
abbrev ls (l:List (List UInt8)):D:=.recs (α:=List UInt8) [] E_string l
theorem rg {nt:Nat} {F0:Fz} {w0:Pt Tryz.prog} {K:List (Nat × D)} {L:Boxes} {Q:Exit → Act → World → Prop} {id:Nat} {l:List Oper} (kk kl:List Nat) (K':List (Nat × D)) (L':Boxes) (hn:To nt F0 w0 K' L' .normal Q) (h:evRegion (CX Tryz.prog) (CallsB Tryz.prog) (tabΓ tab) nt [] [] l [] K L kk kl = some (K',L',[]):=by kernel_rfl):Wp Tryz.prog nt F0 w0 K L (.region id l.toArray false) Q:=Wp.region hΓ [] [] [] kk kl h AllP.nil hn
theorem rr {nt:Nat} {F0:Fz} {w0:Pt Tryz.prog} {K:List (Nat × D)} {L:Boxes} {Q:Exit → Act → World → Prop} {id:Nat} {l:List Oper} (fz:List (Nat × List Nat)) (orc:List (Nat × D)) (orb:List (Nat × CBd)) (kk kl:List Nat) (K':List (Nat × D)) (L':Boxes) (ob:List Prop) (hob:AllP ob) (hn:To nt F0 w0 K' L' .normal Q) (h:evRegion (CX Tryz.prog) (CallsB Tryz.prog) (tabΓ tab) nt orc orb l fz K L kk kl = some (K',L',ob):=by kernel_rfl):Wp Tryz.prog nt F0 w0 K L (.region id l.toArray false) Q:=Wp.region hΓ fz orc orb kk kl h hob hn
theorem kw {nt:Nat} {F0:Fz} {w0:Pt Tryz.prog} {K:List (Nat × D)} {L:Boxes} {Q:Exit → Act → World → Prop} {c:Code} (kk kl:List Nat) (K':List (Nat × D)) (L':Boxes) (hn:Wp Tryz.prog nt F0 w0 K' L' c Q) (h1:keepS K kk = some K':=by kernel_rfl) (h2:keepL L kl = some L':=by kernel_rfl):Wp Tryz.prog nt F0 w0 K L c Q:=Wp.keep h1 h2 hn
theorem kt {nt:Nat} {F0:Fz} {w0:Pt Tryz.prog} {K:List (Nat × D)} {L:Boxes} {Q:Exit → Act → World → Prop} {e:Exit} (kk kl:List Nat) (K':List (Nat × D)) (L':Boxes) (hn:To nt F0 w0 K' L' e Q) (h1:keepS K kk = some K':=by kernel_rfl) (h2:keepL L kl = some L':=by kernel_rfl):To nt F0 w0 K L e Q:=To.keep h1 h2 hn
theorem r0 {nt:Nat} {F0:Fz} {w0:Pt Tryz.prog} {K:List (Nat × D)} {L:Boxes} {Q:Exit → Act → World → Prop} {id:Nat} {l:List Oper} {ob:List Prop} (kk kl:List Nat) (K':List (Nat × D)) (L':Boxes) (hob:AllP ob) (hn:To nt F0 w0 K' L' .normal Q) (h:evRegion (CX Tryz.prog) (CallsB Tryz.prog) (tabΓ tab) nt [] [] l [] K L kk kl = some (K',L',ob):=by kernel_rfl):Wp Tryz.prog nt F0 w0 K L (.region id l.toArray false) Q:=Wp.region hΓ [] [] [] kk kl h hob hn
theorem rc {nt:Nat} {F0:Fz} {w0:Pt Tryz.prog} {K:List (Nat × D)} {L:Boxes} {Q:Exit → Act → World → Prop} {id:Nat} {l:List Oper} {f:Nat} {ds:List D} {r:D} (fz:List (Nat × List Nat)) (i:Nat) (kk kl:List Nat) (K':List (Nat × D)) (L':Boxes) (hc:CallsX Tryz.prog f ds r) (hn:To nt F0 w0 K' L' .normal Q) (h:evRegion (CX Tryz.prog) (CallsB Tryz.prog) (tabΓ tab) nt [(i,r)] [] l fz K L kk kl = some (K',L',[(true = true → CX Tryz.prog f ds r)]):=by kernel_rfl):Wp Tryz.prog nt F0 w0 K L (.region id l.toArray false) Q:=Wp.region hΓ fz [(i,r)] [] kk kl h (AllP.cons (fun _=>cx hc) AllP.nil) hn
theorem rb {nt:Nat} {F0:Fz} {w0:Pt Tryz.prog} {K:List (Nat × D)} {L:Boxes} {Q:Exit → Act → World → Prop} {id:Nat} {l:List Oper} {f:Nat} (fz:List (Nat × List Nat)) (i:Nat) (c:CBd) (kk kl:List Nat) (K':List (Nat × D)) (L':Boxes) (hc:CallsB Tryz.prog f c.ds c.Lin c.r c.Lout) (hn:To nt F0 w0 K' L' .normal Q) (h:evRegion (CX Tryz.prog) (CallsB Tryz.prog) (tabΓ tab) nt [] [(i,c)] l fz K L kk kl = some (K',L',[CbOb (CallsB Tryz.prog) f (D.subs (renF never c.ren) c.ds) (c.Lin.map fun x=>some (x.2.1,D.subs (renF never c.ren) x.2.2)) c]):=by kernel_rfl):Wp Tryz.prog nt F0 w0 K L (.region id l.toArray false) Q:=Wp.region hΓ fz [] [(i,c)] kk kl h (AllP.cons ⟨hc,rfl,rfl⟩ AllP.nil) hn
theorem c1 {f:Nat} {ds:List D} {r:D} (h:CallsX Tryz.prog f ds r):true = true → CX Tryz.prog f ds r:=fun _=>cx h
theorem cn {nt:Nat} {F0:Fz} {w0:Pt Tryz.prog} {K:List (Nat × D)} {L:Boxes} {Q:Exit → Act → World → Prop} {t:Nat} {x y:Code} {b:Bool} {α:Type _} {p q r:α} (h:(if b = true then p else q) = r) (h1:p = r → Wp Tryz.prog nt F0 w0 K L x Q) (h2:q = r → Wp Tryz.prog nt F0 w0 K L y Q) (hc:K.lookup t = some (.val (.bool b)):=by kernel_rfl):Wp Tryz.prog nt F0 w0 K L (.cond (.tmp t) x y) Q:=Wp.cond hc (fun hb=>h1 (if_t hb h)) (fun hb=>h2 (if_f hb h))
theorem xo {f : Nat} (fn : Func) {c : Code} {ds : List D} {r : D} (hbody : fn.body = some c) (h : ∀ (F0 : Fz) (w0 : World) (hsh : Shp Tryz.prog w0), Wp Tryz.prog fn.ntmps F0 (.top w0 hsh) (ds.zipIdx.map fun x => (x.2, x.1)) [] c (bodyPost Tryz.prog fn (PostX F0 w0 r))) (hf : Tryz.prog.funcs[f]? = some fn := by kernel_rfl) (hname : (fn.name == "runtime.NumGoroutine") = false := by kernel_rfl) (hn : ds.length.ble fn.ntmps = true := by kernel_rfl) : CallsX Tryz.prog f ds r := callsX_of hf hbody hname (Nat.le_of_ble_eq_true hn) h
theorem bo {f : Nat} (fn : Func) {c : Code} {ds : List D} {Lin : Boxes} {r : D} {Lout : Boxes} (hbody : fn.body = some c) (h : ∀ (F0 : Fz) (w0 : Pt Tryz.prog), Wp Tryz.prog fn.ntmps F0 w0 (ds.zipIdx.map fun x => (x.2, x.1)) Lin c (bodyPost Tryz.prog fn (PostB F0 w0 r Lout))) (hf : Tryz.prog.funcs[f]? = some fn := by kernel_rfl) (hname : (fn.name == "runtime.NumGoroutine") = false := by kernel_rfl) (hn : ds.length.ble fn.ntmps = true := by kernel_rfl) : CallsB Tryz.prog f ds Lin r Lout := callsB_of hf hbody hname (Nat.le_of_ble_eq_true hn) h
def rnA:List (Nat × Nat) → List (Nat × D) → Boxes → Option (List (Nat × D) × Boxes)
 | [],K,L=>some (K,L)
 | x :: rs,K,L=>if (Nat.blt x.2 1000000 && freshKey x.2 K L) = true then rnA rs (renK x.1 x.2 K) (renL x.1 x.2 L) else none
theorem rnA_st {nt:Nat} {F0:Fz} {w0:Pt Tryz.prog}:∀ (rs:List (Nat × Nat)) {K K':List (Nat × D)} {L L':Boxes},rnA rs K L = some (K',L') → ∀ a w,St nt F0 w0 K L a w → St nt F0 w0 K' L' a w
 | [],_,_,_,_,h,_,_,hs=>by cases h; exact hs
 | x :: rs,K,K',L,L',h,a,w,hs=>by
  unfold rnA at h
  split at h
  ·rename_i hc
   rw [Bool.and_eq_true] at hc
   exact rnA_st rs h a w (St.rename x.1 x.2 (by simpa using hc.1) hc.2 rfl rfl a w hs)
  ·cases h
def knA (rs:List (Nat × Nat)) (k0 l0 kk kl:List Nat) (K:List (Nat × D)) (L:Boxes):Option (List (Nat × D) × Boxes) :=
 match keepS K k0,keepL L l0 with
 | some K0,some L0=>(match rnA rs K0 L0 with
  | some (K1,L1)=>(match keepS K1 kk,keepL L1 kl with | some K2,some L2=>some (K2,L2) | _,_=>none)
  | none=>none)
 | _,_=>none
theorem knA_st {nt:Nat} {F0:Fz} {w0:Pt Tryz.prog} {rs:List (Nat × Nat)} {k0 l0 kk kl:List Nat} {K K':List (Nat × D)} {L L':Boxes} (h:knA rs k0 l0 kk kl K L = some (K',L')):∃ K0 L0 K1 L1,keepS K k0 = some K0 ∧ keepL L l0 = some L0 ∧ rnA rs K0 L0 = some (K1,L1) ∧ keepS K1 kk = some K' ∧ keepL L1 kl = some L':=by
 unfold knA at h
 split at h
 ·rename_i K0 L0 e1 e2
  split at h
  ·rename_i K1 L1 e3
   split at h
   ·rename_i K2 L2 e4 e5
    cases h
    exact ⟨K0,L0,K1,L1,e1,e2,e3,e4,e5⟩
   ·cases h
  ·cases h
 ·cases h
theorem nw {nt:Nat} {F0:Fz} {w0:Pt Tryz.prog} {K:List (Nat × D)} {L:Boxes} {Q:Exit → Act → World → Prop} {c:Code} (k0 l0:List Nat) (rs:List (Nat × Nat)) (kk kl:List Nat) (K':List (Nat × D)) (L':Boxes) (hn:Wp Tryz.prog nt F0 w0 K' L' c Q) (h:knA rs k0 l0 kk kl K L = some (K',L'):=by kernel_rfl):Wp Tryz.prog nt F0 w0 K L c Q :=
 let ⟨_,_,_,_,e1,e2,e3,e4,e5⟩:=knA_st (w0:=w0) (F0:=F0) (nt:=nt) h
 Wp.keep e1 e2 (Wp.pre (rnA_st rs e3) (Wp.keep e4 e5 hn))
theorem nt {nt:Nat} {F0:Fz} {w0:Pt Tryz.prog} {K:List (Nat × D)} {L:Boxes} {Q:Exit → Act → World → Prop} {e:Exit} (k0 l0:List Nat) (rs:List (Nat × Nat)) (kk kl:List Nat) (K':List (Nat × D)) (L':Boxes) (hn:To nt F0 w0 K' L' e Q) (h:knA rs k0 l0 kk kl K L = some (K',L'):=by kernel_rfl):To nt F0 w0 K L e Q :=
 let ⟨_,_,_,_,e1,e2,e3,e4,e5⟩:=knA_st (w0:=w0) (F0:=F0) (nt:=nt) h
 To.keep e1 e2 (To.pre (rnA_st rs e3) (To.keep e4 e5 hn))
structure S_fault_Gap where
 f_Skip:Int
 f_Fail:Int
def host_Host_Fault__v (a1:S_fault_Gap):Unit :=
 ()
abbrev qc1 (x:S_fault_Gap):List D:=[vi x.f_Skip,vi x.f_Fail]
theorem ok_host_Host_Fault__v (a1:S_fault_Gap) (r:Unit) (h:host_Host_Fault__v a1 = r):CallsX Tryz.prog 44 [.val (.pointer none),.agg (qc1 a1)] (.tup []):=by
 unfold host_Host_Fault__v at h
 refine xo Tryz.f44 rfl fun F0 w0 _=>?_
 refine Wp.seq (rg [0,3] [3] [(0,.val (.pointer none)),(3,.own 3 0)] [(3,97,qc1 a1)] (To.thenN (Wp.seq (rg [0,3,5] [3] [(0,.val (.pointer none)),(3,.own 3 0),(5,vb false)] [(3,97,qc1 a1)] (To.thenN (Wp.cond (b:=false) (by kernel_rfl) (fun hb=>by cases hb) (fun _=>(Wp.skip (To.fin ?_)))))))))
 cases h
 exact To.done hΓ (by kernel_rfl)
def E_api_Call:S_api_Call → List D:=fun x=>[.val (.int .i64 x.f_Kind),.str x.f_Name,.val (.int .i64 x.f_Id),.str x.f_Spec.f_Name,.str x.f_Spec.f_Project,.str x.f_Spec.f_Service,.val (.int .i64 x.f_Spec.f_Number),.str x.f_Spec.f_Hash,.recs (α:=List UInt8) [] E_string x.f_Spec.f_Nets,.recs (α:=List UInt8) [] E_string x.f_Spec.f_Vols,.str x.f_Spec.f_Health.f_Test,.val (.int .i64 x.f_Spec.f_Health.f_Every),.val (.int .i64 x.f_Spec.f_Health.f_Start),.val (.int .i64 x.f_Spec.f_Health.f_Retries),.val (.int .i64 x.f_Spec.f_Restart),.val (.int .i64 x.f_Spec.f_Tries)]
def host_Host_Call__v (a1:S_api_Call):Int × Int :=
 (0,1)
abbrev qc2 (x:S_api_Call):List D:=[vi x.f_Kind,.str x.f_Name,vi x.f_Id,.str x.f_Spec.f_Name,.str x.f_Spec.f_Project,.str x.f_Spec.f_Service,vi x.f_Spec.f_Number,.str x.f_Spec.f_Hash,ls x.f_Spec.f_Nets,ls x.f_Spec.f_Vols,.str x.f_Spec.f_Health.f_Test,vi x.f_Spec.f_Health.f_Every,vi x.f_Spec.f_Health.f_Start,vi x.f_Spec.f_Health.f_Retries,vi x.f_Spec.f_Restart,vi x.f_Spec.f_Tries]
theorem ok_host_Host_Call__v (a1:S_api_Call) (r:Int × Int) (h:host_Host_Call__v a1 = r):CallsX Tryz.prog 34 [.val (.pointer none),.agg (qc2 a1)] (.tup [vi r.1,vi r.2]):=by
 unfold host_Host_Call__v at h
 refine xo Tryz.f34 rfl fun F0 w0 _=>?_
 refine Wp.seq (rg [0,3] [3] [(0,.val (.pointer none)),(3,.own 3 0)] [(3,40,(E_api_Call a1))] (To.thenN (Wp.seq (Wp.seq (rg [0,3,8] [3] [(0,.val (.pointer none)),(3,.own 3 0),(8,vb true)] [(3,40,(E_api_Call a1))] (To.thenN (Wp.cond (b:=true) (by kernel_rfl) (fun _=>?_) (fun hb=>by cases hb))))))))
 refine Wp.seq (rg [4,5] [] [(4,vi 0),(5,vi 1)] [] (To.thenN (Wp.ret (To.thenR ?_))))
 cases h
 exact To.done hΓ (by kernel_rfl)
structure S_probe_State where
 f_Health:Int
 f_Fails:Int
 f_Began:Int
 f_Next:Int
structure S_life_Box where
 f_Spec:S_api_Spec
 f_Id:Int
 f_State:Int
 f_Code:Int
 f_Runs:Int
 f_Done:Int
 f_At:Int
 f_ByHand:Bool
 f_Sick:Bool
 f_Probe:S_probe_State
def host_Host_Box__v (a1:Int):S_life_Box × Bool :=
 ((S_life_Box.mk (S_api_Spec.mk [] [] [] 0 [] [] [] (S_api_Check.mk [] 0 0 0) 0 0) 0 0 0 0 0 0 false false (S_probe_State.mk 0 0 0 0)),false)
abbrev qc3 (x:S_life_Box):List D:=[.str x.f_Spec.f_Name,.str x.f_Spec.f_Project,.str x.f_Spec.f_Service,vi x.f_Spec.f_Number,.str x.f_Spec.f_Hash,ls x.f_Spec.f_Nets,ls x.f_Spec.f_Vols,.str x.f_Spec.f_Health.f_Test,vi x.f_Spec.f_Health.f_Every,vi x.f_Spec.f_Health.f_Start,vi x.f_Spec.f_Health.f_Retries,vi x.f_Spec.f_Restart,vi x.f_Spec.f_Tries,vi x.f_Id,vi x.f_State,vi x.f_Code,vi x.f_Runs,vi x.f_Done,vi x.f_At,vb x.f_ByHand,vb x.f_Sick,vi x.f_Probe.f_Health,vi x.f_Probe.f_Fails,vi x.f_Probe.f_Began,vi x.f_Probe.f_Next]
theorem ok_host_Host_Box__v (a1:Int) (r:S_life_Box × Bool) (h:host_Host_Box__v a1 = r):CallsX Tryz.prog 45 [.val (.pointer none),vi a1] (.tup [.agg (qc3 r.1),vb r.2]):=by
 unfold host_Host_Box__v at h
 refine xo Tryz.f45 rfl fun F0 w0 _=>?_
 refine Wp.seq (rg [0,1,4] [4] [(0,.val (.pointer none)),(1,vi a1),(4,.own 4 0)] [(4,53,[.str [],.str [],.str [],vi 0,.str [],.val (.slice none 0 0),.val (.slice none 0 0),.str [],vi 0,vi 0,vi 0,vi 0,vi 0,vi 0,vi 0,vi 0,vi 0,vi 0,vi 0,vb false,vb false,vi 0,vi 0,vi 0,vi 0])] (To.thenN (Wp.seq (Wp.seq (rg [0,1,4,7] [4] [(0,.val (.pointer none)),(1,vi a1),(4,.own 4 0),(7,vb true)] [(4,53,[.str [],.str [],.str [],vi 0,.str [],.val (.slice none 0 0),.val (.slice none 0 0),.str [],vi 0,vi 0,vi 0,vi 0,vi 0,vi 0,vi 0,vi 0,vi 0,vi 0,vi 0,vb false,vb false,vi 0,vi 0,vi 0,vi 0])] (To.thenN (Wp.cond (b:=true) (by kernel_rfl) (fun _=>?_) (fun hb=>by cases hb))))))))
 refine Wp.seq (rg [4,5] [4] [(4,.own 4 0),(5,vb false)] [(4,53,[.str [],.str [],.str [],vi 0,.str [],.val (.slice none 0 0),.val (.slice none 0 0),.str [],vi 0,vi 0,vi 0,vi 0,vi 0,vi 0,vi 0,vi 0,vi 0,vi 0,vi 0,vb false,vb false,vi 0,vi 0,vi 0,vi 0])] (To.thenN (Wp.ret (To.thenR (To.weak (K':=[(4,.own 4 0),(5,vb false)]) (L':=[(4,53,[.str [],.str [],.str [],vi 0,.str [],ls [],ls [],.str [],vi 0,vi 0,vi 0,vi 0,vi 0,vi 0,vi 0,vi 0,vi 0,vi 0,vi 0,vb false,vb false,vi 0,vi 0,vi 0,vi 0])]) (.cons (.refl _) (.cons (.refl _) .nil)) (.cons (.cons (.refl _) (.cons (.refl _) (.cons (.refl _) (.cons (.refl _) (.cons (.refl _) (.cons (.zero _ _) (.cons (.zero _ _) (.cons (.refl _) (.cons (.refl _) (.cons (.refl _) (.cons (.refl _) (.cons (.refl _) (.cons (.refl _) (.cons (.refl _) (.cons (.refl _) (.cons (.refl _) (.cons (.refl _) (.cons (.refl _) (.cons (.refl _) (.cons (.refl _) (.cons (.refl _) (.cons (.refl _) (.cons (.refl _) (.cons (.refl _) (.cons (.refl _) .nil))))))))))))))))))))))))) .nil) ?_)))))
 cases h
 exact To.done hΓ (by kernel_rfl)
def E_life_Box:S_life_Box → List D:=fun x=>[.str x.f_Spec.f_Name,.str x.f_Spec.f_Project,.str x.f_Spec.f_Service,.val (.int .i64 x.f_Spec.f_Number),.str x.f_Spec.f_Hash,.recs (α:=List UInt8) [] E_string x.f_Spec.f_Nets,.recs (α:=List UInt8) [] E_string x.f_Spec.f_Vols,.str x.f_Spec.f_Health.f_Test,.val (.int .i64 x.f_Spec.f_Health.f_Every),.val (.int .i64 x.f_Spec.f_Health.f_Start),.val (.int .i64 x.f_Spec.f_Health.f_Retries),.val (.int .i64 x.f_Spec.f_Restart),.val (.int .i64 x.f_Spec.f_Tries),.val (.int .i64 x.f_Id),.val (.int .i64 x.f_State),.val (.int .i64 x.f_Code),.val (.int .i64 x.f_Runs),.val (.int .i64 x.f_Done),.val (.int .i64 x.f_At),.val (.bool x.f_ByHand),.val (.bool x.f_Sick),.val (.int .i64 x.f_Probe.f_Health),.val (.int .i64 x.f_Probe.f_Fails),.val (.int .i64 x.f_Probe.f_Began),.val (.int .i64 x.f_Probe.f_Next)]
def life_Sick (a0:S_life_Box) (a1:Bool):S_life_Box :=
 (S_life_Box.mk a0.f_Spec a0.f_Id a0.f_State a0.f_Code a0.f_Runs a0.f_Done a0.f_At a0.f_ByHand a1 a0.f_Probe)
theorem ok_life_Sick (a0:S_life_Box) (a1:Bool) (r:S_life_Box) (h:life_Sick a0 a1 = r):CallsX Tryz.prog 24 [.agg (qc3 a0),vb a1] (.agg (qc3 r)):=by
 unfold life_Sick at h
 refine xo Tryz.f24 rfl fun F0 w0 _=>?_
 refine Wp.seq (rg [1,2,4] [2,4] [(1,vb a1),(2,.own 2 0),(4,.own 4 0)] [(2,53,(E_life_Box a0)),(4,53,[.str [],.str [],.str [],vi 0,.str [],.val (.slice none 0 0),.val (.slice none 0 0),.str [],vi 0,vi 0,vi 0,vi 0,vi 0,vi 0,vi 0,vi 0,vi 0,vi 0,vi 0,vb false,vb false,vi 0,vi 0,vi 0,vi 0])] (To.thenN (Wp.seq (rg [2,4] [2,4] [(2,.own 2 0),(4,.own 4 0)] [(2,53,(List.set (E_life_Box a0) 20 (vb a1))),(4,53,[.str [],.str [],.str [],vi 0,.str [],.val (.slice none 0 0),.val (.slice none 0 0),.str [],vi 0,vi 0,vi 0,vi 0,vi 0,vi 0,vi 0,vi 0,vi 0,vi 0,vi 0,vb false,vb false,vi 0,vi 0,vi 0,vi 0])] (To.thenN (Wp.seq (rg [4] [4] [(4,.own 4 0)] [(4,53,(List.set (E_life_Box a0) 20 (vb a1)))] (To.thenN (Wp.ret ?_)))))))))
 cases h
 exact To.done hΓ (by kernel_rfl)
def store_Store_Put__v (a1:S_life_Box):Bool :=
 false
theorem ok_store_Store_Put__v (a1:S_life_Box) (r:Bool) (h:store_Store_Put__v a1 = r):CallsX Tryz.prog 23 [.val (.pointer none),.agg (qc3 a1)] (vb r):=by
 unfold store_Store_Put__v at h
 refine xo Tryz.f23 rfl fun F0 w0 _=>?_
 refine Wp.seq (rg [0,3] [3] [(0,.val (.pointer none)),(3,.own 3 0)] [(3,53,(E_life_Box a1))] (To.thenN (Wp.seq (Wp.seq (rg [0,3,8] [3] [(0,.val (.pointer none)),(3,.own 3 0),(8,vb true)] [(3,53,(E_life_Box a1))] (To.thenN (Wp.cond (b:=true) (by kernel_rfl) (fun _=>?_) (fun hb=>by cases hb))))))))
 refine Wp.seq (rg [4] [] [(4,vb false)] [] (To.thenN (Wp.ret (To.thenR ?_))))
 cases h
 exact To.done hΓ (by kernel_rfl)
def host_Host_Sick__v (n:Nat) (a1:Int) (a2:Bool):Option (Bool) :=
 lett (host_Host_Box__v a1) fun r1 =>
 if ((!(r1.2 == true) || false)) = true then (lett (life_Sick r1.1 a2) fun r2 =>
 some (bif r1.2 then (store_Store_Put__v r2) else false)) else none
theorem ok_host_Host_Sick__v (n:Nat) (a1:Int) (a2:Bool) (r:Bool) (h:host_Host_Sick__v n a1 a2 = some r):CallsX Tryz.prog 46 [.val (.pointer none),vi a1,vb a2] (vb r):=by
 unfold host_Host_Sick__v at h
 refine xo Tryz.f46 rfl fun F0 w0 _=>?_
 refine Wp.seq (rg [0,1,2] [] [(0,.val (.pointer none)),(1,vi a1),(2,vb a2)] [] (To.thenN (Wp.seq ?_)))
 obtain ⟨r1,hr1,h⟩:=lett_of h
 refine rc [] 2 [0,2,7,8] [7] [(0,.val (.pointer none)),(2,vb a2),(7,.own 7 0),(8,vb r1.2)] [(7,53,(E_life_Box r1.1))] (ok_host_Host_Box__v a1 _ hr1) (To.thenN (Wp.seq ?_))
 obtain ⟨hc3,h⟩:=chk_of h
 obtain ⟨r2,hr2,h⟩:=lett_of h
 refine Wp.regionD hm hΓ [(8,.agg (qc3 r2)),(9,vb (store_Store_Put__v r2))] [6] [] (K':=[(6,vb (bif r1.2 then (store_Store_Put__v r2) else false))]) (L':=[]) (ob:=[(!(r1.2 == true) || false) = true,((r1.2 == true) = true → CX Tryz.prog 24 [.agg (qc3 r1.1),vb a2] (.agg (qc3 r2))),((r1.2 == true) = true → CX Tryz.prog 23 [.val (.pointer none),.agg (qc3 r2)] (vb (store_Store_Put__v r2)))]) (by kernel_rfl) (AllP.cons hc3 (AllP.cons (fun _=>cx (ok_life_Sick r1.1 a2 _ hr2)) (AllP.cons (fun _=>cx (ok_store_Store_Put__v r2 _ rfl)) AllP.nil))) (To.thenN (Wp.ret ?_))
 cases h
 exact To.done hΓ (by kernel_rfl)
def host_Host_Now__v:Int :=
 0
theorem ok_host_Host_Now__v (r:Int) (h:host_Host_Now__v = r):CallsX Tryz.prog 40 [.val (.pointer none)] (vi r):=by
 unfold host_Host_Now__v at h
 refine xo Tryz.f40 rfl fun F0 w0 _=>?_
 refine Wp.seq (rg [0] [] [(0,.val (.pointer none))] [] (To.thenN (Wp.seq (Wp.seq (rg [0,4] [] [(0,.val (.pointer none)),(4,vb true)] [] (To.thenN (Wp.cond (b:=true) (by kernel_rfl) (fun _=>?_) (fun hb=>by cases hb))))))))
 refine Wp.seq (rg [2] [] [(2,vi 0)] [] (To.thenN (Wp.ret (To.thenR ?_))))
 cases h
 exact To.done hΓ (by kernel_rfl)
structure S_host_Event where
 f_At:Int
 f_Kind:Int
 f_Id:Int
 f_What:Int
def E_host_Event:S_host_Event → List D:=fun x=>[.val (.int .i64 x.f_At),.val (.int .i64 x.f_Kind),.val (.int .i64 x.f_Id),.val (.int .i64 x.f_What)]
def host_Host_Tick__v (a1:Int):(List (S_host_Event)) :=
 []
abbrev zx4:S_host_Event:=S_host_Event.mk 0 0 0 0
abbrev rs5 (l:List (S_host_Event)):D:=.recs (α:=S_host_Event) zx4 E_host_Event l
theorem ok_host_Host_Tick__v (a1:Int) (r:(List (S_host_Event))) (h:host_Host_Tick__v a1 = r):CallsX Tryz.prog 38 [.val (.pointer none),vi a1] (rs5 r):=by
 unfold host_Host_Tick__v at h
 refine xo Tryz.f38 rfl fun F0 w0 _=>?_
 refine Wp.seq (rg [0,1] [] [(0,.val (.pointer none)),(1,vi a1)] [] (To.thenN (Wp.seq (Wp.seq (rg [0,1,15] [] [(0,.val (.pointer none)),(1,vi a1),(15,vb true)] [] (To.thenN (Wp.cond (b:=true) (by kernel_rfl) (fun _=>?_) (fun hb=>by cases hb))))))))
 refine Wp.seq (rg [4] [] [(4,.val (.slice none 0 0))] [] (To.thenN (Wp.ret (To.thenR (To.weak (K':=[(4,rs5 [])]) (L':=[]) (.cons (.zero _ _) .nil) .nil ?_)))))
 cases h
 exact To.done hΓ (by kernel_rfl)
def host_Host_Exit__v (n:Nat) (a1:Int) (a2:Int):Option ((List (S_host_Event))) :=
 lett (host_Host_Box__v a1) fun r1 =>
 if (!r1.2) = true then (some [])
 else none
theorem ok_host_Host_Exit__v (n:Nat) (a1:Int) (a2:Int) (r:(List (S_host_Event))) (h:host_Host_Exit__v n a1 a2 = some r):CallsX Tryz.prog 47 [.val (.pointer none),vi a1,vi a2] (rs5 r):=by
 unfold host_Host_Exit__v at h
 refine xo Tryz.f47 rfl fun F0 w0 _=>?_
 refine Wp.seq (rg [0,1,2] [] [(0,.val (.pointer none)),(1,vi a1),(2,vi a2)] [] (To.thenN (Wp.seq ?_)))
 obtain ⟨r1,hr1,h⟩:=lett_of h
 refine rc [] 2 [0,1,2,7,8] [7] [(0,.val (.pointer none)),(1,vi a1),(2,vi a2),(7,.own 7 0),(8,vb r1.2)] [(7,53,(E_life_Box r1.1))] (ok_host_Host_Box__v a1 _ hr1) (To.thenN (Wp.seq (Wp.seq (rg [0,1,2,7,17] [7] [(0,.val (.pointer none)),(1,vi a1),(2,vi a2),(7,.own 7 0),(17,vb (!r1.2))] [(7,53,(E_life_Box r1.1))] (To.thenN (cn h (fun h=>?_) (fun h=>?_)))))))
 ·refine Wp.seq (rg [6] [] [(6,.val (.slice none 0 0))] [] (To.thenN (Wp.ret (To.thenR (To.weak (K':=[(6,rs5 [])]) (L':=[]) (.cons (.zero _ _) .nil) .nil ?_)))))
  cases h
  exact To.done hΓ (by kernel_rfl)
 ·refine Wp.skip (To.thenN (Wp.seq ?_))
  cases h
structure S_api_Container where
 f_Id:Int
 f_Spec:S_api_Spec
 f_State:Int
 f_Code:Int
 f_Health:Int
 f_Runs:Int
abbrev Z_api_Spec:S_api_Spec:=(S_api_Spec.mk [] [] [] 0 [] [] [] (S_api_Check.mk [] 0 0 0) 0 0)
abbrev Z_api_Container:S_api_Container:=(S_api_Container.mk 0 Z_api_Spec 0 0 0 0)
def E_api_Container:S_api_Container → List D:=fun x=>[.val (.int .i64 x.f_Id),.str x.f_Spec.f_Name,.str x.f_Spec.f_Project,.str x.f_Spec.f_Service,.val (.int .i64 x.f_Spec.f_Number),.str x.f_Spec.f_Hash,.recs (α:=List UInt8) [] E_string x.f_Spec.f_Nets,.recs (α:=List UInt8) [] E_string x.f_Spec.f_Vols,.str x.f_Spec.f_Health.f_Test,.val (.int .i64 x.f_Spec.f_Health.f_Every),.val (.int .i64 x.f_Spec.f_Health.f_Start),.val (.int .i64 x.f_Spec.f_Health.f_Retries),.val (.int .i64 x.f_Spec.f_Restart),.val (.int .i64 x.f_Spec.f_Tries),.val (.int .i64 x.f_State),.val (.int .i64 x.f_Code),.val (.int .i64 x.f_Health),.val (.int .i64 x.f_Runs)]
def host_Host_Boxes__v:(List (S_api_Container)) :=
 []
abbrev rs6 (l:List (S_api_Container)):D:=.recs (α:=S_api_Container) Z_api_Container E_api_Container l
theorem ok_host_Host_Boxes__v (r:(List (S_api_Container))) (h:host_Host_Boxes__v = r):CallsX Tryz.prog 31 [.val (.pointer none)] (rs6 r):=by
 unfold host_Host_Boxes__v at h
 refine xo Tryz.f31 rfl fun F0 w0 _=>?_
 refine Wp.seq (rg [0] [] [(0,.val (.pointer none))] [] (To.thenN (Wp.seq (Wp.seq (rg [0,4] [] [(0,.val (.pointer none)),(4,vb true)] [] (To.thenN (Wp.cond (b:=true) (by kernel_rfl) (fun _=>?_) (fun hb=>by cases hb))))))))
 refine Wp.seq (rg [2] [] [(2,.val (.slice none 0 0))] [] (To.thenN (Wp.ret (To.thenR (To.weak (K':=[(2,rs6 [])]) (L':=[]) (.cons (.zero _ _) .nil) .nil ?_)))))
 cases h
 exact To.done hΓ (by kernel_rfl)
structure S_api_Kept where
 f_Name:List UInt8
 f_Project:List UInt8
def E_api_Kept:S_api_Kept → List D:=fun x=>[.str x.f_Name,.str x.f_Project]
def host_Host_Nets__v:(List (S_api_Kept)) :=
 []
abbrev zx7:S_api_Kept:=S_api_Kept.mk [] []
abbrev rs8 (l:List (S_api_Kept)):D:=.recs (α:=S_api_Kept) zx7 E_api_Kept l
theorem ok_host_Host_Nets__v (r:(List (S_api_Kept))) (h:host_Host_Nets__v = r):CallsX Tryz.prog 32 [.val (.pointer none)] (rs8 r):=by
 unfold host_Host_Nets__v at h
 refine xo Tryz.f32 rfl fun F0 w0 _=>?_
 refine Wp.seq (rg [0] [] [(0,.val (.pointer none))] [] (To.thenN (Wp.seq (Wp.seq (rg [0,4] [] [(0,.val (.pointer none)),(4,vb true)] [] (To.thenN (Wp.cond (b:=true) (by kernel_rfl) (fun _=>?_) (fun hb=>by cases hb))))))))
 refine Wp.seq (rg [2] [] [(2,.val (.slice none 0 0))] [] (To.thenN (Wp.ret (To.thenR (To.weak (K':=[(2,rs8 [])]) (L':=[]) (.cons (.zero _ _) .nil) .nil ?_)))))
 cases h
 exact To.done hΓ (by kernel_rfl)
def host_Host_Vols__v:(List (S_api_Kept)) :=
 []
theorem ok_host_Host_Vols__v (r:(List (S_api_Kept))) (h:host_Host_Vols__v = r):CallsX Tryz.prog 33 [.val (.pointer none)] (rs8 r):=by
 unfold host_Host_Vols__v at h
 refine xo Tryz.f33 rfl fun F0 w0 _=>?_
 refine Wp.seq (rg [0] [] [(0,.val (.pointer none))] [] (To.thenN (Wp.seq (Wp.seq (rg [0,4] [] [(0,.val (.pointer none)),(4,vb true)] [] (To.thenN (Wp.cond (b:=true) (by kernel_rfl) (fun _=>?_) (fun hb=>by cases hb))))))))
 refine Wp.seq (rg [2] [] [(2,.val (.slice none 0 0))] [] (To.thenN (Wp.ret (To.thenR (To.weak (K':=[(2,rs8 [])]) (L':=[]) (.cons (.zero _ _) .nil) .nil ?_)))))
 cases h
 exact To.done hΓ (by kernel_rfl)
structure S_store_Store where
 f_boxes:List (MK × S_life_Box)
 f_nets:List (MK × S_api_Kept)
 f_vols:List (MK × S_api_Kept)
 f_last:Int
structure S_fault_Plan where
 f_l:List (S_fault_Gap)
 f_more:Int
structure S_host_Host where
 f_Store:S_store_Store
 f_plan:S_fault_Plan
 f_now:Int
def E_fault_Gap:S_fault_Gap → List D:=fun x=>[.val (.int .i64 x.f_Skip),.val (.int .i64 x.f_Fail)]
abbrev Z_life_Box:S_life_Box:=(S_life_Box.mk Z_api_Spec 0 0 0 0 0 0 false false (S_probe_State.mk 0 0 0 0))
def store_New_o:S_store_Store :=
 (S_store_Store.mk ([]:List (MK × S_life_Box)) ([]:List (MK × S_api_Kept)) ([]:List (MK × S_api_Kept)) 0)
abbrev mc9 (l:List (MK × S_life_Box)):D:=.mapc (some .i64) true (α:=S_life_Box) Z_life_Box E_life_Box l
abbrev mc10 (l:List (MK × S_api_Kept)):D:=.mapc none true (α:=S_api_Kept) zx7 E_api_Kept l
abbrev qf11 (a b c d:Nat) (x:S_store_Store):List (Nat × Nat × List D):=[(a,109,[.mp b,.mp c,.mp d,vi x.f_last]),(b,105,[mc9 x.f_boxes]),(c,107,[mc10 x.f_nets]),(d,107,[mc10 x.f_vols])]
theorem ok_store_New_o (r:S_store_Store) (h:store_New_o = r):CallsB Tryz.prog 11 [] [] (.own 1 0) (qf11 1 2 3 4 r):=by
 unfold store_New_o at h
 refine bo Tryz.f11 rfl fun F0 w0=>?_
 refine Wp.seq (rg [] [] [] [] (To.thenN (Wp.seq (rr [] [(0,mc9 []),(1,mc10 []),(2,mc10 [])] [] [0] [1,2,3,5] [(0,.own 5 0)] [(1,105,[mc9 []]),(2,107,[mc10 []]),(3,107,[mc10 []]),(5,109,[.mp 1,.mp 2,.mp 3,vi 0])] [(GoodM true E_life_Box),(GoodM true E_api_Kept),(GoodM true E_api_Kept)] (AllP.cons (⟨fun _=>rfl,fun h=>by cases h⟩) (AllP.cons (⟨fun _=>rfl,fun h=>by cases h⟩) (AllP.cons (⟨fun _=>rfl,fun h=>by cases h⟩) AllP.nil))) ?_))))
 refine To.thenN (Wp.ret (nt [0] [1,2,3,5] [(1,3000),(5,1),(2,3001),(3000,2),(3,3000),(3001,3),(3000,4)] [0] [1,2,3,4] [(0,.own 1 0)] [(1,109,[.mp 2,.mp 3,.mp 4,vi 0]),(2,105,[mc9 []]),(3,107,[mc10 []]),(4,107,[mc10 []])] ?_))
 cases h
 exact To.doneB hΓ [1,2,3,4] (by kernel_rfl) (by kernel_rfl)
def fault_near (a0:Int):Int :=
 (if (1000:Int) < (if (0:Int) > a0 then 0 else a0) then 1000 else (if (0:Int) > a0 then 0 else a0))
abbrev ex1 (x0:Int):=(if (0:Int) > x0 then 0 else x0)
theorem ok_fault_near (a0:Int) (r:Int) (h:fault_near a0 = r):CallsX Tryz.prog 101 [vi a0] (vi r):=by
 unfold fault_near at h
 refine xo Tryz.f101 rfl fun F0 w0 _=>?_
 refine Wp.seq (rg [0] [] [(0,vi a0)] [] (To.thenN (Wp.seq (rg [2] [] [(2,vi (if (1000:Int) < (ex1 a0) then 1000 else (ex1 a0)))] [] (To.thenN (Wp.ret ?_))))))
 cases h
 exact To.done hΓ (by kernel_rfl)
theorem good_E_fault_Gap (l:List (S_fault_Gap)):GoodR (.recs (S_fault_Gap.mk 0 0) E_fault_Gap l):=⟨Nat.le_of_ble_eq_true (by kernel_rfl),fun _=>⟨rfl,rfl⟩⟩
def fault_Add_j1 (n:Nat) (v5:Int) (v6:Int) (b2:S_fault_Plan) (b4:S_fault_Plan):Option (S_fault_Plan) :=
 if (decide ((List.length b2.f_l:Int) ≥ 32)) = true then some b2
 else (if (v6 == 0) = true then (some (S_fault_Plan.mk b2.f_l (IntKind.wrap .i64 (b2.f_more + v5))))
 else (if (decide (0 ≤ (List.length b2.f_l:Int) ∧ (List.length b2.f_l:Int) ≤ (IntKind.wrap .i64 ((List.length b2.f_l:Int) + 1)))) = true then (if (decide ((IntKind.wrap .i64 ((List.length b2.f_l:Int) + 1)) * ((16 + 1:Nat):Int) ≤ (limit:Int))) = true then (if (decide ((List.length (copyTo (List.replicate (Int.toNat (List.length b2.f_l:Int)) ((S_fault_Gap.mk 0 0):S_fault_Gap)) b2.f_l) + List.length ([(S_fault_Gap.mk (IntKind.wrap .i64 (b2.f_more + v5)) v6)]:List (S_fault_Gap))) * (16 + 1) ≤ limit)) = true then (lett (((copyTo (List.replicate (Int.toNat (List.length b2.f_l:Int)) ((S_fault_Gap.mk 0 0):S_fault_Gap)) b2.f_l) ++ ([(S_fault_Gap.mk (IntKind.wrap .i64 (b2.f_more + v5)) v6)]:List (S_fault_Gap))):List (S_fault_Gap)) fun x1 =>
 some (S_fault_Plan.mk x1 0)) else none) else none) else none))
abbrev zx12:S_fault_Gap:=S_fault_Gap.mk 0 0
abbrev rs13 (l:List (S_fault_Gap)):D:=.recs (α:=S_fault_Gap) zx12 E_fault_Gap l
abbrev rc14 (l:List (S_fault_Gap)):D:=.rowc false (α:=S_fault_Gap) zx12 E_fault_Gap l
abbrev rc15 (l:List (S_fault_Gap)):D:=.rowc true (α:=S_fault_Gap) zx12 E_fault_Gap l
abbrev qc16 (x:S_fault_Plan):List D:=[rs13 x.f_l,vi x.f_more]
abbrev ex2 (x0:S_fault_Plan):=(List.replicate (Int.toNat (List.length x0.f_l:Int)) (zx12:S_fault_Gap))
abbrev ex3 (x0:S_fault_Plan) (x1:Int) (x2:Int):=([(S_fault_Gap.mk (IntKind.wrap .i64 (x0.f_more + x1)) x2)]:List (S_fault_Gap))
theorem ok_fault_Add_j1 (n:Nat) (v5:Int) (v6:Int) (b2:S_fault_Plan) (b4:S_fault_Plan) (o:S_fault_Plan) (h:fault_Add_j1 n v5 v6 b2 b4 = some o) {F0:Fz} {w0:Pt Tryz.prog} {Q:Exit → Act → World → Prop} (hQ:To 51 F0 w0 [(2,.own 2 0),(4,.own 4 0)] [(2,68,qc16 o),(4,68,qc16 b4)] .normal Q):Wp Tryz.prog 51 F0 w0 [(2,.own 2 0),(4,.own 4 0),(5,vi v5),(6,vi v6)] [(2,68,qc16 b2),(4,68,qc16 b4)] (cA (cB (cB (cF Tryz.f70)))) Q:=by
 unfold fault_Add_j1 at h
 refine Wp.block (Wp.seq (rg [2,4,5,6,37] [2,4] [(2,.own 2 0),(4,.own 4 0),(5,vi v5),(6,vi v6),(37,vb (decide ((List.length b2.f_l:Int) ≥ 32)))] [(2,68,qc16 b2),(4,68,qc16 b4)] (To.thenN (cn h (fun h=>?_) (fun h=>?_)))))
 ·refine Wp.skip (To.blockN (kt [2,4] [2,4] [(2,.own 2 0),(4,.own 4 0)] [(2,68,qc16 b2),(4,68,qc16 b4)] ?_))
  cases h
  exact hQ
 ·refine Wp.seq (rg [2,4,5,6,42] [2,4] [(2,.own 2 0),(4,.own 4 0),(5,vi v5),(6,vi v6),(42,vb (v6 == 0))] [(2,68,qc16 b2),(4,68,qc16 b4)] (To.thenN (cn h (fun h=>?_) (fun h=>?_))))
  ·refine rg [2,4] [2,4] [(2,.own 2 0),(4,.own 4 0)] [(2,68,[rs13 b2.f_l,vi (IntKind.wrap .i64 (b2.f_more + v5))]),(4,68,qc16 b4)] (To.blockN ?_)
   cases h
   exact hQ
  ·refine Wp.seq ?_
   obtain ⟨hc3,h⟩:=chk_of h
   obtain ⟨hc4,h⟩:=chk_of h
   refine rr [] [(7,rs13 (ex2 b2))] [] [2,4,5,6,7] [2,4,21] [(2,.own 2 0),(4,.own 4 0),(5,vi v5),(6,vi v6),(7,.row 21)] [(2,68,qc16 b2),(4,68,qc16 b4),(21,97,[rc14 (ex2 b2)])] [_,_,(MadeOb [vi 0,vi 0] (Int.toNat (List.length b2.f_l:Int)) (rs13 (ex2 b2)) ∧ GoodR (rs13 (ex2 b2)))] (AllP.cons hc3 (AllP.cons hc4 (AllP.cons (madeOb (by kernel_rfl) (good_E_fault_Gap _)) AllP.nil))) (To.thenN (Wp.seq (rr [] [(3,rs13 (copyTo (ex2 b2) b2.f_l))] [] [2,4,5,6,7] [2,4,21] [(2,.own 2 0),(4,.own 4 0),(5,vi v5),(6,vi v6),(7,.row 21)] [(2,68,qc16 b2),(4,68,qc16 b4),(21,97,[rc14 (copyTo (ex2 b2) b2.f_l)])] [(CopyOb zx12 E_fault_Gap (ex2 b2) (List.flatMap E_fault_Gap b2.f_l) (List.length b2.f_l) (rs13 (copyTo (ex2 b2) b2.f_l)))] (AllP.cons (⟨b2.f_l,Weaks.refl _,rfl,rfl⟩) AllP.nil) (To.thenN ?_))))
   obtain ⟨hc2,h⟩:=chk_of h
   obtain ⟨x1,hx1,h⟩:=lett_of h
   refine rr [] [(7,rs13 [(S_fault_Gap.mk (IntKind.wrap .i64 (b2.f_more + v5)) v6)]),(8,rs13 ((copyTo (ex2 b2) b2.f_l) ++ (ex3 b2 v5 v6)))] [] [2,4] [2,4,34] [(2,.own 2 0),(4,.own 4 0)] [(2,68,[.row 34,vi 0]),(4,68,qc16 b4),(34,97,[rc14 ((copyTo (ex2 b2) b2.f_l) ++ (ex3 b2 v5 v6))])] [(MkOb 2 [vi (IntKind.wrap .i64 (b2.f_more + v5)),vi v6] 1 (rs13 [(S_fault_Gap.mk (IntKind.wrap .i64 (b2.f_more + v5)) v6)]) ∧ GoodR (rs13 [(S_fault_Gap.mk (IntKind.wrap .i64 (b2.f_more + v5)) v6)])),_,(AppOb zx12 E_fault_Gap (copyTo (ex2 b2) b2.f_l) (List.flatMap E_fault_Gap (ex3 b2 v5 v6)) (List.length (ex3 b2 v5 v6)) (rs13 ((copyTo (ex2 b2) b2.f_l) ++ (ex3 b2 v5 v6))) ∧ GoodR (rs13 ((copyTo (ex2 b2) b2.f_l) ++ (ex3 b2 v5 v6))))] (AllP.cons (mkOb (by kernel_rfl) rfl (by kernel_rfl) (good_E_fault_Gap _)) (AllP.cons hc2 (AllP.cons (appOb rfl rfl (good_E_fault_Gap _)) AllP.nil))) (To.eq (K':=[(2,.own 2 0),(4,.own 4 0)]) (L':=[(2,68,[.row 34,vi 0]),(4,68,qc16 b4),(34,97,[rc14 x1])]) (by cases hx1; rfl) (by cases hx1; rfl) (To.blockN (kt [2,4] [2,4,34] [(2,.own 2 0),(4,.own 4 0)] [(2,68,[.row 34,vi 0]),(4,68,qc16 b4),(34,97,[rc14 x1])] (To.pre (St.settle (ks:=[34]) (kk:=[2,4]) (kl:=[2,4,34]) (K':=[(2,.own 2 0),(4,.own 4 0)]) (L':=[(2,68,[.row 34,vi 0]),(4,68,qc16 b4),(34,97,[rc15 x1])]) (by kernel_rfl)) (To.pre (St.sealB [2] (L':=[(2,68,[rs13 x1,vi 0]),(4,68,qc16 b4),(34,97,[rc15 x1])]) (by kernel_rfl)) (kt [2,4] [2,4] [(2,.own 2 0),(4,.own 4 0)] [(2,68,[rs13 x1,vi 0]),(4,68,qc16 b4)] ?_))))))
   cases h
   exact hQ
def fault_Add (n:Nat) (a0:S_fault_Plan) (a1:S_fault_Gap):Option (S_fault_Plan) :=
 (fault_Add_j1 n (fault_near a1.f_Skip) (fault_near a1.f_Fail) a0 (S_fault_Plan.mk [] 0)).bind fun o1 =>
 some o1
abbrev zx17:S_fault_Plan:=S_fault_Plan.mk [] 0
theorem ok_fault_Add (n:Nat) (a0:S_fault_Plan) (a1:S_fault_Gap) (r:S_fault_Plan) (h:fault_Add n a0 a1 = some r):CallsX Tryz.prog 70 [.agg (qc16 a0),.agg (qc1 a1)] (.agg (qc16 r)):=by
 unfold fault_Add at h
 refine xo Tryz.f70 rfl fun F0 w0 _=>?_
 refine Wp.seq (rg [2,3,4] [2,3,4] [(2,.own 2 0),(3,.own 3 0),(4,.own 4 0)] [(2,68,qc16 a0),(3,97,qc1 a1),(4,68,[.val (.slice none 0 0),vi 0])] (To.thenN (Wp.seq (Wp.regionD hm hΓ [(2,vi (fault_near a1.f_Skip)),(5,vi (fault_near a1.f_Fail))] [2,4,5,6] [2,4] (K':=[(2,.own 2 0),(4,.own 4 0),(5,vi (fault_near a1.f_Skip)),(6,vi (fault_near a1.f_Fail))]) (L':=[(2,68,qc16 a0),(4,68,[.val (.slice none 0 0),vi 0])]) (ob:=[(true = true → CX Tryz.prog 101 [vi a1.f_Skip] (vi (fault_near a1.f_Skip))),(true = true → CX Tryz.prog 101 [vi a1.f_Fail] (vi (fault_near a1.f_Fail)))]) (by kernel_rfl) (AllP.cons (fun _=>cx (ok_fault_near a1.f_Skip _ rfl)) (AllP.cons (fun _=>cx (ok_fault_near a1.f_Fail _ rfl)) AllP.nil)) (To.thenN (Wp.seq ?_))))))
 obtain ⟨o1,ho1,h⟩:=bind_of h
 refine kw [2,4,5,6] [2,4] [(2,.own 2 0),(4,.own 4 0),(5,vi (fault_near a1.f_Skip)),(6,vi (fault_near a1.f_Fail))] [(2,68,qc16 a0),(4,68,[.val (.slice none 0 0),vi 0])] (Wp.weak (K':=[(2,.own 2 0),(4,.own 4 0),(5,vi (fault_near a1.f_Skip)),(6,vi (fault_near a1.f_Fail))]) (L':=[(2,68,qc16 a0),(4,68,[rs13 [],vi 0])]) (.cons (.refl _) (.cons (.refl _) (.cons (.refl _) (.cons (.refl _) .nil)))) (.cons (.cons (.refl _) (.cons (.refl _) .nil)) (.cons (.cons (.zero _ _) (.cons (.refl _) .nil)) .nil)) (ok_fault_Add_j1 n (fault_near a1.f_Skip) (fault_near a1.f_Fail) a0 zx17 o1 ho1 (To.thenN (Wp.seq (rg [4] [4] [(4,.own 4 0)] [(4,68,qc16 o1)] (To.thenN (Wp.ret ?_)))))))
 cases h
 exact To.done hΓ (by kernel_rfl)
def fault_Of_l1 (n:Nat) (v6:List (S_fault_Gap)) (v7:Int) (b2:S_fault_Plan):Nat → Int → S_fault_Plan → Option (S_fault_Plan)
 | 0,_,_=>none
 | k + 1,v8,b3=>if (decide (v8 < v7)) = true then (if (decide (0 ≤ v8 ∧ v8 < (List.length v6:Int))) = true then ((fault_Add n b3 ((v6)[Int.toNat v8]?.getD (S_fault_Gap.mk 0 0))).bind fun r1 =>
 fault_Of_l1 n v6 v7 b2 k (IntKind.wrap .i64 (v8 + 1)) r1) else none)
 else some b3
abbrev ex4 (x0:Int):Nat × D:=(8,vi (IntKind.wrap .i64 (x0 + 1)))
theorem ok_fault_Of_l1 (n:Nat) (v6:List (S_fault_Gap)) (v7:Int) (b2:S_fault_Plan) {F0:Fz} {w0:Pt Tryz.prog} {Q:Exit → Act → World → Prop} (k:Nat):∀ (v8:Int) (b3:S_fault_Plan) (o:S_fault_Plan),fault_Of_l1 n v6 v7 b2 k v8 b3 = some o → To 17 F0 w0 [(2,.own 2 0),(3,.own 3 0)] [(2,68,qc16 b2),(3,68,qc16 o)] (.exit 0) Q → WL Tryz.prog 17 F0 w0 [(2,.own 2 0),(3,.own 3 0),(6,rs13 v6),(7,vi v7),(8,vi v8)] [(2,68,qc16 b2),(3,68,qc16 b3)] (cI (cI (cB (cA (cB (cB (cF Tryz.f30))))))) Q:=by
 induction k with
 | zero=>intro v8 b3 o h; cases h
 | succ k ih =>
  intro v8 b3 o h hQ
  rw [fault_Of_l1] at h
  refine WL.round (Wp.seq (rg [2,3,6,7,8,9] [2,3] [(2,.own 2 0),(3,.own 3 0),(6,rs13 v6),(7,vi v7),(8,vi v8),(9,vb (decide (v8 < v7)))] [(2,68,qc16 b2),(3,68,qc16 b3)] (To.thenN (Wp.seq (cn h (fun h=>?_) (fun h=>?_))))))
  ·refine Wp.skip (To.thenN (Wp.seq (Wp.block (Wp.seq ?_))))
   obtain ⟨hc2,h⟩:=chk_of h
   refine r0 [2,3,5,6,7,8] [2,3,5] [(2,.own 2 0),(3,.own 3 0),(5,.own 5 0),(6,rs13 v6),(7,vi v7),(8,vi v8)] [(2,68,qc16 b2),(3,68,qc16 b3),(5,97,[vi (((v6)[Int.toNat v8]?.getD zx12).f_Skip),vi (((v6)[Int.toNat v8]?.getD zx12).f_Fail)])] (AllP.cons hc2 AllP.nil) (To.thenN ?_)
   obtain ⟨r1,hr1,h⟩:=bind_of h
   refine rc [] 2 [2,3,6,7,8] [2,3] [(2,.own 2 0),(3,.own 3 0),(6,rs13 v6),(7,vi v7),(8,vi v8)] [(2,68,qc16 b2),(3,68,qc16 r1)] (ok_fault_Add n b3 ((v6)[Int.toNat v8]?.getD zx12) _ hr1) (To.blockN (To.thenN (rg [2,3,6,7,8] [2,3] [(2,.own 2 0),(3,.own 3 0),(6,rs13 v6),(7,vi v7),(ex4 v8)] [(2,68,qc16 b2),(3,68,qc16 r1)] (kt [2,3,6,7,8] [2,3] [(2,.own 2 0),(3,.own 3 0),(6,rs13 v6),(7,vi v7),(ex4 v8)] [(2,68,qc16 b2),(3,68,qc16 r1)] (To.again ?_)))))
   exact ih (IntKind.wrap .i64 (v8 + 1)) r1 _ h hQ
  ·refine Wp.exit (To.thenX (To.thenX (kt [2,3] [2,3] [(2,.own 2 0),(3,.own 3 0)] [(2,68,qc16 b2),(3,68,qc16 b3)] ?_)))
   cases h
   exact hQ
def fault_Of (n:Nat) (a0:List (S_fault_Gap)):Option (S_fault_Plan) :=
 (fault_Of_l1 n a0 (List.length a0:Int) (S_fault_Plan.mk [] 0) n 0 (S_fault_Plan.mk [] 0)).bind fun o1 =>
 some o1
theorem ok_fault_Of (n:Nat) (a0:List (S_fault_Gap)) (r:S_fault_Plan) (h:fault_Of n a0 = some r):CallsX Tryz.prog 30 [rs13 a0] (.agg (qc16 r)):=by
 unfold fault_Of at h
 refine xo Tryz.f30 rfl fun F0 w0 _=>?_
 refine Wp.seq (rg [0,2] [2] [(0,rs13 a0),(2,.own 2 0)] [(2,68,[.val (.slice none 0 0),vi 0])] (To.thenN (Wp.seq (rg [0,2,3] [2,3] [(0,rs13 a0),(2,.own 2 0),(3,.own 3 0)] [(2,68,[.val (.slice none 0 0),vi 0]),(3,68,[.val (.slice none 0 0),vi 0])] (To.thenN (Wp.seq (Wp.seq (rg [2,3,6,7,8] [2,3] [(2,.own 2 0),(3,.own 3 0),(6,rs13 a0),(7,vi (List.length a0:Int)),(8,vi 0)] [(2,68,[.val (.slice none 0 0),vi 0]),(3,68,[.val (.slice none 0 0),vi 0])] (To.thenN (Wp.block ?_))))))))))
 obtain ⟨o1,ho1,h⟩:=bind_of h
 refine kw [2,3,6,7,8] [2,3] [(2,.own 2 0),(3,.own 3 0),(6,rs13 a0),(7,vi (List.length a0:Int)),(8,vi 0)] [(2,68,[.val (.slice none 0 0),vi 0]),(3,68,[.val (.slice none 0 0),vi 0])] (Wp.weak (K':=[(2,.own 2 0),(3,.own 3 0),(6,rs13 a0),(7,vi (List.length a0:Int)),(8,vi 0)]) (L':=[(2,68,[rs13 [],vi 0]),(3,68,[rs13 [],vi 0])]) (.cons (.refl _) (.cons (.refl _) (.cons (.refl _) (.cons (.refl _) (.cons (.refl _) .nil))))) (.cons (.cons (.zero _ _) (.cons (.refl _) .nil)) (.cons (.cons (.zero _ _) (.cons (.refl _) .nil)) .nil)) (Wp.loopL (ok_fault_Of_l1 n a0 (List.length a0:Int) zx17 n 0 zx17 o1 ho1 (To.blockX (To.thenN (Wp.seq (rg [2] [2] [(2,.own 2 0)] [(2,68,qc16 o1)] (To.thenN (Wp.ret ?_)))))))))
 cases h
 exact To.done hΓ (by kernel_rfl)
def host_New_o (n:Nat) (a0:List (S_fault_Gap)):Option (S_host_Host) :=
 lett (store_New_o) fun r1 =>
 (fault_Of n a0).bind fun r2 =>
 some (S_host_Host.mk r1 r2 0)
abbrev qh18 (e a b c d:Nat) (x:S_host_Host):List (Nat × Nat × List D):=(e,139,[.own a 0,rs13 x.f_plan.f_l,vi x.f_plan.f_more,vi x.f_now])::qf11 a b c d x.f_Store
theorem ok_host_New_o (n:Nat) (a0:List (S_fault_Gap)) (r:S_host_Host) (h:host_New_o n a0 = some r):CallsB Tryz.prog 27 [rs13 a0] [] (.own 1 0) (qh18 1 2 3 4 5 r):=by
 unfold host_New_o at h
 refine bo Tryz.f27 rfl fun F0 w0=>?_
 refine Wp.seq (rg [0] [] [(0,rs13 a0)] [] (To.thenN (Wp.seq ?_)))
 obtain ⟨r1,hr1,h⟩:=lett_of h
 obtain ⟨r2,hr2,h⟩:=bind_of h
 refine rr [] [(2,.agg (qc16 r2))] [(0,⟨[],[(1,3),(2,700122),(3,700123),(4,700124)],[],[],.own 1 0,(qf11 1 2 3 4 r1)⟩)] [2] [3,7,700122,700123,700124] [(2,.own 7 0)] [(3,109,[.mp 700122,.mp 700123,.mp 700124,vi r1.f_last]),(7,139,[.own 3 0,rs13 r2.f_l,vi r2.f_more,vi 0]),(700122,105,[mc9 r1.f_boxes]),(700123,107,[mc10 r1.f_nets]),(700124,107,[mc10 r1.f_vols])] [CbOb (CallsB Tryz.prog) 11 [] [] ⟨[],[(1,3),(2,700122),(3,700123),(4,700124)],[],[],.own 1 0,(qf11 1 2 3 4 r1)⟩,_] (AllP.cons (⟨(ok_store_New_o  _ hr1),by kernel_rfl,by kernel_rfl⟩) (AllP.cons (c1 (ok_fault_Of n a0 _ hr2)) AllP.nil)) ?_
 refine To.thenN (Wp.ret (nt [2] [3,7,700122,700123,700124] [(7,1),(3,2),(700122,3),(700123,4),(700124,5)] [2] [1,2,3,4,5] [(2,.own 1 0)] ((1,139,[.own 2 0,rs13 r2.f_l,vi r2.f_more,vi 0])::qf11 2 3 4 5 r1) ?_))
 cases h
 exact To.doneB hΓ [1,2,3,4,5] (by kernel_rfl) (by kernel_rfl)
def slices_Clone_fault_Gap_fault_Gap_o (n:Nat) (a0:List (S_fault_Gap)):Option ((List (S_fault_Gap))) :=
 if (decide ((List.length ([]:List (S_fault_Gap)) + List.length a0) * (16 + 1) ≤ limit)) = true then (some (([]:List (S_fault_Gap)) ++ a0)) else none
abbrev ex5 (x0:List (S_fault_Gap)):=(([]:List (S_fault_Gap)) ++ x0)
theorem ok_slices_Clone_fault_Gap_fault_Gap_o (n:Nat) (a0:List (S_fault_Gap)) (r:(List (S_fault_Gap))) (h:slices_Clone_fault_Gap_fault_Gap_o n a0 = some r):CallsB Tryz.prog 100 [rs13 a0] [] (.row 1) [(1,97,[rc14 r])]:=by
 unfold slices_Clone_fault_Gap_fault_Gap_o at h
 refine bo Tryz.f100 rfl fun F0 w0=>?_
 refine Wp.seq (rg [0] [] [(0,rs13 a0)] [] (To.thenN (Wp.seq (Wp.seq (Wp.nilR (e:=97) (neg:=false) (t0:=0) (t3:=3) (t4:=4) (α:=S_fault_Gap) (d:=zx12) (enc:=E_fault_Gap) (l:=a0) Tryz.underlying63 rfl rfl rfl rfl rfl rfl ⟨Nat.le_of_ble_eq_true (by kernel_rfl),Nat.le_of_ble_eq_true (by kernel_rfl),by decide⟩ (by kernel_rfl) (fun hl=>?_) ?_)))))
 ·subst hl
  have h:(some ([]:List (S_fault_Gap))) = some r:=by simpa using h
  refine To.thenN (Wp.cond (b:=true) (by kernel_rfl) (fun _=>?_) (fun hb=>by cases hb))
  refine Wp.seq (rg [2] [] [(2,.val (.slice none 0 0))] [] (To.thenN (Wp.ret (To.thenR (To.pre (St.vacant (t:=2) (k:=1002) (e:=97) (K':=[(2,.row 1002)]) (good_E_fault_Gap _) (by decide) (by kernel_rfl) (by kernel_rfl)) (kt [2] [1002] [(2,.row 1002)] [(1002,97,[rc14 []])] (To.pre (St.rename 1002 1 (by decide) (K':=[(2,.row 1)]) (L':=[(1,97,[rc14 []])]) (by kernel_rfl) (by kernel_rfl) (by kernel_rfl)) ?_)))))))
  cases h
  exact To.doneB hΓ [1] (by kernel_rfl) (by kernel_rfl)
 ·refine To.thenN (Wp.cond (b:=false) (by kernel_rfl) (fun hb=>by cases hb) (fun _=>(Wp.skip (To.thenN (Wp.seq ?_)))))
  obtain ⟨hc1,h⟩:=chk_of h
  refine rr [] [(0,rs13 []),(2,rs13 (ex5 a0))] [] [2] [7] [(2,.row 7)] [(7,97,[rc14 (ex5 a0)])] [(MkOb 2 [] 0 (rs13 []) ∧ GoodR (rs13 [])),_,(AppOb zx12 E_fault_Gap ([]:List (S_fault_Gap)) (List.flatMap E_fault_Gap a0) (List.length a0) (rs13 (ex5 a0)) ∧ GoodR (rs13 (ex5 a0)))] (AllP.cons (mkOb (by kernel_rfl) rfl (by kernel_rfl) (good_E_fault_Gap _)) (AllP.cons hc1 (AllP.cons (appOb rfl rfl (good_E_fault_Gap _)) AllP.nil))) (To.thenN (Wp.ret (nt [2] [7] [(7,1002)] [2] [1002] [(2,.row 1002)] [(1002,97,[rc14 (ex5 a0)])] (To.pre (St.rename 1002 1 (by decide) (K':=[(2,.row 1)]) (L':=[(1,97,[rc14 (ex5 a0)])]) (by kernel_rfl) (by kernel_rfl) (by kernel_rfl)) ?_))))
  cases h
  exact To.doneB hΓ [1] (by kernel_rfl) (by kernel_rfl)
def fault_Next_j1 (n:Nat) (v22:Bool) (b1:S_fault_Plan) (b2:S_fault_Plan) (b4:S_fault_Gap):Option (S_fault_Gap) :=
 if v22 = true then (some (S_fault_Gap.mk (IntKind.wrap .i64 (b4.f_Skip - 1)) b4.f_Fail))
 else (some (S_fault_Gap.mk b4.f_Skip (IntKind.wrap .i64 (b4.f_Fail - 1))))
theorem ok_fault_Next_j1 (n:Nat) (v22:Bool) (b1:S_fault_Plan) (b2:S_fault_Plan) (b4:S_fault_Gap) (o:S_fault_Gap) (h:fault_Next_j1 n v22 b1 b2 b4 = some o) {F0:Fz} {w0:Pt Tryz.prog} {Q:Exit → Act → World → Prop} (hQ:To 58 F0 w0 [(1,.own 1 0),(2,.own 2 0),(4,.own 4 0)] [(1,68,qc16 b1),(2,68,qc16 b2),(4,97,qc1 o)] .normal Q):Wp Tryz.prog 58 F0 w0 [(1,.own 1 0),(2,.own 2 0),(4,.own 4 0),(22,vb v22)] [(1,68,qc16 b1),(2,68,qc16 b2),(4,97,qc1 b4)] (cB (cA (cB (cB (cB (cF Tryz.f69)))))) Q:=by
 unfold fault_Next_j1 at h
 refine cn h (fun h=>?_) (fun h=>?_)
 ·refine rg [1,2,4] [1,2,4] [(1,.own 1 0),(2,.own 2 0),(4,.own 4 0)] [(1,68,qc16 b1),(2,68,qc16 b2),(4,97,[vi (IntKind.wrap .i64 (b4.f_Skip - 1)),vi b4.f_Fail])] (kt [1,2,4] [1,2,4] [(1,.own 1 0),(2,.own 2 0),(4,.own 4 0)] [(1,68,qc16 b1),(2,68,qc16 b2),(4,97,[vi (IntKind.wrap .i64 (b4.f_Skip - 1)),vi b4.f_Fail])] ?_)
  cases h
  exact hQ
 ·refine rg [1,2,4] [1,2,4] [(1,.own 1 0),(2,.own 2 0),(4,.own 4 0)] [(1,68,qc16 b1),(2,68,qc16 b2),(4,97,[vi b4.f_Skip,vi (IntKind.wrap .i64 (b4.f_Fail - 1))])] (kt [1,2,4] [1,2,4] [(1,.own 1 0),(2,.own 2 0),(4,.own 4 0)] [(1,68,qc16 b1),(2,68,qc16 b2),(4,97,[vi b4.f_Skip,vi (IntKind.wrap .i64 (b4.f_Fail - 1))])] ?_)
  cases h
  exact hQ
def fault_Next (n:Nat) (a0:S_fault_Plan):Option (S_fault_Plan × Bool) :=
 if ((List.length a0.f_l:Int) == 0) = true then (some ((S_fault_Plan.mk a0.f_l (if (0:Int) > (IntKind.wrap .i64 (a0.f_more - 1)) then 0 else (IntKind.wrap .i64 (a0.f_more - 1)))),false))
 else (if (decide (0 ≤ (0:Int) ∧ (0:Int) < (List.length a0.f_l:Int))) = true then ((fault_Next_j1 n (decide ((((a0.f_l)[Int.toNat 0]?.getD (S_fault_Gap.mk 0 0)).f_Skip) > 0)) a0 (S_fault_Plan.mk [] 0) ((a0.f_l)[Int.toNat 0]?.getD (S_fault_Gap.mk 0 0))).bind fun o1 =>
 if (decide (0 ≤ (0:Int) ∧ (0:Int) < (List.length a0.f_l:Int))) = true then (if (o1.f_Fail == 0) = true then (if (decide (0 ≤ (1:Int) ∧ (1:Int) ≤ (List.length a0.f_l:Int))) = true then (some ((S_fault_Plan.mk (List.drop (Int.toNat 1) a0.f_l) a0.f_more),(decide (o1.f_Fail < (((a0.f_l)[Int.toNat 0]?.getD (S_fault_Gap.mk 0 0)).f_Fail))))) else none)
 else ((slices_Clone_fault_Gap_fault_Gap_o n a0.f_l).bind fun r3 =>
 if (decide (0 ≤ (0:Int) ∧ (0:Int) < (List.length r3:Int))) = true then (some ((S_fault_Plan.mk (List.set r3 (Int.toNat 0) o1) a0.f_more),(decide (o1.f_Fail < (((a0.f_l)[Int.toNat 0]?.getD (S_fault_Gap.mk 0 0)).f_Fail))))) else none)) else none) else none)
abbrev ex6 (x0:S_fault_Plan):=((x0.f_l)[Int.toNat 0]?.getD zx12)
abbrev ex7 (x0:S_fault_Plan):=(if (0:Int) > (IntKind.wrap .i64 (x0.f_more - 1)) then 0 else (IntKind.wrap .i64 (x0.f_more - 1)))
abbrev ex22 (x0:S_fault_Plan):Nat × Nat × List D:=(4,97,[vi ((ex6 x0).f_Skip),vi ((ex6 x0).f_Fail)])
theorem ok_fault_Next (n:Nat) (a0:S_fault_Plan) (r:S_fault_Plan × Bool) (h:fault_Next n a0 = some r):CallsX Tryz.prog 69 [.agg (qc16 a0)] (.tup [.agg (qc16 r.1),vb r.2]):=by
 unfold fault_Next at h
 refine xo Tryz.f69 rfl fun F0 w0 _=>?_
 refine Wp.seq (rg [1,2] [1,2] [(1,.own 1 0),(2,.own 2 0)] [(1,68,qc16 a0),(2,68,[.val (.slice none 0 0),vi 0])] (To.thenN (Wp.seq (Wp.seq (rg [1,2,9] [1,2] [(1,.own 1 0),(2,.own 2 0),(9,vb ((List.length a0.f_l:Int) == 0))] [(1,68,qc16 a0),(2,68,[.val (.slice none 0 0),vi 0])] (To.thenN (cn h (fun h=>?_) (fun h=>?_))))))))
 ·refine Wp.seq (rg [1,2] [1,2] [(1,.own 1 0),(2,.own 2 0)] [(1,68,[rs13 a0.f_l,vi (ex7 a0)]),(2,68,[.val (.slice none 0 0),vi 0])] (To.thenN (Wp.seq (rg [2,3] [2] [(2,.own 2 0),(3,vb false)] [(2,68,[rs13 a0.f_l,vi (ex7 a0)])] (To.thenN (Wp.ret (To.thenR ?_)))))))
  cases h
  exact To.done hΓ (by kernel_rfl)
 ·refine Wp.skip (To.thenN (Wp.seq ?_))
  obtain ⟨hc6,h⟩:=chk_of h
  refine r0 [1,2,4] [1,2,4] [(1,.own 1 0),(2,.own 2 0),(4,.own 4 0)] [(1,68,qc16 a0),(2,68,[.val (.slice none 0 0),vi 0]),(ex22 a0)] (AllP.cons hc6 AllP.nil) (To.thenN (Wp.seq (Wp.seq (rg [1,2,4,22] [1,2,4] [(1,.own 1 0),(2,.own 2 0),(4,.own 4 0),(22,vb (decide (((ex6 a0).f_Skip) > 0)))] [(1,68,qc16 a0),(2,68,[.val (.slice none 0 0),vi 0]),(ex22 a0)] (To.thenN ?_)))))
  obtain ⟨o1,ho1,h⟩:=bind_of h
  refine kw [1,2,4,22] [1,2,4] [(1,.own 1 0),(2,.own 2 0),(4,.own 4 0),(22,vb (decide (((ex6 a0).f_Skip) > 0)))] [(1,68,qc16 a0),(2,68,[.val (.slice none 0 0),vi 0]),(ex22 a0)] (Wp.weak (K':=[(1,.own 1 0),(2,.own 2 0),(4,.own 4 0),(22,vb (decide (((ex6 a0).f_Skip) > 0)))]) (L':=[(1,68,qc16 a0),(2,68,[rs13 [],vi 0]),(ex22 a0)]) (.cons (.refl _) (.cons (.refl _) (.cons (.refl _) (.cons (.refl _) .nil)))) (.cons (.cons (.refl _) (.cons (.refl _) .nil)) (.cons (.cons (.zero _ _) (.cons (.refl _) .nil)) (.cons (.cons (.refl _) (.cons (.refl _) .nil)) .nil))) (ok_fault_Next_j1 n (decide (((ex6 a0).f_Skip) > 0)) a0 zx17 (ex6 a0) o1 ho1 (To.thenN (Wp.seq ?_))))
  obtain ⟨hc5,h⟩:=chk_of h
  refine Wp.regionD hm hΓ [] [1,2,4,5] [1,2,4] (K':=[(1,.own 1 0),(2,.own 2 0),(4,.own 4 0),(5,vb (decide (o1.f_Fail < ((ex6 a0).f_Fail))))]) (L':=[(1,68,qc16 a0),(2,68,[rs13 [],vi 0]),(4,97,qc1 o1)]) (ob:=[(decide (0 ≤ (0:Int) ∧ (0:Int) < (List.length a0.f_l:Int))) = true]) (by kernel_rfl) (AllP.cons hc5 AllP.nil) (To.thenN (Wp.seq (Wp.seq (rg [1,2,4,5,41] [1,2,4] [(1,.own 1 0),(2,.own 2 0),(4,.own 4 0),(5,vb (decide (o1.f_Fail < ((ex6 a0).f_Fail)))),(41,vb (o1.f_Fail == 0))] [(1,68,qc16 a0),(2,68,[rs13 [],vi 0]),(4,97,qc1 o1)] (To.thenN (cn h (fun h=>?_) (fun h=>?_)))))))
  ·refine Wp.seq ?_
   obtain ⟨hc2,h⟩:=chk_of h
   refine r0 [1,2,5] [1,2] [(1,.own 1 0),(2,.own 2 0),(5,vb (decide (o1.f_Fail < ((ex6 a0).f_Fail))))] [(1,68,[rs13 (List.drop (Int.toNat 1) a0.f_l),vi a0.f_more]),(2,68,[rs13 [],vi 0])] (AllP.cons hc2 AllP.nil) (To.thenN (Wp.seq (rg [2,3] [2] [(2,.own 2 0),(3,vb (decide (o1.f_Fail < ((ex6 a0).f_Fail))))] [(2,68,[rs13 (List.drop (Int.toNat 1) a0.f_l),vi a0.f_more])] (To.thenN (Wp.ret (To.thenR ?_))))))
   cases h
   exact To.done hΓ (by kernel_rfl)
  ·refine Wp.skip (To.thenN (Wp.seq ?_))
   obtain ⟨r3,hr3,h⟩:=bind_of h
   refine rb [] 2 ⟨[],[(1,50)],[rs13 a0.f_l],[],.row 1,[(1,97,[rc14 r3])]⟩ [1,2,4,5] [1,2,4,50] [(1,.own 1 0),(2,.own 2 0),(4,.own 4 0),(5,vb (decide (o1.f_Fail < ((ex6 a0).f_Fail))))] [(1,68,[.row 50,vi a0.f_more]),(2,68,[rs13 [],vi 0]),(4,97,qc1 o1),(50,97,[rc14 r3])] ((ok_slices_Clone_fault_Gap_fault_Gap_o n a0.f_l _ hr3)) (To.thenN (Wp.seq ?_))
   obtain ⟨hc4,h⟩:=chk_of h
   refine rr [] [(4,rs13 (List.set r3 (Int.toNat 0) o1))] [] [1,2,5] [1,2,50] [(1,.own 1 0),(2,.own 2 0),(5,vb (decide (o1.f_Fail < ((ex6 a0).f_Fail))))] [(1,68,[.row 50,vi a0.f_more]),(2,68,[rs13 [],vi 0]),(50,97,[rc14 (List.set r3 (Int.toNat 0) o1)])] [_,_,UpdOb zx12 E_fault_Gap r3 0 0 (qc1 o1) (rs13 (List.set r3 (Int.toNat 0) o1))] (AllP.cons hc4 (AllP.cons hc4 (AllP.cons (updOb (by kernel_rfl)) AllP.nil))) (To.thenN (Wp.seq (rg [2,3] [2,50] [(2,.own 2 0),(3,vb (decide (o1.f_Fail < ((ex6 a0).f_Fail))))] [(2,68,[.row 50,vi a0.f_more]),(50,97,[rc14 (List.set r3 (Int.toNat 0) o1)])] (To.thenN (Wp.ret (To.pre (St.settle (ks:=[50]) (kk:=[2,3]) (kl:=[2,50]) (K':=[(2,.own 2 0),(3,vb (decide (o1.f_Fail < ((ex6 a0).f_Fail))))]) (L':=[(2,68,[.row 50,vi a0.f_more]),(50,97,[rc15 (List.set r3 (Int.toNat 0) o1)])]) (by kernel_rfl)) (To.pre (St.sealB [2] (L':=[(2,68,[rs13 (List.set r3 (Int.toNat 0) o1),vi a0.f_more]),(50,97,[rc15 (List.set r3 (Int.toNat 0) o1)])]) (by kernel_rfl)) ?_)))))))
   cases h
   exact To.done hΓ (by kernel_rfl)
def store_put__m0 (a1:S_api_Call) (h0:List (MK × S_api_Kept)):Int × (List (MK × S_api_Kept)) :=
 if (bif (a1.f_Name == []) then true else (decide ((List.length a1.f_Name:Int) > 64))) = true then ((2,h0))
 else (if (mlook h0 (.inl a1.f_Name)).isSome = true then ((11,h0))
 else (if (decide ((List.length h0:Int) ≥ 32)) = true then ((14,h0))
 else ((0,(mput h0 (.inl a1.f_Name) (S_api_Kept.mk a1.f_Name a1.f_Spec.f_Project))))))
abbrev ex8 (x0:S_api_Call):=(S_api_Kept.mk x0.f_Name x0.f_Spec.f_Project)
theorem ok_store_put__m0 (a1:S_api_Call) (h0:List (MK × S_api_Kept)) (r:Int × (List (MK × S_api_Kept))) (h:store_put__m0 a1 h0 = r):CallsB Tryz.prog 50 [.mp 1000000,.agg (qc2 a1)] [(1000000,107,[mc10 h0])] (vi r.1) [(1000000,107,[mc10 r.2])]:=by
 unfold store_put__m0 at h
 refine bo Tryz.f50 rfl fun F0 w0=>?_
 refine Wp.seq (rg [0,3] [3,1000000] [(0,.mp 1000000),(3,.own 3 0)] [(3,40,(E_api_Call a1)),(1000000,107,[mc10 h0])] (To.thenN (Wp.seq (rr [] [(3,.tup [.agg [.str (((mlook h0 (.inl a1.f_Name)).getD zx7).f_Name),.str (((mlook h0 (.inl a1.f_Name)).getD zx7).f_Project)],vb ((mlook h0 (.inl a1.f_Name)).isSome)])] [] [0,3,6] [3,1000000] [(0,.mp 1000000),(3,.own 3 0),(6,vb ((mlook h0 (.inl a1.f_Name)).isSome))] [(3,40,(E_api_Call a1)),(1000000,107,[mc10 h0])] [(true = true → LookOkOb true E_api_Kept h0 (.inl a1.f_Name) [.str [],.str []] (.tup [.agg [.str (((mlook h0 (.inl a1.f_Name)).getD zx7).f_Name),.str (((mlook h0 (.inl a1.f_Name)).getD zx7).f_Project)],vb ((mlook h0 (.inl a1.f_Name)).isSome)]))] (AllP.cons (fun _=>⟨zx7,.agg [.str (((mlook h0 (.inl a1.f_Name)).getD zx7).f_Name),.str (((mlook h0 (.inl a1.f_Name)).getD zx7).f_Project)],Weaks.of_eq (by kernel_rfl),by kernel_rfl,by kernel_rfl⟩) AllP.nil) ?_))))
 refine To.thenN (Wp.seq (Wp.block (Wp.seq (rg [0,3,6,14] [3,1000000] [(0,.mp 1000000),(3,.own 3 0),(6,vb ((mlook h0 (.inl a1.f_Name)).isSome)),(14,vb (bif (a1.f_Name == []) then true else (decide ((List.length a1.f_Name:Int) > 64))))] [(3,40,(E_api_Call a1)),(1000000,107,[mc10 h0])] (To.thenN (cn h (fun h=>?_) (fun h=>?_)))))))
 ·refine Wp.seq (rg [4] [1000000] [(4,vi 2)] [(1000000,107,[mc10 h0])] (To.thenN (Wp.ret (To.blockR (To.thenR ?_)))))
  cases h
  exact To.doneB hΓ [1000000] (by kernel_rfl) (by kernel_rfl)
 ·refine Wp.seq (rg [0,3,24] [3,1000000] [(0,.mp 1000000),(3,.own 3 0),(24,vb ((mlook h0 (.inl a1.f_Name)).isSome))] [(3,40,(E_api_Call a1)),(1000000,107,[mc10 h0])] (To.thenN (cn h (fun h=>?_) (fun h=>?_))))
  ·refine Wp.seq (rg [4] [1000000] [(4,vi 11)] [(1000000,107,[mc10 h0])] (To.thenN (Wp.ret (To.blockR (To.thenR ?_)))))
   cases h
   exact To.doneB hΓ [1000000] (by kernel_rfl) (by kernel_rfl)
  ·refine Wp.seq (rg [0,3,26] [3,1000000] [(0,.mp 1000000),(3,.own 3 0),(26,vb (decide ((List.length h0:Int) ≥ 32)))] [(3,40,(E_api_Call a1)),(1000000,107,[mc10 h0])] (To.thenN (cn h (fun h=>?_) (fun h=>?_))))
   ·refine Wp.seq (rg [4] [1000000] [(4,vi 14)] [(1000000,107,[mc10 h0])] (To.thenN (Wp.ret (To.blockR (To.thenR ?_)))))
    cases h
    exact To.doneB hΓ [1000000] (by kernel_rfl) (by kernel_rfl)
   ·refine Wp.skip (To.blockN (To.thenN (Wp.seq (rr [] [(9,mc10 (mput h0 (.inl a1.f_Name) (ex8 a1)))] [] [] [1000000] [] [(1000000,107,[mc10 (mput h0 (.inl a1.f_Name) (ex8 a1))])] [(∃ l':List (MK × S_api_Kept),(mc10 (mput h0 (.inl a1.f_Name) (ex8 a1)):D) = mc10 l' ∧ MsetOb E_api_Kept h0 (.inl a1.f_Name) [.str a1.f_Name,.str a1.f_Spec.f_Project] l')] (AllP.cons (⟨_,rfl,(ex8 a1),Weaks.of_eq (by kernel_rfl),rfl⟩) AllP.nil) (To.thenN (Wp.seq (rg [4] [1000000] [(4,vi 0)] [(1000000,107,[mc10 (mput h0 (.inl a1.f_Name) (ex8 a1))])] (To.thenN (Wp.ret ?_)))))))))
    cases h
    exact To.doneB hΓ [1000000] (by kernel_rfl) (by kernel_rfl)
def E_api_Spec:S_api_Spec → List D:=fun x=>[.str x.f_Name,.str x.f_Project,.str x.f_Service,.val (.int .i64 x.f_Number),.str x.f_Hash,.recs (α:=List UInt8) [] E_string x.f_Nets,.recs (α:=List UInt8) [] E_string x.f_Vols,.str x.f_Health.f_Test,.val (.int .i64 x.f_Health.f_Every),.val (.int .i64 x.f_Health.f_Start),.val (.int .i64 x.f_Health.f_Retries),.val (.int .i64 x.f_Restart),.val (.int .i64 x.f_Tries)]
def store_Store_Do_1 (a0:S_api_Spec):(List (List UInt8)) :=
 a0.f_Nets
abbrev qc19 (x:S_api_Spec):List D:=[.str x.f_Name,.str x.f_Project,.str x.f_Service,vi x.f_Number,.str x.f_Hash,ls x.f_Nets,ls x.f_Vols,.str x.f_Health.f_Test,vi x.f_Health.f_Every,vi x.f_Health.f_Start,vi x.f_Health.f_Retries,vi x.f_Restart,vi x.f_Tries]
theorem ok_store_Store_Do_1 (a0:S_api_Spec) (r:(List (List UInt8))) (h:store_Store_Do_1 a0 = r):CallsX Tryz.prog 52 [.agg (qc19 a0)] (ls r):=by
 unfold store_Store_Do_1 at h
 refine xo Tryz.f52 rfl fun F0 w0 _=>?_
 refine Wp.seq (rg [1] [1] [(1,.own 1 0)] [(1,38,(E_api_Spec a0))] (To.thenN (Wp.seq (rg [2] [] [(2,ls a0.f_Nets)] [] (To.thenN (Wp.ret ?_))))))
 cases h
 exact To.done hΓ (by kernel_rfl)
def slices_Index_string_string_l1 (n:Nat) (v0:List (List UInt8)) (v1:List UInt8) (v7:Int):Nat → Int → Option (Sum (Unit) (Int))
 | 0,_=>none
 | k + 1,v8=>if (decide (v8 < v7)) = true then (if (decide (0 ≤ v8 ∧ v8 < (List.length v0:Int))) = true then (if (v1 == ((v0)[Int.toNat v8]?.getD [])) = true then (some (.inr v8))
 else (slices_Index_string_string_l1 n v0 v1 v7 k (IntKind.wrap .i64 (v8 + 1)))) else none)
 else (some (.inl ()))
theorem ok_slices_Index_string_string_l1 (n:Nat) (v0:List (List UInt8)) (v1:List UInt8) (v7:Int) {F0:Fz} {w0:Pt Tryz.prog} {Q:Exit → Act → World → Prop} (k:Nat):∀ (v8:Int) (o:Sum (Unit) (Int)),slices_Index_string_string_l1 n v0 v1 v7 k v8 = some o → (Sum.elim (fun s=>To 19 F0 w0 [] [] (.exit 0) Q) (fun s=>To 19 F0 w0 [(4,vi s)] [] .ret Q)) o → WL Tryz.prog 19 F0 w0 [(0,ls v0),(1,.str v1),(7,vi v7),(8,vi v8)] [] (cI (cI (cB (cA (cB (cF Tryz.f141)))))) Q:=by
 induction k with
 | zero=>intro v8 o h; cases h
 | succ k ih =>
  intro v8 o h hQ
  rw [slices_Index_string_string_l1] at h
  refine WL.round (Wp.seq (rg [0,1,7,8,9] [] [(0,ls v0),(1,.str v1),(7,vi v7),(8,vi v8),(9,vb (decide (v8 < v7)))] [] (To.thenN (Wp.seq (cn h (fun h=>?_) (fun h=>?_))))))
  ·refine Wp.skip (To.thenN (Wp.seq (Wp.block (Wp.seq (rg [0,1,5,7,8] [] [(0,ls v0),(1,.str v1),(5,vi v8),(7,vi v7),(8,vi v8)] [] (To.thenN (Wp.seq ?_)))))))
   obtain ⟨hc1,h⟩:=chk_of h
   refine r0 [0,1,5,7,8,16] [] [(0,ls v0),(1,.str v1),(5,vi v8),(7,vi v7),(8,vi v8),(16,vb (v1 == ((v0)[Int.toNat v8]?.getD [])))] [] (AllP.cons hc1 AllP.nil) (To.thenN (cn h (fun h=>?_) (fun h=>?_)))
   ·refine Wp.seq (rg [4] [] [(4,vi v8)] [] (To.thenN (Wp.ret (To.blockR (To.thenR (To.thenR ?_))))))
    cases h
    exact hQ
   ·refine Wp.skip (To.blockN (To.thenN (rg [0,1,7,8] [] [(0,ls v0),(1,.str v1),(7,vi v7),(ex4 v8)] [] (kt [0,1,7,8] [] [(0,ls v0),(1,.str v1),(7,vi v7),(ex4 v8)] [] (To.again ?_)))))
    exact ih (IntKind.wrap .i64 (v8 + 1)) _ h hQ
  ·refine Wp.exit (To.thenX (To.thenX (kt [] [] [] [] ?_)))
   cases h
   exact hQ
def slices_Index_string_string (n:Nat) (a0:List (List UInt8)) (a1:List UInt8):Option (Int) :=
 (slices_Index_string_string_l1 n a0 a1 (List.length a0:Int) n 0).bind fun o1 =>
 (Sum.elim (fun o1=>some (-1)) (fun o1=>some o1)) o1
theorem ok_slices_Index_string_string (n:Nat) (a0:List (List UInt8)) (a1:List UInt8) (r:Int) (h:slices_Index_string_string n a0 a1 = some r):CallsX Tryz.prog 141 [ls a0,.str a1] (vi r):=by
 unfold slices_Index_string_string at h
 refine xo Tryz.f141 rfl fun F0 w0 _=>?_
 refine Wp.seq (rg [0,1] [] [(0,ls a0),(1,.str a1)] [] (To.thenN (Wp.seq (Wp.seq (rg [0,1,7,8] [] [(0,ls a0),(1,.str a1),(7,vi (List.length a0:Int)),(8,vi 0)] [] (To.thenN (Wp.block ?_)))))))
 obtain ⟨o1,ho1,h⟩:=bind_of h
 refine kw [0,1,7,8] [] [(0,ls a0),(1,.str a1),(7,vi (List.length a0:Int)),(8,vi 0)] [] (Wp.loopL (ok_slices_Index_string_string_l1 n a0 a1 (List.length a0:Int) n 0 o1 ho1 ?_))
 rcases o1 with o1 | o1
 ·replace h:=sum_l h
  refine To.blockX (To.thenN (Wp.seq (rg [4] [] [(4,vi (-1))] [] (To.thenN (Wp.ret ?_)))))
  cases h
  exact To.done hΓ (by kernel_rfl)
 ·replace h:=sum_r h
  refine To.blockR (To.thenR ?_)
  cases h
  exact To.done hΓ (by kernel_rfl)
def slices_Contains_string_string (n:Nat) (a0:List (List UInt8)) (a1:List UInt8):Option (Bool) :=
 (slices_Index_string_string n a0 a1).bind fun r1 =>
 some (decide (r1 ≥ 0))
theorem ok_slices_Contains_string_string (n:Nat) (a0:List (List UInt8)) (a1:List UInt8) (r:Bool) (h:slices_Contains_string_string n a0 a1 = some r):CallsX Tryz.prog 119 [ls a0,.str a1] (vb r):=by
 unfold slices_Contains_string_string at h
 refine xo Tryz.f119 rfl fun F0 w0 _=>?_
 refine Wp.seq (rg [0,1] [] [(0,ls a0),(1,.str a1)] [] (To.thenN (Wp.seq ?_)))
 obtain ⟨r1,hr1,h⟩:=bind_of h
 refine rc [] 2 [4] [] [(4,vb (decide (r1 ≥ 0)))] [] (ok_slices_Index_string_string n a0 a1 _ hr1) (To.thenN (Wp.ret ?_))
 cases h
 exact To.done hΓ (by kernel_rfl)
def name_In (n:Nat) (a0:List (List UInt8)) (a1:List UInt8):Option (Bool) :=
 (slices_Contains_string_string n a0 a1).bind fun r1 =>
 some r1
theorem ok_name_In (n:Nat) (a0:List (List UInt8)) (a1:List UInt8) (r:Bool) (h:name_In n a0 a1 = some r):CallsX Tryz.prog 84 [ls a0,.str a1] (vb r):=by
 unfold name_In at h
 refine xo Tryz.f84 rfl fun F0 w0 _=>?_
 refine Wp.seq (rg [0,1] [] [(0,ls a0),(1,.str a1)] [] (To.thenN (Wp.seq ?_)))
 obtain ⟨r1,hr1,h⟩:=bind_of h
 refine rc [] 2 [4] [] [(4,vb r1)] [] (ok_slices_Contains_string_string n a0 a1 _ hr1) (To.thenN (Wp.ret ?_))
 cases h
 exact To.done hΓ (by kernel_rfl)
def store_Store_drop__o0__m0n61__store_Store_Do_1_m1 (n:Nat) (v2:List UInt8) (b1000000:S_store_Store) (x:MK × S_life_Box):Option (Sum (Unit) (Int)) :=
 (name_In n (store_Store_Do_1 x.2.f_Spec) v2).bind fun r2 =>
 if r2 = true then (some (.inr 17))
 else (some (.inl ()))
abbrev ex9 (x0:S_store_Store):Nat × Nat × List D:=(1000000,109,[.mp 1010060,.mp 1010061,.mp 1010062,vi x0.f_last])
abbrev ex10 (x0:S_store_Store):Nat × Nat × List D:=(1010061,107,[mc10 x0.f_nets])
abbrev ex11 (x0:S_store_Store):Nat × Nat × List D:=(1010062,107,[mc10 x0.f_vols])
theorem ok_store_Store_drop__o0__m0n61__store_Store_Do_1_m1 (n:Nat) (v2:List UInt8) (b1000000:S_store_Store) (x:MK × S_life_Box) (o:Sum (Unit) (Int)) (h:store_Store_drop__o0__m0n61__store_Store_Do_1_m1 n v2 b1000000 x = some o) {F0:Fz} {w0:Pt Tryz.prog} {Q:Exit → Act → World → Prop} {b0 clock0 r0 j:Nat} {seen:Array Nat} {es0:Array MapEntry} {em:MapEntry} (hj:es0[j]? = some em) (hx:(b1000000.f_boxes)[j]? = some x) (hQ:(Sum.elim (fun s=>To 38 F0 w0 [(1,.mp 1010061),(2,.str v2),(3,.fn 52 []),(25,.val (.pointer (some ⟨r0,0,none⟩)))] [(25,0,[iterD r0 b0 clock0 (seen.push em.born)]),(ex9 b1000000),(1010060,105,[lockD b0 es0 clock0 (some .i64) true (α:=S_life_Box) E_life_Box b1000000.f_boxes]),(ex10 b1000000),(ex11 b1000000)] .normal Q) (fun s=>To 38 F0 w0 [(8,vi s)] [(25,0,[iterD r0 b0 clock0 (seen.push em.born)]),(ex9 b1000000),(1010060,105,[lockD b0 es0 clock0 (some .i64) true (α:=S_life_Box) E_life_Box b1000000.f_boxes]),(ex10 b1000000),(ex11 b1000000)] .ret Q)) o):Wp Tryz.prog 38 F0 w0 [(1,.mp 1010061),(2,.str v2),(3,.fn 52 []),(25,.val (.pointer (some ⟨r0,0,none⟩)))] [(25,0,[iterD r0 b0 clock0 (seen.push em.born)]),(ex9 b1000000),(1010060,105,[lockD b0 es0 clock0 (some .i64) true (α:=S_life_Box) E_life_Box b1000000.f_boxes]),(ex10 b1000000),(ex11 b1000000)] (cB (cB (cI (cI (cB (cA (cB (cB (cF Tryz.f51))))))))) Q:=by
 unfold store_Store_drop__o0__m0n61__store_Store_Do_1_m1 at h
 refine Wp.block (Wp.seq (Wp.rangeEntry hΓ (u:=25) (te:=28) (k:=1010060) (ki:=25) (tt:=105) (t2:=0) (r:=r0) (b:=b0) (clock:=clock0) (seen:=seen) (es:=es0) (em:=em) (kd:=(some .i64)) (ag:=true) (enc:=E_life_Box) (m:=b1000000.f_boxes) (x:=x) (dv:=.agg (qc3 x.2)) [] [] [] [1,2,3,12,25] [12,25,1000000,1010060,1010061,1010062] hj hx rfl rfl rfl (Nat.le_of_ble_eq_true (by kernel_rfl)) (by kernel_rfl) (by kernel_rfl) (by kernel_rfl) (by kernel_rfl) (by kernel_rfl) (K':=[(1,.mp 1010061),(2,.str v2),(3,.fn 52 []),(12,.own 12 0),(25,.val (.pointer (some ⟨r0,0,none⟩)))]) (L':=[(12,53,(E_life_Box x.2)),(25,0,[iterD r0 b0 clock0 (seen.push em.born)]),(ex9 b1000000),(1010060,105,[lockD b0 es0 clock0 (some .i64) true (α:=S_life_Box) E_life_Box b1000000.f_boxes]),(ex10 b1000000),(ex11 b1000000)]) (ob:=[]) (by kernel_rfl) AllP.nil (To.thenN (Wp.seq ?_))))
 obtain ⟨r2,hr2,h⟩:=bind_of h
 refine rr [] [(3,ls (store_Store_Do_1 x.2.f_Spec)),(5,vb r2)] [] [1,2,3,25,35] [25,1000000,1010060,1010061,1010062] [(1,.mp 1010061),(2,.str v2),(3,.fn 52 []),(25,.val (.pointer (some ⟨r0,0,none⟩))),(35,vb r2)] [(25,0,[iterD r0 b0 clock0 (seen.push em.born)]),(ex9 b1000000),(1010060,105,[lockD b0 es0 clock0 (some .i64) true (α:=S_life_Box) E_life_Box b1000000.f_boxes]),(ex10 b1000000),(ex11 b1000000)] [_,_] (AllP.cons (c1 (ok_store_Store_Do_1 x.2.f_Spec _ rfl)) (AllP.cons (c1 (ok_name_In n (store_Store_Do_1 x.2.f_Spec) v2 _ hr2)) AllP.nil)) (To.thenN (cn h (fun h=>?_) (fun h=>?_)))
 ·refine Wp.seq (rg [8] [25,1000000,1010060,1010061,1010062] [(8,vi 17)] [(25,0,[iterD r0 b0 clock0 (seen.push em.born)]),(ex9 b1000000),(1010060,105,[lockD b0 es0 clock0 (some .i64) true (α:=S_life_Box) E_life_Box b1000000.f_boxes]),(ex10 b1000000),(ex11 b1000000)] (To.thenN (Wp.ret (To.blockR ?_))))
  cases h
  exact hQ
 ·refine Wp.skip (To.blockN (kt [1,2,3,25] [25,1000000,1010060,1010061,1010062] [(1,.mp 1010061),(2,.str v2),(3,.fn 52 []),(25,.val (.pointer (some ⟨r0,0,none⟩)))] [(25,0,[iterD r0 b0 clock0 (seen.push em.born)]),(ex9 b1000000),(1010060,105,[lockD b0 es0 clock0 (some .i64) true (α:=S_life_Box) E_life_Box b1000000.f_boxes]),(ex10 b1000000),(ex11 b1000000)] ?_))
  cases h
  exact hQ
def store_Store_drop__o0__m0n61__store_Store_Do_1 (n:Nat) (a2:List UInt8) (h0:S_store_Store):Option (Int × S_store_Store) :=
 if (!((mlook h0.f_nets (.inl a2)).isSome)) = true then (some (12,h0))
 else ((roundAll (store_Store_drop__o0__m0n61__store_Store_Do_1_m1 n a2 h0) h0.f_boxes).bind fun o2 =>
 Sum.elim (fun _=>some (0,(S_store_Store.mk h0.f_boxes (mdel h0.f_nets (.inl a2)) h0.f_vols h0.f_last))) (fun y=>some (y,h0)) o2)
theorem ok_store_Store_drop__o0__m0n61__store_Store_Do_1 (n:Nat) (a2:List UInt8) (h0:S_store_Store) (r:Int × S_store_Store) (h:store_Store_drop__o0__m0n61__store_Store_Do_1 n a2 h0 = some r):CallsB Tryz.prog 51 [.own 1000000 0,.mp 1010061,.str a2,.fn 52 []] (qf11 1000000 1010060 1010061 1010062 h0) (vi r.1) (qf11 1000000 1010060 1010061 1010062 r.2):=by
 unfold store_Store_drop__o0__m0n61__store_Store_Do_1 at h
 refine bo Tryz.f51 rfl fun F0 w0=>?_
 refine Wp.seq (rg [0,1,2,3] [1000000,1010060,1010061,1010062] [(0,.own 1000000 0),(1,.mp 1010061),(2,.str a2),(3,.fn 52 [])] (qf11 1000000 1010060 1010061 1010062 h0) (To.thenN (Wp.seq (Wp.seq (rr [] [(2,.tup [.agg [.str (((mlook h0.f_nets (.inl a2)).getD zx7).f_Name),.str (((mlook h0.f_nets (.inl a2)).getD zx7).f_Project)],vb ((mlook h0.f_nets (.inl a2)).isSome)])] [] [0,1,2,3,10] [1000000,1010060,1010061,1010062] [(0,.own 1000000 0),(1,.mp 1010061),(2,.str a2),(3,.fn 52 []),(10,vb ((mlook h0.f_nets (.inl a2)).isSome))] (qf11 1000000 1010060 1010061 1010062 h0) [(true = true → LookOkOb true E_api_Kept h0.f_nets (.inl a2) [.str [],.str []] (.tup [.agg [.str (((mlook h0.f_nets (.inl a2)).getD zx7).f_Name),.str (((mlook h0.f_nets (.inl a2)).getD zx7).f_Project)],vb ((mlook h0.f_nets (.inl a2)).isSome)]))] (AllP.cons (fun _=>⟨zx7,.agg [.str (((mlook h0.f_nets (.inl a2)).getD zx7).f_Name),.str (((mlook h0.f_nets (.inl a2)).getD zx7).f_Project)],Weaks.of_eq (by kernel_rfl),by kernel_rfl,by kernel_rfl⟩) AllP.nil) ?_)))))
 refine To.thenN (Wp.seq (rg [0,1,2,3,20] [1000000,1010060,1010061,1010062] [(0,.own 1000000 0),(1,.mp 1010061),(2,.str a2),(3,.fn 52 []),(20,vb (!((mlook h0.f_nets (.inl a2)).isSome)))] (qf11 1000000 1010060 1010061 1010062 h0) (To.thenN (cn h (fun h=>?_) (fun h=>?_)))))
 ·refine Wp.seq (rg [8] [1000000,1010060,1010061,1010062] [(8,vi 12)] (qf11 1000000 1010060 1010061 1010062 h0) (To.thenN (Wp.ret (To.thenR ?_))))
  cases h
  exact To.doneB hΓ [1000000,1010060,1010061,1010062] (by kernel_rfl) (by kernel_rfl)
 ·refine Wp.skip (To.thenN (Wp.seq (Wp.seq (Wp.rangeStart hΓ (t:=105) (s:=24) (u:=25) (k:=1010060) (ki:=25) (tt:=105) [] [] [] [1,2,3,24] [1000000,1010060,1010061,1010062] (K':=[(1,.mp 1010061),(2,.str a2),(3,.fn 52 []),(24,.mp 1010060)]) (L':=(qf11 1000000 1010060 1010061 1010062 h0)) (ob:=[]) (by kernel_rfl) (Nat.le_of_ble_eq_true (by kernel_rfl)) (by kernel_rfl) AllP.nil (kd:=(some .i64)) (sz:=25) (ag:=true) (by kernel_rfl) (α:=S_life_Box) (d:=Z_life_Box) (enc:=E_life_Box) (m:=h0.f_boxes) (by kernel_rfl) (by kernel_rfl) (Nat.le_of_ble_eq_true (by kernel_rfl)) (by kernel_rfl) (by kernel_rfl) ?_))))
  intro b1 es1 clock1 r01
  refine kt [1,2,3,25] [25,1000000,1010060,1010061,1010062] [(1,.mp 1010061),(2,.str a2),(3,.fn 52 []),(25,.val (.pointer (some ⟨r01,0,none⟩)))] [(25,0,[iterD r01 b1 clock1 #[]]),(1000000,109,[.mp 1010060,.mp 1010061,.mp 1010062,vi h0.f_last]),(1010060,105,[lockD b1 es1 clock1 (some .i64) true (α:=S_life_Box) E_life_Box h0.f_boxes]),(1010061,107,[mc10 h0.f_nets]),(1010062,107,[mc10 h0.f_vols])] (To.thenN (Wp.block ?_))
  obtain ⟨o2,ho2,h⟩:=bind_of h
  refine kw [1,2,3,25] [25,1000000,1010060,1010061,1010062] [(1,.mp 1010061),(2,.str a2),(3,.fn 52 []),(25,.val (.pointer (some ⟨r01,0,none⟩)))] [(25,0,[iterD r01 b1 clock1 #[]]),(1000000,109,[.mp 1010060,.mp 1010061,.mp 1010062,vi h0.f_last]),(1010060,105,[lockD b1 es1 clock1 (some .i64) true (α:=S_life_Box) E_life_Box h0.f_boxes]),(1010061,107,[mc10 h0.f_nets]),(1010062,107,[mc10 h0.f_vols])] (Wp.loopL (WL.mapRangeL (u:=25) (tn:=26) (tk:=27) (ki:=25) (t2:=0) (k:=1010060) (tt:=105) (b:=b1) (clock:=clock1) (r:=r01) (es:=es1) (kd:=(some .i64)) (ag:=true) (α:=S_life_Box) (enc:=E_life_Box) (m:=h0.f_boxes) (Lr:=[(1000000,109,[.mp 1010060,.mp 1010061,.mp 1010062,vi h0.f_last]),(1010061,107,[mc10 h0.f_nets]),(1010062,107,[mc10 h0.f_vols])]) (fun seen=>[(25,0,[iterD r01 b1 clock1 seen]),(1000000,109,[.mp 1010060,.mp 1010061,.mp 1010062,vi h0.f_last]),(1010060,105,[lockD b1 es1 clock1 (some .i64) true (α:=S_life_Box) E_life_Box h0.f_boxes]),(1010061,107,[mc10 h0.f_nets]),(1010062,107,[mc10 h0.f_vols])]) (store_Store_drop__o0__m0n61__store_Store_Do_1_m1 n a2 h0) o2 (fun seen y Q'=>To 38 F0 w0 [(8,vi y)] [(25,0,[iterD r01 b1 clock1 seen]),(1000000,109,[.mp 1010060,.mp 1010061,.mp 1010062,vi h0.f_last]),(1010060,105,[lockD b1 es1 clock1 (some .i64) true (α:=S_life_Box) E_life_Box h0.f_boxes]),(1010061,107,[mc10 h0.f_nets]),(1010062,107,[mc10 h0.f_vols])] .ret Q') [25,1010060,1000000,1010061,1010062] [25,1000000,1010060,1010061,1010062] (fun seen=>by kernel_rfl) (fun seen=>by kernel_rfl) ⟨_,rfl,rfl⟩ rfl rfl rfl rfl rfl ⟨Nat.le_of_ble_eq_true (by kernel_rfl),Nat.le_of_ble_eq_true (by kernel_rfl)⟩ (by kernel_rfl) (by kernel_rfl) (by decide) (by kernel_rfl) ho2 (fun seen em j x s hj hx hs Q' hQ=>ok_store_Store_drop__o0__m0n61__store_Store_Do_1_m1 n a2 h0 x s hs hj hx hQ) (fun he seen=>?_) (fun seen y he=>?_)))
  ·cases he
   replace h:=sum_l h
   refine To.pre (St.unlock (t:=105) (b:=b1) (es:=es1) (clock:=clock1) (kk:=(some .i64)) (ag:=true) (α:=S_life_Box) (enc:=E_life_Box) (l:=h0.f_boxes) 1010060 Z_life_Box (by kernel_rfl) (L':=[(1010060,105,[mc9 h0.f_boxes]),(25,0,[iterD r01 b1 clock1 seen]),(1000000,109,[.mp 1010060,.mp 1010061,.mp 1010062,vi h0.f_last]),(1010061,107,[mc10 h0.f_nets]),(1010062,107,[mc10 h0.f_vols])]) (by kernel_rfl)) (kt [1,2,3] [1000000,1010060,1010061,1010062] [(1,.mp 1010061),(2,.str a2),(3,.fn 52 [])] (qf11 1000000 1010060 1010061 1010062 h0) (To.blockX (To.thenN (Wp.seq (rg [] [1000000,1010060,1010061,1010062] [] [(1000000,109,[.mp 1010060,.mp 1010061,.mp 1010062,vi h0.f_last]),(1010060,105,[mc9 h0.f_boxes]),(1010061,107,[mc10 (mdel h0.f_nets (.inl a2))]),(1010062,107,[mc10 h0.f_vols])] (To.thenN (Wp.seq (rg [8] [1000000,1010060,1010061,1010062] [(8,vi 0)] [(1000000,109,[.mp 1010060,.mp 1010061,.mp 1010062,vi h0.f_last]),(1010060,105,[mc9 h0.f_boxes]),(1010061,107,[mc10 (mdel h0.f_nets (.inl a2))]),(1010062,107,[mc10 h0.f_vols])] (To.thenN (Wp.ret ?_))))))))))
   cases h
   exact To.doneB hΓ [1000000,1010060,1010061,1010062] (by kernel_rfl) (by kernel_rfl)
  ·cases he
   replace h:=sum_r h
   refine To.thenR (To.pre (St.unlock (t:=105) (b:=b1) (es:=es1) (clock:=clock1) (kk:=(some .i64)) (ag:=true) (α:=S_life_Box) (enc:=E_life_Box) (l:=h0.f_boxes) 1010060 Z_life_Box (by kernel_rfl) (L':=[(1010060,105,[mc9 h0.f_boxes]),(25,0,[iterD r01 b1 clock1 seen]),(1000000,109,[.mp 1010060,.mp 1010061,.mp 1010062,vi h0.f_last]),(1010061,107,[mc10 h0.f_nets]),(1010062,107,[mc10 h0.f_vols])]) (by kernel_rfl)) (kt [8] [1000000,1010060,1010061,1010062] [(8,vi y)] (qf11 1000000 1010060 1010061 1010062 h0) (To.blockR (To.thenR ?_))))
   cases h
   exact To.doneB hΓ [1000000,1010060,1010061,1010062] (by kernel_rfl) (by kernel_rfl)
def store_Store_Do_2 (a0:S_api_Spec):(List (List UInt8)) :=
 a0.f_Vols
theorem ok_store_Store_Do_2 (a0:S_api_Spec) (r:(List (List UInt8))) (h:store_Store_Do_2 a0 = r):CallsX Tryz.prog 53 [.agg (qc19 a0)] (ls r):=by
 unfold store_Store_Do_2 at h
 refine xo Tryz.f53 rfl fun F0 w0 _=>?_
 refine Wp.seq (rg [1] [1] [(1,.own 1 0)] [(1,38,(E_api_Spec a0))] (To.thenN (Wp.seq (rg [2] [] [(2,ls a0.f_Vols)] [] (To.thenN (Wp.ret ?_))))))
 cases h
 exact To.done hΓ (by kernel_rfl)
def store_Store_drop__o0__m0n62__store_Store_Do_2_m1 (n:Nat) (v2:List UInt8) (b1000000:S_store_Store) (x:MK × S_life_Box):Option (Sum (Unit) (Int)) :=
 (name_In n (store_Store_Do_2 x.2.f_Spec) v2).bind fun r2 =>
 if r2 = true then (some (.inr 17))
 else (some (.inl ()))
theorem ok_store_Store_drop__o0__m0n62__store_Store_Do_2_m1 (n:Nat) (v2:List UInt8) (b1000000:S_store_Store) (x:MK × S_life_Box) (o:Sum (Unit) (Int)) (h:store_Store_drop__o0__m0n62__store_Store_Do_2_m1 n v2 b1000000 x = some o) {F0:Fz} {w0:Pt Tryz.prog} {Q:Exit → Act → World → Prop} {b0 clock0 r0 j:Nat} {seen:Array Nat} {es0:Array MapEntry} {em:MapEntry} (hj:es0[j]? = some em) (hx:(b1000000.f_boxes)[j]? = some x) (hQ:(Sum.elim (fun s=>To 38 F0 w0 [(1,.mp 1010062),(2,.str v2),(3,.fn 53 []),(25,.val (.pointer (some ⟨r0,0,none⟩)))] [(25,0,[iterD r0 b0 clock0 (seen.push em.born)]),(ex9 b1000000),(1010060,105,[lockD b0 es0 clock0 (some .i64) true (α:=S_life_Box) E_life_Box b1000000.f_boxes]),(ex10 b1000000),(ex11 b1000000)] .normal Q) (fun s=>To 38 F0 w0 [(8,vi s)] [(25,0,[iterD r0 b0 clock0 (seen.push em.born)]),(ex9 b1000000),(1010060,105,[lockD b0 es0 clock0 (some .i64) true (α:=S_life_Box) E_life_Box b1000000.f_boxes]),(ex10 b1000000),(ex11 b1000000)] .ret Q)) o):Wp Tryz.prog 38 F0 w0 [(1,.mp 1010062),(2,.str v2),(3,.fn 53 []),(25,.val (.pointer (some ⟨r0,0,none⟩)))] [(25,0,[iterD r0 b0 clock0 (seen.push em.born)]),(ex9 b1000000),(1010060,105,[lockD b0 es0 clock0 (some .i64) true (α:=S_life_Box) E_life_Box b1000000.f_boxes]),(ex10 b1000000),(ex11 b1000000)] (cB (cB (cI (cI (cB (cA (cB (cB (cF Tryz.f51))))))))) Q:=by
 unfold store_Store_drop__o0__m0n62__store_Store_Do_2_m1 at h
 refine Wp.block (Wp.seq (Wp.rangeEntry hΓ (u:=25) (te:=28) (k:=1010060) (ki:=25) (tt:=105) (t2:=0) (r:=r0) (b:=b0) (clock:=clock0) (seen:=seen) (es:=es0) (em:=em) (kd:=(some .i64)) (ag:=true) (enc:=E_life_Box) (m:=b1000000.f_boxes) (x:=x) (dv:=.agg (qc3 x.2)) [] [] [] [1,2,3,12,25] [12,25,1000000,1010060,1010061,1010062] hj hx rfl rfl rfl (Nat.le_of_ble_eq_true (by kernel_rfl)) (by kernel_rfl) (by kernel_rfl) (by kernel_rfl) (by kernel_rfl) (by kernel_rfl) (K':=[(1,.mp 1010062),(2,.str v2),(3,.fn 53 []),(12,.own 12 0),(25,.val (.pointer (some ⟨r0,0,none⟩)))]) (L':=[(12,53,(E_life_Box x.2)),(25,0,[iterD r0 b0 clock0 (seen.push em.born)]),(ex9 b1000000),(1010060,105,[lockD b0 es0 clock0 (some .i64) true (α:=S_life_Box) E_life_Box b1000000.f_boxes]),(ex10 b1000000),(ex11 b1000000)]) (ob:=[]) (by kernel_rfl) AllP.nil (To.thenN (Wp.seq ?_))))
 obtain ⟨r2,hr2,h⟩:=bind_of h
 refine rr [] [(3,ls (store_Store_Do_2 x.2.f_Spec)),(5,vb r2)] [] [1,2,3,25,35] [25,1000000,1010060,1010061,1010062] [(1,.mp 1010062),(2,.str v2),(3,.fn 53 []),(25,.val (.pointer (some ⟨r0,0,none⟩))),(35,vb r2)] [(25,0,[iterD r0 b0 clock0 (seen.push em.born)]),(ex9 b1000000),(1010060,105,[lockD b0 es0 clock0 (some .i64) true (α:=S_life_Box) E_life_Box b1000000.f_boxes]),(ex10 b1000000),(ex11 b1000000)] [_,_] (AllP.cons (c1 (ok_store_Store_Do_2 x.2.f_Spec _ rfl)) (AllP.cons (c1 (ok_name_In n (store_Store_Do_2 x.2.f_Spec) v2 _ hr2)) AllP.nil)) (To.thenN (cn h (fun h=>?_) (fun h=>?_)))
 ·refine Wp.seq (rg [8] [25,1000000,1010060,1010061,1010062] [(8,vi 17)] [(25,0,[iterD r0 b0 clock0 (seen.push em.born)]),(ex9 b1000000),(1010060,105,[lockD b0 es0 clock0 (some .i64) true (α:=S_life_Box) E_life_Box b1000000.f_boxes]),(ex10 b1000000),(ex11 b1000000)] (To.thenN (Wp.ret (To.blockR ?_))))
  cases h
  exact hQ
 ·refine Wp.skip (To.blockN (kt [1,2,3,25] [25,1000000,1010060,1010061,1010062] [(1,.mp 1010062),(2,.str v2),(3,.fn 53 []),(25,.val (.pointer (some ⟨r0,0,none⟩)))] [(25,0,[iterD r0 b0 clock0 (seen.push em.born)]),(ex9 b1000000),(1010060,105,[lockD b0 es0 clock0 (some .i64) true (α:=S_life_Box) E_life_Box b1000000.f_boxes]),(ex10 b1000000),(ex11 b1000000)] ?_))
  cases h
  exact hQ
def store_Store_drop__o0__m0n62__store_Store_Do_2 (n:Nat) (a2:List UInt8) (h0:S_store_Store):Option (Int × S_store_Store) :=
 if (!((mlook h0.f_vols (.inl a2)).isSome)) = true then (some (12,h0))
 else ((roundAll (store_Store_drop__o0__m0n62__store_Store_Do_2_m1 n a2 h0) h0.f_boxes).bind fun o2 =>
 Sum.elim (fun _=>some (0,(S_store_Store.mk h0.f_boxes h0.f_nets (mdel h0.f_vols (.inl a2)) h0.f_last))) (fun y=>some (y,h0)) o2)
theorem ok_store_Store_drop__o0__m0n62__store_Store_Do_2 (n:Nat) (a2:List UInt8) (h0:S_store_Store) (r:Int × S_store_Store) (h:store_Store_drop__o0__m0n62__store_Store_Do_2 n a2 h0 = some r):CallsB Tryz.prog 51 [.own 1000000 0,.mp 1010062,.str a2,.fn 53 []] (qf11 1000000 1010060 1010061 1010062 h0) (vi r.1) (qf11 1000000 1010060 1010061 1010062 r.2):=by
 unfold store_Store_drop__o0__m0n62__store_Store_Do_2 at h
 refine bo Tryz.f51 rfl fun F0 w0=>?_
 refine Wp.seq (rg [0,1,2,3] [1000000,1010060,1010061,1010062] [(0,.own 1000000 0),(1,.mp 1010062),(2,.str a2),(3,.fn 53 [])] (qf11 1000000 1010060 1010061 1010062 h0) (To.thenN (Wp.seq (Wp.seq (rr [] [(2,.tup [.agg [.str (((mlook h0.f_vols (.inl a2)).getD zx7).f_Name),.str (((mlook h0.f_vols (.inl a2)).getD zx7).f_Project)],vb ((mlook h0.f_vols (.inl a2)).isSome)])] [] [0,1,2,3,10] [1000000,1010060,1010061,1010062] [(0,.own 1000000 0),(1,.mp 1010062),(2,.str a2),(3,.fn 53 []),(10,vb ((mlook h0.f_vols (.inl a2)).isSome))] (qf11 1000000 1010060 1010061 1010062 h0) [(true = true → LookOkOb true E_api_Kept h0.f_vols (.inl a2) [.str [],.str []] (.tup [.agg [.str (((mlook h0.f_vols (.inl a2)).getD zx7).f_Name),.str (((mlook h0.f_vols (.inl a2)).getD zx7).f_Project)],vb ((mlook h0.f_vols (.inl a2)).isSome)]))] (AllP.cons (fun _=>⟨zx7,.agg [.str (((mlook h0.f_vols (.inl a2)).getD zx7).f_Name),.str (((mlook h0.f_vols (.inl a2)).getD zx7).f_Project)],Weaks.of_eq (by kernel_rfl),by kernel_rfl,by kernel_rfl⟩) AllP.nil) ?_)))))
 refine To.thenN (Wp.seq (rg [0,1,2,3,20] [1000000,1010060,1010061,1010062] [(0,.own 1000000 0),(1,.mp 1010062),(2,.str a2),(3,.fn 53 []),(20,vb (!((mlook h0.f_vols (.inl a2)).isSome)))] (qf11 1000000 1010060 1010061 1010062 h0) (To.thenN (cn h (fun h=>?_) (fun h=>?_)))))
 ·refine Wp.seq (rg [8] [1000000,1010060,1010061,1010062] [(8,vi 12)] (qf11 1000000 1010060 1010061 1010062 h0) (To.thenN (Wp.ret (To.thenR ?_))))
  cases h
  exact To.doneB hΓ [1000000,1010060,1010061,1010062] (by kernel_rfl) (by kernel_rfl)
 ·refine Wp.skip (To.thenN (Wp.seq (Wp.seq (Wp.rangeStart hΓ (t:=105) (s:=24) (u:=25) (k:=1010060) (ki:=25) (tt:=105) [] [] [] [1,2,3,24] [1000000,1010060,1010061,1010062] (K':=[(1,.mp 1010062),(2,.str a2),(3,.fn 53 []),(24,.mp 1010060)]) (L':=(qf11 1000000 1010060 1010061 1010062 h0)) (ob:=[]) (by kernel_rfl) (Nat.le_of_ble_eq_true (by kernel_rfl)) (by kernel_rfl) AllP.nil (kd:=(some .i64)) (sz:=25) (ag:=true) (by kernel_rfl) (α:=S_life_Box) (d:=Z_life_Box) (enc:=E_life_Box) (m:=h0.f_boxes) (by kernel_rfl) (by kernel_rfl) (Nat.le_of_ble_eq_true (by kernel_rfl)) (by kernel_rfl) (by kernel_rfl) ?_))))
  intro b1 es1 clock1 r01
  refine kt [1,2,3,25] [25,1000000,1010060,1010061,1010062] [(1,.mp 1010062),(2,.str a2),(3,.fn 53 []),(25,.val (.pointer (some ⟨r01,0,none⟩)))] [(25,0,[iterD r01 b1 clock1 #[]]),(1000000,109,[.mp 1010060,.mp 1010061,.mp 1010062,vi h0.f_last]),(1010060,105,[lockD b1 es1 clock1 (some .i64) true (α:=S_life_Box) E_life_Box h0.f_boxes]),(1010061,107,[mc10 h0.f_nets]),(1010062,107,[mc10 h0.f_vols])] (To.thenN (Wp.block ?_))
  obtain ⟨o2,ho2,h⟩:=bind_of h
  refine kw [1,2,3,25] [25,1000000,1010060,1010061,1010062] [(1,.mp 1010062),(2,.str a2),(3,.fn 53 []),(25,.val (.pointer (some ⟨r01,0,none⟩)))] [(25,0,[iterD r01 b1 clock1 #[]]),(1000000,109,[.mp 1010060,.mp 1010061,.mp 1010062,vi h0.f_last]),(1010060,105,[lockD b1 es1 clock1 (some .i64) true (α:=S_life_Box) E_life_Box h0.f_boxes]),(1010061,107,[mc10 h0.f_nets]),(1010062,107,[mc10 h0.f_vols])] (Wp.loopL (WL.mapRangeL (u:=25) (tn:=26) (tk:=27) (ki:=25) (t2:=0) (k:=1010060) (tt:=105) (b:=b1) (clock:=clock1) (r:=r01) (es:=es1) (kd:=(some .i64)) (ag:=true) (α:=S_life_Box) (enc:=E_life_Box) (m:=h0.f_boxes) (Lr:=[(1000000,109,[.mp 1010060,.mp 1010061,.mp 1010062,vi h0.f_last]),(1010061,107,[mc10 h0.f_nets]),(1010062,107,[mc10 h0.f_vols])]) (fun seen=>[(25,0,[iterD r01 b1 clock1 seen]),(1000000,109,[.mp 1010060,.mp 1010061,.mp 1010062,vi h0.f_last]),(1010060,105,[lockD b1 es1 clock1 (some .i64) true (α:=S_life_Box) E_life_Box h0.f_boxes]),(1010061,107,[mc10 h0.f_nets]),(1010062,107,[mc10 h0.f_vols])]) (store_Store_drop__o0__m0n62__store_Store_Do_2_m1 n a2 h0) o2 (fun seen y Q'=>To 38 F0 w0 [(8,vi y)] [(25,0,[iterD r01 b1 clock1 seen]),(1000000,109,[.mp 1010060,.mp 1010061,.mp 1010062,vi h0.f_last]),(1010060,105,[lockD b1 es1 clock1 (some .i64) true (α:=S_life_Box) E_life_Box h0.f_boxes]),(1010061,107,[mc10 h0.f_nets]),(1010062,107,[mc10 h0.f_vols])] .ret Q') [25,1010060,1000000,1010061,1010062] [25,1000000,1010060,1010061,1010062] (fun seen=>by kernel_rfl) (fun seen=>by kernel_rfl) ⟨_,rfl,rfl⟩ rfl rfl rfl rfl rfl ⟨Nat.le_of_ble_eq_true (by kernel_rfl),Nat.le_of_ble_eq_true (by kernel_rfl)⟩ (by kernel_rfl) (by kernel_rfl) (by decide) (by kernel_rfl) ho2 (fun seen em j x s hj hx hs Q' hQ=>ok_store_Store_drop__o0__m0n62__store_Store_Do_2_m1 n a2 h0 x s hs hj hx hQ) (fun he seen=>?_) (fun seen y he=>?_)))
  ·cases he
   replace h:=sum_l h
   refine To.pre (St.unlock (t:=105) (b:=b1) (es:=es1) (clock:=clock1) (kk:=(some .i64)) (ag:=true) (α:=S_life_Box) (enc:=E_life_Box) (l:=h0.f_boxes) 1010060 Z_life_Box (by kernel_rfl) (L':=[(1010060,105,[mc9 h0.f_boxes]),(25,0,[iterD r01 b1 clock1 seen]),(1000000,109,[.mp 1010060,.mp 1010061,.mp 1010062,vi h0.f_last]),(1010061,107,[mc10 h0.f_nets]),(1010062,107,[mc10 h0.f_vols])]) (by kernel_rfl)) (kt [1,2,3] [1000000,1010060,1010061,1010062] [(1,.mp 1010062),(2,.str a2),(3,.fn 53 [])] (qf11 1000000 1010060 1010061 1010062 h0) (To.blockX (To.thenN (Wp.seq (rg [] [1000000,1010060,1010061,1010062] [] [(1000000,109,[.mp 1010060,.mp 1010061,.mp 1010062,vi h0.f_last]),(1010060,105,[mc9 h0.f_boxes]),(1010061,107,[mc10 h0.f_nets]),(1010062,107,[mc10 (mdel h0.f_vols (.inl a2))])] (To.thenN (Wp.seq (rg [8] [1000000,1010060,1010061,1010062] [(8,vi 0)] [(1000000,109,[.mp 1010060,.mp 1010061,.mp 1010062,vi h0.f_last]),(1010060,105,[mc9 h0.f_boxes]),(1010061,107,[mc10 h0.f_nets]),(1010062,107,[mc10 (mdel h0.f_vols (.inl a2))])] (To.thenN (Wp.ret ?_))))))))))
   cases h
   exact To.doneB hΓ [1000000,1010060,1010061,1010062] (by kernel_rfl) (by kernel_rfl)
  ·cases he
   replace h:=sum_r h
   refine To.thenR (To.pre (St.unlock (t:=105) (b:=b1) (es:=es1) (clock:=clock1) (kk:=(some .i64)) (ag:=true) (α:=S_life_Box) (enc:=E_life_Box) (l:=h0.f_boxes) 1010060 Z_life_Box (by kernel_rfl) (L':=[(1010060,105,[mc9 h0.f_boxes]),(25,0,[iterD r01 b1 clock1 seen]),(1000000,109,[.mp 1010060,.mp 1010061,.mp 1010062,vi h0.f_last]),(1010061,107,[mc10 h0.f_nets]),(1010062,107,[mc10 h0.f_vols])]) (by kernel_rfl)) (kt [8] [1000000,1010060,1010061,1010062] [(8,vi y)] (qf11 1000000 1010060 1010061 1010062 h0) (To.blockR (To.thenR ?_))))
   cases h
   exact To.doneB hΓ [1000000,1010060,1010061,1010062] (by kernel_rfl) (by kernel_rfl)
def store_shelf_has_1__o0 (a0:List UInt8) (h0:List (MK × S_api_Kept)):Bool × (List (MK × S_api_Kept)) :=
 ((!((mlook h0 (.inl a0)).isSome)),h0)
theorem ok_store_shelf_has_1__o0 (a0:List UInt8) (h0:List (MK × S_api_Kept)) (r:Bool × (List (MK × S_api_Kept))) (h:store_shelf_has_1__o0 a0 h0 = r):CallsB Tryz.prog 121 [.str a0,.own 1000000 0] [(1000000,107,[.mp 1010060]),(1010060,107,[mc10 h0])] (vb r.1) [(1000000,107,[.mp 1010060]),(1010060,107,[mc10 r.2])]:=by
 unfold store_shelf_has_1__o0 at h
 refine bo Tryz.f121 rfl fun F0 w0=>?_
 refine Wp.seq (rg [0,1] [1000000,1010060] [(0,.str a0),(1,.own 1000000 0)] [(1000000,107,[.mp 1010060]),(1010060,107,[mc10 h0])] (To.thenN (Wp.seq (rr [] [(2,.tup [.agg [.str (((mlook h0 (.inl a0)).getD zx7).f_Name),.str (((mlook h0 (.inl a0)).getD zx7).f_Project)],vb ((mlook h0 (.inl a0)).isSome)])] [] [5] [1000000,1010060] [(5,vb ((mlook h0 (.inl a0)).isSome))] [(1000000,107,[.mp 1010060]),(1010060,107,[mc10 h0])] [(true = true → LookOkOb true E_api_Kept h0 (.inl a0) [.str [],.str []] (.tup [.agg [.str (((mlook h0 (.inl a0)).getD zx7).f_Name),.str (((mlook h0 (.inl a0)).getD zx7).f_Project)],vb ((mlook h0 (.inl a0)).isSome)]))] (AllP.cons (fun _=>⟨zx7,.agg [.str (((mlook h0 (.inl a0)).getD zx7).f_Name),.str (((mlook h0 (.inl a0)).getD zx7).f_Project)],Weaks.of_eq (by kernel_rfl),by kernel_rfl,by kernel_rfl⟩) AllP.nil) ?_))))
 refine To.thenN (Wp.seq (rg [3] [1000000,1010060] [(3,vb (!((mlook h0 (.inl a0)).isSome)))] [(1000000,107,[.mp 1010060]),(1010060,107,[mc10 h0])] (To.thenN (Wp.ret ?_))))
 cases h
 exact To.doneB hΓ [1000000,1010060] (by kernel_rfl) (by kernel_rfl)
def slices_IndexFunc_string_string__store_shelf_has_1_o0_l1 (n:Nat) (v0:List (List UInt8)) (v7:Int):Nat → Int → (List (MK × S_api_Kept)) → Option (Sum ((List (MK × S_api_Kept))) (Int × (List (MK × S_api_Kept))))
 | 0,_,_=>none
 | k + 1,v8,b1000000=>if (decide (v8 < v7)) = true then (if (decide (0 ≤ v8 ∧ v8 < (List.length v0:Int))) = true then (lett (store_shelf_has_1__o0 ((v0)[Int.toNat v8]?.getD []) b1000000) fun r1 =>
 if r1.1 = true then (some (.inr (v8,r1.2)))
 else (slices_IndexFunc_string_string__store_shelf_has_1_o0_l1 n v0 v7 k (IntKind.wrap .i64 (v8 + 1)) r1.2)) else none)
 else (some (.inl b1000000))
theorem ok_slices_IndexFunc_string_string__store_shelf_has_1_o0_l1 (n:Nat) (v0:List (List UInt8)) (v7:Int) {F0:Fz} {w0:Pt Tryz.prog} {Q:Exit → Act → World → Prop} (k:Nat):∀ (v8:Int) (b1000000:List (MK × S_api_Kept)) (o:Sum ((List (MK × S_api_Kept))) (Int × (List (MK × S_api_Kept)))),slices_IndexFunc_string_string__store_shelf_has_1_o0_l1 n v0 v7 k v8 b1000000 = some o → (Sum.elim (fun s=>To 19 F0 w0 [] [(1000000,107,[.mp 1010060]),(1010060,107,[mc10 s])] (.exit 0) Q) (fun s=>To 19 F0 w0 [(4,vi s.1)] [(1000000,107,[.mp 1010060]),(1010060,107,[mc10 s.2])] .ret Q)) o → WL Tryz.prog 19 F0 w0 [(0,ls v0),(1,.fn 121 [.own 1000000 0]),(7,vi v7),(8,vi v8)] [(1000000,107,[.mp 1010060]),(1010060,107,[mc10 b1000000])] (cI (cI (cB (cA (cB (cF Tryz.f142)))))) Q:=by
 induction k with
 | zero=>intro v8 b1000000 o h; cases h
 | succ k ih =>
  intro v8 b1000000 o h hQ
  rw [slices_IndexFunc_string_string__store_shelf_has_1_o0_l1] at h
  refine WL.round (Wp.seq (rg [0,1,7,8,9] [1000000,1010060] [(0,ls v0),(1,.fn 121 [.own 1000000 0]),(7,vi v7),(8,vi v8),(9,vb (decide (v8 < v7)))] [(1000000,107,[.mp 1010060]),(1010060,107,[mc10 b1000000])] (To.thenN (Wp.seq (cn h (fun h=>?_) (fun h=>?_))))))
  ·refine Wp.skip (To.thenN (Wp.seq (Wp.block (Wp.seq (rg [0,1,5,7,8] [1000000,1010060] [(0,ls v0),(1,.fn 121 [.own 1000000 0]),(5,vi v8),(7,vi v7),(8,vi v8)] [(1000000,107,[.mp 1010060]),(1010060,107,[mc10 b1000000])] (To.thenN (Wp.seq ?_)))))))
   obtain ⟨hc2,h⟩:=chk_of h
   obtain ⟨r1,hr1,h⟩:=lett_of h
   refine rr [] [] [(5,⟨[(1000000,1000000),(1010060,1010060)],[(1000000,1000000),(1010060,1010060)],[.str ((v0)[Int.toNat v8]?.getD []),.own 1000000 0],[(1000000,107,[.mp 1010060]),(1010060,107,[mc10 b1000000])],vb r1.1,[(1000000,107,[.mp 1010060]),(1010060,107,[mc10 r1.2])]⟩)] [0,1,5,7,8,16] [1000000,1010060] [(0,ls v0),(1,.fn 121 [.own 1000000 0]),(5,vi v8),(7,vi v7),(8,vi v8),(16,vb r1.1)] [(1000000,107,[.mp 1010060]),(1010060,107,[mc10 r1.2])] [_,CbOb (CallsB Tryz.prog) 121 [.str ((v0)[Int.toNat v8]?.getD []),.own 1000000 0] [some (107,[.mp 1010060]),some (107,[mc10 b1000000])] ⟨[(1000000,1000000),(1010060,1010060)],[(1000000,1000000),(1010060,1010060)],[.str ((v0)[Int.toNat v8]?.getD []),.own 1000000 0],[(1000000,107,[.mp 1010060]),(1010060,107,[mc10 b1000000])],vb r1.1,[(1000000,107,[.mp 1010060]),(1010060,107,[mc10 r1.2])]⟩] (AllP.cons hc2 (AllP.cons (⟨(ok_store_shelf_has_1__o0 ((v0)[Int.toNat v8]?.getD []) b1000000 _ hr1),by kernel_rfl,by kernel_rfl⟩) AllP.nil)) ?_
   refine To.thenN (cn h (fun h=>?_) (fun h=>?_))
   ·refine Wp.seq (rg [4] [1000000,1010060] [(4,vi v8)] [(1000000,107,[.mp 1010060]),(1010060,107,[mc10 r1.2])] (To.thenN (Wp.ret (To.blockR (To.thenR (To.thenR ?_))))))
    cases h
    exact hQ
   ·refine Wp.skip (To.blockN (To.thenN (rg [0,1,7,8] [1000000,1010060] [(0,ls v0),(1,.fn 121 [.own 1000000 0]),(7,vi v7),(ex4 v8)] [(1000000,107,[.mp 1010060]),(1010060,107,[mc10 r1.2])] (kt [0,1,7,8] [1000000,1010060] [(0,ls v0),(1,.fn 121 [.own 1000000 0]),(7,vi v7),(ex4 v8)] [(1000000,107,[.mp 1010060]),(1010060,107,[mc10 r1.2])] (To.again ?_)))))
    exact ih (IntKind.wrap .i64 (v8 + 1)) r1.2 _ h hQ
  ·refine Wp.exit (To.thenX (To.thenX (kt [] [1000000,1010060] [] [(1000000,107,[.mp 1010060]),(1010060,107,[mc10 b1000000])] ?_)))
   cases h
   exact hQ
def slices_IndexFunc_string_string__store_shelf_has_1_o0 (n:Nat) (a0:List (List UInt8)) (h0:List (MK × S_api_Kept)):Option (Int × (List (MK × S_api_Kept))) :=
 (slices_IndexFunc_string_string__store_shelf_has_1_o0_l1 n a0 (List.length a0:Int) n 0 h0).bind fun o1 =>
 (Sum.elim (fun o1=>some ((-1),o1)) (fun o1=>some (o1.1,o1.2))) o1
theorem ok_slices_IndexFunc_string_string__store_shelf_has_1_o0 (n:Nat) (a0:List (List UInt8)) (h0:List (MK × S_api_Kept)) (r:Int × (List (MK × S_api_Kept))) (h:slices_IndexFunc_string_string__store_shelf_has_1_o0 n a0 h0 = some r):CallsB Tryz.prog 142 [ls a0,.fn 121 [.own 1000000 0]] [(1000000,107,[.mp 1010060]),(1010060,107,[mc10 h0])] (vi r.1) [(1000000,107,[.mp 1010060]),(1010060,107,[mc10 r.2])]:=by
 unfold slices_IndexFunc_string_string__store_shelf_has_1_o0 at h
 refine bo Tryz.f142 rfl fun F0 w0=>?_
 refine Wp.seq (rg [0,1] [1000000,1010060] [(0,ls a0),(1,.fn 121 [.own 1000000 0])] [(1000000,107,[.mp 1010060]),(1010060,107,[mc10 h0])] (To.thenN (Wp.seq (Wp.seq (rg [0,1,7,8] [1000000,1010060] [(0,ls a0),(1,.fn 121 [.own 1000000 0]),(7,vi (List.length a0:Int)),(8,vi 0)] [(1000000,107,[.mp 1010060]),(1010060,107,[mc10 h0])] (To.thenN (Wp.block ?_)))))))
 obtain ⟨o1,ho1,h⟩:=bind_of h
 refine kw [0,1,7,8] [1000000,1010060] [(0,ls a0),(1,.fn 121 [.own 1000000 0]),(7,vi (List.length a0:Int)),(8,vi 0)] [(1000000,107,[.mp 1010060]),(1010060,107,[mc10 h0])] (Wp.loopL (ok_slices_IndexFunc_string_string__store_shelf_has_1_o0_l1 n a0 (List.length a0:Int) n 0 h0 o1 ho1 ?_))
 rcases o1 with o1 | o1
 ·replace h:=sum_l h
  refine To.blockX (To.thenN (Wp.seq (rg [4] [1000000,1010060] [(4,vi (-1))] [(1000000,107,[.mp 1010060]),(1010060,107,[mc10 o1])] (To.thenN (Wp.ret ?_)))))
  cases h
  exact To.doneB hΓ [1000000,1010060] (by kernel_rfl) (by kernel_rfl)
 ·replace h:=sum_r h
  refine To.blockR (To.thenR ?_)
  cases h
  exact To.doneB hΓ [1000000,1010060] (by kernel_rfl) (by kernel_rfl)
def slices_ContainsFunc_string_string__store_shelf_has_1_o0 (n:Nat) (a0:List (List UInt8)) (h0:List (MK × S_api_Kept)):Option (Bool × (List (MK × S_api_Kept))) :=
 (slices_IndexFunc_string_string__store_shelf_has_1_o0 n a0 h0).bind fun r1 =>
 some ((decide (r1.1 ≥ 0)),r1.2)
theorem ok_slices_ContainsFunc_string_string__store_shelf_has_1_o0 (n:Nat) (a0:List (List UInt8)) (h0:List (MK × S_api_Kept)) (r:Bool × (List (MK × S_api_Kept))) (h:slices_ContainsFunc_string_string__store_shelf_has_1_o0 n a0 h0 = some r):CallsB Tryz.prog 120 [ls a0,.fn 121 [.own 1000000 0]] [(1000000,107,[.mp 1010060]),(1010060,107,[mc10 h0])] (vb r.1) [(1000000,107,[.mp 1010060]),(1010060,107,[mc10 r.2])]:=by
 unfold slices_ContainsFunc_string_string__store_shelf_has_1_o0 at h
 refine bo Tryz.f120 rfl fun F0 w0=>?_
 refine Wp.seq (rg [0,1] [1000000,1010060] [(0,ls a0),(1,.fn 121 [.own 1000000 0])] [(1000000,107,[.mp 1010060]),(1010060,107,[mc10 h0])] (To.thenN (Wp.seq ?_)))
 obtain ⟨r1,hr1,h⟩:=bind_of h
 refine rb [] 2 ⟨[(1000000,1000000),(1010060,1010060)],[(1000000,1000000),(1010060,1010060)],[ls a0,.fn 121 [.own 1000000 0]],[(1000000,107,[.mp 1010060]),(1010060,107,[mc10 h0])],vi r1.1,[(1000000,107,[.mp 1010060]),(1010060,107,[mc10 r1.2])]⟩ [4] [1000000,1010060] [(4,vb (decide (r1.1 ≥ 0)))] [(1000000,107,[.mp 1010060]),(1010060,107,[mc10 r1.2])] ((ok_slices_IndexFunc_string_string__store_shelf_has_1_o0 n a0 h0 _ hr1)) (To.thenN (Wp.ret ?_))
 cases h
 exact To.doneB hΓ [1000000,1010060] (by kernel_rfl) (by kernel_rfl)
def store_shelf_has__m0 (n:Nat) (a1:List (List UInt8)) (h0:List (MK × S_api_Kept)):Option (Bool × (List (MK × S_api_Kept))) :=
 (slices_ContainsFunc_string_string__store_shelf_has_1_o0 n a1 h0).bind fun r1 =>
 some ((!r1.1),r1.2)
theorem ok_store_shelf_has__m0 (n:Nat) (a1:List (List UInt8)) (h0:List (MK × S_api_Kept)) (r:Bool × (List (MK × S_api_Kept))) (h:store_shelf_has__m0 n a1 h0 = some r):CallsB Tryz.prog 85 [.mp 1000000,ls a1] [(1000000,107,[mc10 h0])] (vb r.1) [(1000000,107,[mc10 r.2])]:=by
 unfold store_shelf_has__m0 at h
 refine bo Tryz.f85 rfl fun F0 w0=>?_
 refine Wp.seq (rg [1,2] [2,1000000] [(1,ls a1),(2,.own 2 0)] [(2,107,[.mp 1000000]),(1000000,107,[mc10 h0])] (To.thenN (Wp.seq ?_)))
 obtain ⟨r1,hr1,h⟩:=bind_of h
 refine rb [] 2 ⟨[(1000000,2),(1010060,1000000)],[(1000000,2),(1010060,1000000)],[ls a1,.fn 121 [.own 1000000 0]],[(1000000,107,[.mp 1010060]),(1010060,107,[mc10 h0])],vb r1.1,[(1000000,107,[.mp 1010060]),(1010060,107,[mc10 r1.2])]⟩ [4] [1000000] [(4,vb (!r1.1))] [(1000000,107,[mc10 r1.2])] ((ok_slices_ContainsFunc_string_string__store_shelf_has_1_o0 n a1 h0 _ hr1)) (To.thenN (Wp.ret ?_))
 cases h
 exact To.doneB hΓ [1000000] (by kernel_rfl) (by kernel_rfl)
theorem good_E_string (l:List (List UInt8)):GoodR (.recs [] E_string l):=⟨Nat.le_of_ble_eq_true (by kernel_rfl),fun _=>⟨rfl,rfl⟩⟩
def slices_Clone_string_string (n:Nat) (a0:List (List UInt8)):Option ((List (List UInt8))) :=
 if (decide ((List.length ([]:List (List UInt8)) + List.length a0) * (16 + 1) ≤ limit)) = true then (some (([]:List (List UInt8)) ++ a0)) else none
abbrev rc20 (l:List (List UInt8)):D:=.rowc false (α:=List UInt8) [] E_string l
abbrev rc21 (l:List (List UInt8)):D:=.rowc true (α:=List UInt8) [] E_string l
abbrev ex12 (x0:List (List UInt8)):=(([]:List (List UInt8)) ++ x0)
theorem ok_slices_Clone_string_string (n:Nat) (a0:List (List UInt8)) (r:(List (List UInt8))) (h:slices_Clone_string_string n a0 = some r):CallsX Tryz.prog 64 [ls a0] (ls r):=by
 unfold slices_Clone_string_string at h
 refine xo Tryz.f64 rfl fun F0 w0 _=>?_
 refine Wp.seq (rg [0] [] [(0,ls a0)] [] (To.thenN (Wp.seq (Wp.seq (Wp.nilR (e:=9) (neg:=false) (t0:=0) (t3:=3) (t4:=4) (α:=List UInt8) (d:=[]) (enc:=E_string) (l:=a0) Tryz.underlying34 rfl rfl rfl rfl rfl rfl ⟨Nat.le_of_ble_eq_true (by kernel_rfl),Nat.le_of_ble_eq_true (by kernel_rfl),by decide⟩ (by kernel_rfl) (fun hl=>?_) ?_)))))
 ·subst hl
  have h:(some []) = some r:=by simpa using h
  refine To.thenN (Wp.cond (b:=true) (by kernel_rfl) (fun _=>?_) (fun hb=>by cases hb))
  refine Wp.seq (rg [2] [] [(2,.val (.slice none 0 0))] [] (To.thenN (Wp.ret (To.thenR (To.weak (K':=[(2,ls [])]) (L':=[]) (.cons (.zero _ _) .nil) .nil ?_)))))
  cases h
  exact To.done hΓ (by kernel_rfl)
 ·refine To.thenN (Wp.cond (b:=false) (by kernel_rfl) (fun hb=>by cases hb) (fun _=>(Wp.skip (To.thenN (Wp.seq ?_)))))
  obtain ⟨hc1,h⟩:=chk_of h
  refine rr [] [(0,ls []),(2,ls (ex12 a0))] [] [2] [7] [(2,.row 7)] [(7,9,[rc20 (ex12 a0)])] [(MkOb 1 [] 0 (ls []) ∧ GoodR (ls [])),_,(AppOb [] E_string ([]:List (List UInt8)) (List.flatMap E_string a0) (List.length a0) (ls (ex12 a0)) ∧ GoodR (ls (ex12 a0)))] (AllP.cons (mkOb (by kernel_rfl) rfl (by kernel_rfl) (good_E_string _)) (AllP.cons hc1 (AllP.cons (appOb rfl rfl (good_E_string _)) AllP.nil))) (To.thenN (Wp.ret (To.pre (St.settle (ks:=[7]) (kk:=[2]) (kl:=[7]) (K':=[(2,.row 7)]) (L':=[(7,9,[rc21 (ex12 a0)])]) (by kernel_rfl)) (To.pre (St.sealK [2] (K':=[(2,ls (ex12 a0))]) (by kernel_rfl)) ?_))))
  cases h
  exact To.done hΓ (by kernel_rfl)
def life_New (a0:Int) (a1:S_api_Spec):S_life_Box :=
 (S_life_Box.mk a1 a0 1 0 0 0 (-1) false false (S_probe_State.mk 0 0 0 0))
end Go.Proofs.YtaecmkldkljioaaGreat.M
