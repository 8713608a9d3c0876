import Derived.Test.YtefojkdckfidcaaGreatDoorQRxAnyD
import Derived.Test.YtefojkdckfidcaaGreatDoorQRxArgs
import Derived.Test.YtefojkdckfidcaaGreatDoorQRxGoto
import Derived.Test.YtefojkdckfidcaaGreatDoorQRxNil
import Derived.Test.YtefojkdckfidcaaGreatDoorQRxOrd
import Derived.Test.YtefojkdckfidcaaGreatDoorQRxEqArr
import Derived.Test.YtefojkdckfidcaaGreatDoorQRxEnd
import Derived.Test.YtefojkdckfidcaaGreatDoorQSh10z
import Derived.Test.YtefojkdckfidcaaGreatDoorProg
set_option linter.all false
namespace Go.Proofs.YtefojkdckfidcaaGreatDoor.M
open Go.RowKit Go.Proofs.YtefojkdckfidcaaGreatDoor.RX
set_option maxRecDepth 100000
def tab:List (Nat × TI):=[
 (3,{ agg:=false,size:=1,zero:=[.int .i64 0],kind:=.int .i64,eqs:=[] }),
 (4,{ agg:=false,size:=1,zero:=[.bool false],kind:=.bool,eqs:=[] }),
 (5,{ agg:=false,size:=1,zero:=[.int .u8 0],kind:=.int .u8,eqs:=[] }),
 (9,{ agg:=false,size:=1,zero:=[.string ⟨#[]⟩],kind:=.str,eqs:=[] }),
 (23,{ agg:=false,size:=1,zero:=[.slice none 0 0],kind:=.slice 1 false,elt:=9,eb:=16,ez:=[.string ⟨#[]⟩],ek:=none,eqs:=[] }),
 (24,{ agg:=false,size:=1,zero:=[.slice none 0 0],kind:=.slice 4 true,elt:=26,eb:=72,ez:=[.int .i64 0,.string ⟨#[]⟩,.slice none 0 0,.slice none 0 0],ek:=none,eqs:=[] }),
 (26,{ agg:=true,size:=4,zero:=[.int .i64 0,.string ⟨#[]⟩,.slice none 0 0,.slice none 0 0],kind:=.struct [(0,1,false),(1,1,false),(2,1,false),(3,1,false)],eqs:=[] }),
 (27,{ agg:=false,size:=1,zero:=[.int .i64 0],kind:=.int .i64,eqs:=[] }),
 (41,{ agg:=false,size:=1,zero:=[.slice none 0 0],kind:=.slice 3 true,elt:=50,eb:=32,ez:=[.int .i64 0,.int .i64 0,.string ⟨#[]⟩],ek:=none,eqs:=[] }),
 (46,{ agg:=true,size:=4,zero:=[.slice none 0 0,.int .i64 0,.int .i64 0,.int .i64 0],kind:=.struct [(0,1,false),(1,1,false),(2,1,false),(3,1,false)],eqs:=[] }),
 (50,{ agg:=true,size:=3,zero:=[.int .i64 0,.int .i64 0,.string ⟨#[]⟩],kind:=.struct [(0,1,false),(1,1,false),(2,1,false)],eqs:=[] }),
 (51,{ agg:=false,size:=1,zero:=[.slice none 0 0],kind:=.slice 3 true,elt:=57,eb:=32,ez:=[.int .i64 0,.int .i64 0,.string ⟨#[]⟩],ek:=none,eqs:=[] }),
 (55,{ agg:=true,size:=7,zero:=[.int .i64 0,.string ⟨#[]⟩,.slice none 0 0,.slice none 0 0,.int .i64 0,.int .i64 0,.int .i64 0],kind:=.struct [(0,4,true),(4,1,false),(5,1,false),(6,1,false)],eqs:=[] }),
 (57,{ agg:=true,size:=3,zero:=[.int .i64 0,.int .i64 0,.string ⟨#[]⟩],kind:=.struct [(0,1,false),(1,1,false),(2,1,false)],eqs:=[] }),
 (66,{ agg:=false,size:=1,zero:=[.slice none 0 0],kind:=.slice 1 false,elt:=5,eb:=1,ez:=[.int .u8 0],ek:=some .u8,eqs:=[] }),
 (87,{ agg:=true,size:=1,zero:=[.int .i64 0],kind:=.struct [(0,1,false)],eqs:=[] }),
 (137,{ agg:=true,size:=3,zero:=[.string ⟨#[]⟩,.int .i64 0,.bool false],kind:=.struct [(0,1,false),(1,1,false),(2,1,false)],eqs:=[] }),
 (156,{ agg:=false,size:=1,zero:=[.map none],kind:=.map none 1 false,elt:=3,eb:=0,ez:=[.int .i64 0],ek:=none,eqs:=[] })]
theorem tabOK:TabOK Tryz.prog tab:=⟨⟨by kernel_rfl,fun h=>absurd rfl h⟩,⟨by kernel_rfl,fun h=>absurd rfl h⟩,⟨by kernel_rfl,fun h=>absurd rfl h⟩,⟨by kernel_rfl,fun h=>absurd rfl h⟩,⟨by kernel_rfl,fun h=>absurd rfl h⟩,⟨by kernel_rfl,fun h=>absurd rfl h⟩,⟨by kernel_rfl,fun h=>absurd rfl h⟩,⟨by kernel_rfl,fun h=>absurd rfl h⟩,⟨by kernel_rfl,fun h=>absurd rfl h⟩,⟨by kernel_rfl,fun h=>absurd rfl h⟩,⟨by kernel_rfl,fun h=>absurd rfl h⟩,⟨by kernel_rfl,fun h=>absurd rfl h⟩,⟨by kernel_rfl,fun h=>absurd rfl h⟩,⟨by kernel_rfl,fun h=>absurd rfl h⟩,⟨by kernel_rfl,fun h=>absurd rfl h⟩,⟨by kernel_rfl,fun h=>absurd rfl h⟩,⟨by kernel_rfl,fun h=>absurd rfl h⟩,⟨by kernel_rfl,fun h=>absurd rfl h⟩,trivial⟩
theorem hΓ:ΓOK Tryz.prog (tabΓ tab):=ΓOK.of tabOK
theorem hm:Tryz.prog.follows .mixedOrders = true:=by kernel_rfl
structure S_api_Node where
 f_Kind:Int
 f_Text:List UInt8
 f_Keys:List (List UInt8)
 f_Kids:List (S_api_Node)
def E_string:List UInt8 → List D:=fun x=>[.str x]
abbrev vi (x:Int):D:=.val (.int .i64 x)
abbrev vb (x:Bool):D:=.val (.bool x)
abbrev ls (l:List (List UInt8)):D:=.recs (α:=List UInt8) [] E_string l
theorem rg {nt:Nat} {F0:Fz} {w0:Pt Tryz.prog} {K:List (Nat × D)} {L:Boxes} {Q:Exit → Act → World → Prop} {id:Nat} {l:List Oper} (kk kl:List Nat) (K':List (Nat × D)) (L':Boxes) (hn:To nt F0 w0 K' L' .normal Q) (h:evRegion (CX Tryz.prog) (CallsB Tryz.prog) (tabΓ tab) nt [] [] l [] K L kk kl = some (K',L',[]):=by kernel_rfl):Wp Tryz.prog nt F0 w0 K L (.region id l.toArray false) Q:=Wp.region hΓ [] [] [] kk kl h AllP.nil hn
theorem rr {nt:Nat} {F0:Fz} {w0:Pt Tryz.prog} {K:List (Nat × D)} {L:Boxes} {Q:Exit → Act → World → Prop} {id:Nat} {l:List Oper} (fz:List (Nat × List Nat)) (orc:List (Nat × D)) (orb:List (Nat × CBd)) (kk kl:List Nat) (K':List (Nat × D)) (L':Boxes) (ob:List Prop) (hob:AllP ob) (hn:To nt F0 w0 K' L' .normal Q) (h:evRegion (CX Tryz.prog) (CallsB Tryz.prog) (tabΓ tab) nt orc orb l fz K L kk kl = some (K',L',ob):=by kernel_rfl):Wp Tryz.prog nt F0 w0 K L (.region id l.toArray false) Q:=Wp.region hΓ fz orc orb kk kl h hob hn
theorem kw {nt:Nat} {F0:Fz} {w0:Pt Tryz.prog} {K:List (Nat × D)} {L:Boxes} {Q:Exit → Act → World → Prop} {c:Code} (kk kl:List Nat) (K':List (Nat × D)) (L':Boxes) (hn:Wp Tryz.prog nt F0 w0 K' L' c Q) (h1:keepS K kk = some K':=by kernel_rfl) (h2:keepL L kl = some L':=by kernel_rfl):Wp Tryz.prog nt F0 w0 K L c Q:=Wp.keep h1 h2 hn
theorem kt {nt:Nat} {F0:Fz} {w0:Pt Tryz.prog} {K:List (Nat × D)} {L:Boxes} {Q:Exit → Act → World → Prop} {e:Exit} (kk kl:List Nat) (K':List (Nat × D)) (L':Boxes) (hn:To nt F0 w0 K' L' e Q) (h1:keepS K kk = some K':=by kernel_rfl) (h2:keepL L kl = some L':=by kernel_rfl):To nt F0 w0 K L e Q:=To.keep h1 h2 hn
theorem r0 {nt:Nat} {F0:Fz} {w0:Pt Tryz.prog} {K:List (Nat × D)} {L:Boxes} {Q:Exit → Act → World → Prop} {id:Nat} {l:List Oper} {ob:List Prop} (kk kl:List Nat) (K':List (Nat × D)) (L':Boxes) (hob:AllP ob) (hn:To nt F0 w0 K' L' .normal Q) (h:evRegion (CX Tryz.prog) (CallsB Tryz.prog) (tabΓ tab) nt [] [] l [] K L kk kl = some (K',L',ob):=by kernel_rfl):Wp Tryz.prog nt F0 w0 K L (.region id l.toArray false) Q:=Wp.region hΓ [] [] [] kk kl h hob hn
theorem rc {nt:Nat} {F0:Fz} {w0:Pt Tryz.prog} {K:List (Nat × D)} {L:Boxes} {Q:Exit → Act → World → Prop} {id:Nat} {l:List Oper} {f:Nat} {ds:List D} {r:D} (fz:List (Nat × List Nat)) (i:Nat) (kk kl:List Nat) (K':List (Nat × D)) (L':Boxes) (hc:CallsX Tryz.prog f ds r) (hn:To nt F0 w0 K' L' .normal Q) (h:evRegion (CX Tryz.prog) (CallsB Tryz.prog) (tabΓ tab) nt [(i,r)] [] l fz K L kk kl = some (K',L',[(true = true → CX Tryz.prog f ds r)]):=by kernel_rfl):Wp Tryz.prog nt F0 w0 K L (.region id l.toArray false) Q:=Wp.region hΓ fz [(i,r)] [] kk kl h (AllP.cons (fun _=>cx hc) AllP.nil) hn
theorem rb {nt:Nat} {F0:Fz} {w0:Pt Tryz.prog} {K:List (Nat × D)} {L:Boxes} {Q:Exit → Act → World → Prop} {id:Nat} {l:List Oper} {f:Nat} (fz:List (Nat × List Nat)) (i:Nat) (c:CBd) (kk kl:List Nat) (K':List (Nat × D)) (L':Boxes) (hc:CallsB Tryz.prog f c.ds c.Lin c.r c.Lout) (hn:To nt F0 w0 K' L' .normal Q) (h:evRegion (CX Tryz.prog) (CallsB Tryz.prog) (tabΓ tab) nt [] [(i,c)] l fz K L kk kl = some (K',L',[CbOb (CallsB Tryz.prog) f (D.subs (renF never c.ren) c.ds) (c.Lin.map fun x=>some (x.2.1,D.subs (renF never c.ren) x.2.2)) c]):=by kernel_rfl):Wp Tryz.prog nt F0 w0 K L (.region id l.toArray false) Q:=Wp.region hΓ fz [] [(i,c)] kk kl h (AllP.cons ⟨hc,rfl,rfl⟩ AllP.nil) hn
theorem c1 {f:Nat} {ds:List D} {r:D} (h:CallsX Tryz.prog f ds r):true = true → CX Tryz.prog f ds r:=fun _=>cx h
theorem cn {nt:Nat} {F0:Fz} {w0:Pt Tryz.prog} {K:List (Nat × D)} {L:Boxes} {Q:Exit → Act → World → Prop} {t:Nat} {x y:Code} {b:Bool} {α:Type _} {p q r:α} (h:(if b = true then p else q) = r) (h1:p = r → Wp Tryz.prog nt F0 w0 K L x Q) (h2:q = r → Wp Tryz.prog nt F0 w0 K L y Q) (hc:K.lookup t = some (.val (.bool b)):=by kernel_rfl):Wp Tryz.prog nt F0 w0 K L (.cond (.tmp t) x y) Q:=Wp.cond hc (fun hb=>h1 (if_t hb h)) (fun hb=>h2 (if_f hb h))
theorem xo {f : Nat} (fn : Func) {c : Code} {ds : List D} {r : D} (hbody : fn.body = some c) (h : ∀ (F0 : Fz) (w0 : World) (hsh : Shp Tryz.prog w0), Wp Tryz.prog fn.ntmps F0 (.top w0 hsh) (ds.zipIdx.map fun x => (x.2, x.1)) [] c (bodyPost Tryz.prog fn (PostX F0 w0 r))) (hf : Tryz.prog.funcs[f]? = some fn := by kernel_rfl) (hname : (fn.name == "runtime.NumGoroutine") = false := by kernel_rfl) (hn : ds.length.ble fn.ntmps = true := by kernel_rfl) : CallsX Tryz.prog f ds r := callsX_of hf hbody hname (Nat.le_of_ble_eq_true hn) h
theorem bo {f : Nat} (fn : Func) {c : Code} {ds : List D} {Lin : Boxes} {r : D} {Lout : Boxes} (hbody : fn.body = some c) (h : ∀ (F0 : Fz) (w0 : Pt Tryz.prog), Wp Tryz.prog fn.ntmps F0 w0 (ds.zipIdx.map fun x => (x.2, x.1)) Lin c (bodyPost Tryz.prog fn (PostB F0 w0 r Lout))) (hf : Tryz.prog.funcs[f]? = some fn := by kernel_rfl) (hname : (fn.name == "runtime.NumGoroutine") = false := by kernel_rfl) (hn : ds.length.ble fn.ntmps = true := by kernel_rfl) : CallsB Tryz.prog f ds Lin r Lout := callsB_of hf hbody hname (Nat.le_of_ble_eq_true hn) h
def rnA:List (Nat × Nat) → List (Nat × D) → Boxes → Option (List (Nat × D) × Boxes)
 | [],K,L=>some (K,L)
 | x :: rs,K,L=>if (Nat.blt x.2 1000000 && freshKey x.2 K L) = true then rnA rs (renK x.1 x.2 K) (renL x.1 x.2 L) else none
theorem rnA_st {nt:Nat} {F0:Fz} {w0:Pt Tryz.prog}:∀ (rs:List (Nat × Nat)) {K K':List (Nat × D)} {L L':Boxes},rnA rs K L = some (K',L') → ∀ a w,St nt F0 w0 K L a w → St nt F0 w0 K' L' a w
 | [],_,_,_,_,h,_,_,hs=>by cases h; exact hs
 | x :: rs,K,K',L,L',h,a,w,hs=>by
  unfold rnA at h
  split at h
  ·rename_i hc
   rw [Bool.and_eq_true] at hc
   exact rnA_st rs h a w (St.rename x.1 x.2 (by simpa using hc.1) hc.2 rfl rfl a w hs)
  ·cases h
def knA (rs:List (Nat × Nat)) (k0 l0 kk kl:List Nat) (K:List (Nat × D)) (L:Boxes):Option (List (Nat × D) × Boxes) :=
 match keepS K k0,keepL L l0 with
 | some K0,some L0=>(match rnA rs K0 L0 with
  | some (K1,L1)=>(match keepS K1 kk,keepL L1 kl with | some K2,some L2=>some (K2,L2) | _,_=>none)
  | none=>none)
 | _,_=>none
theorem knA_st {nt:Nat} {F0:Fz} {w0:Pt Tryz.prog} {rs:List (Nat × Nat)} {k0 l0 kk kl:List Nat} {K K':List (Nat × D)} {L L':Boxes} (h:knA rs k0 l0 kk kl K L = some (K',L')):∃ K0 L0 K1 L1,keepS K k0 = some K0 ∧ keepL L l0 = some L0 ∧ rnA rs K0 L0 = some (K1,L1) ∧ keepS K1 kk = some K' ∧ keepL L1 kl = some L':=by
 unfold knA at h
 split at h
 ·rename_i K0 L0 e1 e2
  split at h
  ·rename_i K1 L1 e3
   split at h
   ·rename_i K2 L2 e4 e5
    cases h
    exact ⟨K0,L0,K1,L1,e1,e2,e3,e4,e5⟩
   ·cases h
  ·cases h
 ·cases h
theorem nw {nt:Nat} {F0:Fz} {w0:Pt Tryz.prog} {K:List (Nat × D)} {L:Boxes} {Q:Exit → Act → World → Prop} {c:Code} (k0 l0:List Nat) (rs:List (Nat × Nat)) (kk kl:List Nat) (K':List (Nat × D)) (L':Boxes) (hn:Wp Tryz.prog nt F0 w0 K' L' c Q) (h:knA rs k0 l0 kk kl K L = some (K',L'):=by kernel_rfl):Wp Tryz.prog nt F0 w0 K L c Q :=
 let ⟨_,_,_,_,e1,e2,e3,e4,e5⟩:=knA_st (w0:=w0) (F0:=F0) (nt:=nt) h
 Wp.keep e1 e2 (Wp.pre (rnA_st rs e3) (Wp.keep e4 e5 hn))
theorem nt {nt:Nat} {F0:Fz} {w0:Pt Tryz.prog} {K:List (Nat × D)} {L:Boxes} {Q:Exit → Act → World → Prop} {e:Exit} (k0 l0:List Nat) (rs:List (Nat × Nat)) (kk kl:List Nat) (K':List (Nat × D)) (L':Boxes) (hn:To nt F0 w0 K' L' e Q) (h:knA rs k0 l0 kk kl K L = some (K',L'):=by kernel_rfl):To nt F0 w0 K L e Q :=
 let ⟨_,_,_,_,e1,e2,e3,e4,e5⟩:=knA_st (w0:=w0) (F0:=F0) (nt:=nt) h
 To.keep e1 e2 (To.pre (rnA_st rs e3) (To.keep e4 e5 hn))
def pre_S_api_Node:S_api_Node → List D:=fun x=>[.val (.int .i64 x.f_Kind),.str x.f_Text,.recs (α:=List UInt8) [] E_string x.f_Keys]
def kids_S_api_Node:S_api_Node → List (S_api_Node):=fun x=>x.f_Kids
def tr_S_api_Node:S_api_Node → List D:=treeEnc (S_api_Node.mk 0 [] [] []) pre_S_api_Node kids_S_api_Node
def E_api_Node:S_api_Node → List D:=tr_S_api_Node
structure S_line_Line where
 f_No:Int
 f_Indent:Int
 f_Text:List UInt8
def E_line_Line:S_line_Line → List D:=fun x=>[.val (.int .i64 x.f_No),.val (.int .i64 x.f_Indent),.str x.f_Text]
theorem good_E_line_Line (l:List (S_line_Line)):GoodR (.recs (S_line_Line.mk 0 0 []) E_line_Line l):=⟨Nat.le_of_ble_eq_true (by kernel_rfl),fun _=>⟨rfl,rfl⟩⟩
def quote_ok (a0:Int):Bool :=
 (bif (decide (a0 ≥ 32)) then (a0 != 127) else false)
theorem ok_quote_ok (a0:Int) (r:Bool) (h:quote_ok a0 = r):CallsX Tryz.prog 64 [.val (.int .u8 a0)] (vb r):=by
 unfold quote_ok at h
 refine xo Tryz.f64 rfl fun F0 w0 _=>?_
 refine Wp.seq (rg [0] [] [(0,.val (.int .u8 a0))] [] (To.thenN (Wp.seq (rg [2] [] [(2,vb (bif (decide (a0 ≥ 32)) then (a0 != 127) else false))] [] (To.thenN (Wp.ret ?_))))))
 cases h
 exact To.done hΓ (by kernel_rfl)
def quote_hex (a0:Int):Int × Bool :=
 if (bif (decide (a0 ≥ 48)) then (decide (a0 ≤ 57)) else false) = true then (((IntKind.wrap .u8 (a0 - 48)),true))
 else (if (bif (decide (a0 ≥ 97)) then (decide (a0 ≤ 102)) else false) = true then (((IntKind.wrap .u8 ((IntKind.wrap .u8 (a0 - 97)) + 10)),true))
 else (if (bif (decide (a0 ≥ 65)) then (decide (a0 ≤ 70)) else false) = true then (((IntKind.wrap .u8 ((IntKind.wrap .u8 (a0 - 65)) + 10)),true))
 else ((0,false))))
abbrev ex1 (x0:Int):=(bif (decide (x0 ≥ 97)) then (decide (x0 ≤ 102)) else false)
abbrev ex2 (x0:Int):=(bif (decide (x0 ≥ 48)) then (decide (x0 ≤ 57)) else false)
abbrev ex3 (x0:Int):=(bif (decide (x0 ≥ 65)) then (decide (x0 ≤ 70)) else false)
theorem ok_quote_hex (a0:Int) (r:Int × Bool) (h:quote_hex a0 = r):CallsX Tryz.prog 99 [.val (.int .u8 a0)] (.tup [.val (.int .u8 r.1),vb r.2]):=by
 unfold quote_hex at h
 refine xo Tryz.f99 rfl fun F0 w0 _=>?_
 refine Wp.seq (rg [0] [] [(0,.val (.int .u8 a0))] [] (To.thenN (Wp.seq (Wp.block (Wp.seq (rg [0,4] [] [(0,.val (.int .u8 a0)),(4,vb (ex2 a0))] [] (To.thenN (cn h (fun h=>?_) (fun h=>?_)))))))))
 ·refine Wp.seq (rg [2,3] [] [(2,.val (.int .u8 (IntKind.wrap .u8 (a0 - 48)))),(3,vb true)] [] (To.thenN (Wp.ret (To.blockR (To.thenR ?_)))))
  cases h
  exact To.done hΓ (by kernel_rfl)
 ·refine Wp.seq (rg [0,13] [] [(0,.val (.int .u8 a0)),(13,vb (ex1 a0))] [] (To.thenN (cn h (fun h=>?_) (fun h=>?_))))
  ·refine Wp.seq (rg [2,3] [] [(2,.val (.int .u8 (IntKind.wrap .u8 ((IntKind.wrap .u8 (a0 - 97)) + 10)))),(3,vb true)] [] (To.thenN (Wp.ret (To.blockR (To.thenR ?_)))))
   cases h
   exact To.done hΓ (by kernel_rfl)
  ·refine Wp.seq (rg [0,23] [] [(0,.val (.int .u8 a0)),(23,vb (ex3 a0))] [] (To.thenN (cn h (fun h=>?_) (fun h=>?_))))
   ·refine Wp.seq (rg [2,3] [] [(2,.val (.int .u8 (IntKind.wrap .u8 ((IntKind.wrap .u8 (a0 - 65)) + 10)))),(3,vb true)] [] (To.thenN (Wp.ret (To.blockR (To.thenR ?_)))))
    cases h
    exact To.done hΓ (by kernel_rfl)
   ·refine Wp.skip (To.blockN (To.thenN (Wp.seq (rg [2,3] [] [(2,.val (.int .u8 0)),(3,vb false)] [] (To.thenN (Wp.ret ?_))))))
    cases h
    exact To.done hΓ (by kernel_rfl)
def quote_escape_j2 (n:Nat) (v0:List UInt8) (v12:Int) (v13:Bool):Option (Bool) :=
 if v13 = true then some v13
 else (some (v12 == 34))
theorem ok_quote_escape_j2 (n:Nat) (v0:List UInt8) (v12:Int) (v13:Bool) (o:Bool) (h:quote_escape_j2 n v0 v12 v13 = some o) {F0:Fz} {w0:Pt Tryz.prog} {Q:Exit → Act → World → Prop} (hQ:To 47 F0 w0 [(0,.str v0),(12,.val (.int .u8 v12)),(13,vb o)] [] .normal Q):Wp Tryz.prog 47 F0 w0 [(0,.str v0),(12,.val (.int .u8 v12)),(13,vb v13)] [] (cB (cA (cI (cB (cA (cB (cB (cF Tryz.f65)))))))) Q:=by
 unfold quote_escape_j2 at h
 refine cn h (fun h=>?_) (fun h=>?_)
 ·refine Wp.skip (kt [0,12,13] [] [(0,.str v0),(12,.val (.int .u8 v12)),(13,vb v13)] [] ?_)
  cases h
  exact hQ
 ·refine rg [0,12,13] [] [(0,.str v0),(12,.val (.int .u8 v12)),(13,vb (v12 == 34))] [] (kt [0,12,13] [] [(0,.str v0),(12,.val (.int .u8 v12)),(13,vb (v12 == 34))] [] ?_)
  cases h
  exact hQ
def quote_escape_j1 (n:Nat) (v0:List UInt8) (v12:Int):Option (Sum (Unit) (Int × Int)) :=
 (quote_escape_j2 n v0 v12 (v12 == 92)).bind fun o1 =>
 if o1 = true then (if (decide (0 ≤ (1:Int) ∧ (1:Int) < (List.length v0:Int))) = true then (some (.inr ((((v0)[Int.toNat 1]?.getD 0).toNat:Int),2))) else none)
 else (if (v12 == 110) = true then (some (.inr (10,2)))
 else (if (v12 == 116) = true then (some (.inr (9,2)))
 else (if (v12 == 120) = true then (if (decide ((List.length v0:Int) < 4)) = true then (some (.inr (0,0)))
 else (if (decide (0 ≤ (2:Int) ∧ (2:Int) < (List.length v0:Int))) = true then (lett (quote_hex (((v0)[Int.toNat 2]?.getD 0).toNat:Int)) fun r3 =>
 if (decide (0 ≤ (3:Int) ∧ (3:Int) < (List.length v0:Int))) = true then (lett (quote_hex (((v0)[Int.toNat 3]?.getD 0).toNat:Int)) fun r4 =>
 if (bif r3.2 then r4.2 else false) = true then (if (decide (0 ≤ (4:Int))) = true then (lett ((IntKind.wrap .u8 ((BitVec.ofInt (IntKind.bits .u8) (IntKind.wrap .u8 (r3.1 * 2 ^ (min (Int.toNat 4) (IntKind.bits .u8)))) ||| BitVec.ofInt (IntKind.bits .u8) r4.1).toNat)):Int) fun x5 =>
 some (.inr (x5,4))) else none)
 else (some (.inl ()))) else none) else none))
 else (some (.inl ())))))
abbrev ex4 (x0:List UInt8):=(((x0)[Int.toNat 1]?.getD 0).toNat:Int)
abbrev ex5 (x0:List UInt8):=(0 ≤ (1:Int) ∧ (1:Int) < (List.length x0:Int))
theorem ok_quote_escape_j1 (n:Nat) (v0:List UInt8) (v12:Int) (o:Sum (Unit) (Int × Int)) (h:quote_escape_j1 n v0 v12 = some o) {F0:Fz} {w0:Pt Tryz.prog} {Q:Exit → Act → World → Prop} (hQ:(Sum.elim (fun s=>To 47 F0 w0 [] [] .normal Q) (fun s=>To 47 F0 w0 [(2,.val (.int .u8 s.1)),(3,vi s.2)] [] .ret Q)) o):Wp Tryz.prog 47 F0 w0 [(0,.str v0),(12,.val (.int .u8 v12))] [] (cB (cA (cB (cB (cF Tryz.f65))))) Q:=by
 unfold quote_escape_j1 at h
 refine Wp.block (Wp.seq (Wp.seq (rg [0,12,13] [] [(0,.str v0),(12,.val (.int .u8 v12)),(13,vb (v12 == 92))] [] (To.thenN ?_))))
 obtain ⟨o1,ho1,h⟩:=bind_of h
 refine kw [0,12,13] [] [(0,.str v0),(12,.val (.int .u8 v12)),(13,vb (v12 == 92))] [] (ok_quote_escape_j2 n v0 v12 (v12 == 92) o1 ho1 (To.thenN (cn h (fun h=>?_) (fun h=>?_))))
 ·refine Wp.seq ?_
  obtain ⟨hc2,h⟩:=chk_of h
  refine r0 [2,3] [] [(2,.val (.int .u8 (ex4 v0))),(3,vi 2)] [] (AllP.cons hc2 AllP.nil) (To.thenN (Wp.ret (To.blockR ?_)))
  cases h
  exact hQ
 ·refine Wp.seq (rg [0,12,18] [] [(0,.str v0),(12,.val (.int .u8 v12)),(18,vb (v12 == 110))] [] (To.thenN (cn h (fun h=>?_) (fun h=>?_))))
  ·refine Wp.seq (rg [2,3] [] [(2,.val (.int .u8 10)),(3,vi 2)] [] (To.thenN (Wp.ret (To.blockR ?_))))
   cases h
   exact hQ
  ·refine Wp.seq (rg [0,12,20] [] [(0,.str v0),(12,.val (.int .u8 v12)),(20,vb (v12 == 116))] [] (To.thenN (cn h (fun h=>?_) (fun h=>?_))))
   ·refine Wp.seq (rg [2,3] [] [(2,.val (.int .u8 9)),(3,vi 2)] [] (To.thenN (Wp.ret (To.blockR ?_))))
    cases h
    exact hQ
   ·refine Wp.seq (rg [0,22] [] [(0,.str v0),(22,vb (v12 == 120))] [] (To.thenN (cn h (fun h=>?_) (fun h=>?_))))
    ·refine Wp.seq (Wp.seq (rg [0,26] [] [(0,.str v0),(26,vb (decide ((List.length v0:Int) < 4)))] [] (To.thenN (cn h (fun h=>?_) (fun h=>?_)))))
     ·refine Wp.seq (rg [2,3] [] [(2,.val (.int .u8 0)),(3,vi 0)] [] (To.thenN (Wp.ret (To.thenR (To.blockR ?_)))))
      cases h
      exact hQ
     ·refine Wp.skip (To.thenN (Wp.seq ?_))
      obtain ⟨hc8,h⟩:=chk_of h
      obtain ⟨r3,hr3,h⟩:=lett_of h
      refine rr [] [(2,.tup [.val (.int .u8 r3.1),vb r3.2])] [] [0,4,5] [] [(0,.str v0),(4,.val (.int .u8 r3.1)),(5,vb r3.2)] [] [_,_] (AllP.cons hc8 (AllP.cons (c1 (ok_quote_hex (((v0)[Int.toNat 2]?.getD 0).toNat:Int) _ hr3)) AllP.nil)) (To.thenN (Wp.seq ?_))
      obtain ⟨hc7,h⟩:=chk_of h
      obtain ⟨r4,hr4,h⟩:=lett_of h
      refine rr [] [(2,.tup [.val (.int .u8 r4.1),vb r4.2])] [] [4,5,6,7] [] [(4,.val (.int .u8 r3.1)),(5,vb r3.2),(6,.val (.int .u8 r4.1)),(7,vb r4.2)] [] [_,_] (AllP.cons hc7 (AllP.cons (c1 (ok_quote_hex (((v0)[Int.toNat 3]?.getD 0).toNat:Int) _ hr4)) AllP.nil)) (To.thenN (Wp.seq (rg [4,6,42] [] [(4,.val (.int .u8 r3.1)),(6,.val (.int .u8 r4.1)),(42,vb (bif r3.2 then r4.2 else false))] [] (To.thenN (cn h (fun h=>?_) (fun h=>?_))))))
      ·refine Wp.seq ?_
       obtain ⟨hc6,h⟩:=chk_of h
       obtain ⟨x5,hx5,h⟩:=lett_of h
       refine r0 [2,3] [] [(2,.val (.int .u8 (IntKind.wrap .u8 ((BitVec.ofInt (IntKind.bits .u8) (IntKind.wrap .u8 (r3.1 * 2 ^ (min (Int.toNat 4) (IntKind.bits .u8)))) ||| BitVec.ofInt (IntKind.bits .u8) r4.1).toNat)))),(3,vi 4)] [] (AllP.cons hc6 AllP.nil) (To.eq (K':=[(2,.val (.int .u8 x5)),(3,vi 4)]) (L':=[]) (by cases hx5; rfl) (by cases hx5; rfl) (To.thenN (Wp.ret (To.blockR (kt [2,3] [] [(2,.val (.int .u8 x5)),(3,vi 4)] [] ?_)))))
       cases h
       exact hQ
      ·refine Wp.skip (To.blockN (kt [] [] [] [] ?_))
       cases h
       exact hQ
    ·refine Wp.skip (To.blockN (kt [] [] [] [] ?_))
     cases h
     exact hQ
def quote_escape (n:Nat) (a0:List UInt8):Option (Int × Int) :=
 if (decide ((List.length a0:Int) < 2)) = true then (some (0,0))
 else (if (decide (0 ≤ (1:Int) ∧ (1:Int) < (List.length a0:Int))) = true then ((quote_escape_j1 n a0 (((a0)[Int.toNat 1]?.getD 0).toNat:Int)).bind fun o1 =>
 (Sum.elim (fun o1=>some (0,0)) (fun o1=>some (o1.1,o1.2))) o1) else none)
theorem ok_quote_escape (n:Nat) (a0:List UInt8) (r:Int × Int) (h:quote_escape n a0 = some r):CallsX Tryz.prog 65 [.str a0] (.tup [.val (.int .u8 r.1),vi r.2]):=by
 unfold quote_escape at h
 refine xo Tryz.f65 rfl fun F0 w0 _=>?_
 refine Wp.seq (rg [0] [] [(0,.str a0)] [] (To.thenN (Wp.seq (Wp.seq (rg [0,10] [] [(0,.str a0),(10,vb (decide ((List.length a0:Int) < 2)))] [] (To.thenN (cn h (fun h=>?_) (fun h=>?_))))))))
 ·refine Wp.seq (rg [2,3] [] [(2,.val (.int .u8 0)),(3,vi 0)] [] (To.thenN (Wp.ret (To.thenR ?_))))
  cases h
  exact To.done hΓ (by kernel_rfl)
 ·refine Wp.skip (To.thenN (Wp.seq (Wp.seq ?_)))
  obtain ⟨hc2,h⟩:=chk_of h
  refine r0 [0,12] [] [(0,.str a0),(12,.val (.int .u8 (ex4 a0)))] [] (AllP.cons hc2 AllP.nil) (To.thenN ?_)
  obtain ⟨o1,ho1,h⟩:=bind_of h
  refine kw [0,12] [] [(0,.str a0),(12,.val (.int .u8 (ex4 a0)))] [] (ok_quote_escape_j1 n a0 (ex4 a0) o1 ho1 ?_)
  rcases o1 with o1 | o1
  ·replace h:=sum_l h
   refine To.thenN (Wp.seq (rg [2,3] [] [(2,.val (.int .u8 0)),(3,vi 0)] [] (To.thenN (Wp.ret ?_))))
   cases h
   exact To.done hΓ (by kernel_rfl)
  ·replace h:=sum_r h
   refine To.thenR ?_
   cases h
   exact To.done hΓ (by kernel_rfl)
def quote_Scan_l1 (n:Nat) (v0:List UInt8) (v7:Int):Nat → Int → (List (UInt8)) → Option (Sum (Unit) ((List UInt8) × Int × Int))
 | 0,_,_=>none
 | k + 1,v1,v8=>if ((!((decide (v1 < (List.length v0:Int))) == true) || decide (0 ≤ v1 ∧ v1 < (List.length v0:Int)))) = true then (if (bif (decide (v1 < (List.length v0:Int))) then (quote_ok (((v0)[Int.toNat v1]?.getD 0).toNat:Int)) else false) = true then (if (decide (0 ≤ v1 ∧ v1 < (List.length v0:Int))) = true then (if ((!((bif (bif ((((v0)[Int.toNat v1]?.getD 0).toNat:Int) == 39) then (v7 == (((v0)[Int.toNat v1]?.getD 0).toNat:Int)) else false) then (decide ((IntKind.wrap .i64 (v1 + 1)) < (List.length v0:Int))) else false) == true) || decide (0 ≤ (IntKind.wrap .i64 (v1 + 1)) ∧ (IntKind.wrap .i64 (v1 + 1)) < (List.length v0:Int)))) = true then (lett ((bif (bif (bif ((((v0)[Int.toNat v1]?.getD 0).toNat:Int) == 39) then (v7 == (((v0)[Int.toNat v1]?.getD 0).toNat:Int)) else false) then (decide ((IntKind.wrap .i64 (v1 + 1)) < (List.length v0:Int))) else false) then ((((v0)[Int.toNat (IntKind.wrap .i64 (v1 + 1))]?.getD 0).toNat:Int) == (((v0)[Int.toNat v1]?.getD 0).toNat:Int)) else false):Bool) fun x2 =>
 if x2 = true then (if (decide ((List.length v8 + List.length ([((v0)[Int.toNat v1]?.getD 0)]:List (UInt8))) * (1 + 1) ≤ limit)) = true then (quote_Scan_l1 n v0 v7 k (IntKind.wrap .i64 (v1 + 2)) (v8 ++ ([((v0)[Int.toNat v1]?.getD 0)]:List (UInt8)))) else none)
 else (if ((((v0)[Int.toNat v1]?.getD 0).toNat:Int) == v7) = true then (some (.inr (v8,(IntKind.wrap .i64 (v1 + 1)),0)))
 else (if (bif ((((v0)[Int.toNat v1]?.getD 0).toNat:Int) == 92) then (v7 == 34) else false) = true then (if (decide (0 ≤ v1 ∧ v1 ≤ (List.length v0:Int))) = true then ((quote_escape n (List.drop (Int.toNat v1) v0)).bind fun r4 =>
 if (r4.2 == 0) = true then (some (.inr ([],0,3)))
 else (if (decide (0 ≤ r4.1 ∧ r4.1 < 256)) = true then (if (decide ((List.length v8 + List.length ([(UInt8.ofNat (Int.toNat r4.1))]:List (UInt8))) * (1 + 1) ≤ limit)) = true then (quote_Scan_l1 n v0 v7 k (IntKind.wrap .i64 (v1 + r4.2)) (v8 ++ ([(UInt8.ofNat (Int.toNat r4.1))]:List (UInt8)))) else none) else none)) else none)
 else (if (decide ((List.length v8 + List.length ([((v0)[Int.toNat v1]?.getD 0)]:List (UInt8))) * (1 + 1) ≤ limit)) = true then (quote_Scan_l1 n v0 v7 k (IntKind.wrap .i64 (v1 + 1)) (v8 ++ ([((v0)[Int.toNat v1]?.getD 0)]:List (UInt8)))) else none)))) else none) else none)
 else (some (.inl ()))) else none
abbrev rc1 (l:List (UInt8)):D:=.rowc false (α:=UInt8) 0 e8 l
abbrev rs2 (l:List (UInt8)):D:=.recs (α:=UInt8) 0 e8 l
abbrev ex6 (x0:List UInt8) (x1:Int):=(((x0)[Int.toNat x1]?.getD 0).toNat:Int)
abbrev ex7 (x0:List UInt8) (x1:Int):=((x0)[Int.toNat (IntKind.wrap .i64 (x1 + 1))]?.getD 0)
abbrev ex8 (x0:List UInt8) (x1:Int):=([((x0)[Int.toNat x1]?.getD 0)]:List (UInt8))
abbrev ex9 (x0:Int) (x1:List UInt8):=(decide (x0 < (List.length x1:Int)))
abbrev ex10 (x0:Int) (x1:List UInt8):=(0 ≤ x0 ∧ x0 < (List.length x1:Int))
abbrev ex11 (x0:Int):Nat × D:=(1,vi (IntKind.wrap .i64 (x0 + 1)))
abbrev ex12 (x0:Int):Nat × D:=(5,vi (IntKind.wrap .i64 (x0 + 1)))
abbrev ex13 (x0:Int) (x1:List UInt8):=(0 ≤ (IntKind.wrap .i64 (x0 + 1)) ∧ (IntKind.wrap .i64 (x0 + 1)) < (List.length x1:Int))
abbrev ex14 (x0:Int):Nat × D:=(1,vi (IntKind.wrap .i64 (x0 + 2)))
abbrev ex15 (x0:Int) (x1:List UInt8):=(decide (0 ≤ x0 ∧ x0 ≤ (List.length x1:Int)))
abbrev ex16 (x0:List UInt8) (x1:Int):=([((x0)[Int.toNat x1]?.getD 0)])
abbrev ex77 (x0:Int) (x1:List UInt8):=(!((ex9 x0 x1) == true) || decide (ex10 x0 x1))
abbrev ex78 (x0:List (UInt8)) (x1:List UInt8) (x2:Int):=(AppOb 0 e8 x0 (List.flatMap e8 (ex8 x1 x2)) (List.length (ex8 x1 x2)) (rs2 (x0 ++ (ex8 x1 x2))) ∧ GoodR (rs2 (x0 ++ (ex8 x1 x2))))
abbrev ex79 (x0:List UInt8) (x1:Int):=(MkOb 1 [.val (.int .u8 (ex6 x0 x1))] 1 (rs2 (ex16 x0 x1)) ∧ GoodR (rs2 (ex16 x0 x1)))
theorem ok_quote_Scan_l1 (n:Nat) (v0:List UInt8) (v7:Int) {F0:Fz} {w0:Pt Tryz.prog} {Q:Exit → Act → World → Prop} (k:Nat):∀ (v1:Int) (v8:List (UInt8)) (o:Sum (Unit) ((List UInt8) × Int × Int)),quote_Scan_l1 n v0 v7 k v1 v8 = some o → (Sum.elim (fun s=>To 116 F0 w0 [] [] (.exit 0) Q) (fun s=>To 116 F0 w0 [(4,.str s.1),(5,vi s.2.1),(6,vi s.2.2)] [] .ret Q)) o → WL Tryz.prog 116 F0 w0 [(0,.str v0),(1,vi v1),(7,.val (.int .u8 v7)),(8,.row 1008)] [(1008,5,[rc1 v8])] (cI (cI (cB (cA (cB (cB (cB (cB (cF Tryz.f31))))))))) Q:=by
 induction k with
 | zero=>intro v1 v8 o h; cases h
 | succ k ih =>
  intro v1 v8 o h hQ
  rw [quote_Scan_l1] at h
  refine WL.round (Wp.seq (Wp.seq ?_))
  obtain ⟨hc11,h⟩:=chk_of h
  refine rr [] [(8,vb (quote_ok (ex6 v0 v1)))] [] [0,1,7,8,46] [1008] [(0,.str v0),(1,vi v1),(7,.val (.int .u8 v7)),(8,.row 1008),(46,vb (bif (ex9 v1 v0) then (quote_ok (ex6 v0 v1)) else false))] [(1008,5,[rc1 v8])] [_,(((ex9 v1 v0) == true) = true → CX Tryz.prog 64 [.val (.int .u8 (ex6 v0 v1))] (vb (quote_ok (ex6 v0 v1))))] (AllP.cons hc11 (AllP.cons (fun _=>cx (ok_quote_ok (ex6 v0 v1) _ rfl)) AllP.nil)) (To.thenN (cn h (fun h=>?_) (fun h=>?_)))
  ·refine Wp.skip (To.thenN (Wp.block (Wp.seq ?_)))
   obtain ⟨hc10,h⟩:=chk_of h
   refine r0 [0,1,7,8,9] [1008] [(0,.str v0),(1,vi v1),(7,.val (.int .u8 v7)),(8,.row 1008),(9,.val (.int .u8 (ex6 v0 v1)))] [(1008,5,[rc1 v8])] (AllP.cons hc10 AllP.nil) (To.thenN (Wp.block (Wp.seq ?_)))
   obtain ⟨hc9,h⟩:=chk_of h
   obtain ⟨x2,hx2,h⟩:=lett_of h
   refine r0 [0,1,7,8,9,56] [1008] [(0,.str v0),(1,vi v1),(7,.val (.int .u8 v7)),(8,.row 1008),(9,.val (.int .u8 (ex6 v0 v1))),(56,vb (bif (bif (bif ((ex6 v0 v1) == 39) then (v7 == (ex6 v0 v1)) else false) then (decide ((IntKind.wrap .i64 (v1 + 1)) < (List.length v0:Int))) else false) then (((ex7 v0 v1).toNat:Int) == (ex6 v0 v1)) else false))] [(1008,5,[rc1 v8])] (AllP.cons hc9 AllP.nil) (To.eq (K':=[(0,.str v0),(1,vi v1),(7,.val (.int .u8 v7)),(8,.row 1008),(9,.val (.int .u8 (ex6 v0 v1))),(56,vb x2)]) (L':=[(1008,5,[rc1 v8])]) (by cases hx2; rfl) (by cases hx2; rfl) (To.thenN (cn h (fun h=>?_) (fun h=>?_))))
   ·refine Wp.seq ?_
    obtain ⟨hc3,h⟩:=chk_of h
    refine rr [] [(2,rs2 (ex16 v0 v1)),(3,rs2 (v8 ++ (ex8 v0 v1)))] [] [0,1,7,8] [82] [(0,.str v0),(1,vi v1),(7,.val (.int .u8 v7)),(8,.row 82)] [(82,5,[rc1 (v8 ++ (ex8 v0 v1))])] [(ex79 v0 v1),_,(ex78 v8 v0 v1)] (AllP.cons (mkOb (All8.cells (ns:=[(ex6 v0 v1)]) (.cons rfl .nil)) rfl rfl (good8 _)) (AllP.cons hc3 (AllP.cons (appOb rfl rfl (good8 _)) AllP.nil))) (To.thenN (rg [0,1,7,8] [82] [(0,.str v0),(ex14 v1),(7,.val (.int .u8 v7)),(8,.row 82)] [(82,5,[rc1 (v8 ++ (ex8 v0 v1))])] (To.blockN (To.blockN (nt [0,1,7,8] [82] [(82,1008)] [0,1,7,8] [1008] [(0,.str v0),(ex14 v1),(7,.val (.int .u8 v7)),(8,.row 1008)] [(1008,5,[rc1 (v8 ++ (ex8 v0 v1))])] (To.again ?_))))))
    exact ih (IntKind.wrap .i64 (v1 + 2)) (v8 ++ (ex8 v0 v1)) _ h hQ
   ·refine Wp.seq (rg [0,1,7,8,9,85] [1008] [(0,.str v0),(1,vi v1),(7,.val (.int .u8 v7)),(8,.row 1008),(9,.val (.int .u8 (ex6 v0 v1))),(85,vb ((ex6 v0 v1) == v7))] [(1008,5,[rc1 v8])] (To.thenN (cn h (fun h=>?_) (fun h=>?_))))
    ·refine Wp.seq (rr [] [(1,.str v8)] [] [4,5,6] [] [(4,.str v8),(ex12 v1),(6,vi 0)] [] [(true = true → StrOb (List.flatMap e8 v8) (.str v8))] (AllP.cons (fun _=>strOb (flat8 _)) AllP.nil) (To.thenN (Wp.ret (To.blockR (To.blockR (To.thenR ?_))))))
     cases h
     exact hQ
    ·refine Wp.seq (rg [0,1,7,8,9,93] [1008] [(0,.str v0),(1,vi v1),(7,.val (.int .u8 v7)),(8,.row 1008),(9,.val (.int .u8 (ex6 v0 v1))),(93,vb (bif ((ex6 v0 v1) == 92) then (v7 == 34) else false))] [(1008,5,[rc1 v8])] (To.thenN (cn h (fun h=>?_) (fun h=>?_))))
     ·refine Wp.seq ?_
      obtain ⟨hc7,h⟩:=chk_of h
      obtain ⟨r4,hr4,h⟩:=bind_of h
      refine rr [] [(3,.tup [.val (.int .u8 r4.1),vi r4.2])] [] [0,1,7,8,10,11] [1008] [(0,.str v0),(1,vi v1),(7,.val (.int .u8 v7)),(8,.row 1008),(10,.val (.int .u8 r4.1)),(11,vi r4.2)] [(1008,5,[rc1 v8])] [_,_] (AllP.cons hc7 (AllP.cons (c1 (ok_quote_escape n (List.drop (Int.toNat v1) v0) _ hr4)) AllP.nil)) (To.thenN (Wp.seq (Wp.seq (rg [0,1,7,8,10,11,108] [1008] [(0,.str v0),(1,vi v1),(7,.val (.int .u8 v7)),(8,.row 1008),(10,.val (.int .u8 r4.1)),(11,vi r4.2),(108,vb (r4.2 == 0))] [(1008,5,[rc1 v8])] (To.thenN (cn h (fun h=>?_) (fun h=>?_)))))))
      ·refine Wp.seq (rg [4,5,6] [] [(4,.str []),(5,vi 0),(6,vi 3)] [] (To.thenN (Wp.ret (To.thenR (To.blockR (To.blockR (To.thenR ?_)))))))
       cases h
       exact hQ
      ·refine Wp.skip (To.thenN (Wp.seq ?_))
       obtain ⟨u5,h⟩:=chk_of h
       obtain ⟨hc6,h⟩:=chk_of h
       refine rr [] [(2,rs2 [(UInt8.ofNat (Int.toNat r4.1))]),(3,rs2 (v8 ++ ([(UInt8.ofNat (Int.toNat r4.1))]:List (UInt8))))] [] [0,1,7,8,11] [112] [(0,.str v0),(1,vi v1),(7,.val (.int .u8 v7)),(8,.row 112),(11,vi r4.2)] [(112,5,[rc1 (v8 ++ ([(UInt8.ofNat (Int.toNat r4.1))]:List (UInt8)))])] [(MkOb 1 [.val (.int .u8 r4.1)] 1 (rs2 [(UInt8.ofNat (Int.toNat r4.1))]) ∧ GoodR (rs2 [(UInt8.ofNat (Int.toNat r4.1))])),_,(AppOb 0 e8 v8 (List.flatMap e8 ([(UInt8.ofNat (Int.toNat r4.1))]:List (UInt8))) (List.length ([(UInt8.ofNat (Int.toNat r4.1))]:List (UInt8))) (rs2 (v8 ++ ([(UInt8.ofNat (Int.toNat r4.1))]:List (UInt8)))) ∧ GoodR (rs2 (v8 ++ ([(UInt8.ofNat (Int.toNat r4.1))]:List (UInt8)))))] (AllP.cons (mkOb (All8.cells (ns:=[r4.1]) (.cons (u8_of u5) .nil)) rfl rfl (good8 _)) (AllP.cons hc6 (AllP.cons (appOb rfl rfl (good8 _)) AllP.nil))) (To.thenN (rg [0,1,7,8] [112] [(0,.str v0),(1,vi (IntKind.wrap .i64 (v1 + r4.2))),(7,.val (.int .u8 v7)),(8,.row 112)] [(112,5,[rc1 (v8 ++ ([(UInt8.ofNat (Int.toNat r4.1))]:List (UInt8)))])] (To.blockN (To.blockN (nt [0,1,7,8] [112] [(112,1008)] [0,1,7,8] [1008] [(0,.str v0),(1,vi (IntKind.wrap .i64 (v1 + r4.2))),(7,.val (.int .u8 v7)),(8,.row 1008)] [(1008,5,[rc1 (v8 ++ ([(UInt8.ofNat (Int.toNat r4.1))]:List (UInt8)))])] (To.again ?_))))))
       exact ih (IntKind.wrap .i64 (v1 + r4.2)) (v8 ++ ([(UInt8.ofNat (Int.toNat r4.1))]:List (UInt8))) _ h hQ
     ·refine Wp.seq ?_
      obtain ⟨hc8,h⟩:=chk_of h
      refine rr [] [(2,rs2 (ex16 v0 v1)),(3,rs2 (v8 ++ (ex8 v0 v1)))] [] [0,1,7,8] [53] [(0,.str v0),(1,vi v1),(7,.val (.int .u8 v7)),(8,.row 53)] [(53,5,[rc1 (v8 ++ (ex8 v0 v1))])] [(ex79 v0 v1),_,(ex78 v8 v0 v1)] (AllP.cons (mkOb (All8.cells (ns:=[(ex6 v0 v1)]) (.cons rfl .nil)) rfl rfl (good8 _)) (AllP.cons hc8 (AllP.cons (appOb rfl rfl (good8 _)) AllP.nil))) (To.thenN (rg [0,1,7,8] [53] [(0,.str v0),(ex11 v1),(7,.val (.int .u8 v7)),(8,.row 53)] [(53,5,[rc1 (v8 ++ (ex8 v0 v1))])] (To.blockN (To.blockN (nt [0,1,7,8] [53] [(53,1008)] [0,1,7,8] [1008] [(0,.str v0),(ex11 v1),(7,.val (.int .u8 v7)),(8,.row 1008)] [(1008,5,[rc1 (v8 ++ (ex8 v0 v1))])] (To.again ?_))))))
      exact ih (IntKind.wrap .i64 (v1 + 1)) (v8 ++ (ex8 v0 v1)) _ h hQ
  ·refine Wp.exit (To.thenX (To.thenX (kt [] [] [] [] ?_)))
   cases h
   exact hQ
def quote_Scan (n:Nat) (a0:List UInt8) (a1:Int):Option ((List UInt8) × Int × Int) :=
 if ((!((bif (decide (a1 < 0)) then true else (decide (a1 ≥ (List.length a0:Int)))) == false) || decide (0 ≤ a1 ∧ a1 < (List.length a0:Int)))) = true then (if ((!((((((a0)[Int.toNat a1]?.getD 0).toNat:Int) != 34) == true) && ((bif (decide (a1 < 0)) then true else (decide (a1 ≥ (List.length a0:Int)))) == false)) || decide (0 ≤ a1 ∧ a1 < (List.length a0:Int)))) = true then (lett ((bif (bif (decide (a1 < 0)) then true else (decide (a1 ≥ (List.length a0:Int)))) then true else (bif ((((a0)[Int.toNat a1]?.getD 0).toNat:Int) != 34) then ((((a0)[Int.toNat a1]?.getD 0).toNat:Int) != 39) else false)):Bool) fun x1 =>
 if x1 = true then (some ([],0,2))
 else (if (decide (0 ≤ a1 ∧ a1 < (List.length a0:Int))) = true then ((quote_Scan_l1 n a0 (((a0)[Int.toNat a1]?.getD 0).toNat:Int) n (IntKind.wrap .i64 (a1 + 1)) ([]:List (UInt8))).bind fun o2 =>
 (Sum.elim (fun o2=>some ([],0,3)) (fun o2=>some (o2.1,o2.2.1,o2.2.2))) o2) else none)) else none) else none
abbrev ex17 (x0:Int) (x1:List UInt8):=(bif (decide (x0 < 0)) then true else (decide (x0 ≥ (List.length x1:Int))))
theorem ok_quote_Scan (n:Nat) (a0:List UInt8) (a1:Int) (r:(List UInt8) × Int × Int) (h:quote_Scan n a0 a1 = some r):CallsX Tryz.prog 31 [.str a0,vi a1] (.tup [.str r.1,vi r.2.1,vi r.2.2]):=by
 unfold quote_Scan at h
 refine xo Tryz.f31 rfl fun F0 w0 _=>?_
 refine Wp.seq (rg [0,1] [] [(0,.str a0),(1,vi a1)] [] (To.thenN (Wp.seq (Wp.seq ?_))))
 obtain ⟨hc4,h⟩:=chk_of h
 obtain ⟨hc5,h⟩:=chk_of h
 obtain ⟨x1,hx1,h⟩:=lett_of h
 refine r0 [0,1,31] [] [(0,.str a0),(1,vi a1),(31,vb (bif (ex17 a1 a0) then true else (bif ((ex6 a0 a1) != 34) then ((ex6 a0 a1) != 39) else false)))] [] (AllP.cons hc4 (AllP.cons hc5 AllP.nil)) (To.eq (K':=[(0,.str a0),(1,vi a1),(31,vb x1)]) (L':=[]) (by cases hx1; rfl) (by cases hx1; rfl) (To.thenN (cn h (fun h=>?_) (fun h=>?_))))
 ·refine Wp.seq (rg [4,5,6] [] [(4,.str []),(5,vi 0),(6,vi 2)] [] (To.thenN (Wp.ret (To.thenR ?_))))
  cases h
  exact To.done hΓ (by kernel_rfl)
 ·refine Wp.skip (To.thenN (Wp.seq ?_))
  obtain ⟨hc3,h⟩:=chk_of h
  refine r0 [0,1,7] [] [(0,.str a0),(1,vi a1),(7,.val (.int .u8 (ex6 a0 a1)))] [] (AllP.cons hc3 AllP.nil) (To.thenN (Wp.seq (rg [0,1,7,8] [] [(0,.str a0),(1,vi a1),(7,.val (.int .u8 (ex6 a0 a1))),(8,.val (.slice none 0 0))] [] (To.thenN (Wp.seq (Wp.seq (rg [0,1,7,8] [] [(0,.str a0),(ex11 a1),(7,.val (.int .u8 (ex6 a0 a1))),(8,.val (.slice none 0 0))] [] (To.thenN (Wp.block ?_)))))))))
  obtain ⟨o2,ho2,h⟩:=bind_of h
  refine kw [0,1,7,8] [] [(0,.str a0),(ex11 a1),(7,.val (.int .u8 (ex6 a0 a1))),(8,.val (.slice none 0 0))] [] (Wp.pre (St.vacant (t:=8) (k:=1008) (e:=5) (K':=[(0,.str a0),(ex11 a1),(7,.val (.int .u8 (ex6 a0 a1))),(8,.row 1008)]) (good8 _) (by decide) (by kernel_rfl) (by kernel_rfl)) (kw [0,1,7,8] [1008] [(0,.str a0),(ex11 a1),(7,.val (.int .u8 (ex6 a0 a1))),(8,.row 1008)] [(1008,5,[rc1 []])] (Wp.loopL (ok_quote_Scan_l1 n a0 (ex6 a0 a1) n (IntKind.wrap .i64 (a1 + 1)) ([]:List (UInt8)) o2 ho2 ?_))))
  rcases o2 with o2 | o2
  ·replace h:=sum_l h
   refine To.blockX (To.thenN (Wp.seq (rg [4,5,6] [] [(4,.str []),(5,vi 0),(6,vi 3)] [] (To.thenN (Wp.ret ?_)))))
   cases h
   exact To.done hΓ (by kernel_rfl)
  ·replace h:=sum_r h
   refine To.blockR (To.thenR ?_)
   cases h
   exact To.done hΓ (by kernel_rfl)
def line_say_j2 (n:Nat) (v0:List UInt8) (v4:Int) (v5:Int) (v6:Bool) (v7:Int):Option (Sum (Int × Int) (Sum (Int × Int) ((List UInt8) × Bool))) :=
 if (bif (v7 == 35) then v6 else false) = true then (if (decide (0 ≤ v5 ∧ v5 ≤ (List.length v0:Int))) = true then (some (.inr (.inr ((List.take (Int.toNat v5) v0),true)))) else none)
 else (if ((!((v6 == false) && ((bif (v7 == 34) then true else (v7 == 39)) == true)) || decide (0 ≤ (IntKind.wrap .i64 (v4 - 1)) ∧ (IntKind.wrap .i64 (v4 - 1)) < (List.length v0:Int)))) = true then (lett ((bif (bif (v7 == 34) then true else (v7 == 39)) then (bif v6 then true else (decide ((Lib.indexByte ([91,123,44]:List UInt8) (Int.toNat (((v0)[Int.toNat (IntKind.wrap .i64 (v4 - 1))]?.getD 0).toNat:Int)).toUInt8) ≥ 0))) else false):Bool) fun x3 =>
 if x3 = true then ((quote_Scan n v0 v4).bind fun r4 =>
 if (r4.2.2 != 0) = true then (some (.inr (.inr ([],false))))
 else (some (.inr (.inl (r4.2.1,r4.2.1)))))
 else (if (bif (decide (v7 < 32)) then true else (v7 == 127)) = true then (some (.inr (.inr ([],false))))
 else (if (v7 != 32) = true then (some (.inl (v4,(IntKind.wrap .i64 (v4 + 1)))))
 else (some (.inl (v4,v5)))))) else none)
abbrev ex18 (x0:List UInt8) (x1:Int):=(((x0)[Int.toNat (IntKind.wrap .i64 (x1 - 1))]?.getD 0).toNat:Int)
abbrev ex19 (x0:Int) (x1:List UInt8):=(0 ≤ (IntKind.wrap .i64 (x0 - 1)) ∧ (IntKind.wrap .i64 (x0 - 1)) < (List.length x1:Int))
abbrev ex20 (x0:Int):=(bif (x0 == 34) then true else (x0 == 39))
abbrev ex21 (x0:Int) (x1:List UInt8):Nat × D:=(2,.str (List.take (Int.toNat x0) x1))
abbrev ex22 (x0:Int):=(bif (decide (x0 < 32)) then true else (x0 == 127))
abbrev ex80 (x0:List UInt8) (x1:Int):=(Lib.indexByte ([91,123,44]:List UInt8) (Int.toNat (ex18 x0 x1)).toUInt8)
theorem ok_line_say_j2 (n:Nat) (v0:List UInt8) (v4:Int) (v5:Int) (v6:Bool) (v7:Int) (o:Sum (Int × Int) (Sum (Int × Int) ((List UInt8) × Bool))) (h:line_say_j2 n v0 v4 v5 v6 v7 = some o) {F0:Fz} {w0:Pt Tryz.prog} {Q:Exit → Act → World → Prop} (hQ:(Sum.elim (fun s=>To 82 F0 w0 [(0,.str v0),(4,vi s.1),(5,vi s.2)] [] .normal Q) (Sum.elim (fun s=>To 82 F0 w0 [(0,.str v0),(4,vi s.1),(5,vi s.2)] [] (.goto 0) Q) (fun s=>To 82 F0 w0 [(2,.str s.1),(3,vb s.2)] [] .ret Q))) o):Wp Tryz.prog 82 F0 w0 [(0,.str v0),(4,vi v4),(5,vi v5),(6,vb v6),(7,.val (.int .u8 v7))] [] (cB (cA (cB (cB (cB (cB (cI (cB (cF Tryz.f54))))))))) Q:=by
 unfold line_say_j2 at h
 refine Wp.block (Wp.seq (rg [0,4,5,6,7,30] [] [(0,.str v0),(4,vi v4),(5,vi v5),(6,vb v6),(7,.val (.int .u8 v7)),(30,vb (bif (v7 == 35) then v6 else false))] [] (To.thenN (cn h (fun h=>?_) (fun h=>?_)))))
 ·refine Wp.seq ?_
  obtain ⟨hc2,h⟩:=chk_of h
  refine r0 [2,3] [] [(ex21 v5 v0),(3,vb true)] [] (AllP.cons hc2 AllP.nil) (To.thenN (Wp.ret (To.blockR ?_)))
  cases h
  exact hQ
 ·refine Wp.seq ?_
  obtain ⟨hc5,h⟩:=chk_of h
  obtain ⟨x3,hx3,h⟩:=lett_of h
  refine rr [] [(13,vi (ex80 v0 v4))] [] [0,4,5,7,39] [] [(0,.str v0),(4,vi v4),(5,vi v5),(7,.val (.int .u8 v7)),(39,vb (bif (ex20 v7) then (bif v6 then true else (decide ((ex80 v0 v4) ≥ 0))) else false))] [] [_,(((v6 == false) && ((ex20 v7) == true)) = true → CX Tryz.prog 66 [.str [91,123,44],.val (.int .u8 (ex18 v0 v4))] (vi (ex80 v0 v4)))] (AllP.cons hc5 (AllP.cons (fun _=>cx (Sh.indexByte66)) AllP.nil)) (To.eq (K':=[(0,.str v0),(4,vi v4),(5,vi v5),(7,.val (.int .u8 v7)),(39,vb x3)]) (L':=[]) (by cases hx3; rfl) (by cases hx3; rfl) (To.thenN (cn h (fun h=>?_) (fun h=>?_))))
  ·refine Wp.seq ?_
   obtain ⟨r4,hr4,h⟩:=bind_of h
   refine rc [] 2 [0,9,10] [] [(0,.str v0),(9,vi r4.2.1),(10,vi r4.2.2)] [] (ok_quote_Scan n v0 v4 _ hr4) (To.thenN (Wp.seq (Wp.seq (rg [0,9,65] [] [(0,.str v0),(9,vi r4.2.1),(65,vb (r4.2.2 != 0))] [] (To.thenN (cn h (fun h=>?_) (fun h=>?_)))))))
   ·refine Wp.seq (rg [2,3] [] [(2,.str []),(3,vb false)] [] (To.thenN (Wp.ret (To.thenR (To.blockR ?_)))))
    cases h
    exact hQ
   ·refine Wp.skip (To.thenN (Wp.seq (rg [0,4,5] [] [(0,.str v0),(4,vi r4.2.1),(5,vi r4.2.1)] [] (To.thenN (Wp.goto (To.blockG (kt [0,4,5] [] [(0,.str v0),(4,vi r4.2.1),(5,vi r4.2.1)] [] ?_)))))))
    cases h
    exact hQ
  ·refine Wp.seq (rg [0,4,5,7,68] [] [(0,.str v0),(4,vi v4),(5,vi v5),(7,.val (.int .u8 v7)),(68,vb (ex22 v7))] [] (To.thenN (cn h (fun h=>?_) (fun h=>?_))))
   ·refine Wp.seq (rg [2,3] [] [(2,.str []),(3,vb false)] [] (To.thenN (Wp.ret (To.blockR ?_))))
    cases h
    exact hQ
   ·refine Wp.seq (rg [0,4,5,75] [] [(0,.str v0),(4,vi v4),(5,vi v5),(75,vb (v7 != 32))] [] (To.thenN (cn h (fun h=>?_) (fun h=>?_))))
    ·refine rg [0,4,5] [] [(0,.str v0),(4,vi v4),(ex12 v4)] [] (To.blockN ?_)
     cases h
     exact hQ
    ·refine Wp.skip (To.blockN (kt [0,4,5] [] [(0,.str v0),(4,vi v4),(5,vi v5)] [] ?_))
     cases h
     exact hQ
def line_say_j3 (n:Nat) (v0:List UInt8) (v4:Int) (v5:Int) (v6:Bool) (v7:Int):Option (Sum (Int × Int) (Sum (Int × Int) ((List UInt8) × Bool))) :=
 if (bif (v7 == 35) then v6 else false) = true then (if (decide (0 ≤ v5 ∧ v5 ≤ (List.length v0:Int))) = true then (some (.inr (.inr ((List.take (Int.toNat v5) v0),true)))) else none)
 else (if ((!((v6 == false) && ((bif (v7 == 34) then true else (v7 == 39)) == true)) || decide (0 ≤ (IntKind.wrap .i64 (v4 - 1)) ∧ (IntKind.wrap .i64 (v4 - 1)) < (List.length v0:Int)))) = true then (lett ((bif (bif (v7 == 34) then true else (v7 == 39)) then (bif v6 then true else (decide ((Lib.indexByte ([91,123,44]:List UInt8) (Int.toNat (((v0)[Int.toNat (IntKind.wrap .i64 (v4 - 1))]?.getD 0).toNat:Int)).toUInt8) ≥ 0))) else false):Bool) fun x3 =>
 if x3 = true then ((quote_Scan n v0 v4).bind fun r4 =>
 if (r4.2.2 != 0) = true then (some (.inr (.inr ([],false))))
 else (some (.inr (.inl (r4.2.1,r4.2.1)))))
 else (if (bif (decide (v7 < 32)) then true else (v7 == 127)) = true then (some (.inr (.inr ([],false))))
 else (if (v7 != 32) = true then (some (.inl (v4,(IntKind.wrap .i64 (v4 + 1)))))
 else (some (.inl (v4,v5)))))) else none)
theorem ok_line_say_j3 (n:Nat) (v0:List UInt8) (v4:Int) (v5:Int) (v6:Bool) (v7:Int) (o:Sum (Int × Int) (Sum (Int × Int) ((List UInt8) × Bool))) (h:line_say_j3 n v0 v4 v5 v6 v7 = some o) {F0:Fz} {w0:Pt Tryz.prog} {Q:Exit → Act → World → Prop} (hQ:(Sum.elim (fun s=>To 82 F0 w0 [(0,.str v0),(4,vi s.1),(5,vi s.2)] [] .normal Q) (Sum.elim (fun s=>To 82 F0 w0 [(0,.str v0),(4,vi s.1),(5,vi s.2)] [] (.goto 0) Q) (fun s=>To 82 F0 w0 [(2,.str s.1),(3,vb s.2)] [] .ret Q))) o):Wp Tryz.prog 82 F0 w0 [(0,.str v0),(4,vi v4),(5,vi v5),(6,vb v6),(7,.val (.int .u8 v7))] [] (cB (cA (cB (cB (cB (cB (cI (cB (cF Tryz.f54))))))))) Q:=by
 unfold line_say_j3 at h
 refine Wp.block (Wp.seq (rg [0,4,5,6,7,30] [] [(0,.str v0),(4,vi v4),(5,vi v5),(6,vb v6),(7,.val (.int .u8 v7)),(30,vb (bif (v7 == 35) then v6 else false))] [] (To.thenN (cn h (fun h=>?_) (fun h=>?_)))))
 ·refine Wp.seq ?_
  obtain ⟨hc2,h⟩:=chk_of h
  refine r0 [2,3] [] [(ex21 v5 v0),(3,vb true)] [] (AllP.cons hc2 AllP.nil) (To.thenN (Wp.ret (To.blockR ?_)))
  cases h
  exact hQ
 ·refine Wp.seq ?_
  obtain ⟨hc5,h⟩:=chk_of h
  obtain ⟨x3,hx3,h⟩:=lett_of h
  refine rr [] [(13,vi (ex80 v0 v4))] [] [0,4,5,7,39] [] [(0,.str v0),(4,vi v4),(5,vi v5),(7,.val (.int .u8 v7)),(39,vb (bif (ex20 v7) then (bif v6 then true else (decide ((ex80 v0 v4) ≥ 0))) else false))] [] [_,(((v6 == false) && ((ex20 v7) == true)) = true → CX Tryz.prog 66 [.str [91,123,44],.val (.int .u8 (ex18 v0 v4))] (vi (ex80 v0 v4)))] (AllP.cons hc5 (AllP.cons (fun _=>cx (Sh.indexByte66)) AllP.nil)) (To.eq (K':=[(0,.str v0),(4,vi v4),(5,vi v5),(7,.val (.int .u8 v7)),(39,vb x3)]) (L':=[]) (by cases hx3; rfl) (by cases hx3; rfl) (To.thenN (cn h (fun h=>?_) (fun h=>?_))))
  ·refine Wp.seq ?_
   obtain ⟨r4,hr4,h⟩:=bind_of h
   refine rc [] 2 [0,9,10] [] [(0,.str v0),(9,vi r4.2.1),(10,vi r4.2.2)] [] (ok_quote_Scan n v0 v4 _ hr4) (To.thenN (Wp.seq (Wp.seq (rg [0,9,65] [] [(0,.str v0),(9,vi r4.2.1),(65,vb (r4.2.2 != 0))] [] (To.thenN (cn h (fun h=>?_) (fun h=>?_)))))))
   ·refine Wp.seq (rg [2,3] [] [(2,.str []),(3,vb false)] [] (To.thenN (Wp.ret (To.thenR (To.blockR ?_)))))
    cases h
    exact hQ
   ·refine Wp.skip (To.thenN (Wp.seq (rg [0,4,5] [] [(0,.str v0),(4,vi r4.2.1),(5,vi r4.2.1)] [] (To.thenN (Wp.goto (To.blockG (kt [0,4,5] [] [(0,.str v0),(4,vi r4.2.1),(5,vi r4.2.1)] [] ?_)))))))
    cases h
    exact hQ
  ·refine Wp.seq (rg [0,4,5,7,68] [] [(0,.str v0),(4,vi v4),(5,vi v5),(7,.val (.int .u8 v7)),(68,vb (ex22 v7))] [] (To.thenN (cn h (fun h=>?_) (fun h=>?_))))
   ·refine Wp.seq (rg [2,3] [] [(2,.str []),(3,vb false)] [] (To.thenN (Wp.ret (To.blockR ?_))))
    cases h
    exact hQ
   ·refine Wp.seq (rg [0,4,5,75] [] [(0,.str v0),(4,vi v4),(5,vi v5),(75,vb (v7 != 32))] [] (To.thenN (cn h (fun h=>?_) (fun h=>?_))))
    ·refine rg [0,4,5] [] [(0,.str v0),(4,vi v4),(ex12 v4)] [] (To.blockN ?_)
     cases h
     exact hQ
    ·refine Wp.skip (To.blockN (kt [0,4,5] [] [(0,.str v0),(4,vi v4),(5,vi v5)] [] ?_))
     cases h
     exact hQ
mutual
def line_say_g1_e (n:Nat):Nat → (List UInt8) → Option ((List UInt8) × Bool)
 | 0,_=>none
 | k + 1,v0=>if ((0:Int) == (List.length v0:Int)) = true then (if (decide (0 ≤ (0:Int) ∧ (0:Int) ≤ (List.length v0:Int))) = true then (some ((List.take (Int.toNat 0) v0),true)) else none)
 else (if ((!(((0:Int) == 0) == false) || decide (0 ≤ (IntKind.wrap .i64 (0 - 1)) ∧ (IntKind.wrap .i64 (0 - 1)) < (List.length v0:Int)))) = true then (if (decide (0 ≤ (0:Int) ∧ (0:Int) < (List.length v0:Int))) = true then ((line_say_j2 n v0 0 0 (bif ((0:Int) == 0) then true else ((((v0)[Int.toNat (IntKind.wrap .i64 (0 - 1))]?.getD 0).toNat:Int) == 32)) (((v0)[Int.toNat 0]?.getD 0).toNat:Int)).bind fun o2 =>
 (Sum.elim (fun o2=>line_say_g1_0 n k v0 (IntKind.wrap .i64 (o2.1 + 1)) o2.2) (Sum.elim (fun o2=>line_say_g1_0 n k v0 o2.1 o2.2) (fun o2=>some (o2.1,o2.2)))) o2) else none) else none)
def line_say_g1_0 (n:Nat):Nat → (List UInt8) → Int → Int → Option ((List UInt8) × Bool)
 | 0,_,_,_=>none
 | k + 1,v0,v4,v5=>if (v4 == (List.length v0:Int)) = true then (if (decide (0 ≤ v5 ∧ v5 ≤ (List.length v0:Int))) = true then (some ((List.take (Int.toNat v5) v0),true)) else none)
 else (if ((!((v4 == 0) == false) || decide (0 ≤ (IntKind.wrap .i64 (v4 - 1)) ∧ (IntKind.wrap .i64 (v4 - 1)) < (List.length v0:Int)))) = true then (if (decide (0 ≤ v4 ∧ v4 < (List.length v0:Int))) = true then ((line_say_j3 n v0 v4 v5 (bif (v4 == 0) then true else ((((v0)[Int.toNat (IntKind.wrap .i64 (v4 - 1))]?.getD 0).toNat:Int) == 32)) (((v0)[Int.toNat v4]?.getD 0).toNat:Int)).bind fun o2 =>
 (Sum.elim (fun o2=>line_say_g1_0 n k v0 (IntKind.wrap .i64 (o2.1 + 1)) o2.2) (Sum.elim (fun o2=>line_say_g1_0 n k v0 o2.1 o2.2) (fun o2=>some (o2.1,o2.2)))) o2) else none) else none)
end
abbrev ex23 (x0:List UInt8):=(((x0)[Int.toNat 0]?.getD 0).toNat:Int)
abbrev ex24 (x0:List UInt8):=(0 ≤ (0:Int) ∧ (0:Int) < (List.length x0:Int))
abbrev ex25 (x0:List UInt8):=(bif ((0:Int) == 0) then true else ((((x0)[Int.toNat (IntKind.wrap .i64 (0 - 1))]?.getD 0).toNat:Int) == 32))
theorem ok_line_say_g1 (n:Nat) {F0:Fz} {w0:Pt Tryz.prog} {Q:Exit → Act → World → Prop} (k:Nat):(∀ (v0:List UInt8) (o:(List UInt8) × Bool),line_say_g1_e n k v0 = some o → To 82 F0 w0 [(2,.str o.1),(3,vb o.2)] [] .ret Q → WG Tryz.prog 82 F0 w0 [(0,.str v0)] [] (cI (cB (cF Tryz.f54))) (cI (cB (cF Tryz.f54))) Q) ∧
 (∀ (v0:List UInt8) (v4:Int) (v5:Int) (o:(List UInt8) × Bool),line_say_g1_0 n k v0 v4 v5 = some o → To 82 F0 w0 [(2,.str o.1),(3,vb o.2)] [] .ret Q → WG Tryz.prog 82 F0 w0 [(0,.str v0),(4,vi v4),(5,vi v5)] [] (cI (cB (cF Tryz.f54))) (cG 0 (cB (cF Tryz.f54))) Q):=by
 induction k with
 | zero=>exact ⟨(by intro v0 o h; cases h),(by intro v0 v4 v5 o h; cases h)⟩
 | succ k ih =>
  refine ⟨?_,?_⟩
  ·intro v0 o h hQ
   rw [line_say_g1_e] at h
   refine WG.pass (Wp.seq (rg [0,4,5] [] [(0,.str v0),(4,vi 0),(5,vi 0)] [] (To.thenN (Wp.seq (Wp.label (To.thenN (Wp.seq (Wp.seq (rg [0,4,5,14] [] [(0,.str v0),(4,vi 0),(5,vi 0),(14,vb ((0:Int) == (List.length v0:Int)))] [] (To.thenN ?_))))))))))
   refine cn h (fun h=>?_) (fun h=>?_)
   ·refine Wp.seq ?_
    obtain ⟨hc1,h⟩:=chk_of h
    refine r0 [2,3] [] [(2,.str (List.take (Int.toNat 0) v0)),(3,vb true)] [] (AllP.cons hc1 AllP.nil) (To.thenN (Wp.ret (To.thenR (To.goesO (.inr (.inl rfl)) (kt [2,3] [] [(2,.str (List.take (Int.toNat 0) v0)),(3,vb true)] [] ?_)))))
    cases h
    exact hQ
   ·refine Wp.skip (To.thenN (Wp.seq ?_))
    obtain ⟨hc4,h⟩:=chk_of h
    refine r0 [0,4,5,6] [] [(0,.str v0),(4,vi 0),(5,vi 0),(6,vb (ex25 v0))] [] (AllP.cons hc4 AllP.nil) (To.thenN (Wp.seq (Wp.seq ?_)))
    obtain ⟨hc3,h⟩:=chk_of h
    refine r0 [0,4,5,6,7] [] [(0,.str v0),(4,vi 0),(5,vi 0),(6,vb (ex25 v0)),(7,.val (.int .u8 (ex23 v0)))] [] (AllP.cons hc3 AllP.nil) (To.thenN ?_)
    obtain ⟨o2,ho2,h⟩:=bind_of h
    refine kw [0,4,5,6,7] [] [(0,.str v0),(4,vi 0),(5,vi 0),(6,vb (ex25 v0)),(7,.val (.int .u8 (ex23 v0)))] [] (ok_line_say_j2 n v0 0 0 (ex25 v0) (ex23 v0) o2 ho2 ?_)
    rcases o2 with o2 | o2
    ·replace h:=sum_l h
     refine To.thenN (Wp.seq (rg [0,4,5] [] [(0,.str v0),(4,vi (IntKind.wrap .i64 (o2.1 + 1))),(5,vi o2.2)] [] (To.thenN (Wp.goto (kt [0,4,5] [] [(0,.str v0),(4,vi (IntKind.wrap .i64 (o2.1 + 1))),(5,vi o2.2)] [] (To.goto (rest:=cG 0 (cB (cF Tryz.f54))) (by kernel_rfl) ?_))))))
     exact ih.2 v0 (IntKind.wrap .i64 (o2.1 + 1)) o2.2 _ h hQ
    ·replace h:=sum_r h
     rcases o2 with o2 | o2
     ·replace h:=sum_l h
      refine To.thenG (kt [0,4,5] [] [(0,.str v0),(4,vi o2.1),(5,vi o2.2)] [] (To.goto (rest:=cG 0 (cB (cF Tryz.f54))) (by kernel_rfl) ?_))
      exact ih.2 v0 o2.1 o2.2 _ h hQ
     ·replace h:=sum_r h
      refine To.thenR (To.goesO (.inr (.inl rfl)) (kt [2,3] [] [(2,.str o2.1),(3,vb o2.2)] [] ?_))
      cases h
      exact hQ
  ·intro v0 v4 v5 o h hQ
   rw [line_say_g1_0] at h
   refine WG.pass (Wp.seq (Wp.skip (To.thenN (Wp.seq (Wp.seq (rg [0,4,5,14] [] [(0,.str v0),(4,vi v4),(5,vi v5),(14,vb (v4 == (List.length v0:Int)))] [] (To.thenN (cn h (fun h=>?_) (fun h=>?_)))))))))
   ·refine Wp.seq ?_
    obtain ⟨hc1,h⟩:=chk_of h
    refine r0 [2,3] [] [(ex21 v5 v0),(3,vb true)] [] (AllP.cons hc1 AllP.nil) (To.thenN (Wp.ret (To.thenR (To.goesO (.inr (.inl rfl)) (kt [2,3] [] [(ex21 v5 v0),(3,vb true)] [] ?_)))))
    cases h
    exact hQ
   ·refine Wp.skip (To.thenN (Wp.seq ?_))
    obtain ⟨hc4,h⟩:=chk_of h
    refine r0 [0,4,5,6] [] [(0,.str v0),(4,vi v4),(5,vi v5),(6,vb (bif (v4 == 0) then true else ((ex18 v0 v4) == 32)))] [] (AllP.cons hc4 AllP.nil) (To.thenN (Wp.seq (Wp.seq ?_)))
    obtain ⟨hc3,h⟩:=chk_of h
    refine r0 [0,4,5,6,7] [] [(0,.str v0),(4,vi v4),(5,vi v5),(6,vb (bif (v4 == 0) then true else ((ex18 v0 v4) == 32))),(7,.val (.int .u8 (ex6 v0 v4)))] [] (AllP.cons hc3 AllP.nil) (To.thenN ?_)
    obtain ⟨o2,ho2,h⟩:=bind_of h
    refine kw [0,4,5,6,7] [] [(0,.str v0),(4,vi v4),(5,vi v5),(6,vb (bif (v4 == 0) then true else ((ex18 v0 v4) == 32))),(7,.val (.int .u8 (ex6 v0 v4)))] [] (ok_line_say_j3 n v0 v4 v5 (bif (v4 == 0) then true else ((ex18 v0 v4) == 32)) (ex6 v0 v4) o2 ho2 ?_)
    rcases o2 with o2 | o2
    ·replace h:=sum_l h
     refine To.thenN (Wp.seq (rg [0,4,5] [] [(0,.str v0),(4,vi (IntKind.wrap .i64 (o2.1 + 1))),(5,vi o2.2)] [] (To.thenN (Wp.goto (kt [0,4,5] [] [(0,.str v0),(4,vi (IntKind.wrap .i64 (o2.1 + 1))),(5,vi o2.2)] [] (To.goto (rest:=cG 0 (cB (cF Tryz.f54))) (by kernel_rfl) ?_))))))
     exact ih.2 v0 (IntKind.wrap .i64 (o2.1 + 1)) o2.2 _ h hQ
    ·replace h:=sum_r h
     rcases o2 with o2 | o2
     ·replace h:=sum_l h
      refine To.thenG (kt [0,4,5] [] [(0,.str v0),(4,vi o2.1),(5,vi o2.2)] [] (To.goto (rest:=cG 0 (cB (cF Tryz.f54))) (by kernel_rfl) ?_))
      exact ih.2 v0 o2.1 o2.2 _ h hQ
     ·replace h:=sum_r h
      refine To.thenR (To.goesO (.inr (.inl rfl)) (kt [2,3] [] [(2,.str o2.1),(3,vb o2.2)] [] ?_))
      cases h
      exact hQ
def line_say (n:Nat) (a0:List UInt8):Option ((List UInt8) × Bool) :=
 (line_say_g1_e n n a0).bind fun o1 =>
 some (o1.1,o1.2)
theorem ok_line_say (n:Nat) (a0:List UInt8) (r:(List UInt8) × Bool) (h:line_say n a0 = some r):CallsX Tryz.prog 54 [.str a0] (.tup [.str r.1,vb r.2]):=by
 unfold line_say at h
 refine xo Tryz.f54 rfl fun F0 w0 _=>?_
 refine Wp.seq (rg [0] [] [(0,.str a0)] [] (To.thenN ?_))
 obtain ⟨o1,ho1,h⟩:=bind_of h
 refine kw [0] [] [(0,.str a0)] [] (Wp.scopeG ((ok_line_say_g1 n n).1 a0 o1 ho1 ?_))
 cases h
 exact To.done hΓ (by kernel_rfl)
def line_Split_j2 (n:Nat) (v0:List UInt8) (v5:List (S_line_Line)) (v6:Int):Option (Sum ((List UInt8) × (List (S_line_Line))) (Int × Int)) :=
 if (decide (List.length v0 < 4294967281)) = true then (lett ((IntKind.wrap .i64 ((List.length ((Lib.cut v0 ([10]:List UInt8)).1):Int) - (List.length (Lib.trimLeftB ((Lib.cut v0 ([10]:List UInt8)).1) 32):Int))):Int) fun x2 =>
 if (decide (0 ≤ x2 ∧ x2 ≤ (List.length ((Lib.cut v0 ([10]:List UInt8)).1):Int))) = true then ((line_say n (List.drop (Int.toNat x2) ((Lib.cut v0 ([10]:List UInt8)).1))).bind fun r3 =>
 lett ((bif (!r3.2) then true else (bif (x2 == 0) then (bif (r3.1 == [45,45,45]) then true else (r3.1 == [46,46,46])) else false)):Bool) fun x4 =>
 if x4 = true then (some (.inr (v6,3)))
 else (if (!(r3.1 == [])) = true then (if (decide ((List.length v5 + List.length ([(S_line_Line.mk v6 x2 r3.1)]:List (S_line_Line))) * (32 + 1) ≤ limit)) = true then (some (.inl ((Lib.cut v0 ([10]:List UInt8)).2.1,(v5 ++ ([(S_line_Line.mk v6 x2 r3.1)]:List (S_line_Line)))))) else none)
 else (some (.inl ((Lib.cut v0 ([10]:List UInt8)).2.1,v5))))) else none) else none
def line_Split_l1 (n:Nat):Nat → (List UInt8) → (List (S_line_Line)) → Int → Option (Sum ((List (S_line_Line))) (Int × Int))
 | 0,_,_,_=>none
 | k + 1,v0,v5,v6=>if (!(v0 == [])) = true then ((line_Split_j2 n v0 v5 v6).bind fun o1 =>
 (Sum.elim (fun o1=>line_Split_l1 n k o1.1 o1.2 (IntKind.wrap .i64 (v6 + 1))) (fun o1=>some (.inr (o1.1,o1.2)))) o1)
 else (some (.inl v5))
def line_Split (n:Nat) (a0:List UInt8):Option ((List (S_line_Line)) × Int × Int) :=
 if (decide ((List.length a0:Int) > 8192)) = true then (some ([],0,9))
 else ((line_Split_l1 n n a0 ([]:List (S_line_Line)) 1).bind fun o1 =>
 (Sum.elim (fun o1=>some (o1,0,0)) (fun o1=>some ([],o1.1,o1.2))) o1)
structure S_block_reader where
 f_l:List (S_line_Line)
 f_at:Int
 f_no:Int
 f_e:Int
def block_Row (a0:List UInt8):Bool :=
 (bif (a0 == [45]) then true else (Lib.hasPrefix a0 ([45,32]:List UInt8)))
theorem ok_block_Row (a0:List UInt8) (r:Bool) (h:block_Row a0 = r):CallsX Tryz.prog 14 [.str a0] (vb r):=by
 unfold block_Row at h
 refine xo Tryz.f14 rfl fun F0 w0 _=>?_
 refine Wp.seq (rg [0] [] [(0,.str a0)] [] (To.thenN (Wp.seq (rr [] [(4,vb (Lib.hasPrefix a0 ([45,32]:List UInt8)))] [] [2] [] [(2,vb (bif (a0 == [45]) then true else (Lib.hasPrefix a0 ([45,32]:List UInt8))))] [] [(((a0 == [45]) == false) = true → CX Tryz.prog 39 [.str a0,.str [45,32]] (vb (Lib.hasPrefix a0 ([45,32]:List UInt8))))] (AllP.cons (fun _=>cx (Sh.hasPrefix39)) AllP.nil) (To.thenN (Wp.ret ?_))))))
 cases h
 exact To.done hΓ (by kernel_rfl)
def block_mark (n:Nat) (a0:List UInt8) (a1:Int):Option (Bool) :=
 if ((!((decide (a1 < (List.length a0:Int))) == true) || decide (0 ≤ a1 ∧ a1 < (List.length a0:Int)))) = true then (if ((!((((IntKind.wrap .i64 (a1 + 1)) == (List.length a0:Int)) == false) && ((bif (decide (a1 < (List.length a0:Int))) then ((((a0)[Int.toNat a1]?.getD 0).toNat:Int) == 58) else false) == true)) || decide (0 ≤ (IntKind.wrap .i64 (a1 + 1)) ∧ (IntKind.wrap .i64 (a1 + 1)) < (List.length a0:Int)))) = true then (lett ((bif (bif (decide (a1 < (List.length a0:Int))) then ((((a0)[Int.toNat a1]?.getD 0).toNat:Int) == 58) else false) then (bif ((IntKind.wrap .i64 (a1 + 1)) == (List.length a0:Int)) then true else ((((a0)[Int.toNat (IntKind.wrap .i64 (a1 + 1))]?.getD 0).toNat:Int) == 32)) else false):Bool) fun x1 =>
 some x1) else none) else none
abbrev ex26 (x0:Int) (x1:List UInt8):=((IntKind.wrap .i64 (x0 + 1)) == (List.length x1:Int))
abbrev ex81 (x0:Int) (x1:List UInt8):=(bif (ex26 x0 x1) then true else (((ex7 x1 x0).toNat:Int) == 32))
theorem ok_block_mark (n:Nat) (a0:List UInt8) (a1:Int) (r:Bool) (h:block_mark n a0 a1 = some r):CallsX Tryz.prog 32 [.str a0,vi a1] (vb r):=by
 unfold block_mark at h
 refine xo Tryz.f32 rfl fun F0 w0 _=>?_
 refine Wp.seq (rg [0,1] [] [(0,.str a0),(1,vi a1)] [] (To.thenN (Wp.seq ?_)))
 obtain ⟨hc2,h⟩:=chk_of h
 obtain ⟨hc3,h⟩:=chk_of h
 obtain ⟨x1,hx1,h⟩:=lett_of h
 refine r0 [4] [] [(4,vb (bif (bif (ex9 a1 a0) then ((ex6 a0 a1) == 58) else false) then (ex81 a1 a0) else false))] [] (AllP.cons hc2 (AllP.cons hc3 AllP.nil)) (To.eq (K':=[(4,vb x1)]) (L':=[]) (by cases hx1; rfl) (by cases hx1; rfl) (To.thenN (Wp.ret ?_)))
 cases h
 exact To.done hΓ (by kernel_rfl)
def quote_Plain_1__e (n:Nat) (a0:Int) (c0:List UInt8):Option (Bool) :=
 if ((!((bif (decide (a0 < 0)) then true else (decide (a0 ≥ (List.length c0:Int)))) == false) || decide (0 ≤ a0 ∧ a0 < (List.length c0:Int)))) = true then (lett ((bif (bif (decide (a0 < 0)) then true else (decide (a0 ≥ (List.length c0:Int)))) then true else ((((c0)[Int.toNat a0]?.getD 0).toNat:Int) == 32)):Bool) fun x1 =>
 some x1) else none
theorem ok_quote_Plain_1__e (n:Nat) (a0:Int) (c0:List UInt8) (r:Bool) (h:quote_Plain_1__e n a0 c0 = some r):CallsX Tryz.prog 67 [vi a0,.el [.str c0]] (vb r):=by
 unfold quote_Plain_1__e at h
 refine xo Tryz.f67 rfl fun F0 w0 _=>?_
 refine Wp.seq (rg [0,1] [] [(0,vi a0),(1,.el [.str c0])] [] (To.thenN (Wp.seq ?_)))
 obtain ⟨hc2,h⟩:=chk_of h
 obtain ⟨x1,hx1,h⟩:=lett_of h
 refine r0 [3] [] [(3,vb (bif (ex17 a0 c0) then true else ((ex6 c0 a0) == 32)))] [] (AllP.cons hc2 AllP.nil) (To.eq (K':=[(3,vb x1)]) (L':=[]) (by cases hx1; rfl) (by cases hx1; rfl) (To.thenN (Wp.ret ?_)))
 cases h
 exact To.done hΓ (by kernel_rfl)
def quote_Plain_l1 (n:Nat) (v1:List UInt8) (v3_0:List UInt8) (v43:Int):Nat → Int → Option (Sum (Unit) (Bool))
 | 0,_=>none
 | k + 1,v44=>if (decide (v44 < v43)) = true then (if (decide (0 ≤ v44 ∧ v44 < (List.length v1:Int))) = true then (if ((!((!(quote_ok (((v1)[Int.toNat v44]?.getD 0).toNat:Int))) == false) || decide (0 ≤ v44 ∧ v44 < (List.length v1:Int)))) = true then (((if ((((((v1)[Int.toNat v44]?.getD 0).toNat:Int) == 58) == true) && ((!(quote_ok (((v1)[Int.toNat v44]?.getD 0).toNat:Int))) == false)) = true then quote_Plain_1__e n (IntKind.wrap .i64 (v44 + 1)) v3_0 else some false)).bind fun r3 =>
 if ((!((bif (!(quote_ok (((v1)[Int.toNat v44]?.getD 0).toNat:Int))) then true else (bif ((((v1)[Int.toNat v44]?.getD 0).toNat:Int) == 58) then r3 else false)) == false) || decide (0 ≤ v44 ∧ v44 < (List.length v1:Int)))) = true then (((if ((((((v1)[Int.toNat v44]?.getD 0).toNat:Int) == 35) == true) && ((bif (!(quote_ok (((v1)[Int.toNat v44]?.getD 0).toNat:Int))) then true else (bif ((((v1)[Int.toNat v44]?.getD 0).toNat:Int) == 58) then r3 else false)) == false)) = true then quote_Plain_1__e n (IntKind.wrap .i64 (v44 - 1)) v3_0 else some false)).bind fun r4 =>
 lett ((bif (bif (!(quote_ok (((v1)[Int.toNat v44]?.getD 0).toNat:Int))) then true else (bif ((((v1)[Int.toNat v44]?.getD 0).toNat:Int) == 58) then r3 else false)) then true else (bif ((((v1)[Int.toNat v44]?.getD 0).toNat:Int) == 35) then r4 else false)):Bool) fun x5 =>
 if x5 = true then (some (.inr false))
 else (quote_Plain_l1 n v1 v3_0 v43 k (IntKind.wrap .i64 (v44 + 1)))) else none) else none) else none)
 else (some (.inl ()))
theorem ok_quote_Plain_l1 (n:Nat) (v1:List UInt8) (v3_0:List UInt8) (v43:Int) {F0:Fz} {w0:Pt Tryz.prog} {Q:Exit → Act → World → Prop} (k:Nat):∀ (v44:Int) (o:Sum (Unit) (Bool)),quote_Plain_l1 n v1 v3_0 v43 k v44 = some o → (Sum.elim (fun s=>To 77 F0 w0 [] [] (.exit 0) Q) (fun s=>To 77 F0 w0 [(2,vb s)] [] .ret Q)) o → WL Tryz.prog 77 F0 w0 [(1,.el [.str v1]),(3,.fn 67 [.el [.str v3_0]]),(43,vi v43),(44,vi v44)] [] (cI (cI (cB (cA (cB (cB (cB (cB (cF Tryz.f33))))))))) Q:=by
 induction k with
 | zero=>intro v44 o h; cases h
 | succ k ih =>
  intro v44 o h hQ
  rw [quote_Plain_l1] at h
  refine WL.round (Wp.seq (rg [1,3,43,44,45] [] [(1,.el [.str v1]),(3,.fn 67 [.el [.str v3_0]]),(43,vi v43),(44,vi v44),(45,vb (decide (v44 < v43)))] [] (To.thenN (Wp.seq (cn h (fun h=>?_) (fun h=>?_))))))
  ·refine Wp.skip (To.thenN (Wp.seq (Wp.block (Wp.seq (rg [1,3,4,43,44] [] [(1,.el [.str v1]),(3,.fn 67 [.el [.str v3_0]]),(4,vi v44),(43,vi v43),(44,vi v44)] [] (To.thenN (Wp.seq ?_)))))))
   obtain ⟨hc6,h⟩:=chk_of h
   obtain ⟨hc7,h⟩:=chk_of h
   obtain ⟨r3,hr3,h⟩:=bind_of h
   obtain ⟨hc8,h⟩:=chk_of h
   obtain ⟨r4,hr4,h⟩:=bind_of h
   obtain ⟨x5,hx5,h⟩:=lett_of h
   refine rr [] [(3,vb (quote_ok (ex6 v1 v44))),(14,vb r3),(26,vb r4)] [] [1,3,43,44,75] [] [(1,.el [.str v1]),(3,.fn 67 [.el [.str v3_0]]),(43,vi v43),(44,vi v44),(75,vb (bif (bif (!(quote_ok (ex6 v1 v44))) then true else (bif ((ex6 v1 v44) == 58) then r3 else false)) then true else (bif ((ex6 v1 v44) == 35) then r4 else false)))] [] [_,_,_,(((((ex6 v1 v44) == 58) == true) && ((!(quote_ok (ex6 v1 v44))) == false)) = true → CX Tryz.prog 67 [vi (IntKind.wrap .i64 (v44 + 1)),.el [.str v3_0]] (vb r3)),_,(((((ex6 v1 v44) == 35) == true) && ((bif (!(quote_ok (ex6 v1 v44))) then true else (bif ((ex6 v1 v44) == 58) then r3 else false)) == false)) = true → CX Tryz.prog 67 [vi (IntKind.wrap .i64 (v44 - 1)),.el [.str v3_0]] (vb r4))] (AllP.cons hc6 (AllP.cons (c1 (ok_quote_ok (ex6 v1 v44) _ rfl)) (AllP.cons hc7 (AllP.cons (fun hg=>cx (ok_quote_Plain_1__e n (IntKind.wrap .i64 (v44 + 1)) v3_0 _ (if_t hg hr3))) (AllP.cons hc8 (AllP.cons (fun hg=>cx (ok_quote_Plain_1__e n (IntKind.wrap .i64 (v44 - 1)) v3_0 _ (if_t hg hr4))) AllP.nil)))))) (To.eq (K':=[(1,.el [.str v1]),(3,.fn 67 [.el [.str v3_0]]),(43,vi v43),(44,vi v44),(75,vb x5)]) (L':=[]) (by cases hx5; rfl) (by cases hx5; rfl) (To.thenN (cn h (fun h=>?_) (fun h=>?_))))
   ·refine Wp.seq (rg [2] [] [(2,vb false)] [] (To.thenN (Wp.ret (To.blockR (To.thenR (To.thenR ?_))))))
    cases h
    exact hQ
   ·refine Wp.skip (To.blockN (To.thenN (rg [1,3,43,44] [] [(1,.el [.str v1]),(3,.fn 67 [.el [.str v3_0]]),(43,vi v43),(44,vi (IntKind.wrap .i64 (v44 + 1)))] [] (kt [1,3,43,44] [] [(1,.el [.str v1]),(3,.fn 67 [.el [.str v3_0]]),(43,vi v43),(44,vi (IntKind.wrap .i64 (v44 + 1)))] [] (To.again ?_)))))
    exact ih (IntKind.wrap .i64 (v44 + 1)) _ h hQ
  ·refine Wp.exit (To.thenX (To.thenX (kt [] [] [] [] ?_)))
   cases h
   exact hQ
def quote_Plain (n:Nat) (a0:List UInt8):Option (Bool) :=
 if ((!((bif (bif (a0 == []) then true else (a0 == [126])) then true else (a0 == [110,117,108,108])) == false) || decide (0 ≤ (0:Int) ∧ (0:Int) < (List.length a0:Int)))) = true then (if ((!((bif (bif (bif (a0 == []) then true else (a0 == [126])) then true else (a0 == [110,117,108,108])) then true else ((((a0)[Int.toNat 0]?.getD 0).toNat:Int) == 32)) == false) || decide (0 ≤ (IntKind.wrap .i64 ((List.length a0:Int) - 1)) ∧ (IntKind.wrap .i64 ((List.length a0:Int) - 1)) < (List.length a0:Int)))) = true then (if ((!((bif (bif (bif (bif (a0 == []) then true else (a0 == [126])) then true else (a0 == [110,117,108,108])) then true else ((((a0)[Int.toNat 0]?.getD 0).toNat:Int) == 32)) then true else ((((a0)[Int.toNat (IntKind.wrap .i64 ((List.length a0:Int) - 1))]?.getD 0).toNat:Int) == 32)) == false) || decide (0 ≤ (0:Int) ∧ (0:Int) < (List.length a0:Int)))) = true then (lett ((bif (bif (bif (bif (bif (a0 == []) then true else (a0 == [126])) then true else (a0 == [110,117,108,108])) then true else ((((a0)[Int.toNat 0]?.getD 0).toNat:Int) == 32)) then true else ((((a0)[Int.toNat (IntKind.wrap .i64 ((List.length a0:Int) - 1))]?.getD 0).toNat:Int) == 32)) then true else (decide ((Lib.indexByte ([63,58,44,91,93,123,125,35,38,42,33,124,62,39,34,37,64,96]:List UInt8) (Int.toNat (((a0)[Int.toNat 0]?.getD 0).toNat:Int)).toUInt8) ≥ 0))):Bool) fun x1 =>
 if x1 = true then some false
 else (if (decide (0 ≤ (0:Int) ∧ (0:Int) < (List.length a0:Int))) = true then (((if (((((a0)[Int.toNat 0]?.getD 0).toNat:Int) == 45) == true) = true then quote_Plain_1__e n 1 a0 else some false)).bind fun r2 =>
 if (bif ((((a0)[Int.toNat 0]?.getD 0).toNat:Int) == 45) then r2 else false) = true then some false
 else ((quote_Plain_l1 n a0 a0 (List.length a0:Int) n 0).bind fun o3 =>
 (Sum.elim (fun o3=>some true) (fun o3=>some o3)) o3)) else none)) else none) else none) else none
abbrev ex27 (x0:List UInt8):=(IntKind.wrap .i64 ((List.length x0:Int) - 1))
abbrev ex28 (x0:List UInt8):=(bif (bif (x0 == []) then true else (x0 == [126])) then true else (x0 == [110,117,108,108]))
abbrev ex82 (x0:List UInt8):=(Lib.indexByte ([63,58,44,91,93,123,125,35,38,42,33,124,62,39,34,37,64,96]:List UInt8) (Int.toNat (ex23 x0)).toUInt8)
abbrev ex83 (x0:List UInt8):=(bif (bif (ex28 x0) then true else ((ex23 x0) == 32)) then true else ((((x0)[Int.toNat (ex27 x0)]?.getD 0).toNat:Int) == 32))
abbrev ex84 (x0:List UInt8):=(0 ≤ (ex27 x0) ∧ (ex27 x0) < (List.length x0:Int))
theorem ok_quote_Plain (n:Nat) (a0:List UInt8) (r:Bool) (h:quote_Plain n a0 = some r):CallsX Tryz.prog 33 [.str a0] (vb r):=by
 unfold quote_Plain at h
 refine xo Tryz.f33 rfl fun F0 w0 _=>?_
 refine Wp.seq (rg [1] [1] [(1,.own 1 0)] [(1,9,[.str a0])] (To.thenN (Wp.seq (Wp.seq ?_))))
 obtain ⟨hc5,h⟩:=chk_of h
 obtain ⟨hc6,h⟩:=chk_of h
 obtain ⟨hc7,h⟩:=chk_of h
 obtain ⟨x1,hx1,h⟩:=lett_of h
 refine rr [] [(26,vi (ex82 a0))] [] [1,33] [1] [(1,.own 1 0),(33,vb (bif (ex83 a0) then true else (decide ((ex82 a0) ≥ 0))))] [(1,9,[.str a0])] [_,_,_,(((ex83 a0) == false) = true → CX Tryz.prog 66 [.str [63,58,44,91,93,123,125,35,38,42,33,124,62,39,34,37,64,96],.val (.int .u8 (ex23 a0))] (vi (ex82 a0)))] (AllP.cons hc5 (AllP.cons hc6 (AllP.cons hc7 (AllP.cons (fun _=>cx (Sh.indexByte66)) AllP.nil)))) (To.eq (K':=[(1,.own 1 0),(33,vb x1)]) (L':=[(1,9,[.str a0])]) (by cases hx1; rfl) (by cases hx1; rfl) (To.thenN (cn h (fun h=>?_) (fun h=>?_))))
 ·refine Wp.seq (rg [2] [] [(2,vb false)] [] (To.thenN (Wp.ret (To.thenR ?_))))
  cases h
  exact To.done hΓ (by kernel_rfl)
 ·refine Wp.skip (To.thenN (Wp.seq (rr [(0,[1])] [] [] [1,3] [] [(1,.el [.str a0]),(3,.fn 67 [.el [.str a0]])] [] [] AllP.nil (To.thenN (Wp.seq (Wp.seq ?_))))))
  obtain ⟨hc4,h⟩:=chk_of h
  obtain ⟨r2,hr2,h⟩:=bind_of h
  refine rr [] [(5,vb r2)] [] [1,3,41] [] [(1,.el [.str a0]),(3,.fn 67 [.el [.str a0]]),(41,vb (bif ((ex23 a0) == 45) then r2 else false))] [] [_,((((ex23 a0) == 45) == true) = true → CX Tryz.prog 67 [vi 1,.el [.str a0]] (vb r2))] (AllP.cons hc4 (AllP.cons (fun hg=>cx (ok_quote_Plain_1__e n 1 a0 _ (if_t hg hr2))) AllP.nil)) (To.thenN (cn h (fun h=>?_) (fun h=>?_)))
  ·refine Wp.seq (rg [2] [] [(2,vb false)] [] (To.thenN (Wp.ret (To.thenR ?_))))
   cases h
   exact To.done hΓ (by kernel_rfl)
  ·refine Wp.skip (To.thenN (Wp.seq (Wp.seq (rg [1,3,43,44] [] [(1,.el [.str a0]),(3,.fn 67 [.el [.str a0]]),(43,vi (List.length a0:Int)),(44,vi 0)] [] (To.thenN (Wp.block ?_))))))
   obtain ⟨o3,ho3,h⟩:=bind_of h
   refine kw [1,3,43,44] [] [(1,.el [.str a0]),(3,.fn 67 [.el [.str a0]]),(43,vi (List.length a0:Int)),(44,vi 0)] [] (Wp.loopL (ok_quote_Plain_l1 n a0 a0 (List.length a0:Int) n 0 o3 ho3 ?_))
   rcases o3 with o3 | o3
   ·replace h:=sum_l h
    refine To.blockX (To.thenN (Wp.seq (rg [2] [] [(2,vb true)] [] (To.thenN (Wp.ret ?_)))))
    cases h
    exact To.done hΓ (by kernel_rfl)
   ·replace h:=sum_r h
    refine To.blockR (To.thenR ?_)
    cases h
    exact To.done hΓ (by kernel_rfl)
def block_Entry_l2 (n:Nat) (v0:List UInt8):Nat → Int → Option (Int)
 | 0,_=>none
 | k + 1,v5=>((if ((decide (v5 < (List.length v0:Int))) == true) = true then block_mark n v0 v5 else some false)).bind fun r4 =>
 if (bif (decide (v5 < (List.length v0:Int))) then (!r4) else false) = true then (block_Entry_l2 n v0 k (IntKind.wrap .i64 (v5 + 1)))
 else some v5
theorem ok_block_Entry_l2 (n:Nat) (v0:List UInt8) {F0:Fz} {w0:Pt Tryz.prog} {Q:Exit → Act → World → Prop} (k:Nat):∀ (v5:Int) (o:Int),block_Entry_l2 n v0 k v5 = some o → To 81 F0 w0 [(0,.str v0),(5,vi o)] [] (.exit 0) Q → WL Tryz.prog 81 F0 w0 [(0,.str v0),(5,vi v5)] [] (cI (cI (cA (cE (cB (cA (cB (cB (cB (cF Tryz.f12)))))))))) Q:=by
 induction k with
 | zero=>intro v5 o h; cases h
 | succ k ih =>
  intro v5 o h hQ
  rw [block_Entry_l2] at h
  refine WL.round (Wp.seq (Wp.seq ?_))
  obtain ⟨r4,hr4,h⟩:=bind_of h
  refine rr [] [(7,vb r4)] [] [0,5,58] [] [(0,.str v0),(5,vi v5),(58,vb (bif (ex9 v5 v0) then (!r4) else false))] [] [(((ex9 v5 v0) == true) = true → CX Tryz.prog 32 [.str v0,vi v5] (vb r4))] (AllP.cons (fun hg=>cx (ok_block_mark n v0 v5 _ (if_t hg hr4))) AllP.nil) (To.thenN (cn h (fun h=>?_) (fun h=>?_)))
  ·refine Wp.skip (To.thenN (Wp.block (rg [0,5] [] [(0,.str v0),(ex12 v5)] [] (To.blockN (To.again ?_)))))
   exact ih (IntKind.wrap .i64 (v5 + 1)) _ h hQ
  ·refine Wp.exit (To.thenX (To.thenX (kt [0,5] [] [(0,.str v0),(5,vi v5)] [] ?_)))
   cases h
   exact hQ
def block_Entry_j1 (n:Nat) (v0:List UInt8) (v5:Int) (v32:Bool):Option (Sum ((List UInt8) × Int) ((List UInt8) × (List UInt8) × Int)) :=
 if v32 = true then ((quote_Scan n v0 0).bind fun r2 =>
 ((if ((r2.2.2 != 0) == false) = true then block_mark n v0 r2.2.1 else some false)).bind fun r3 =>
 if (bif (r2.2.2 != 0) then true else (!r3)) = true then (some (.inr ([],[],0)))
 else (some (.inl (r2.1,r2.2.1))))
 else ((block_Entry_l2 n v0 n v5).bind fun o4 =>
 if (o4 == (List.length v0:Int)) = true then (some (.inr ([],[],0)))
 else (if (decide (0 ≤ o4 ∧ o4 ≤ (List.length v0:Int))) = true then ((quote_Plain n (List.take (Int.toNat o4) v0)).bind fun r5 =>
 if (bif (!r5) then true else ((List.take (Int.toNat o4) v0) == [60,60])) = true then (some (.inr ([],[],(-1))))
 else (some (.inl ((List.take (Int.toNat o4) v0),o4)))) else none))
theorem ok_block_Entry_j1 (n:Nat) (v0:List UInt8) (v5:Int) (v32:Bool) (o:Sum ((List UInt8) × Int) ((List UInt8) × (List UInt8) × Int)) (h:block_Entry_j1 n v0 v5 v32 = some o) {F0:Fz} {w0:Pt Tryz.prog} {Q:Exit → Act → World → Prop} (hQ:(Sum.elim (fun s=>To 81 F0 w0 [(0,.str v0),(2,.str s.1),(5,vi s.2)] [] .normal Q) (fun s=>To 81 F0 w0 [(2,.str s.1),(3,.str s.2.1),(4,vi s.2.2)] [] .ret Q)) o):Wp Tryz.prog 81 F0 w0 [(0,.str v0),(5,vi v5),(32,vb v32)] [] (cB (cA (cB (cB (cB (cF Tryz.f12)))))) Q:=by
 unfold block_Entry_j1 at h
 refine cn h (fun h=>?_) (fun h=>?_)
 ·refine Wp.seq ?_
  obtain ⟨r2,hr2,h⟩:=bind_of h
  refine rc [] 1 [0,6,7,8] [] [(0,.str v0),(6,.str r2.1),(7,vi r2.2.1),(8,vi r2.2.2)] [] (ok_quote_Scan n v0 0 _ hr2) (To.thenN (Wp.seq (Wp.seq ?_)))
  obtain ⟨r3,hr3,h⟩:=bind_of h
  refine rr [] [(5,vb r3)] [] [0,6,7,46] [] [(0,.str v0),(6,.str r2.1),(7,vi r2.2.1),(46,vb (bif (r2.2.2 != 0) then true else (!r3)))] [] [(((r2.2.2 != 0) == false) = true → CX Tryz.prog 32 [.str v0,vi r2.2.1] (vb r3))] (AllP.cons (fun hg=>cx (ok_block_mark n v0 r2.2.1 _ (if_t hg hr3))) AllP.nil) (To.thenN (cn h (fun h=>?_) (fun h=>?_)))
  ·refine Wp.seq (rg [2,3,4] [] [(2,.str []),(3,.str []),(4,vi 0)] [] (To.thenN (Wp.ret (To.thenR ?_))))
   cases h
   exact hQ
  ·refine Wp.skip (To.thenN (rg [0,2,5] [] [(0,.str v0),(2,.str r2.1),(5,vi r2.2.1)] [] (kt [0,2,5] [] [(0,.str v0),(2,.str r2.1),(5,vi r2.2.1)] [] ?_)))
   cases h
   exact hQ
 ·refine Wp.seq (Wp.block ?_)
  obtain ⟨o4,ho4,h⟩:=bind_of h
  refine kw [0,5] [] [(0,.str v0),(5,vi v5)] [] (Wp.loopL (ok_block_Entry_l2 n v0 n v5 o4 ho4 (To.blockX (To.thenN (Wp.seq (Wp.seq (rg [0,5,64] [] [(0,.str v0),(5,vi o4),(64,vb (o4 == (List.length v0:Int)))] [] (To.thenN (cn h (fun h=>?_) (fun h=>?_))))))))))
  ·refine Wp.seq (rg [2,3,4] [] [(2,.str []),(3,.str []),(4,vi 0)] [] (To.thenN (Wp.ret (To.thenR ?_))))
   cases h
   exact hQ
  ·refine Wp.skip (To.thenN (Wp.seq ?_))
   obtain ⟨hc6,h⟩:=chk_of h
   refine r0 [0,2,5] [] [(0,.str v0),(2,.str (List.take (Int.toNat o4) v0)),(5,vi o4)] [] (AllP.cons hc6 AllP.nil) (To.thenN (Wp.seq ?_))
   obtain ⟨r5,hr5,h⟩:=bind_of h
   refine rc [] 1 [0,2,5,74] [] [(0,.str v0),(2,.str (List.take (Int.toNat o4) v0)),(5,vi o4),(74,vb (bif (!r5) then true else ((List.take (Int.toNat o4) v0) == [60,60])))] [] (ok_quote_Plain n (List.take (Int.toNat o4) v0) _ hr5) (To.thenN (cn h (fun h=>?_) (fun h=>?_)))
   ·refine Wp.seq (rg [2,3,4] [] [(2,.str []),(3,.str []),(4,vi (-1))] [] (To.thenN (Wp.ret ?_)))
    cases h
    exact hQ
   ·refine Wp.skip (kt [0,2,5] [] [(0,.str v0),(2,.str (List.take (Int.toNat o4) v0)),(5,vi o4)] [] ?_)
    cases h
    exact hQ
def block_Entry (n:Nat) (a0:List UInt8):Option ((List UInt8) × (List UInt8) × Int) :=
 if ((!((bif (a0 == []) then true else (block_Row a0)) == false) || decide (0 ≤ (0:Int) ∧ (0:Int) < (List.length a0:Int)))) = true then (if ((!((bif (bif (a0 == []) then true else (block_Row a0)) then true else ((((a0)[Int.toNat 0]?.getD 0).toNat:Int) == 91)) == false) || decide (0 ≤ (0:Int) ∧ (0:Int) < (List.length a0:Int)))) = true then (lett ((bif (bif (bif (a0 == []) then true else (block_Row a0)) then true else ((((a0)[Int.toNat 0]?.getD 0).toNat:Int) == 91)) then true else ((((a0)[Int.toNat 0]?.getD 0).toNat:Int) == 123)):Bool) fun x1 =>
 if x1 = true then (some ([],[],0))
 else (if (decide (0 ≤ (0:Int) ∧ (0:Int) < (List.length a0:Int))) = true then (if ((!(((((a0)[Int.toNat 0]?.getD 0).toNat:Int) == 34) == false) || decide (0 ≤ (0:Int) ∧ (0:Int) < (List.length a0:Int)))) = true then ((block_Entry_j1 n a0 0 (bif ((((a0)[Int.toNat 0]?.getD 0).toNat:Int) == 34) then true else ((((a0)[Int.toNat 0]?.getD 0).toNat:Int) == 39))).bind fun o2 =>
 (Sum.elim (fun o2=>if (decide (0 ≤ (IntKind.wrap .i64 (o2.2 + 1)) ∧ (IntKind.wrap .i64 (o2.2 + 1)) ≤ (List.length a0:Int))) = true then (some (o2.1,(Lib.trimLeftB (List.drop (Int.toNat (IntKind.wrap .i64 (o2.2 + 1))) a0) 32),1)) else none) (fun o2=>some (o2.1,o2.2.1,o2.2.2))) o2) else none) else none)) else none) else none
abbrev ex85 (x0:List UInt8):=(bif ((ex23 x0) == 34) then true else ((ex23 x0) == 39))
theorem ok_block_Entry (n:Nat) (a0:List UInt8) (r:(List UInt8) × (List UInt8) × Int) (h:block_Entry n a0 = some r):CallsX Tryz.prog 12 [.str a0] (.tup [.str r.1,.str r.2.1,vi r.2.2]):=by
 unfold block_Entry at h
 refine xo Tryz.f12 rfl fun F0 w0 _=>?_
 refine Wp.seq (rg [0] [] [(0,.str a0)] [] (To.thenN (Wp.seq (Wp.seq ?_))))
 obtain ⟨hc6,h⟩:=chk_of h
 obtain ⟨hc7,h⟩:=chk_of h
 obtain ⟨x1,hx1,h⟩:=lett_of h
 refine rr [] [(4,vb (block_Row a0))] [] [0,24] [] [(0,.str a0),(24,vb (bif (bif (bif (a0 == []) then true else (block_Row a0)) then true else ((ex23 a0) == 91)) then true else ((ex23 a0) == 123)))] [] [(((a0 == []) == false) = true → CX Tryz.prog 14 [.str a0] (vb (block_Row a0))),_,_] (AllP.cons (fun _=>cx (ok_block_Row a0 _ rfl)) (AllP.cons hc6 (AllP.cons hc7 AllP.nil))) (To.eq (K':=[(0,.str a0),(24,vb x1)]) (L':=[]) (by cases hx1; rfl) (by cases hx1; rfl) (To.thenN (cn h (fun h=>?_) (fun h=>?_))))
 ·refine Wp.seq (rg [2,3,4] [] [(2,.str []),(3,.str []),(4,vi 0)] [] (To.thenN (Wp.ret (To.thenR ?_))))
  cases h
  exact To.done hΓ (by kernel_rfl)
 ·refine Wp.skip (To.thenN (Wp.seq (rg [0,5] [] [(0,.str a0),(5,vi 0)] [] (To.thenN (Wp.seq (Wp.seq ?_))))))
  obtain ⟨hc4,h⟩:=chk_of h
  obtain ⟨hc5,h⟩:=chk_of h
  refine r0 [0,5,32] [] [(0,.str a0),(5,vi 0),(32,vb (ex85 a0))] [] (AllP.cons hc4 (AllP.cons hc5 AllP.nil)) (To.thenN ?_)
  obtain ⟨o2,ho2,h⟩:=bind_of h
  refine kw [0,5,32] [] [(0,.str a0),(5,vi 0),(32,vb (ex85 a0))] [] (ok_block_Entry_j1 n a0 0 (ex85 a0) o2 ho2 ?_)
  rcases o2 with o2 | o2
  ·replace h:=sum_l h
   refine To.thenN (Wp.seq ?_)
   obtain ⟨hc3,h⟩:=chk_of h
   refine rr [] [(5,.str (Lib.trimLeftB (List.drop (Int.toNat (IntKind.wrap .i64 (o2.2 + 1))) a0) 32))] [] [2,3,4] [] [(2,.str o2.1),(3,.str (Lib.trimLeftB (List.drop (Int.toNat (IntKind.wrap .i64 (o2.2 + 1))) a0) 32)),(4,vi 1)] [] [_,(true = true → CX Tryz.prog 34 [.str (List.drop (Int.toNat (IntKind.wrap .i64 (o2.2 + 1))) a0),.str [32]] (.str (Lib.trimLeftB (List.drop (Int.toNat (IntKind.wrap .i64 (o2.2 + 1))) a0) 32)))] (AllP.cons hc3 (AllP.cons (fun _=>cx (Sh.trimLeft134 (by decide))) AllP.nil)) (To.thenN (Wp.ret ?_))
   cases h
   exact To.done hΓ (by kernel_rfl)
  ·replace h:=sum_r h
   refine To.thenR ?_
   cases h
   exact To.done hΓ (by kernel_rfl)
theorem good_E_api_Node (l:List (S_api_Node)):GoodR (.recs (S_api_Node.mk 0 [] [] []) E_api_Node l):=⟨Nat.le_of_ble_eq_true (by kernel_rfl),fun _=>⟨rfl,rfl⟩⟩
def line_Cut (n:Nat) (a0:S_line_Line) (a1:Int):Option (S_line_Line) :=
 if (bif (decide (a1 < 0)) then true else (decide (a1 > (List.length a0.f_Text:Int)))) = true then some a0
 else (if (decide (0 ≤ a1 ∧ a1 ≤ (List.length a0.f_Text:Int))) = true then (lett ((IntKind.wrap .i64 ((IntKind.wrap .i64 (a0.f_Indent + (List.length a0.f_Text:Int))) - (List.length (Lib.trimLeftB (List.drop (Int.toNat a1) a0.f_Text) 32):Int))):Int) fun x1 =>
 some (S_line_Line.mk a0.f_No x1 (Lib.trimLeftB (List.drop (Int.toNat a1) a0.f_Text) 32))) else none)
abbrev qc3 (x:S_line_Line):List D:=[vi x.f_No,vi x.f_Indent,.str x.f_Text]
abbrev ex29 (x0:Int) (x1:S_line_Line):=(Lib.trimLeftB (List.drop (Int.toNat x0) x1.f_Text) 32)
abbrev ex30 (x0:Int) (x1:S_line_Line):=(bif (decide (x0 < 0)) then true else (decide (x0 > (List.length x1.f_Text:Int))))
theorem ok_line_Cut (n:Nat) (a0:S_line_Line) (a1:Int) (r:S_line_Line) (h:line_Cut n a0 a1 = some r):CallsX Tryz.prog 87 [.agg (qc3 a0),vi a1] (.agg (qc3 r)):=by
 unfold line_Cut at h
 refine xo Tryz.f87 rfl fun F0 w0 _=>?_
 refine Wp.seq (rg [1,2,4] [2,4] [(1,vi a1),(2,.own 2 0),(4,.own 4 0)] [(2,50,qc3 a0),(4,50,[vi 0,vi 0,.str []])] (To.thenN (Wp.seq (Wp.seq (rg [1,2,4,14] [2,4] [(1,vi a1),(2,.own 2 0),(4,.own 4 0),(14,vb (ex30 a1 a0))] [(2,50,qc3 a0),(4,50,[vi 0,vi 0,.str []])] (To.thenN (cn h (fun h=>?_) (fun h=>?_))))))))
 ·refine Wp.seq (rg [4] [4] [(4,.own 4 0)] [(4,50,qc3 a0)] (To.thenN (Wp.ret (To.thenR ?_))))
  cases h
  exact To.done hΓ (by kernel_rfl)
 ·refine Wp.skip (To.thenN (Wp.seq ?_))
  obtain ⟨hc2,h⟩:=chk_of h
  refine rr [] [(4,.str (ex29 a1 a0))] [] [2,4,5] [2,4] [(2,.own 2 0),(4,.own 4 0),(5,.str (ex29 a1 a0))] [(2,50,qc3 a0),(4,50,[vi 0,vi 0,.str []])] [_,(true = true → CX Tryz.prog 34 [.str (List.drop (Int.toNat a1) a0.f_Text),.str [32]] (.str (ex29 a1 a0)))] (AllP.cons hc2 (AllP.cons (fun _=>cx (Sh.trimLeft134 (by decide))) AllP.nil)) (To.thenN (Wp.seq ?_))
  obtain ⟨x1,hx1,h⟩:=lett_of h
  refine rg [4] [4] [(4,.own 4 0)] [(4,50,[vi a0.f_No,vi (IntKind.wrap .i64 ((IntKind.wrap .i64 (a0.f_Indent + (List.length a0.f_Text:Int))) - (List.length (ex29 a1 a0):Int))),.str (ex29 a1 a0)])] (To.eq (K':=[(4,.own 4 0)]) (L':=[(4,50,[vi a0.f_No,vi x1,.str (ex29 a1 a0)])]) (by cases hx1; rfl) (by cases hx1; rfl) (To.thenN (Wp.ret ?_)))
  cases h
  exact To.done hΓ (by kernel_rfl)
def line_Split_o_j2 (n:Nat) (v0:List UInt8) (v5:List (S_line_Line)) (v6:Int):Option (Sum ((List UInt8) × (List (S_line_Line))) (Int × Int)) :=
 if (decide (List.length v0 < 4294967281)) = true then (lett ((IntKind.wrap .i64 ((List.length ((Lib.cut v0 ([10]:List UInt8)).1):Int) - (List.length (Lib.trimLeftB ((Lib.cut v0 ([10]:List UInt8)).1) 32):Int))):Int) fun x2 =>
 if (decide (0 ≤ x2 ∧ x2 ≤ (List.length ((Lib.cut v0 ([10]:List UInt8)).1):Int))) = true then ((line_say n (List.drop (Int.toNat x2) ((Lib.cut v0 ([10]:List UInt8)).1))).bind fun r3 =>
 lett ((bif (!r3.2) then true else (bif (x2 == 0) then (bif (r3.1 == [45,45,45]) then true else (r3.1 == [46,46,46])) else false)):Bool) fun x4 =>
 if x4 = true then (some (.inr (v6,3)))
 else (if (!(r3.1 == [])) = true then (if (decide ((List.length v5 + List.length ([(S_line_Line.mk v6 x2 r3.1)]:List (S_line_Line))) * (32 + 1) ≤ limit)) = true then (some (.inl ((Lib.cut v0 ([10]:List UInt8)).2.1,(v5 ++ ([(S_line_Line.mk v6 x2 r3.1)]:List (S_line_Line)))))) else none)
 else (some (.inl ((Lib.cut v0 ([10]:List UInt8)).2.1,v5))))) else none) else none
abbrev zx4:S_line_Line:=S_line_Line.mk 0 0 []
abbrev rc5 (l:List (S_line_Line)):D:=.rowc false (α:=S_line_Line) zx4 E_line_Line l
abbrev rs6 (l:List (S_line_Line)):D:=.recs (α:=S_line_Line) zx4 E_line_Line l
abbrev ex31 (x0:List UInt8):=(Lib.cut x0 ([10]:List UInt8))
theorem ok_line_Split_o_j2 (n:Nat) (v0:List UInt8) (v5:List (S_line_Line)) (v6:Int) (o:Sum ((List UInt8) × (List (S_line_Line))) (Int × Int)) (h:line_Split_o_j2 n v0 v5 v6 = some o) {F0:Fz} {w0:Pt Tryz.prog} {Q:Exit → Act → World → Prop} (hQ:(Sum.elim (fun s=>To 65 F0 w0 [(0,.str s.1),(5,.row 1005),(6,vi v6)] [(1005,50,[rc5 s.2])] .normal Q) (fun s=>To 65 F0 w0 [(2,.val (.slice none 0 0)),(3,vi s.1),(4,vi s.2)] [] .ret Q)) o):Wp Tryz.prog 65 F0 w0 [(0,.str v0),(5,.row 1005),(6,vi v6)] [(1005,50,[rc5 v5])] (cA (cB (cI (cI (cB (cA (cB (cB (cB (cF Tryz.f23)))))))))) Q:=by
 unfold line_Split_o_j2 at h
 refine Wp.block (Wp.seq ?_)
 obtain ⟨u1,h⟩:=chk_of h
 refine rr [] [(1,.tup [.str ((ex31 v0).1),.str ((ex31 v0).2.1),vb ((ex31 v0).2.2)])] [] [5,6,7,8] [1005] [(5,.row 1005),(6,vi v6),(7,.str ((ex31 v0).1)),(8,.str ((ex31 v0).2.1))] [(1005,50,[rc5 v5])] [(true = true → CX Tryz.prog 53 [.str v0,.str [10]] (.tup [.str ((ex31 v0).1),.str ((ex31 v0).2.1),vb ((ex31 v0).2.2)]))] (AllP.cons (fun _=>cx (Sh.cut53 u1)) AllP.nil) (To.thenN (Wp.seq (rg [0,5,6,7] [1005] [(0,.str ((ex31 v0).2.1)),(5,.row 1005),(6,vi v6),(7,.str ((ex31 v0).1))] [(1005,50,[rc5 v5])] (To.thenN (Wp.seq ?_)))))
 obtain ⟨x2,hx2,h⟩:=lett_of h
 refine rr [] [(3,.str (Lib.trimLeftB ((ex31 v0).1) 32))] [] [0,5,6,7,10] [1005] [(0,.str ((ex31 v0).2.1)),(5,.row 1005),(6,vi v6),(7,.str ((ex31 v0).1)),(10,vi (IntKind.wrap .i64 ((List.length ((ex31 v0).1):Int) - (List.length (Lib.trimLeftB ((ex31 v0).1) 32):Int))))] [(1005,50,[rc5 v5])] [(true = true → CX Tryz.prog 34 [.str ((ex31 v0).1),.str [32]] (.str (Lib.trimLeftB ((ex31 v0).1) 32)))] (AllP.cons (fun _=>cx (Sh.trimLeft134 (by decide))) AllP.nil) (To.eq (K':=[(0,.str ((ex31 v0).2.1)),(5,.row 1005),(6,vi v6),(7,.str ((ex31 v0).1)),(10,vi x2)]) (L':=[(1005,50,[rc5 v5])]) (by cases hx2; rfl) (by cases hx2; rfl) (To.thenN (Wp.seq ?_)))
 obtain ⟨hc6,h⟩:=chk_of h
 obtain ⟨r3,hr3,h⟩:=bind_of h
 refine rr [] [(3,.tup [.str r3.1,vb r3.2])] [] [0,5,6,10,11,12] [1005] [(0,.str ((ex31 v0).2.1)),(5,.row 1005),(6,vi v6),(10,vi x2),(11,.str r3.1),(12,vb r3.2)] [(1005,50,[rc5 v5])] [_,_] (AllP.cons hc6 (AllP.cons (c1 (ok_line_say n (List.drop (Int.toNat x2) ((ex31 v0).1)) _ hr3)) AllP.nil)) (To.thenN (Wp.seq (Wp.seq ?_)))
 obtain ⟨x4,hx4,h⟩:=lett_of h
 refine rg [0,5,6,10,11,53] [1005] [(0,.str ((ex31 v0).2.1)),(5,.row 1005),(6,vi v6),(10,vi x2),(11,.str r3.1),(53,vb (bif (!r3.2) then true else (bif (x2 == 0) then (bif (r3.1 == [45,45,45]) then true else (r3.1 == [46,46,46])) else false)))] [(1005,50,[rc5 v5])] (To.eq (K':=[(0,.str ((ex31 v0).2.1)),(5,.row 1005),(6,vi v6),(10,vi x2),(11,.str r3.1),(53,vb x4)]) (L':=[(1005,50,[rc5 v5])]) (by cases hx4; rfl) (by cases hx4; rfl) (To.thenN (cn h (fun h=>?_) (fun h=>?_))))
 ·refine Wp.seq (rg [2,3,4] [] [(2,.val (.slice none 0 0)),(3,vi v6),(4,vi 3)] [] (To.thenN (Wp.ret (To.thenR (To.blockR ?_)))))
  cases h
  exact hQ
 ·refine Wp.skip (To.thenN (Wp.seq (rg [0,5,6,10,11,56] [1005] [(0,.str ((ex31 v0).2.1)),(5,.row 1005),(6,vi v6),(10,vi x2),(11,.str r3.1),(56,vb (!(r3.1 == [])))] [(1005,50,[rc5 v5])] (To.thenN (cn h (fun h=>?_) (fun h=>?_))))))
  ·obtain ⟨hc5,h⟩:=chk_of h
   refine rr [] [(5,rs6 [(S_line_Line.mk v6 x2 r3.1)]),(6,rs6 (v5 ++ ([(S_line_Line.mk v6 x2 r3.1)]:List (S_line_Line))))] [] [0,5,6] [63] [(0,.str ((ex31 v0).2.1)),(5,.row 63),(6,vi v6)] [(63,50,[rc5 (v5 ++ ([(S_line_Line.mk v6 x2 r3.1)]:List (S_line_Line)))])] [(MkOb 3 [vi v6,vi x2,.str r3.1] 1 (rs6 [(S_line_Line.mk v6 x2 r3.1)]) ∧ GoodR (rs6 [(S_line_Line.mk v6 x2 r3.1)])),_,(AppOb zx4 E_line_Line v5 (List.flatMap E_line_Line ([(S_line_Line.mk v6 x2 r3.1)]:List (S_line_Line))) (List.length ([(S_line_Line.mk v6 x2 r3.1)]:List (S_line_Line))) (rs6 (v5 ++ ([(S_line_Line.mk v6 x2 r3.1)]:List (S_line_Line)))) ∧ GoodR (rs6 (v5 ++ ([(S_line_Line.mk v6 x2 r3.1)]:List (S_line_Line)))))] (AllP.cons (mkOb (by kernel_rfl) rfl (by kernel_rfl) (good_E_line_Line _)) (AllP.cons hc5 (AllP.cons (appOb rfl rfl (good_E_line_Line _)) AllP.nil))) (To.blockN (nt [0,5,6] [63] [(63,1005)] [0,5,6] [1005] [(0,.str ((ex31 v0).2.1)),(5,.row 1005),(6,vi v6)] [(1005,50,[rc5 (v5 ++ ([(S_line_Line.mk v6 x2 r3.1)]:List (S_line_Line)))])] ?_))
   cases h
   exact hQ
  ·refine Wp.skip (To.blockN (kt [0,5,6] [1005] [(0,.str ((ex31 v0).2.1)),(5,.row 1005),(6,vi v6)] [(1005,50,[rc5 v5])] ?_))
   cases h
   exact hQ
def line_Split_o_l1 (n:Nat):Nat → (List UInt8) → (List (S_line_Line)) → Int → Option (Sum ((List (S_line_Line))) (Int × Int))
 | 0,_,_,_=>none
 | k + 1,v0,v5,v6=>if (!(v0 == [])) = true then ((line_Split_o_j2 n v0 v5 v6).bind fun o1 =>
 (Sum.elim (fun o1=>line_Split_o_l1 n k o1.1 o1.2 (IntKind.wrap .i64 (v6 + 1))) (fun o1=>some (.inr (o1.1,o1.2)))) o1)
 else (some (.inl v5))
abbrev ex32 (x0:Int):Nat × D:=(6,vi (IntKind.wrap .i64 (x0 + 1)))
theorem ok_line_Split_o_l1 (n:Nat) {F0:Fz} {w0:Pt Tryz.prog} {Q:Exit → Act → World → Prop} (k:Nat):∀ (v0:List UInt8) (v5:List (S_line_Line)) (v6:Int) (o:Sum ((List (S_line_Line))) (Int × Int)),line_Split_o_l1 n k v0 v5 v6 = some o → (Sum.elim (fun s=>To 65 F0 w0 [(5,.row 1005)] [(1005,50,[rc5 s])] (.exit 0) Q) (fun s=>To 65 F0 w0 [(2,.val (.slice none 0 0)),(3,vi s.1),(4,vi s.2)] [] .ret Q)) o → WL Tryz.prog 65 F0 w0 [(0,.str v0),(5,.row 1005),(6,vi v6)] [(1005,50,[rc5 v5])] (cI (cI (cB (cA (cB (cB (cB (cF Tryz.f23)))))))) Q:=by
 induction k with
 | zero=>intro v0 v5 v6 o h; cases h
 | succ k ih =>
  intro v0 v5 v6 o h hQ
  rw [line_Split_o_l1] at h
  refine WL.round (Wp.seq (Wp.seq (rg [0,5,6,17] [1005] [(0,.str v0),(5,.row 1005),(6,vi v6),(17,vb (!(v0 == [])))] [(1005,50,[rc5 v5])] (To.thenN (cn h (fun h=>?_) (fun h=>?_))))))
  ·refine Wp.skip (To.thenN (Wp.seq ?_))
   obtain ⟨o1,ho1,h⟩:=bind_of h
   refine kw [0,5,6] [1005] [(0,.str v0),(5,.row 1005),(6,vi v6)] [(1005,50,[rc5 v5])] (ok_line_Split_o_j2 n v0 v5 v6 o1 ho1 ?_)
   rcases o1 with o1 | o1
   ·replace h:=sum_l h
    refine To.thenN (rg [0,5,6] [1005] [(0,.str o1.1),(5,.row 1005),(ex32 v6)] [(1005,50,[rc5 o1.2])] (kt [0,5,6] [1005] [(0,.str o1.1),(5,.row 1005),(ex32 v6)] [(1005,50,[rc5 o1.2])] (To.again ?_)))
    exact ih o1.1 o1.2 (IntKind.wrap .i64 (v6 + 1)) _ h hQ
   ·replace h:=sum_r h
    refine To.thenR (To.thenR (kt [2,3,4] [] [(2,.val (.slice none 0 0)),(3,vi o1.1),(4,vi o1.2)] [] ?_))
    cases h
    exact hQ
  ·refine Wp.exit (To.thenX (To.thenX (kt [5] [1005] [(5,.row 1005)] [(1005,50,[rc5 v5])] ?_)))
   cases h
   exact hQ
def line_Split_o (n:Nat) (a0:List UInt8):Option ((List (S_line_Line)) × Int × Int) :=
 if (decide ((List.length a0:Int) > 8192)) = true then (some (([]:List (S_line_Line)),0,9))
 else ((line_Split_o_l1 n n a0 ([]:List (S_line_Line)) 1).bind fun o1 =>
 (Sum.elim (fun o1=>some (o1,0,0)) (fun o1=>some (([]:List (S_line_Line)),o1.1,o1.2))) o1)
theorem ok_line_Split_o (n:Nat) (a0:List UInt8) (r:(List (S_line_Line)) × Int × Int) (h:line_Split_o n a0 = some r):CallsB Tryz.prog 23 [.str a0] [] (.tup [.row 1,vi r.2.1,vi r.2.2]) [(1,50,[rc5 r.1])]:=by
 unfold line_Split_o at h
 refine bo Tryz.f23 rfl fun F0 w0=>?_
 refine Wp.seq (rg [0] [] [(0,.str a0)] [] (To.thenN (Wp.seq (Wp.seq (rg [0,15] [] [(0,.str a0),(15,vb (decide ((List.length a0:Int) > 8192)))] [] (To.thenN (cn h (fun h=>?_) (fun h=>?_))))))))
 ·refine Wp.seq (rg [2,3,4] [] [(2,.val (.slice none 0 0)),(3,vi 0),(4,vi 9)] [] (To.thenN (Wp.ret (To.thenR (To.pre (St.vacant (t:=2) (k:=1002) (e:=50) (K':=[(2,.row 1002),(3,vi 0),(4,vi 9)]) (good_E_line_Line _) (by decide) (by kernel_rfl) (by kernel_rfl)) (kt [2,3,4] [1002] [(2,.row 1002),(3,vi 0),(4,vi 9)] [(1002,50,[rc5 []])] (To.pre (St.rename 1002 1 (by decide) (K':=[(2,.row 1),(3,vi 0),(4,vi 9)]) (L':=[(1,50,[rc5 []])]) (by kernel_rfl) (by kernel_rfl) (by kernel_rfl)) ?_)))))))
  cases h
  exact To.doneB hΓ [1] (by kernel_rfl) (by kernel_rfl)
 ·refine Wp.skip (To.thenN (Wp.seq (rg [0,5] [] [(0,.str a0),(5,.val (.slice none 0 0))] [] (To.thenN (Wp.seq (Wp.seq (rg [0,5,6] [] [(0,.str a0),(5,.val (.slice none 0 0)),(6,vi 1)] [] (To.thenN (Wp.block ?_)))))))))
  obtain ⟨o1,ho1,h⟩:=bind_of h
  refine kw [0,5,6] [] [(0,.str a0),(5,.val (.slice none 0 0)),(6,vi 1)] [] (Wp.pre (St.vacant (t:=5) (k:=1005) (e:=50) (K':=[(0,.str a0),(5,.row 1005),(6,vi 1)]) (good_E_line_Line _) (by decide) (by kernel_rfl) (by kernel_rfl)) (kw [0,5,6] [1005] [(0,.str a0),(5,.row 1005),(6,vi 1)] [(1005,50,[rc5 []])] (Wp.loopL (ok_line_Split_o_l1 n n a0 ([]:List (S_line_Line)) 1 o1 ho1 ?_))))
  rcases o1 with o1 | o1
  ·replace h:=sum_l h
   refine To.blockX (To.thenN (Wp.seq (rg [2,3,4] [1005] [(2,.row 1005),(3,vi 0),(4,vi 0)] [(1005,50,[rc5 o1])] (To.thenN (Wp.ret (nt [2,3,4] [1005] [(1005,1002)] [2,3,4] [1002] [(2,.row 1002),(3,vi 0),(4,vi 0)] [(1002,50,[rc5 o1])] (To.pre (St.rename 1002 1 (by decide) (K':=[(2,.row 1),(3,vi 0),(4,vi 0)]) (L':=[(1,50,[rc5 o1])]) (by kernel_rfl) (by kernel_rfl) (by kernel_rfl)) ?_)))))))
   cases h
   exact To.doneB hΓ [1] (by kernel_rfl) (by kernel_rfl)
  ·replace h:=sum_r h
   refine To.blockR (To.thenR (kt [2,3,4] [] [(2,.val (.slice none 0 0)),(3,vi o1.1),(4,vi o1.2)] [] (To.pre (St.vacant (t:=2) (k:=1002) (e:=50) (K':=[(2,.row 1002),(3,vi o1.1),(4,vi o1.2)]) (good_E_line_Line _) (by decide) (by kernel_rfl) (by kernel_rfl)) (kt [2,3,4] [1002] [(2,.row 1002),(3,vi o1.1),(4,vi o1.2)] [(1002,50,[rc5 []])] (To.pre (St.rename 1002 1 (by decide) (K':=[(2,.row 1),(3,vi o1.1),(4,vi o1.2)]) (L':=[(1,50,[rc5 []])]) (by kernel_rfl) (by kernel_rfl) (by kernel_rfl)) ?_)))))
   cases h
   exact To.doneB hΓ [1] (by kernel_rfl) (by kernel_rfl)
def block_reader_fail__o0_s2_j1 (v1:Int) (v2:Int) (v11:Bool) (b6:S_api_Node) (b1000000:S_block_reader):S_block_reader :=
 if v11 = true then ((S_block_reader.mk b1000000.f_l b1000000.f_at v1 v2))
 else b1000000
abbrev zx7:S_api_Node:=S_api_Node.mk 0 [] [] []
abbrev tn8 (l:List (S_api_Node)):D:=.tree (α:=S_api_Node) zx7 pre_S_api_Node kids_S_api_Node l
abbrev qc9 (x:S_api_Node):List D:=[vi x.f_Kind,.str x.f_Text,ls x.f_Keys,tn8 x.f_Kids]
abbrev qc10 (k0:Nat) (x:S_block_reader):List D:=[.row k0,vi x.f_at,vi x.f_no,vi x.f_e]
abbrev ex33 (x0:S_block_reader):Nat × Nat × List D:=(504000,50,[rc5 x0.f_l])
abbrev ex34 (x0:S_block_reader):Nat × Nat × List D:=(1000000,46,qc10 504000 x0)
theorem ok_block_reader_fail__o0_s2_j1 (v1:Int) (v2:Int) (v11:Bool) (b6:S_api_Node) (b1000000:S_block_reader) (o:S_block_reader) (h:block_reader_fail__o0_s2_j1 v1 v2 v11 b6 b1000000 = o) {F0:Fz} {w0:Pt Tryz.prog} {Q:Exit → Act → World → Prop} (hQ:To 21 F0 w0 [(6,.own 6 0)] [(6,26,qc9 b6),(504000,50,[rc5 o.f_l]),(1000000,46,qc10 504000 o)] .normal Q):Wp Tryz.prog 21 F0 w0 [(0,.own 1000000 0),(1,vi v1),(2,vi v2),(6,.own 6 0),(11,vb v11)] [(6,26,qc9 b6),(ex33 b1000000),(ex34 b1000000)] (cB (cA (cB (cF Tryz.f25)))) Q:=by
 unfold block_reader_fail__o0_s2_j1 at h
 refine cn h (fun h=>?_) (fun h=>?_)
 ·refine rg [6] [6,504000,1000000] [(6,.own 6 0)] [(6,26,qc9 b6),(ex33 b1000000),(1000000,46,[.row 504000,vi b1000000.f_at,vi v1,vi v2])] (kt [6] [6,504000,1000000] [(6,.own 6 0)] [(6,26,qc9 b6),(ex33 b1000000),(1000000,46,[.row 504000,vi b1000000.f_at,vi v1,vi v2])] ?_)
  cases h
  exact hQ
 ·refine Wp.skip (kt [6] [6,504000,1000000] [(6,.own 6 0)] [(6,26,qc9 b6),(ex33 b1000000),(ex34 b1000000)] ?_)
  cases h
  exact hQ
def block_reader_fail__o0_s2 (a1:Int) (a2:Int) (h0:S_block_reader):S_api_Node × S_block_reader :=
 lett (block_reader_fail__o0_s2_j1 a1 a2 (h0.f_e == 0) (S_api_Node.mk 0 [] [] []) h0) fun o1 =>
 ((S_api_Node.mk 0 [] [] []),o1)
theorem ok_block_reader_fail__o0_s2 (a1:Int) (a2:Int) (h0:S_block_reader) (r:S_api_Node × S_block_reader) (h:block_reader_fail__o0_s2 a1 a2 h0 = r):CallsB Tryz.prog 25 [.own 1000000 0,vi a1,vi a2] [(1000000,46,qc10 1010000 h0),(1010000,50,[rc5 h0.f_l])] (.agg (qc9 r.1)) [(200,50,[rc5 r.2.f_l]),(1000000,46,qc10 200 r.2)]:=by
 unfold block_reader_fail__o0_s2 at h
 refine bo Tryz.f25 rfl fun F0 w0=>?_
 refine nw [0,1,2] [1000000,1010000] [(1010000,504000)] [0,1,2] [504000,1000000] [(0,.own 1000000 0),(1,vi a1),(2,vi a2)] [(504000,50,[rc5 h0.f_l]),(1000000,46,qc10 504000 h0)] (Wp.seq (rg [0,1,2,6] [6,504000,1000000] [(0,.own 1000000 0),(1,vi a1),(2,vi a2),(6,.own 6 0)] [(6,26,[vi 0,.str [],.val (.slice none 0 0),.val (.slice none 0 0)]),(504000,50,[rc5 h0.f_l]),(1000000,46,qc10 504000 h0)] (To.thenN (Wp.seq (Wp.seq (rg [0,1,2,6,11] [6,504000,1000000] [(0,.own 1000000 0),(1,vi a1),(2,vi a2),(6,.own 6 0),(11,vb (h0.f_e == 0))] [(6,26,[vi 0,.str [],.val (.slice none 0 0),.val (.slice none 0 0)]),(504000,50,[rc5 h0.f_l]),(1000000,46,qc10 504000 h0)] (To.thenN ?_)))))))
 obtain ⟨o1,ho1,h⟩:=lett_of h
 refine kw [0,1,2,6,11] [6,504000,1000000] [(0,.own 1000000 0),(1,vi a1),(2,vi a2),(6,.own 6 0),(11,vb (h0.f_e == 0))] [(6,26,[vi 0,.str [],.val (.slice none 0 0),.val (.slice none 0 0)]),(504000,50,[rc5 h0.f_l]),(1000000,46,qc10 504000 h0)] (Wp.weak (K':=[(0,.own 1000000 0),(1,vi a1),(2,vi a2),(6,.own 6 0),(11,vb (h0.f_e == 0))]) (L':=[(6,26,[vi 0,.str [],ls [],tn8 []]),(504000,50,[rc5 h0.f_l]),(1000000,46,qc10 504000 h0)]) (.cons (.refl _) (.cons (.refl _) (.cons (.refl _) (.cons (.refl _) (.cons (.refl _) .nil))))) (.cons (.cons (.refl _) (.cons (.refl _) (.cons (.zero _ _) (.cons (.zeroT _ _ _) .nil)))) (.cons (.cons (.refl _) .nil) (.cons (.cons (.refl _) (.cons (.refl _) (.cons (.refl _) (.cons (.refl _) .nil)))) .nil))) (ok_block_reader_fail__o0_s2_j1 a1 a2 (h0.f_e == 0) zx7 h0 o1 ho1 (To.thenN (Wp.seq (rg [6] [6,504000,1000000] [(6,.own 6 0)] [(6,26,[vi 0,.str [],.val (.slice none 0 0),.val (.slice none 0 0)]),(504000,50,[rc5 o1.f_l]),(1000000,46,qc10 504000 o1)] (To.thenN (Wp.ret (To.weak (K':=[(6,.own 6 0)]) (L':=[(6,26,[vi 0,.str [],ls [],tn8 []]),(504000,50,[rc5 o1.f_l]),(1000000,46,qc10 504000 o1)]) (.cons (.refl _) .nil) (.cons (.cons (.refl _) (.cons (.refl _) (.cons (.zero _ _) (.cons (.zeroT _ _ _) .nil)))) (.cons (.cons (.refl _) .nil) (.cons (.cons (.refl _) (.cons (.refl _) (.cons (.refl _) (.cons (.refl _) .nil)))) .nil))) (To.pre (St.rename 504000 200 (by decide) (K':=[(6,.own 6 0)]) (L':=[(6,26,[vi 0,.str [],ls [],tn8 []]),(200,50,[rc5 o1.f_l]),(1000000,46,qc10 200 o1)]) (by kernel_rfl) (by kernel_rfl) (by kernel_rfl)) ?_)))))))))
 cases h
 exact To.doneB hΓ [200,1000000] (by kernel_rfl) (by kernel_rfl)
def block_reader_more__o0_s2 (n:Nat) (a1:Int) (h0:S_block_reader):Option (S_line_Line × Bool × S_block_reader) :=
 if (bif (h0.f_e != 0) then true else (h0.f_at == (List.length h0.f_l:Int))) = true then (some ((S_line_Line.mk 0 0 []),false,h0))
 else (if (decide (0 ≤ h0.f_at ∧ h0.f_at < (List.length h0.f_l:Int))) = true then (some (((h0.f_l)[Int.toNat h0.f_at]?.getD (S_line_Line.mk 0 0 [])),(decide ((((h0.f_l)[Int.toNat h0.f_at]?.getD (S_line_Line.mk 0 0 [])).f_Indent) > a1)),h0)) else none)
theorem ok_block_reader_more__o0_s2 (n:Nat) (a1:Int) (h0:S_block_reader) (r:S_line_Line × Bool × S_block_reader) (h:block_reader_more__o0_s2 n a1 h0 = some r):CallsB Tryz.prog 109 [.own 1000000 0,vi a1] [(1000000,46,qc10 1010000 h0),(1010000,50,[rc5 h0.f_l])] (.tup [.agg (qc3 r.1),vb r.2.1]) [(200,50,[rc5 r.2.2.f_l]),(1000000,46,qc10 200 r.2.2)]:=by
 unfold block_reader_more__o0_s2 at h
 refine bo Tryz.f109 rfl fun F0 w0=>?_
 refine nw [0,1] [1000000,1010000] [(1010000,504000)] [0,1] [504000,1000000] [(0,.own 1000000 0),(1,vi a1)] [(504000,50,[rc5 h0.f_l]),(1000000,46,qc10 504000 h0)] (Wp.seq (rg [0,1,4] [4,504000,1000000] [(0,.own 1000000 0),(1,vi a1),(4,.own 4 0)] [(4,50,[vi 0,vi 0,.str []]),(504000,50,[rc5 h0.f_l]),(1000000,46,qc10 504000 h0)] (To.thenN (Wp.seq (Wp.seq (Wp.regionD hm hΓ [] [0,1,4,22] [4,504000,1000000] (K':=[(0,.own 1000000 0),(1,vi a1),(4,.own 4 0),(22,vb (bif (h0.f_e != 0) then true else (h0.f_at == (List.length h0.f_l:Int))))]) (L':=[(4,50,[vi 0,vi 0,.str []]),(504000,50,[rc5 h0.f_l]),(1000000,46,qc10 504000 h0)]) (ob:=[]) (by kernel_rfl) AllP.nil (To.thenN (cn h (fun h=>?_) (fun h=>?_)))))))))
 ·refine Wp.seq (rg [4,5] [4,504000,1000000] [(4,.own 4 0),(5,vb false)] [(4,50,[vi 0,vi 0,.str []]),(504000,50,[rc5 h0.f_l]),(1000000,46,qc10 504000 h0)] (To.thenN (Wp.ret (To.thenR (nt [4,5] [4,504000,1000000] [(504000,200)] [4,5] [4,200,1000000] [(4,.own 4 0),(5,vb false)] [(4,50,[vi 0,vi 0,.str []]),(200,50,[rc5 h0.f_l]),(1000000,46,qc10 200 h0)] ?_)))))
  cases h
  exact To.doneB hΓ [200,1000000] (by kernel_rfl) (by kernel_rfl)
 ·refine Wp.skip (To.thenN (Wp.seq ?_))
  obtain ⟨hc1,h⟩:=chk_of h
  refine Wp.regionD hm hΓ [] [4,5] [4,504000,1000000] (K':=[(4,.own 4 0),(5,vb (decide ((((h0.f_l)[Int.toNat h0.f_at]?.getD zx4).f_Indent) > a1)))]) (L':=[(4,50,[vi (((h0.f_l)[Int.toNat h0.f_at]?.getD zx4).f_No),vi (((h0.f_l)[Int.toNat h0.f_at]?.getD zx4).f_Indent),.str (((h0.f_l)[Int.toNat h0.f_at]?.getD zx4).f_Text)]),(504000,50,[rc5 h0.f_l]),(1000000,46,qc10 504000 h0)]) (ob:=[(decide (0 ≤ h0.f_at ∧ h0.f_at < (List.length h0.f_l:Int))) = true,(decide (0 ≤ h0.f_at ∧ h0.f_at < (List.length h0.f_l:Int))) = true,(decide (0 ≤ h0.f_at ∧ h0.f_at < (List.length h0.f_l:Int))) = true,(decide (0 ≤ h0.f_at ∧ h0.f_at < (List.length h0.f_l:Int))) = true]) (by kernel_rfl) (AllP.cons hc1 (AllP.cons hc1 (AllP.cons hc1 (AllP.cons hc1 AllP.nil)))) (To.thenN (Wp.ret (nt [4,5] [4,504000,1000000] [(504000,200)] [4,5] [4,200,1000000] [(4,.own 4 0),(5,vb (decide ((((h0.f_l)[Int.toNat h0.f_at]?.getD zx4).f_Indent) > a1)))] [(4,50,[vi (((h0.f_l)[Int.toNat h0.f_at]?.getD zx4).f_No),vi (((h0.f_l)[Int.toNat h0.f_at]?.getD zx4).f_Indent),.str (((h0.f_l)[Int.toNat h0.f_at]?.getD zx4).f_Text)]),(200,50,[rc5 h0.f_l]),(1000000,46,qc10 200 h0)] ?_)))
  cases h
  exact To.doneB hΓ [200,1000000] (by kernel_rfl) (by kernel_rfl)
def block_reader_inner__o0_s2 (R_block_reader_block__o0_s2:S_block_reader → Option (S_api_Node × S_block_reader)) (n:Nat) (a1:Int) (a2:Bool) (h0:S_block_reader):Option (S_api_Node × S_block_reader) :=
 (block_reader_more__o0_s2 n a1 h0).bind fun r1 =>
 lett ((bif (!r1.2.1) then (bif (bif (bif (bif (!a2) then true else (r1.2.2.f_e != 0)) then true else (r1.2.2.f_at == (List.length r1.2.2.f_l:Int))) then true else (r1.1.f_Indent != a1)) then true else (!(block_Row r1.1.f_Text))) else false):Bool) fun x2 =>
 if x2 = true then (some ((S_api_Node.mk 0 [] [] []),r1.2.2))
 else ((R_block_reader_block__o0_s2 r1.2.2).bind fun r3 =>
 some (r3.1,r3.2))
end Go.Proofs.YtefojkdckfidcaaGreatDoor.M
