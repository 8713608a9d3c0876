import Derived.Test.YtibgdilkodjojaaGreatDoorQRxAnyD
import Derived.Test.YtibgdilkodjojaaGreatDoorQRxArgs
import Derived.Test.YtibgdilkodjojaaGreatDoorQRxGoto
import Derived.Test.YtibgdilkodjojaaGreatDoorQRxNil
import Derived.Test.YtibgdilkodjojaaGreatDoorQRxOrd
import Derived.Test.YtibgdilkodjojaaGreatDoorQRxEqArr
import Derived.Test.YtibgdilkodjojaaGreatDoorQRxEnd
import Derived.Test.YtibgdilkodjojaaGreatDoorQRxKeys
import Derived.Test.YtibgdilkodjojaaGreatDoorQRxRec
import Derived.Test.YtibgdilkodjojaaGreatDoorQSh14z
import Derived.Test.YtibgdilkodjojaaGreatDoorQBld14z
import Derived.Test.YtibgdilkodjojaaGreatDoorProg
set_option linter.all false
namespace Go.Proofs.YtibgdilkodjojaaGreatDoor.M
open Go.RowKit Go.Proofs.YtibgdilkodjojaaGreatDoor.RX
set_option maxRecDepth 100000
def tab:List (Nat × TI):=[
 (3,{ agg:=false,size:=1,zero:=[.int .i64 0],kind:=.int .i64,eqs:=[] }),
 (9,{ agg:=false,size:=1,zero:=[.string ⟨#[]⟩],kind:=.str,eqs:=[] }),
 (22,{ agg:=false,size:=1,zero:=[.slice none 0 0],kind:=.slice 1 false,elt:=9,eb:=16,ez:=[.string ⟨#[]⟩],ek:=none,eqs:=[] }),
 (23,{ agg:=false,size:=1,zero:=[.slice none 0 0],kind:=.slice 4 true,elt:=25,eb:=72,ez:=[.int .i64 0,.string ⟨#[]⟩,.slice none 0 0,.slice none 0 0],ek:=none,eqs:=[] }),
 (25,{ agg:=true,size:=4,zero:=[.int .i64 0,.string ⟨#[]⟩,.slice none 0 0,.slice none 0 0],kind:=.struct [(0,1,false),(1,1,false),(2,1,false),(3,1,false)],eqs:=[] }),
 (26,{ agg:=false,size:=1,zero:=[.slice none 0 0],kind:=.slice 2 true,elt:=48,eb:=32,ez:=[.string ⟨#[]⟩,.string ⟨#[]⟩],ek:=none,eqs:=[] }),
 (31,{ agg:=false,size:=1,zero:=[.int .i64 0],kind:=.int .i64,eqs:=[] }),
 (48,{ agg:=true,size:=2,zero:=[.string ⟨#[]⟩,.string ⟨#[]⟩],kind:=.struct [(0,1,false),(1,1,false)],eqs:=[] }),
 (54,{ agg:=true,size:=4,zero:=[.string ⟨#[]⟩,.string ⟨#[]⟩,.string ⟨#[]⟩,.int .i64 0],kind:=.struct [(0,1,false),(1,1,false),(2,1,false),(3,1,false)],eqs:=[] }),
 (56,{ agg:=false,size:=1,zero:=[.slice none 0 0],kind:=.slice 4 true,elt:=91,eb:=64,ez:=[.string ⟨#[]⟩,.string ⟨#[]⟩,.int .i64 0,.slice none 0 0],ek:=none,eqs:=[] }),
 (61,{ agg:=false,size:=1,zero:=[.slice none 0 0],kind:=.slice 4 true,elt:=117,eb:=64,ez:=[.string ⟨#[]⟩,.string ⟨#[]⟩,.int .i64 0,.slice none 0 0],ek:=none,eqs:=[] }),
 (75,{ agg:=false,size:=1,zero:=[.slice none 0 0],kind:=.slice 1 false,elt:=5,eb:=1,ez:=[.int .u8 0],ek:=some .u8,eqs:=[] }),
 (77,{ agg:=true,size:=2,zero:=[.pointer none,.slice none 0 0],kind:=.struct [(0,1,false),(1,1,false)],eqs:=[] }),
 (88,{ agg:=true,size:=3,zero:=[.string ⟨#[]⟩,.int .i64 0,.int .i64 0],kind:=.struct [(0,1,false),(1,1,false),(2,1,false)],eqs:=[] }),
 (91,{ agg:=true,size:=4,zero:=[.string ⟨#[]⟩,.string ⟨#[]⟩,.int .i64 0,.slice none 0 0],kind:=.struct [(0,1,false),(1,1,false),(2,1,false),(3,1,false)],eqs:=[] }),
 (111,{ agg:=true,size:=3,zero:=[.int .i64 0,.string ⟨#[]⟩,.string ⟨#[]⟩],kind:=.struct [(0,1,false),(1,1,false),(2,1,false)],eqs:=[] }),
 (117,{ agg:=true,size:=4,zero:=[.string ⟨#[]⟩,.string ⟨#[]⟩,.int .i64 0,.slice none 0 0],kind:=.struct [(0,1,false),(1,1,false),(2,1,false),(3,1,false)],eqs:=[] }),
 (134,{ agg:=true,size:=1,zero:=[.slice none 0 0],kind:=.struct [(0,1,false)],eqs:=[] }),
 (165,{ agg:=true,size:=8,zero:=[.string ⟨#[]⟩,.string ⟨#[]⟩,.string ⟨#[]⟩,.string ⟨#[]⟩,.string ⟨#[]⟩,.string ⟨#[]⟩,.string ⟨#[]⟩,.string ⟨#[]⟩],kind:=.array 8 1 false,eqs:=[] })]
theorem tabOK:TabOK Tryz.prog tab:=⟨⟨by kernel_rfl,fun h=>absurd rfl h⟩,⟨by kernel_rfl,fun h=>absurd rfl h⟩,⟨by kernel_rfl,fun h=>absurd rfl h⟩,⟨by kernel_rfl,fun h=>absurd rfl h⟩,⟨by kernel_rfl,fun h=>absurd rfl h⟩,⟨by kernel_rfl,fun h=>absurd rfl h⟩,⟨by kernel_rfl,fun h=>absurd rfl h⟩,⟨by kernel_rfl,fun h=>absurd rfl h⟩,⟨by kernel_rfl,fun h=>absurd rfl h⟩,⟨by kernel_rfl,fun h=>absurd rfl h⟩,⟨by kernel_rfl,fun h=>absurd rfl h⟩,⟨by kernel_rfl,fun h=>absurd rfl h⟩,⟨by kernel_rfl,fun h=>absurd rfl h⟩,⟨by kernel_rfl,fun h=>absurd rfl h⟩,⟨by kernel_rfl,fun h=>absurd rfl h⟩,⟨by kernel_rfl,fun h=>absurd rfl h⟩,⟨by kernel_rfl,fun h=>absurd rfl h⟩,⟨by kernel_rfl,fun h=>absurd rfl h⟩,⟨by kernel_rfl,fun h=>absurd rfl h⟩,trivial⟩
theorem hΓ:ΓOK Tryz.prog (tabΓ tab):=ΓOK.of tabOK
theorem hm:Tryz.prog.follows .mixedOrders = true:=by kernel_rfl
structure S_tmpl_Part where
 f_Name:List UInt8
 f_Text:List UInt8
 f_Op:Int
 f_Sub:List (S_tmpl_Part)
def pre_S_tmpl_Part:S_tmpl_Part → List D:=fun x=>[.str x.f_Name,.str x.f_Text,.val (.int .i64 x.f_Op)]
def kids_S_tmpl_Part:S_tmpl_Part → List (S_tmpl_Part):=fun x=>x.f_Sub
def tr_S_tmpl_Part:S_tmpl_Part → List D:=treeEnc (S_tmpl_Part.mk [] [] 0 []) pre_S_tmpl_Part kids_S_tmpl_Part
def E_tmpl_Part:S_tmpl_Part → List D:=tr_S_tmpl_Part
def E_string:List UInt8 → List D:=fun x=>[.str x]
abbrev vi (x:Int):D:=.val (.int .i64 x)
abbrev vb (x:Bool):D:=.val (.bool x)
abbrev ls (l:List (List UInt8)):D:=.recs (α:=List UInt8) [] E_string l
theorem rg {nt:Nat} {F0:Fz} {w0:Pt Tryz.prog} {K:List (Nat × D)} {L:Boxes} {Q:Exit → Act → World → Prop} {id:Nat} {l:List Oper} (kk kl:List Nat) (K':List (Nat × D)) (L':Boxes) (hn:To nt F0 w0 K' L' .normal Q) (h:evRegion (CX Tryz.prog) (CallsB Tryz.prog) (tabΓ tab) nt [] [] l [] K L kk kl = some (K',L',[]):=by kernel_rfl):Wp Tryz.prog nt F0 w0 K L (.region id l.toArray false) Q:=Wp.region hΓ [] [] [] kk kl h AllP.nil hn
theorem rr {nt:Nat} {F0:Fz} {w0:Pt Tryz.prog} {K:List (Nat × D)} {L:Boxes} {Q:Exit → Act → World → Prop} {id:Nat} {l:List Oper} (fz:List (Nat × List Nat)) (orc:List (Nat × D)) (orb:List (Nat × CBd)) (kk kl:List Nat) (K':List (Nat × D)) (L':Boxes) (ob:List Prop) (hob:AllP ob) (hn:To nt F0 w0 K' L' .normal Q) (h:evRegion (CX Tryz.prog) (CallsB Tryz.prog) (tabΓ tab) nt orc orb l fz K L kk kl = some (K',L',ob):=by kernel_rfl):Wp Tryz.prog nt F0 w0 K L (.region id l.toArray false) Q:=Wp.region hΓ fz orc orb kk kl h hob hn
theorem kw {nt:Nat} {F0:Fz} {w0:Pt Tryz.prog} {K:List (Nat × D)} {L:Boxes} {Q:Exit → Act → World → Prop} {c:Code} (kk kl:List Nat) (K':List (Nat × D)) (L':Boxes) (hn:Wp Tryz.prog nt F0 w0 K' L' c Q) (h1:keepS K kk = some K':=by kernel_rfl) (h2:keepL L kl = some L':=by kernel_rfl):Wp Tryz.prog nt F0 w0 K L c Q:=Wp.keep h1 h2 hn
theorem kt {nt:Nat} {F0:Fz} {w0:Pt Tryz.prog} {K:List (Nat × D)} {L:Boxes} {Q:Exit → Act → World → Prop} {e:Exit} (kk kl:List Nat) (K':List (Nat × D)) (L':Boxes) (hn:To nt F0 w0 K' L' e Q) (h1:keepS K kk = some K':=by kernel_rfl) (h2:keepL L kl = some L':=by kernel_rfl):To nt F0 w0 K L e Q:=To.keep h1 h2 hn
theorem r0 {nt:Nat} {F0:Fz} {w0:Pt Tryz.prog} {K:List (Nat × D)} {L:Boxes} {Q:Exit → Act → World → Prop} {id:Nat} {l:List Oper} {ob:List Prop} (kk kl:List Nat) (K':List (Nat × D)) (L':Boxes) (hob:AllP ob) (hn:To nt F0 w0 K' L' .normal Q) (h:evRegion (CX Tryz.prog) (CallsB Tryz.prog) (tabΓ tab) nt [] [] l [] K L kk kl = some (K',L',ob):=by kernel_rfl):Wp Tryz.prog nt F0 w0 K L (.region id l.toArray false) Q:=Wp.region hΓ [] [] [] kk kl h hob hn
theorem rc {nt:Nat} {F0:Fz} {w0:Pt Tryz.prog} {K:List (Nat × D)} {L:Boxes} {Q:Exit → Act → World → Prop} {id:Nat} {l:List Oper} {f:Nat} {ds:List D} {r:D} (fz:List (Nat × List Nat)) (i:Nat) (kk kl:List Nat) (K':List (Nat × D)) (L':Boxes) (hc:CallsX Tryz.prog f ds r) (hn:To nt F0 w0 K' L' .normal Q) (h:evRegion (CX Tryz.prog) (CallsB Tryz.prog) (tabΓ tab) nt [(i,r)] [] l fz K L kk kl = some (K',L',[(true = true → CX Tryz.prog f ds r)]):=by kernel_rfl):Wp Tryz.prog nt F0 w0 K L (.region id l.toArray false) Q:=Wp.region hΓ fz [(i,r)] [] kk kl h (AllP.cons (fun _=>cx hc) AllP.nil) hn
theorem rb {nt:Nat} {F0:Fz} {w0:Pt Tryz.prog} {K:List (Nat × D)} {L:Boxes} {Q:Exit → Act → World → Prop} {id:Nat} {l:List Oper} {f:Nat} (fz:List (Nat × List Nat)) (i:Nat) (c:CBd) (kk kl:List Nat) (K':List (Nat × D)) (L':Boxes) (hc:CallsB Tryz.prog f c.ds c.Lin c.r c.Lout) (hn:To nt F0 w0 K' L' .normal Q) (h:evRegion (CX Tryz.prog) (CallsB Tryz.prog) (tabΓ tab) nt [] [(i,c)] l fz K L kk kl = some (K',L',[CbOb (CallsB Tryz.prog) f (D.subs (renF never c.ren) c.ds) (c.Lin.map fun x=>some (x.2.1,D.subs (renF never c.ren) x.2.2)) c]):=by kernel_rfl):Wp Tryz.prog nt F0 w0 K L (.region id l.toArray false) Q:=Wp.region hΓ fz [] [(i,c)] kk kl h (AllP.cons ⟨hc,rfl,rfl⟩ AllP.nil) hn
theorem c1 {f:Nat} {ds:List D} {r:D} (h:CallsX Tryz.prog f ds r):true = true → CX Tryz.prog f ds r:=fun _=>cx h
theorem cn {nt:Nat} {F0:Fz} {w0:Pt Tryz.prog} {K:List (Nat × D)} {L:Boxes} {Q:Exit → Act → World → Prop} {t:Nat} {x y:Code} {b:Bool} {α:Type _} {p q r:α} (h:(if b = true then p else q) = r) (h1:p = r → Wp Tryz.prog nt F0 w0 K L x Q) (h2:q = r → Wp Tryz.prog nt F0 w0 K L y Q) (hc:K.lookup t = some (.val (.bool b)):=by kernel_rfl):Wp Tryz.prog nt F0 w0 K L (.cond (.tmp t) x y) Q:=Wp.cond hc (fun hb=>h1 (if_t hb h)) (fun hb=>h2 (if_f hb h))
theorem xo {f : Nat} (fn : Func) {c : Code} {ds : List D} {r : D} (hbody : fn.body = some c) (h : ∀ (F0 : Fz) (w0 : World) (hsh : Shp Tryz.prog w0), Wp Tryz.prog fn.ntmps F0 (.top w0 hsh) (ds.zipIdx.map fun x => (x.2, x.1)) [] c (bodyPost Tryz.prog fn (PostX F0 w0 r))) (hf : Tryz.prog.funcs[f]? = some fn := by kernel_rfl) (hname : (fn.name == "runtime.NumGoroutine") = false := by kernel_rfl) (hn : ds.length.ble fn.ntmps = true := by kernel_rfl) : CallsX Tryz.prog f ds r := callsX_of hf hbody hname (Nat.le_of_ble_eq_true hn) h
theorem bo {f : Nat} (fn : Func) {c : Code} {ds : List D} {Lin : Boxes} {r : D} {Lout : Boxes} (hbody : fn.body = some c) (h : ∀ (F0 : Fz) (w0 : Pt Tryz.prog), Wp Tryz.prog fn.ntmps F0 w0.cl (ds.zipIdx.map fun x => (x.2, x.1)) Lin c (bodyPost Tryz.prog fn (PostB F0 w0.cl r Lout))) (hf : Tryz.prog.funcs[f]? = some fn := by kernel_rfl) (hname : (fn.name == "runtime.NumGoroutine") = false := by kernel_rfl) (hn : ds.length.ble fn.ntmps = true := by kernel_rfl) : CallsB Tryz.prog f ds Lin r Lout := callsB_of hf hbody hname (Nat.le_of_ble_eq_true hn) h
def rnA:List (Nat × Nat) → List (Nat × D) → Boxes → Option (List (Nat × D) × Boxes)
 | [],K,L=>some (K,L)
 | x :: rs,K,L=>if (Nat.blt x.2 1000000 && freshKey x.2 K L) = true then rnA rs (renK x.1 x.2 K) (renL x.1 x.2 L) else none
theorem rnA_st {nt:Nat} {F0:Fz} {w0:Pt Tryz.prog}:∀ (rs:List (Nat × Nat)) {K K':List (Nat × D)} {L L':Boxes},rnA rs K L = some (K',L') → ∀ a w,St nt F0 w0 K L a w → St nt F0 w0 K' L' a w
 | [],_,_,_,_,h,_,_,hs=>by cases h; exact hs
 | x :: rs,K,K',L,L',h,a,w,hs=>by
  unfold rnA at h
  split at h
  ·rename_i hc
   rw [Bool.and_eq_true] at hc
   exact rnA_st rs h a w (St.rename x.1 x.2 (by simpa using hc.1) hc.2 rfl rfl a w hs)
  ·cases h
def knA (rs:List (Nat × Nat)) (k0 l0 kk kl:List Nat) (K:List (Nat × D)) (L:Boxes):Option (List (Nat × D) × Boxes) :=
 match keepS K k0,keepL L l0 with
 | some K0,some L0=>(match rnA rs K0 L0 with
  | some (K1,L1)=>(match keepS K1 kk,keepL L1 kl with | some K2,some L2=>some (K2,L2) | _,_=>none)
  | none=>none)
 | _,_=>none
theorem knA_st {nt:Nat} {F0:Fz} {w0:Pt Tryz.prog} {rs:List (Nat × Nat)} {k0 l0 kk kl:List Nat} {K K':List (Nat × D)} {L L':Boxes} (h:knA rs k0 l0 kk kl K L = some (K',L')):∃ K0 L0 K1 L1,keepS K k0 = some K0 ∧ keepL L l0 = some L0 ∧ rnA rs K0 L0 = some (K1,L1) ∧ keepS K1 kk = some K' ∧ keepL L1 kl = some L':=by
 unfold knA at h
 split at h
 ·rename_i K0 L0 e1 e2
  split at h
  ·rename_i K1 L1 e3
   split at h
   ·rename_i K2 L2 e4 e5
    cases h
    exact ⟨K0,L0,K1,L1,e1,e2,e3,e4,e5⟩
   ·cases h
  ·cases h
 ·cases h
theorem nw {nt:Nat} {F0:Fz} {w0:Pt Tryz.prog} {K:List (Nat × D)} {L:Boxes} {Q:Exit → Act → World → Prop} {c:Code} (k0 l0:List Nat) (rs:List (Nat × Nat)) (kk kl:List Nat) (K':List (Nat × D)) (L':Boxes) (hn:Wp Tryz.prog nt F0 w0 K' L' c Q) (h:knA rs k0 l0 kk kl K L = some (K',L'):=by kernel_rfl):Wp Tryz.prog nt F0 w0 K L c Q :=
 let ⟨_,_,_,_,e1,e2,e3,e4,e5⟩:=knA_st (w0:=w0) (F0:=F0) (nt:=nt) h
 Wp.keep e1 e2 (Wp.pre (rnA_st rs e3) (Wp.keep e4 e5 hn))
theorem nt {nt:Nat} {F0:Fz} {w0:Pt Tryz.prog} {K:List (Nat × D)} {L:Boxes} {Q:Exit → Act → World → Prop} {e:Exit} (k0 l0:List Nat) (rs:List (Nat × Nat)) (kk kl:List Nat) (K':List (Nat × D)) (L':Boxes) (hn:To nt F0 w0 K' L' e Q) (h:knA rs k0 l0 kk kl K L = some (K',L'):=by kernel_rfl):To nt F0 w0 K L e Q :=
 let ⟨_,_,_,_,e1,e2,e3,e4,e5⟩:=knA_st (w0:=w0) (F0:=F0) (nt:=nt) h
 To.keep e1 e2 (To.pre (rnA_st rs e3) (To.keep e4 e5 hn))
theorem good_E_string (l:List (List UInt8)):GoodR (.recs [] E_string l):=⟨Nat.le_of_ble_eq_true (by kernel_rfl),fun _=>⟨rfl,rfl⟩⟩
def tmpl_marks (n:Nat):Option ((List (List UInt8))) :=
 if (decide (List.length (List.replicate 8 ([]:List UInt8)) = 8)) = true then (if (decide (List.length ([[],[],[58,45],[45],[58,63],[63],[58,43],[43]]:List (List UInt8)) = 8)) = true then some ([[],[],[58,45],[45],[58,63],[63],[58,43],[43]]:List (List UInt8)) else none) else none
abbrev rc1 (l:List (List UInt8)):D:=.rowc false (α:=List UInt8) [] E_string l
theorem ok_tmpl_marks (n:Nat) (r:(List (List UInt8))) (h:tmpl_marks n = some r):CallsX Tryz.prog 126 [] (.arr (α:=List UInt8) [] E_string r):=by
 unfold tmpl_marks at h
 refine xo Tryz.f126 rfl fun F0 w0 _=>?_
 refine Wp.seq (rg [0] [0] [(0,.own 0 0)] [(0,165,[.str [],.str [],.str [],.str [],.str [],.str [],.str [],.str []])] (To.pre (St.toRow (t:=165) (l:=(List.replicate 8 ([]:List UInt8))) 0 1 8 (by decide) (by decide) (good_E_string _) (by kernel_rfl) (by kernel_rfl) (by kernel_rfl) (by kernel_rfl) (K':=[(0,.elm 0 0 1 0)]) (L':=[(0,165,[rc1 (List.replicate 8 ([]:List UInt8))])]) (by kernel_rfl) (by kernel_rfl)) (To.thenN (Wp.seq ?_))))
 obtain ⟨hc2,h⟩:=chk_of h
 refine rr [] [(1,ls ([[],[],[58,45],[45],[58,63],[63],[58,43],[43]]:List (List UInt8)))] [] [0] [0] [(0,.elm 0 0 1 0)] [(0,165,[rc1 ([[],[],[58,45],[45],[58,63],[63],[58,43],[43]]:List (List UInt8))])] [_,(MkOb 1 (D.cells (.agg [.str [],.str [],.str [58,45],.str [45],.str [58,63],.str [63],.str [58,43],.str [43]])) 8 (ls ([[],[],[58,45],[45],[58,63],[63],[58,43],[43]]:List (List UInt8))) ∧ GoodR (ls ([[],[],[58,45],[45],[58,63],[63],[58,43],[43]]:List (List UInt8))))] (AllP.cons hc2 (AllP.cons (mkOb (by kernel_rfl) rfl (by kernel_rfl) (good_E_string _)) AllP.nil)) (To.thenN (Wp.ret ?_))
 obtain ⟨hc1,h⟩:=chk_of h
 cases h
 exact To.doneA hΓ (by kernel_rfl) hc1
def tmpl_Text_j3 (R_tmpl_Text:(List (S_tmpl_Part)) → Option ((List UInt8))) (n:Nat) (v6:List (S_tmpl_Part)) (v7:Int) (v8:Int) (v30:Bool) (b3:List UInt8) (b5:S_tmpl_Part):Option ((List UInt8)) :=
 if v30 = true then ((tmpl_marks n).bind fun r6 =>
 if (decide (0 ≤ b5.f_Op ∧ b5.f_Op < (8:Int))) = true then (if (decide (List.length r6 = 8)) = true then ((R_tmpl_Text b5.f_Sub).bind fun r7 =>
 if (decide (((List.length ((r6)[Int.toNat b5.f_Op]?.getD []) + List.length r7:Nat):Int) ≤ 9223372036854775807)) = true then (if (decide ((List.length b3 + List.length (((r6)[Int.toNat b5.f_Op]?.getD []) ++ r7)) * (1 + 1) ≤ limit)) = true then (some (b3 ++ (((r6)[Int.toNat b5.f_Op]?.getD []) ++ r7))) else none) else none) else none) else none)
 else some b3
abbrev zx2:S_tmpl_Part:=S_tmpl_Part.mk [] [] 0 []
abbrev rs3 (l:List (S_tmpl_Part)):D:=.recs (α:=S_tmpl_Part) zx2 E_tmpl_Part l
abbrev rc4 (l:List (UInt8)):D:=.rowc false (α:=UInt8) 0 e8 l
abbrev tn5 (l:List (S_tmpl_Part)):D:=.tree (α:=S_tmpl_Part) zx2 pre_S_tmpl_Part kids_S_tmpl_Part l
abbrev hR6 (R_tmpl_Text:(List (S_tmpl_Part)) → Option ((List UInt8))):Prop:=∀ (a0:List (S_tmpl_Part)) (r:(List UInt8)),R_tmpl_Text a0 = some r → CallsX Tryz.prog 142 [rs3 a0] (.str r)
abbrev qc7 (x:S_tmpl_Part):List D:=[.str x.f_Name,.str x.f_Text,vi x.f_Op,tn5 x.f_Sub]
theorem ok_tmpl_Text_j3 (R_tmpl_Text:(List (S_tmpl_Part)) → Option ((List UInt8))) (hR_tmpl_Text:hR6 R_tmpl_Text) (n:Nat) (v6:List (S_tmpl_Part)) (v7:Int) (v8:Int) (v30:Bool) (b3:List UInt8) (b5:S_tmpl_Part) (o:(List UInt8)) (h:tmpl_Text_j3 R_tmpl_Text n v6 v7 v8 v30 b3 b5 = some o) {F0:Fz} {w0:Pt Tryz.prog} {Q:Exit → Act → World → Prop} (hQ:To 43 F0 w0 [(3,.own 3 0),(6,rs3 v6),(7,vi v7),(8,vi v8)] [(3,77,[.opt 3,.srow 4181]),(4181,5,[rc4 o])] .normal Q):Wp Tryz.prog 43 F0 w0 [(3,.own 3 0),(5,.own 5 0),(6,rs3 v6),(7,vi v7),(8,vi v8),(30,vb v30)] [(3,77,[.opt 3,.srow 4181]),(5,91,qc7 b5),(4181,5,[rc4 b3])] (cB (cA (cB (cB (cB (cI (cA (cB (cB (cI (cI (cB (cA (cB (cB (cF Tryz.f142)))))))))))))))) Q:=by
 unfold tmpl_Text_j3 at h
 refine cn h (fun h=>?_) (fun h=>?_)
 ·obtain ⟨r6,hr6,h⟩:=bind_of h
  obtain ⟨hc9,h⟩:=chk_of h
  obtain ⟨hc10,h⟩:=chk_of h
  obtain ⟨r7,hr7,h⟩:=bind_of h
  obtain ⟨hc11,h⟩:=chk_of h
  obtain ⟨u8,h⟩:=chk_of h
  refine Wp.regionS hm hΓ 7 [] [(0,.arr (α:=List UInt8) [] E_string r6),(6,.str r7)] [(8,⟨[(1000000,3),(1000001,4181)],[(1000000,3),(1,4181)],[.own 1000000 0,.str (((r6)[Int.toNat b5.f_Op]?.getD []) ++ r7)],[(1000000,77,[.opt 1000000,.srow 1000001]),(1000001,5,[rc4 b3])],.tup [vi (List.length (((r6)[Int.toNat b5.f_Op]?.getD []) ++ r7):Int),.val (.nilIface)],[(1000000,77,[.opt 1000000,.srow 1]),(1,5,[rc4 (b3 ++ (((r6)[Int.toNat b5.f_Op]?.getD []) ++ r7))])]⟩)] [3,6,7,8] [3,4181] (K':=[(3,.own 3 0),(6,rs3 v6),(7,vi v7),(8,vi v8)]) (L':=[(3,77,[.opt 3,.srow 4181]),(4181,5,[rc4 (b3 ++ (((r6)[Int.toNat b5.f_Op]?.getD []) ++ r7))])]) (ob:=[(true = true → CX Tryz.prog 126 [] (.arr (α:=List UInt8) [] E_string r6)),(decide (0 ≤ b5.f_Op ∧ b5.f_Op < (8:Int))) = true,(decide (List.length r6 = 8)) = true,(true = true → CX Tryz.prog 142 [rs3 b5.f_Sub] (.str r7)),(decide (((List.length ((r6)[Int.toNat b5.f_Op]?.getD []) + List.length r7:Nat):Int) ≤ 9223372036854775807)) = true,CbOb (CallsB Tryz.prog) 41 [.own 3 0,.str (((r6)[Int.toNat b5.f_Op]?.getD []) ++ r7)] [some (77,[.opt 3,.srow 4181]),some (5,[rc4 b3])] ⟨[(1000000,3),(1000001,4181)],[(1000000,3),(1,4181)],[.own 1000000 0,.str (((r6)[Int.toNat b5.f_Op]?.getD []) ++ r7)],[(1000000,77,[.opt 1000000,.srow 1000001]),(1000001,5,[rc4 b3])],.tup [vi (List.length (((r6)[Int.toNat b5.f_Op]?.getD []) ++ r7):Int),.val (.nilIface)],[(1000000,77,[.opt 1000000,.srow 1]),(1,5,[rc4 (b3 ++ (((r6)[Int.toNat b5.f_Op]?.getD []) ++ r7))])]⟩]) (by kernel_rfl) (AllP.cons (fun _=>cx (ok_tmpl_marks n  _ hr6)) (AllP.cons hc9 (AllP.cons hc10 (AllP.cons (fun _=>cx (hR_tmpl_Text b5.f_Sub _ hr7)) (AllP.cons hc11 (AllP.cons (⟨writeString (l:=b3) (s:=(((r6)[Int.toNat b5.f_Op]?.getD []) ++ r7)) u8,by kernel_rfl,by kernel_rfl⟩) AllP.nil)))))) ?_
  refine kt [3,6,7,8] [3,4181] [(3,.own 3 0),(6,rs3 v6),(7,vi v7),(8,vi v8)] [(3,77,[.opt 3,.srow 4181]),(4181,5,[rc4 (b3 ++ (((r6)[Int.toNat b5.f_Op]?.getD []) ++ r7))])] ?_
  cases h
  exact hQ
 ·refine Wp.skip (kt [3,6,7,8] [3,4181] [(3,.own 3 0),(6,rs3 v6),(7,vi v7),(8,vi v8)] [(3,77,[.opt 3,.srow 4181]),(4181,5,[rc4 b3])] ?_)
  cases h
  exact hQ
def tmpl_Text_j2 (R_tmpl_Text:(List (S_tmpl_Part)) → Option ((List UInt8))) (n:Nat) (v6:List (S_tmpl_Part)) (v7:Int) (v8:Int) (b3:List UInt8):Option ((List UInt8)) :=
 if (decide (0 ≤ v8 ∧ v8 < (List.length v6:Int))) = true then (if ((((v6)[Int.toNat v8]?.getD (S_tmpl_Part.mk [] [] 0 [])).f_Op) == 0) = true then (if (decide (List.length (((v6)[Int.toNat v8]?.getD (S_tmpl_Part.mk [] [] 0 [])).f_Text) < 4294967281 ∧ 1 ≤ List.length ([36]:List UInt8) ∧ List.length (((v6)[Int.toNat v8]?.getD (S_tmpl_Part.mk [] [] 0 [])).f_Text) + Lib.countB ⟨List.toArray (((v6)[Int.toNat v8]?.getD (S_tmpl_Part.mk [] [] 0 [])).f_Text)⟩ ⟨List.toArray ([36]:List UInt8)⟩ * List.length ([36,36]:List UInt8) ≤ limit)) = true then (if (decide ((List.length b3 + List.length (Lib.replaceAll (((v6)[Int.toNat v8]?.getD (S_tmpl_Part.mk [] [] 0 [])).f_Text) ([36]:List UInt8) ([36,36]:List UInt8))) * (1 + 1) ≤ limit)) = true then (lett ((b3 ++ (Lib.replaceAll (((v6)[Int.toNat v8]?.getD (S_tmpl_Part.mk [] [] 0 [])).f_Text) ([36]:List UInt8) ([36,36]:List UInt8))):List (UInt8)) fun x3 =>
 some x3) else none) else none)
 else (if (decide (((List.length ([36,123]:List UInt8) + List.length (((v6)[Int.toNat v8]?.getD (S_tmpl_Part.mk [] [] 0 [])).f_Name):Nat):Int) ≤ 9223372036854775807)) = true then (if (decide ((List.length b3 + List.length (([36,123]:List UInt8) ++ (((v6)[Int.toNat v8]?.getD (S_tmpl_Part.mk [] [] 0 [])).f_Name))) * (1 + 1) ≤ limit)) = true then (lett ((bif (decide ((((v6)[Int.toNat v8]?.getD (S_tmpl_Part.mk [] [] 0 [])).f_Op) > 1)) then (decide ((((v6)[Int.toNat v8]?.getD (S_tmpl_Part.mk [] [] 0 [])).f_Op) ≤ 7)) else false):Bool) fun x5 =>
 (tmpl_Text_j3 R_tmpl_Text n v6 v7 v8 x5 (b3 ++ (([36,123]:List UInt8) ++ (((v6)[Int.toNat v8]?.getD (S_tmpl_Part.mk [] [] 0 [])).f_Name))) ((v6)[Int.toNat v8]?.getD (S_tmpl_Part.mk [] [] 0 []))).bind fun o6 =>
 if (decide ((List.length o6 + List.length ([125]:List UInt8)) * (1 + 1) ≤ limit)) = true then (some (o6 ++ ([125]:List UInt8))) else none) else none) else none)) else none
abbrev ex1 (x0:List (S_tmpl_Part)) (x1:Int):=((x0)[Int.toNat x1]?.getD zx2)
abbrev ex52 (x0:List (S_tmpl_Part)) (x1:Int):Nat × Nat × List D:=(5,91,[.str ((ex1 x0 x1).f_Name),.str ((ex1 x0 x1).f_Text),vi ((ex1 x0 x1).f_Op),tn5 ((ex1 x0 x1).f_Sub)])
abbrev ex53 (x0:List (S_tmpl_Part)) (x1:Int):=(Lib.replaceAll ((ex1 x0 x1).f_Text) ([36]:List UInt8) ([36,36]:List UInt8))
abbrev ex54 (x0:List (S_tmpl_Part)) (x1:Int):=(([36,123]:List UInt8) ++ ((ex1 x0 x1).f_Name))
theorem ok_tmpl_Text_j2 (R_tmpl_Text:(List (S_tmpl_Part)) → Option ((List UInt8))) (hR_tmpl_Text:hR6 R_tmpl_Text) (n:Nat) (v6:List (S_tmpl_Part)) (v7:Int) (v8:Int) (b3:List UInt8) (o:(List UInt8)) (h:tmpl_Text_j2 R_tmpl_Text n v6 v7 v8 b3 = some o) {F0:Fz} {w0:Pt Tryz.prog} {Q:Exit → Act → World → Prop} (hQ:To 43 F0 w0 [(3,.own 3 0),(6,rs3 v6),(7,vi v7),(8,vi v8)] [(3,77,[.opt 3,.srow 4181]),(4181,5,[rc4 o])] .normal Q):Wp Tryz.prog 43 F0 w0 [(3,.own 3 0),(6,rs3 v6),(7,vi v7),(8,vi v8)] [(3,77,[.opt 3,.srow 4181]),(4181,5,[rc4 b3])] (cA (cB (cB (cI (cI (cB (cA (cB (cB (cF Tryz.f142)))))))))) Q:=by
 unfold tmpl_Text_j2 at h
 refine Wp.block (Wp.seq ?_)
 obtain ⟨hc9,h⟩:=chk_of h
 refine r0 [3,5,6,7,8] [3,5,4181] [(3,.own 3 0),(5,.own 5 0),(6,rs3 v6),(7,vi v7),(8,vi v8)] [(3,77,[.opt 3,.srow 4181]),(ex52 v6 v8),(4181,5,[rc4 b3])] (AllP.cons hc9 AllP.nil) (To.thenN (Wp.seq (Wp.seq (rg [3,5,6,7,8,14] [3,5,4181] [(3,.own 3 0),(5,.own 5 0),(6,rs3 v6),(7,vi v7),(8,vi v8),(14,vb (((ex1 v6 v8).f_Op) == 0))] [(3,77,[.opt 3,.srow 4181]),(ex52 v6 v8),(4181,5,[rc4 b3])] (To.thenN (cn h (fun h=>?_) (fun h=>?_)))))))
 ·refine Wp.seq ?_
  obtain ⟨u1,h⟩:=chk_of h
  obtain ⟨u2,h⟩:=chk_of h
  obtain ⟨x3,hx3,h⟩:=lett_of h
  refine rr [] [(2,.str (ex53 v6 v8))] [(3,⟨[(1000000,3),(1000001,4181)],[(1000000,3),(1,4181)],[.own 1000000 0,.str (ex53 v6 v8)],[(1000000,77,[.opt 1000000,.srow 1000001]),(1000001,5,[rc4 b3])],.tup [vi (List.length (ex53 v6 v8):Int),.val (.nilIface)],[(1000000,77,[.opt 1000000,.srow 1]),(1,5,[rc4 (b3 ++ (ex53 v6 v8))])]⟩)] [3,6,7,8] [3,4181] [(3,.own 3 0),(6,rs3 v6),(7,vi v7),(8,vi v8)] [(3,77,[.opt 3,.srow 4181]),(4181,5,[rc4 (b3 ++ (ex53 v6 v8))])] [(true = true → CX Tryz.prog 150 [.str ((ex1 v6 v8).f_Text),.str [36],.str [36,36]] (.str (ex53 v6 v8))),CbOb (CallsB Tryz.prog) 41 [.own 3 0,.str (ex53 v6 v8)] [some (77,[.opt 3,.srow 4181]),some (5,[rc4 b3])] ⟨[(1000000,3),(1000001,4181)],[(1000000,3),(1,4181)],[.own 1000000 0,.str (ex53 v6 v8)],[(1000000,77,[.opt 1000000,.srow 1000001]),(1000001,5,[rc4 b3])],.tup [vi (List.length (ex53 v6 v8):Int),.val (.nilIface)],[(1000000,77,[.opt 1000000,.srow 1]),(1,5,[rc4 (b3 ++ (ex53 v6 v8))])]⟩] (AllP.cons (fun _=>cx (Sh.replaceAll150 u1)) (AllP.cons (⟨writeString (l:=b3) (s:=(ex53 v6 v8)) u2,by kernel_rfl,by kernel_rfl⟩) AllP.nil)) ?_
  refine To.eq (K':=[(3,.own 3 0),(6,rs3 v6),(7,vi v7),(8,vi v8)]) (L':=[(3,77,[.opt 3,.srow 4181]),(4181,5,[rc4 x3])]) (by cases hx3; rfl) (by cases hx3; rfl) (To.thenN (Wp.exit (To.thenX (To.blockX (kt [3,6,7,8] [3,4181] [(3,.own 3 0),(6,rs3 v6),(7,vi v7),(8,vi v8)] [(3,77,[.opt 3,.srow 4181]),(4181,5,[rc4 x3])] ?_)))))
  cases h
  exact hQ
 ·refine Wp.skip (To.thenN (Wp.seq ?_))
  obtain ⟨hc8,h⟩:=chk_of h
  obtain ⟨u4,h⟩:=chk_of h
  refine rr [] [] [(3,⟨[(1000000,3),(1000001,4181)],[(1000000,3),(1,4181)],[.own 1000000 0,.str (ex54 v6 v8)],[(1000000,77,[.opt 1000000,.srow 1000001]),(1000001,5,[rc4 b3])],.tup [vi (List.length (ex54 v6 v8):Int),.val (.nilIface)],[(1000000,77,[.opt 1000000,.srow 1]),(1,5,[rc4 (b3 ++ (ex54 v6 v8))])]⟩)] [3,5,6,7,8] [3,5,4181] [(3,.own 3 0),(5,.own 5 0),(6,rs3 v6),(7,vi v7),(8,vi v8)] [(3,77,[.opt 3,.srow 4181]),(ex52 v6 v8),(4181,5,[rc4 (b3 ++ (ex54 v6 v8))])] [_,CbOb (CallsB Tryz.prog) 41 [.own 3 0,.str (ex54 v6 v8)] [some (77,[.opt 3,.srow 4181]),some (5,[rc4 b3])] ⟨[(1000000,3),(1000001,4181)],[(1000000,3),(1,4181)],[.own 1000000 0,.str (ex54 v6 v8)],[(1000000,77,[.opt 1000000,.srow 1000001]),(1000001,5,[rc4 b3])],.tup [vi (List.length (ex54 v6 v8):Int),.val (.nilIface)],[(1000000,77,[.opt 1000000,.srow 1]),(1,5,[rc4 (b3 ++ (ex54 v6 v8))])]⟩] (AllP.cons hc8 (AllP.cons (⟨writeString (l:=b3) (s:=(ex54 v6 v8)) u4,by kernel_rfl,by kernel_rfl⟩) AllP.nil)) ?_
  refine To.thenN (Wp.seq (Wp.seq ?_))
  obtain ⟨x5,hx5,h⟩:=lett_of h
  refine rg [3,5,6,7,8,30] [3,5,4181] [(3,.own 3 0),(5,.own 5 0),(6,rs3 v6),(7,vi v7),(8,vi v8),(30,vb (bif (decide (((ex1 v6 v8).f_Op) > 1)) then (decide (((ex1 v6 v8).f_Op) ≤ 7)) else false))] [(3,77,[.opt 3,.srow 4181]),(ex52 v6 v8),(4181,5,[rc4 (b3 ++ (ex54 v6 v8))])] (To.eq (K':=[(3,.own 3 0),(5,.own 5 0),(6,rs3 v6),(7,vi v7),(8,vi v8),(30,vb x5)]) (L':=[(3,77,[.opt 3,.srow 4181]),(ex52 v6 v8),(4181,5,[rc4 (b3 ++ (ex54 v6 v8))])]) (by cases hx5; rfl) (by cases hx5; rfl) (To.thenN ?_))
  obtain ⟨o6,ho6,h⟩:=bind_of h
  refine kw [3,5,6,7,8,30] [3,5,4181] [(3,.own 3 0),(5,.own 5 0),(6,rs3 v6),(7,vi v7),(8,vi v8),(30,vb x5)] [(3,77,[.opt 3,.srow 4181]),(ex52 v6 v8),(4181,5,[rc4 (b3 ++ (ex54 v6 v8))])] (ok_tmpl_Text_j3 R_tmpl_Text hR_tmpl_Text n v6 v7 v8 x5 (b3 ++ (ex54 v6 v8)) (ex1 v6 v8) o6 ho6 (To.thenN ?_))
  obtain ⟨u7,h⟩:=chk_of h
  refine rb [] 0 ⟨[(1000000,3),(1000001,4181)],[(1000000,3),(1,4181)],[.own 1000000 0,.str [125]],[(1000000,77,[.opt 1000000,.srow 1000001]),(1000001,5,[rc4 o6])],.tup [vi (List.length ([125]:List UInt8):Int),.val (.nilIface)],[(1000000,77,[.opt 1000000,.srow 1]),(1,5,[rc4 (o6 ++ ([125]:List UInt8))])]⟩ [3,6,7,8] [3,4181] [(3,.own 3 0),(6,rs3 v6),(7,vi v7),(8,vi v8)] [(3,77,[.opt 3,.srow 4181]),(4181,5,[rc4 (o6 ++ ([125]:List UInt8))])] (writeString (l:=o6) (s:=([125]:List UInt8)) u7) (To.blockN ?_)
  cases h
  exact hQ
def tmpl_Text_l1 (R_tmpl_Text:(List (S_tmpl_Part)) → Option ((List UInt8))) (n:Nat) (v6:List (S_tmpl_Part)) (v7:Int):Nat → Int → (List UInt8) → Option ((List UInt8))
 | 0,_,_=>none
 | k + 1,v8,b3=>if (decide (v8 < v7)) = true then ((tmpl_Text_j2 R_tmpl_Text n v6 v7 v8 b3).bind fun o1 =>
 tmpl_Text_l1 R_tmpl_Text n v6 v7 k (IntKind.wrap .i64 (v8 + 1)) o1)
 else some b3
abbrev ex2 (x0:Int):Nat × D:=(8,vi (IntKind.wrap .i64 (x0 + 1)))
theorem ok_tmpl_Text_l1 (R_tmpl_Text:(List (S_tmpl_Part)) → Option ((List UInt8))) (hR_tmpl_Text:hR6 R_tmpl_Text) (n:Nat) (v6:List (S_tmpl_Part)) (v7:Int) {F0:Fz} {w0:Pt Tryz.prog} {Q:Exit → Act → World → Prop} (k:Nat):∀ (v8:Int) (b3:List UInt8) (o:(List UInt8)),tmpl_Text_l1 R_tmpl_Text n v6 v7 k v8 b3 = some o → To 43 F0 w0 [(3,.own 3 0)] [(3,77,[.opt 3,.srow 4181]),(4181,5,[rc4 o])] (.exit 0) Q → WL Tryz.prog 43 F0 w0 [(3,.own 3 0),(6,rs3 v6),(7,vi v7),(8,vi v8)] [(3,77,[.opt 3,.srow 4181]),(4181,5,[rc4 b3])] (cI (cI (cB (cA (cB (cB (cF Tryz.f142))))))) Q:=by
 induction k with
 | zero=>intro v8 b3 o h; cases h
 | succ k ih =>
  intro v8 b3 o h hQ
  rw [tmpl_Text_l1] at h
  refine WL.round (Wp.seq (rg [3,6,7,8,9] [3,4181] [(3,.own 3 0),(6,rs3 v6),(7,vi v7),(8,vi v8),(9,vb (decide (v8 < v7)))] [(3,77,[.opt 3,.srow 4181]),(4181,5,[rc4 b3])] (To.thenN (Wp.seq (cn h (fun h=>?_) (fun h=>?_))))))
  ·refine Wp.skip (To.thenN (Wp.seq ?_))
   obtain ⟨o1,ho1,h⟩:=bind_of h
   refine kw [3,6,7,8] [3,4181] [(3,.own 3 0),(6,rs3 v6),(7,vi v7),(8,vi v8)] [(3,77,[.opt 3,.srow 4181]),(4181,5,[rc4 b3])] (ok_tmpl_Text_j2 R_tmpl_Text hR_tmpl_Text n v6 v7 v8 b3 o1 ho1 (To.thenN (rg [3,6,7,8] [3,4181] [(3,.own 3 0),(6,rs3 v6),(7,vi v7),(ex2 v8)] [(3,77,[.opt 3,.srow 4181]),(4181,5,[rc4 o1])] (kt [3,6,7,8] [3,4181] [(3,.own 3 0),(6,rs3 v6),(7,vi v7),(ex2 v8)] [(3,77,[.opt 3,.srow 4181]),(4181,5,[rc4 o1])] (To.again ?_)))))
   exact ih (IntKind.wrap .i64 (v8 + 1)) o1 _ h hQ
  ·refine Wp.exit (To.thenX (To.thenX (kt [3] [3,4181] [(3,.own 3 0)] [(3,77,[.opt 3,.srow 4181]),(4181,5,[rc4 b3])] ?_)))
   cases h
   exact hQ
def tmpl_Text_b (R_tmpl_Text:(List (S_tmpl_Part)) → Option ((List UInt8))) (n:Nat) (a0:List (S_tmpl_Part)):Option ((List UInt8)) :=
 (tmpl_Text_l1 R_tmpl_Text n a0 (List.length a0:Int) n 0 ([]:List (UInt8))).bind fun o1 =>
 some o1
theorem ok_tmpl_Text_b (R_tmpl_Text:(List (S_tmpl_Part)) → Option ((List UInt8))) (hR_tmpl_Text:hR6 R_tmpl_Text) (n:Nat) (a0:List (S_tmpl_Part)) (r:(List UInt8)) (h:tmpl_Text_b R_tmpl_Text n a0 = some r):CallsX Tryz.prog 142 [rs3 a0] (.str r):=by
 unfold tmpl_Text_b at h
 refine xo Tryz.f142 rfl fun F0 w0 _=>?_
 refine Wp.seq (rg [0] [] [(0,rs3 a0)] [] (To.thenN (Wp.seq (rg [0,3] [3] [(0,rs3 a0),(3,.own 3 0)] [(3,77,[.val (.pointer none),.val (.slice none 0 0)])] (To.pre (St.builderB 3 4181 5 (by decide) (by kernel_rfl) (L':=[(3,77,[.opt 3,.srow 4181])]) (by kernel_rfl)) (To.thenN (Wp.seq (Wp.seq (rg [3,6,7,8] [3,4181] [(3,.own 3 0),(6,rs3 a0),(7,vi (List.length a0:Int)),(8,vi 0)] [(3,77,[.opt 3,.srow 4181]),(4181,5,[rc4 []])] (To.thenN (Wp.block ?_)))))))))))
 obtain ⟨o1,ho1,h⟩:=bind_of h
 refine kw [3,6,7,8] [3,4181] [(3,.own 3 0),(6,rs3 a0),(7,vi (List.length a0:Int)),(8,vi 0)] [(3,77,[.opt 3,.srow 4181]),(4181,5,[rc4 []])] (Wp.loopL (ok_tmpl_Text_l1 R_tmpl_Text hR_tmpl_Text n a0 (List.length a0:Int) n 0 ([]:List (UInt8)) o1 ho1 (To.blockX (To.thenN (Wp.seq (rb [] 0 ⟨[(1000000,3),(1000001,4181)],[(1000000,3)],[.own 1000000 0],[(1000000,77,[.opt 1000000,.srow 1000001]),(1000001,5,[rc4 o1])],.str o1,[(1000000,77,[.opt 1000000,.hole])]⟩ [2] [] [(2,.str o1)] [] (bstring (l:=o1)) (To.thenN (Wp.ret ?_))))))))
 cases h
 exact To.done hΓ (by kernel_rfl)
def tmpl_Text:Nat → (List (S_tmpl_Part)) → Option ((List UInt8))
 | 0=>fun _=>none
 | n + 1=>tmpl_Text_b (tmpl_Text n) n
theorem ok_tmpl_Text (n:Nat):∀ (a0:List (S_tmpl_Part)) (r:(List UInt8)),tmpl_Text n a0 = some r → CallsX Tryz.prog 142 [rs3 a0] (.str r):=by
 induction n with
 | zero=>intro a0 r h; cases h
 | succ n ih=>exact fun a0 r h=>ok_tmpl_Text_b (tmpl_Text n) ih n a0 r h
structure S_api_Node where
 f_Kind:Int
 f_Text:List UInt8
 f_Keys:List (List UInt8)
 f_Kids:List (S_api_Node)
structure S_api_Var where
 f_Key:List UInt8
 f_Val:List UInt8
def pre_S_api_Node:S_api_Node → List D:=fun x=>[.val (.int .i64 x.f_Kind),.str x.f_Text,.recs (α:=List UInt8) [] E_string x.f_Keys]
def kids_S_api_Node:S_api_Node → List (S_api_Node):=fun x=>x.f_Kids
def tr_S_api_Node:S_api_Node → List D:=treeEnc (S_api_Node.mk 0 [] [] []) pre_S_api_Node kids_S_api_Node
def E_api_Node:S_api_Node → List D:=tr_S_api_Node
def E_api_Var:S_api_Var → List D:=fun x=>[.str x.f_Key,.str x.f_Val]
def ref02_Sorted_j3 (n:Nat) (v0:List (List UInt8)) (v3:List (List UInt8)) (v4:Int) (v5:Int):Option (Int) :=
 if ((!(((List.length v3:Int) == 0) == false) || decide (0 ≤ v5 ∧ v5 < (List.length v0:Int)))) = true then (if ((!(((List.length v3:Int) == 0) == false) || decide (0 ≤ (IntKind.wrap .i64 ((List.length v3:Int) - 1)) ∧ (IntKind.wrap .i64 ((List.length v3:Int) - 1)) < (List.length v3:Int)))) = true then (if ((!(((decide (v4 < 0)) == false) && ((bif ((List.length v3:Int) == 0) then true else (!(Op.bytesLess ((v0)[Int.toNat v5]?.getD []) ((v3)[Int.toNat (IntKind.wrap .i64 ((List.length v3:Int) - 1))]?.getD []) || ((v0)[Int.toNat v5]?.getD []) == ((v3)[Int.toNat (IntKind.wrap .i64 ((List.length v3:Int) - 1))]?.getD [])))) == true)) || decide (0 ≤ v5 ∧ v5 < (List.length v0:Int)))) = true then (if ((!(((decide (v4 < 0)) == false) && ((bif ((List.length v3:Int) == 0) then true else (!(Op.bytesLess ((v0)[Int.toNat v5]?.getD []) ((v3)[Int.toNat (IntKind.wrap .i64 ((List.length v3:Int) - 1))]?.getD []) || ((v0)[Int.toNat v5]?.getD []) == ((v3)[Int.toNat (IntKind.wrap .i64 ((List.length v3:Int) - 1))]?.getD [])))) == true)) || decide (0 ≤ v4 ∧ v4 < (List.length v0:Int)))) = true then (lett ((bif (bif ((List.length v3:Int) == 0) then true else (!(Op.bytesLess ((v0)[Int.toNat v5]?.getD []) ((v3)[Int.toNat (IntKind.wrap .i64 ((List.length v3:Int) - 1))]?.getD []) || ((v0)[Int.toNat v5]?.getD []) == ((v3)[Int.toNat (IntKind.wrap .i64 ((List.length v3:Int) - 1))]?.getD [])))) then (bif (decide (v4 < 0)) then true else (Op.bytesLess ((v0)[Int.toNat v5]?.getD []) ((v0)[Int.toNat v4]?.getD []))) else false):Bool) fun x1 =>
 if x1 = true then some v5
 else some v4) else none) else none) else none) else none
abbrev ex3 (x0:List (List UInt8)) (x1:List (List UInt8)) (x2:Int):=(bif ((List.length x0:Int) == 0) then true else (!(Op.bytesLess ((x1)[Int.toNat x2]?.getD []) ((x0)[Int.toNat (IntKind.wrap .i64 ((List.length x0:Int) - 1))]?.getD []) || ((x1)[Int.toNat x2]?.getD []) == ((x0)[Int.toNat (IntKind.wrap .i64 ((List.length x0:Int) - 1))]?.getD []))))
abbrev ex4 (x0:Int) (x1:List (List UInt8)):=(0 ≤ x0 ∧ x0 < (List.length x1:Int))
theorem ok_ref02_Sorted_j3 (n:Nat) (v0:List (List UInt8)) (v3:List (List UInt8)) (v4:Int) (v5:Int) (o:Int) (h:ref02_Sorted_j3 n v0 v3 v4 v5 = some o) {F0:Fz} {w0:Pt Tryz.prog} {Q:Exit → Act → World → Prop} (hQ:To 55 F0 w0 [(0,ls v0),(3,.row 1003),(4,vi o),(5,vi v5)] [(1003,9,[rc1 v3])] .normal Q):Wp Tryz.prog 55 F0 w0 [(0,ls v0),(3,.row 1003),(4,vi v4),(5,vi v5)] [(1003,9,[rc1 v3])] (cA (cB (cI (cI (cB (cA (cB (cI (cI (cI (cB (cB (cF Tryz.f45))))))))))))) Q:=by
 unfold ref02_Sorted_j3 at h
 refine Wp.block (Wp.seq ?_)
 obtain ⟨hc2,h⟩:=chk_of h
 obtain ⟨hc3,h⟩:=chk_of h
 obtain ⟨hc4,h⟩:=chk_of h
 obtain ⟨hc5,h⟩:=chk_of h
 obtain ⟨x1,hx1,h⟩:=lett_of h
 refine Wp.regionD hm hΓ [] [0,3,4,5,43] [1003] (K':=[(0,ls v0),(3,.row 1003),(4,vi v4),(5,vi v5),(43,vb (bif (ex3 v3 v0 v5) then (bif (decide (v4 < 0)) then true else (Op.bytesLess ((v0)[Int.toNat v5]?.getD []) ((v0)[Int.toNat v4]?.getD []))) else false))]) (L':=[(1003,9,[rc1 v3])]) (ob:=[(!(((List.length v3:Int) == 0) == false) || decide (ex4 v5 v0)) = true,(!(((List.length v3:Int) == 0) == false) || decide (0 ≤ (IntKind.wrap .i64 ((List.length v3:Int) - 1)) ∧ (IntKind.wrap .i64 ((List.length v3:Int) - 1)) < (List.length v3:Int))) = true,(!(((List.length v3:Int) == 0) == false) || decide (0 ≤ (IntKind.wrap .i64 ((List.length v3:Int) - 1)) ∧ (IntKind.wrap .i64 ((List.length v3:Int) - 1)) < (List.length v3:Int))) = true,(!(((decide (v4 < 0)) == false) && ((ex3 v3 v0 v5) == true)) || decide (ex4 v5 v0)) = true,(!(((decide (v4 < 0)) == false) && ((ex3 v3 v0 v5) == true)) || decide (ex4 v4 v0)) = true]) (by kernel_rfl) (AllP.cons hc2 (AllP.cons hc3 (AllP.cons hc3 (AllP.cons hc4 (AllP.cons hc5 AllP.nil))))) (To.eq (K':=[(0,ls v0),(3,.row 1003),(4,vi v4),(5,vi v5),(43,vb x1)]) (L':=[(1003,9,[rc1 v3])]) (by cases hx1; rfl) (by cases hx1; rfl) (To.thenN (cn h (fun h=>?_) (fun h=>?_))))
 ·refine rg [0,3,4,5] [1003] [(0,ls v0),(3,.row 1003),(4,vi v5),(5,vi v5)] [(1003,9,[rc1 v3])] (To.blockN ?_)
  cases h
  exact hQ
 ·refine Wp.skip (To.blockN (kt [0,3,4,5] [1003] [(0,ls v0),(3,.row 1003),(4,vi v4),(5,vi v5)] [(1003,9,[rc1 v3])] ?_))
  cases h
  exact hQ
def ref02_Sorted_l2 (n:Nat) (v0:List (List UInt8)) (v3:List (List UInt8)):Nat → Int → Int → Option (Int)
 | 0,_,_=>none
 | k + 1,v4,v5=>if (decide (v5 < (List.length v0:Int))) = true then ((ref02_Sorted_j3 n v0 v3 v4 v5).bind fun o1 =>
 ref02_Sorted_l2 n v0 v3 k o1 (IntKind.wrap .i64 (v5 + 1)))
 else some v4
abbrev ex5 (x0:Int) (x1:List (List UInt8)):=(decide (x0 < (List.length x1:Int)))
abbrev ex6 (x0:Int):Nat × D:=(5,vi (IntKind.wrap .i64 (x0 + 1)))
theorem ok_ref02_Sorted_l2 (n:Nat) (v0:List (List UInt8)) (v3:List (List UInt8)) {F0:Fz} {w0:Pt Tryz.prog} {Q:Exit → Act → World → Prop} (k:Nat):∀ (v4:Int) (v5:Int) (o:Int),ref02_Sorted_l2 n v0 v3 k v4 v5 = some o → To 55 F0 w0 [(0,ls v0),(3,.row 1003),(4,vi o)] [(1003,9,[rc1 v3])] (.exit 2) Q → WL Tryz.prog 55 F0 w0 [(0,ls v0),(3,.row 1003),(4,vi v4),(5,vi v5)] [(1003,9,[rc1 v3])] (cI (cI (cB (cA (cB (cI (cI (cI (cB (cB (cF Tryz.f45))))))))))) Q:=by
 induction k with
 | zero=>intro v4 v5 o h; cases h
 | succ k ih =>
  intro v4 v5 o h hQ
  rw [ref02_Sorted_l2] at h
  refine WL.round (Wp.seq (Wp.seq (rg [0,3,4,5,10] [1003] [(0,ls v0),(3,.row 1003),(4,vi v4),(5,vi v5),(10,vb (ex5 v5 v0))] [(1003,9,[rc1 v3])] (To.thenN (cn h (fun h=>?_) (fun h=>?_))))))
  ·refine Wp.skip (To.thenN (Wp.seq ?_))
   obtain ⟨o1,ho1,h⟩:=bind_of h
   refine kw [0,3,4,5] [1003] [(0,ls v0),(3,.row 1003),(4,vi v4),(5,vi v5)] [(1003,9,[rc1 v3])] (ok_ref02_Sorted_j3 n v0 v3 v4 v5 o1 ho1 (To.thenN (rg [0,3,4,5] [1003] [(0,ls v0),(3,.row 1003),(4,vi o1),(ex6 v5)] [(1003,9,[rc1 v3])] (kt [0,3,4,5] [1003] [(0,ls v0),(3,.row 1003),(4,vi o1),(ex6 v5)] [(1003,9,[rc1 v3])] (To.again ?_)))))
   exact ih o1 (IntKind.wrap .i64 (v5 + 1)) _ h hQ
  ·refine Wp.exit (To.thenX (To.thenX (kt [0,3,4] [1003] [(0,ls v0),(3,.row 1003),(4,vi v4)] [(1003,9,[rc1 v3])] ?_)))
   cases h
   exact hQ
def ref02_Sorted_l1 (n:Nat) (v0:List (List UInt8)):Nat → (List (List UInt8)) → Option ((List (List UInt8)))
 | 0,_=>none
 | k + 1,v3=>(ref02_Sorted_l2 n v0 v3 n (-1) 0).bind fun o1 =>
 if (decide (o1 < 0)) = true then some v3
 else (if (decide (0 ≤ o1 ∧ o1 < (List.length v0:Int))) = true then (if (decide ((List.length v3 + List.length ([((v0)[Int.toNat o1]?.getD [])]:List (List UInt8))) * (16 + 1) ≤ limit)) = true then (ref02_Sorted_l1 n v0 k (v3 ++ ([((v0)[Int.toNat o1]?.getD [])]:List (List UInt8)))) else none) else none)
theorem ok_ref02_Sorted_l1 (n:Nat) (v0:List (List UInt8)) {F0:Fz} {w0:Pt Tryz.prog} {Q:Exit → Act → World → Prop} (k:Nat):∀ (v3:List (List UInt8)) (o:(List (List UInt8))),ref02_Sorted_l1 n v0 k v3 = some o → To 55 F0 w0 [(2,.row 1002)] [(1002,9,[rc1 o])] .ret Q → WL Tryz.prog 55 F0 w0 [(0,ls v0),(3,.row 1003)] [(1003,9,[rc1 v3])] (cI (cI (cB (cB (cF Tryz.f45))))) Q:=by
 induction k with
 | zero=>intro v3 o h; cases h
 | succ k ih =>
  intro v3 o h hQ
  rw [ref02_Sorted_l1] at h
  refine WL.round (Wp.block (Wp.seq (rg [0,3,4] [1003] [(0,ls v0),(3,.row 1003),(4,vi (-1))] [(1003,9,[rc1 v3])] (To.thenN (Wp.seq (Wp.seq (rg [0,3,4,5] [1003] [(0,ls v0),(3,.row 1003),(4,vi (-1)),(5,vi 0)] [(1003,9,[rc1 v3])] (To.thenN (Wp.block ?_)))))))))
  obtain ⟨o1,ho1,h⟩:=bind_of h
  refine kw [0,3,4,5] [1003] [(0,ls v0),(3,.row 1003),(4,vi (-1)),(5,vi 0)] [(1003,9,[rc1 v3])] (Wp.loopL (ok_ref02_Sorted_l2 n v0 v3 n (-1) 0 o1 ho1 (To.blockX (To.thenN (Wp.seq (Wp.seq (rg [0,3,4,46] [1003] [(0,ls v0),(3,.row 1003),(4,vi o1),(46,vb (decide (o1 < 0)))] [(1003,9,[rc1 v3])] (To.thenN (cn h (fun h=>?_) (fun h=>?_))))))))))
  ·refine Wp.seq (rg [2] [1003] [(2,.row 1003)] [(1003,9,[rc1 v3])] (To.thenN (Wp.ret (To.thenR (To.blockR (To.thenR (nt [2] [1003] [(1003,1002)] [2] [1002] [(2,.row 1002)] [(1002,9,[rc1 v3])] ?_)))))))
   cases h
   exact hQ
  ·refine Wp.skip (To.thenN ?_)
   obtain ⟨hc2,h⟩:=chk_of h
   obtain ⟨hc3,h⟩:=chk_of h
   refine rr [] [(5,ls ([((v0)[Int.toNat o1]?.getD [])])),(6,ls (v3 ++ ([((v0)[Int.toNat o1]?.getD [])]:List (List UInt8))))] [] [0,3] [54] [(0,ls v0),(3,.row 54)] [(54,9,[rc1 (v3 ++ ([((v0)[Int.toNat o1]?.getD [])]:List (List UInt8)))])] [_,(MkOb 1 [.str ((v0)[Int.toNat o1]?.getD [])] 1 (ls ([((v0)[Int.toNat o1]?.getD [])])) ∧ GoodR (ls ([((v0)[Int.toNat o1]?.getD [])]))),_,(AppOb [] E_string v3 (List.flatMap E_string ([((v0)[Int.toNat o1]?.getD [])]:List (List UInt8))) (List.length ([((v0)[Int.toNat o1]?.getD [])]:List (List UInt8))) (ls (v3 ++ ([((v0)[Int.toNat o1]?.getD [])]:List (List UInt8)))) ∧ GoodR (ls (v3 ++ ([((v0)[Int.toNat o1]?.getD [])]:List (List UInt8)))))] (AllP.cons hc2 (AllP.cons (mkOb (by kernel_rfl) rfl (by kernel_rfl) (good_E_string _)) (AllP.cons hc3 (AllP.cons (appOb rfl rfl (good_E_string _)) AllP.nil)))) (To.blockN (nt [0,3] [54] [(54,1003)] [0,3] [1003] [(0,ls v0),(3,.row 1003)] [(1003,9,[rc1 (v3 ++ ([((v0)[Int.toNat o1]?.getD [])]:List (List UInt8)))])] (To.again ?_)))
   exact ih (v3 ++ ([((v0)[Int.toNat o1]?.getD [])]:List (List UInt8))) _ h hQ
def ref02_Sorted (n:Nat) (a0:List (List UInt8)):Option ((List (List UInt8))) :=
 (ref02_Sorted_l1 n a0 n ([]:List (List UInt8))).bind fun o1 =>
 some o1
abbrev rc8 (l:List (List UInt8)):D:=.rowc true (α:=List UInt8) [] E_string l
theorem ok_ref02_Sorted (n:Nat) (a0:List (List UInt8)) (r:(List (List UInt8))) (h:ref02_Sorted n a0 = some r):CallsX Tryz.prog 45 [ls a0] (ls r):=by
 unfold ref02_Sorted at h
 refine xo Tryz.f45 rfl fun F0 w0 _=>?_
 refine Wp.seq (rg [0] [] [(0,ls a0)] [] (To.thenN (Wp.seq (rr [] [(0,ls [])] [] [0,3] [6] [(0,ls a0),(3,.row 6)] [(6,9,[rc1 []])] [(MkOb 1 [] 0 (ls []) ∧ GoodR (ls []))] (AllP.cons (mkOb (by kernel_rfl) rfl (by kernel_rfl) (good_E_string _)) AllP.nil) (To.thenN (Wp.block ?_))))))
 obtain ⟨o1,ho1,h⟩:=bind_of h
 refine nw [0,3] [6] [(6,1003)] [0,3] [1003] [(0,ls a0),(3,.row 1003)] [(1003,9,[rc1 []])] (Wp.loopL (ok_ref02_Sorted_l1 n a0 n ([]:List (List UInt8)) o1 ho1 (To.blockR (kt [2] [1002] [(2,.row 1002)] [(1002,9,[rc1 o1])] (To.pre (St.settle (ks:=[1002]) (kk:=[2]) (kl:=[1002]) (K':=[(2,.row 1002)]) (L':=[(1002,9,[rc8 o1])]) (by kernel_rfl)) (To.pre (St.sealK [2] (K':=[(2,ls o1)]) (by kernel_rfl)) ?_))))))
 cases h
 exact To.done hΓ (by kernel_rfl)
def ref08_Left_l1 (R_ref08_Left:S_api_Node → Int → Int → Option (Int)) (n:Nat) (v1:Int) (b3:S_api_Node):Nat → Int → Int → Option (Sum (Int) (Int))
 | 0,_,_=>none
 | k + 1,v2,v7=>if (decide (v7 < (List.length b3.f_Kids:Int))) = true then (if (decide (0 ≤ v7 ∧ v7 < (List.length b3.f_Kids:Int))) = true then ((R_ref08_Left ((b3.f_Kids)[Int.toNat v7]?.getD (S_api_Node.mk 0 [] [] [])) (IntKind.wrap .i64 (v1 + 1)) v2).bind fun r5 =>
 if (decide (r5 < 0)) = true then (some (.inr (-1)))
 else (ref08_Left_l1 R_ref08_Left n v1 b3 k r5 (IntKind.wrap .i64 (v7 + 1)))) else none)
 else (some (.inl v2))
abbrev zx9:S_api_Node:=S_api_Node.mk 0 [] [] []
abbrev tn10 (l:List (S_api_Node)):D:=.tree (α:=S_api_Node) zx9 pre_S_api_Node kids_S_api_Node l
abbrev hR11 (R_ref08_Left:S_api_Node → Int → Int → Option (Int)):Prop:=∀ (a0:S_api_Node) (a1:Int) (a2:Int) (r:Int),R_ref08_Left a0 a1 a2 = some r → CallsX Tryz.prog 23 [.agg [vi a0.f_Kind,.str a0.f_Text,ls a0.f_Keys,tn10 a0.f_Kids],vi a1,vi a2] (vi r)
abbrev qc12 (x:S_api_Node):List D:=[vi x.f_Kind,.str x.f_Text,ls x.f_Keys,tn10 x.f_Kids]
abbrev ex7 (x0:S_api_Node) (x1:Int):=((x0.f_Kids)[Int.toNat x1]?.getD zx9)
abbrev ex8 (x0:Int) (x1:S_api_Node):=(decide (x0 < (List.length x1.f_Kids:Int)))
abbrev ex9 (x0:Int) (x1:S_api_Node):=(decide (0 ≤ x0 ∧ x0 < (List.length x1.f_Kids:Int)))
abbrev ex10 (x0:Int):Nat × D:=(7,vi (IntKind.wrap .i64 (x0 + 1)))
theorem ok_ref08_Left_l1 (R_ref08_Left:S_api_Node → Int → Int → Option (Int)) (hR_ref08_Left:hR11 R_ref08_Left) (n:Nat) (v1:Int) (b3:S_api_Node) {F0:Fz} {w0:Pt Tryz.prog} {Q:Exit → Act → World → Prop} (k:Nat):∀ (v2:Int) (v7:Int) (o:Sum (Int) (Int)),ref08_Left_l1 R_ref08_Left n v1 b3 k v2 v7 = some o → (Sum.elim (fun s=>To 105 F0 w0 [(2,vi s)] [] (.exit 0) Q) (fun s=>To 105 F0 w0 [(6,vi s)] [] .ret Q)) o → WL Tryz.prog 105 F0 w0 [(1,vi v1),(2,vi v2),(3,.own 3 0),(7,vi v7)] [(3,25,qc12 b3)] (cI (cI (cB (cA (cB (cB (cB (cB (cB (cF Tryz.f23)))))))))) Q:=by
 induction k with
 | zero=>intro v2 v7 o h; cases h
 | succ k ih =>
  intro v2 v7 o h hQ
  rw [ref08_Left_l1] at h
  refine WL.round (Wp.seq (Wp.seq (rg [1,2,3,7,90] [3] [(1,vi v1),(2,vi v2),(3,.own 3 0),(7,vi v7),(90,vb (ex8 v7 b3))] [(3,25,qc12 b3)] (To.thenN (cn h (fun h=>?_) (fun h=>?_))))))
  ·refine Wp.skip (To.thenN (Wp.seq (Wp.block (Wp.seq ?_))))
   obtain ⟨hc6,h⟩:=chk_of h
   obtain ⟨r5,hr5,h⟩:=bind_of h
   refine rr [] [(8,vi r5)] [] [1,2,3,7] [3] [(1,vi v1),(2,vi r5),(3,.own 3 0),(7,vi v7)] [(3,25,qc12 b3)] [_,(true = true → CX Tryz.prog 23 [.agg [vi ((ex7 b3 v7).f_Kind),.str ((ex7 b3 v7).f_Text),ls ((ex7 b3 v7).f_Keys),tn10 ((ex7 b3 v7).f_Kids)],vi (IntKind.wrap .i64 (v1 + 1)),vi v2] (vi r5))] (AllP.cons hc6 (AllP.cons (fun _=>cx (hR_ref08_Left (ex7 b3 v7) (IntKind.wrap .i64 (v1 + 1)) v2 _ hr5)) AllP.nil)) (To.thenN (Wp.seq (rg [1,2,3,7,103] [3] [(1,vi v1),(2,vi r5),(3,.own 3 0),(7,vi v7),(103,vb (decide (r5 < 0)))] [(3,25,qc12 b3)] (To.thenN (cn h (fun h=>?_) (fun h=>?_))))))
   ·refine Wp.seq (rg [6] [] [(6,vi (-1))] [] (To.thenN (Wp.ret (To.blockR (To.thenR (To.thenR ?_))))))
    cases h
    exact hQ
   ·refine Wp.skip (To.blockN (To.thenN (rg [1,2,3,7] [3] [(1,vi v1),(2,vi r5),(3,.own 3 0),(ex10 v7)] [(3,25,qc12 b3)] (kt [1,2,3,7] [3] [(1,vi v1),(2,vi r5),(3,.own 3 0),(ex10 v7)] [(3,25,qc12 b3)] (To.again ?_)))))
    exact ih r5 (IntKind.wrap .i64 (v7 + 1)) _ h hQ
  ·refine Wp.exit (To.thenX (To.thenX (kt [2] [] [(2,vi v2)] [] ?_)))
   cases h
   exact hQ
def ref08_Left_b (R_ref08_Left:S_api_Node → Int → Int → Option (Int)) (n:Nat) (a0:S_api_Node) (a1:Int) (a2:Int):Option (Int) :=
 lett ((bif (bif (bif (decide ((IntKind.wrap .i64 (a2 - 1)) < 0)) then true else (decide (a1 > 12))) then true else (decide (a0.f_Kind < 0))) then true else (decide (a0.f_Kind > 3))):Bool) fun x1 =>
 if x1 = true then (some (-1))
 else (lett ((bif (bif (bif (a0.f_Kind != 1) then (decide ((List.length a0.f_Text:Int) > 0)) else false) then true else (bif (a0.f_Kind != 3) then (decide ((List.length a0.f_Keys:Int) > 0)) else false)) then true else (bif (decide (a0.f_Kind < 2)) then (decide ((List.length a0.f_Kids:Int) > 0)) else false)):Bool) fun x2 =>
 if x2 = true then (some (-1))
 else (((if (((bif ((List.length a0.f_Keys:Int) != (List.length a0.f_Kids:Int)) then true else (decide ((List.length a0.f_Kids:Int) > (IntKind.wrap .i64 (a2 - 1))))) == false) && ((a0.f_Kind == 3) == true)) = true then ref02_Sorted n a0.f_Keys else some [])).bind fun r3 =>
 lett ((bif (a0.f_Kind == 3) then (bif (bif ((List.length a0.f_Keys:Int) != (List.length a0.f_Kids:Int)) then true else (decide ((List.length a0.f_Kids:Int) > (IntKind.wrap .i64 (a2 - 1))))) then true else ((List.length r3:Int) != (List.length a0.f_Keys:Int))) else false):Bool) fun x4 =>
 if x4 = true then (some (-1))
 else ((ref08_Left_l1 R_ref08_Left n a1 a0 n (IntKind.wrap .i64 (a2 - 1)) 0).bind fun o5 =>
 (Sum.elim (fun o5=>some o5) (fun o5=>some o5)) o5)))
abbrev ex11 (x0:Int):Nat × D:=(2,vi (IntKind.wrap .i64 (x0 - 1)))
theorem ok_ref08_Left_b (R_ref08_Left:S_api_Node → Int → Int → Option (Int)) (hR_ref08_Left:hR11 R_ref08_Left) (n:Nat) (a0:S_api_Node) (a1:Int) (a2:Int) (r:Int) (h:ref08_Left_b R_ref08_Left n a0 a1 a2 = some r):CallsX Tryz.prog 23 [.agg (qc12 a0),vi a1,vi a2] (vi r):=by
 unfold ref08_Left_b at h
 refine xo Tryz.f23 rfl fun F0 w0 _=>?_
 refine Wp.seq (rg [1,2,3] [3] [(1,vi a1),(2,vi a2),(3,.own 3 0)] [(3,25,qc12 a0)] (To.thenN (Wp.seq (rg [1,2,3] [3] [(1,vi a1),(ex11 a2),(3,.own 3 0)] [(3,25,qc12 a0)] (To.thenN (Wp.seq (Wp.seq ?_)))))))
 obtain ⟨x1,hx1,h⟩:=lett_of h
 refine rg [1,2,3,25] [3] [(1,vi a1),(ex11 a2),(3,.own 3 0),(25,vb (bif (bif (bif (decide ((IntKind.wrap .i64 (a2 - 1)) < 0)) then true else (decide (a1 > 12))) then true else (decide (a0.f_Kind < 0))) then true else (decide (a0.f_Kind > 3))))] [(3,25,qc12 a0)] (To.eq (K':=[(1,vi a1),(ex11 a2),(3,.own 3 0),(25,vb x1)]) (L':=[(3,25,qc12 a0)]) (by cases hx1; rfl) (by cases hx1; rfl) (To.thenN (cn h (fun h=>?_) (fun h=>?_))))
 ·refine Wp.seq (rg [6] [] [(6,vi (-1))] [] (To.thenN (Wp.ret (To.thenR ?_))))
  cases h
  exact To.done hΓ (by kernel_rfl)
 ·refine Wp.skip (To.thenN (Wp.seq (Wp.seq ?_)))
  obtain ⟨x2,hx2,h⟩:=lett_of h
  refine rg [1,2,3,56] [3] [(1,vi a1),(ex11 a2),(3,.own 3 0),(56,vb (bif (bif (bif (a0.f_Kind != 1) then (decide ((List.length a0.f_Text:Int) > 0)) else false) then true else (bif (a0.f_Kind != 3) then (decide ((List.length a0.f_Keys:Int) > 0)) else false)) then true else (bif (decide (a0.f_Kind < 2)) then (decide ((List.length a0.f_Kids:Int) > 0)) else false)))] [(3,25,qc12 a0)] (To.eq (K':=[(1,vi a1),(ex11 a2),(3,.own 3 0),(56,vb x2)]) (L':=[(3,25,qc12 a0)]) (by cases hx2; rfl) (by cases hx2; rfl) (To.thenN (cn h (fun h=>?_) (fun h=>?_))))
  ·refine Wp.seq (rg [6] [] [(6,vi (-1))] [] (To.thenN (Wp.ret (To.thenR ?_))))
   cases h
   exact To.done hΓ (by kernel_rfl)
  ·refine Wp.skip (To.thenN (Wp.seq (Wp.seq ?_)))
   obtain ⟨r3,hr3,h⟩:=bind_of h
   obtain ⟨x4,hx4,h⟩:=lett_of h
   refine Wp.regionD hm hΓ [(21,ls r3)] [1,2,3,85] [3] (K':=[(1,vi a1),(ex11 a2),(3,.own 3 0),(85,vb (bif (a0.f_Kind == 3) then (bif (bif ((List.length a0.f_Keys:Int) != (List.length a0.f_Kids:Int)) then true else (decide ((List.length a0.f_Kids:Int) > (IntKind.wrap .i64 (a2 - 1))))) then true else ((List.length r3:Int) != (List.length a0.f_Keys:Int))) else false))]) (L':=[(3,25,qc12 a0)]) (ob:=[((((bif ((List.length a0.f_Keys:Int) != (List.length a0.f_Kids:Int)) then true else (decide ((List.length a0.f_Kids:Int) > (IntKind.wrap .i64 (a2 - 1))))) == false) && ((a0.f_Kind == 3) == true)) = true → CX Tryz.prog 45 [ls a0.f_Keys] (ls r3))]) (by kernel_rfl) (AllP.cons (fun hg=>cx (ok_ref02_Sorted n a0.f_Keys _ (if_t hg hr3))) AllP.nil) (To.eq (K':=[(1,vi a1),(ex11 a2),(3,.own 3 0),(85,vb x4)]) (L':=[(3,25,qc12 a0)]) (by cases hx4; rfl) (by cases hx4; rfl) (To.thenN (cn h (fun h=>?_) (fun h=>?_))))
   ·refine Wp.seq (rg [6] [] [(6,vi (-1))] [] (To.thenN (Wp.ret (To.thenR ?_))))
    cases h
    exact To.done hΓ (by kernel_rfl)
   ·refine Wp.skip (To.thenN (Wp.seq (Wp.seq (rg [1,2,3,7] [3] [(1,vi a1),(ex11 a2),(3,.own 3 0),(7,vi 0)] [(3,25,qc12 a0)] (To.thenN (Wp.block ?_))))))
    obtain ⟨o5,ho5,h⟩:=bind_of h
    refine kw [1,2,3,7] [3] [(1,vi a1),(ex11 a2),(3,.own 3 0),(7,vi 0)] [(3,25,qc12 a0)] (Wp.loopL (ok_ref08_Left_l1 R_ref08_Left hR_ref08_Left n a1 a0 n (IntKind.wrap .i64 (a2 - 1)) 0 o5 ho5 ?_))
    rcases o5 with o5 | o5
    ·replace h:=sum_l h
     refine To.blockX (To.thenN (Wp.seq (rg [6] [] [(6,vi o5)] [] (To.thenN (Wp.ret ?_)))))
     cases h
     exact To.done hΓ (by kernel_rfl)
    ·replace h:=sum_r h
     refine To.blockR (To.thenR ?_)
     cases h
     exact To.done hΓ (by kernel_rfl)
def ref08_Left:Nat → S_api_Node → Int → Int → Option (Int)
 | 0=>fun _ _ _=>none
 | n + 1=>ref08_Left_b (ref08_Left n) n
theorem ok_ref08_Left (n:Nat):∀ (a0:S_api_Node) (a1:Int) (a2:Int) (r:Int),ref08_Left n a0 a1 a2 = some r → CallsX Tryz.prog 23 [.agg (qc12 a0),vi a1,vi a2] (vi r):=by
 induction n with
 | zero=>intro a0 a1 a2 r h; cases h
 | succ n ih=>exact fun a0 a1 a2 r h=>ok_ref08_Left_b (ref08_Left n) ih n a0 a1 a2 r h
def ref08_short_l1 (R_ref08_short:S_api_Node → Option (Bool)) (n:Nat) (b1:S_api_Node):Nat → Int → Option (Sum (Unit) (Bool))
 | 0,_=>none
 | k + 1,v3=>if (decide (v3 < (List.length b1.f_Keys:Int))) = true then (if (decide (0 ≤ v3 ∧ v3 < (List.length b1.f_Keys:Int))) = true then (if (decide ((List.length ((b1.f_Keys)[Int.toNat v3]?.getD []):Int) > 200)) = true then (some (.inr false))
 else (ref08_short_l1 R_ref08_short n b1 k (IntKind.wrap .i64 (v3 + 1)))) else none)
 else (some (.inl ()))
abbrev hR13 (R_ref08_short:S_api_Node → Option (Bool)):Prop:=∀ (a0:S_api_Node) (r:Bool),R_ref08_short a0 = some r → CallsX Tryz.prog 24 [.agg [vi a0.f_Kind,.str a0.f_Text,ls a0.f_Keys,tn10 a0.f_Kids]] (vb r)
theorem ok_ref08_short_l1 (R_ref08_short:S_api_Node → Option (Bool)) (hR_ref08_short:hR13 R_ref08_short) (n:Nat) (b1:S_api_Node) {F0:Fz} {w0:Pt Tryz.prog} {Q:Exit → Act → World → Prop} (k:Nat):∀ (v3:Int) (o:Sum (Unit) (Bool)),ref08_short_l1 R_ref08_short n b1 k v3 = some o → (Sum.elim (fun s=>To 37 F0 w0 [(1,.own 1 0)] [(1,25,qc12 b1)] (.exit 0) Q) (fun s=>To 37 F0 w0 [(2,vb s)] [] .ret Q)) o → WL Tryz.prog 37 F0 w0 [(1,.own 1 0),(3,vi v3)] [(1,25,qc12 b1)] (cI (cI (cB (cA (cB (cB (cF Tryz.f24))))))) Q:=by
 induction k with
 | zero=>intro v3 o h; cases h
 | succ k ih =>
  intro v3 o h hQ
  rw [ref08_short_l1] at h
  refine WL.round (Wp.seq (Wp.seq (rg [1,3,13] [1] [(1,.own 1 0),(3,vi v3),(13,vb (decide (v3 < (List.length b1.f_Keys:Int))))] [(1,25,qc12 b1)] (To.thenN (cn h (fun h=>?_) (fun h=>?_))))))
  ·refine Wp.skip (To.thenN (Wp.seq (Wp.block (Wp.seq ?_))))
   obtain ⟨hc1,h⟩:=chk_of h
   refine r0 [1,3,22] [1] [(1,.own 1 0),(3,vi v3),(22,vb (decide ((List.length ((b1.f_Keys)[Int.toNat v3]?.getD []):Int) > 200)))] [(1,25,qc12 b1)] (AllP.cons hc1 AllP.nil) (To.thenN (cn h (fun h=>?_) (fun h=>?_)))
   ·refine Wp.seq (rg [2] [] [(2,vb false)] [] (To.thenN (Wp.ret (To.blockR (To.thenR (To.thenR ?_))))))
    cases h
    exact hQ
   ·refine Wp.skip (To.blockN (To.thenN (rg [1,3] [1] [(1,.own 1 0),(3,vi (IntKind.wrap .i64 (v3 + 1)))] [(1,25,qc12 b1)] (kt [1,3] [1] [(1,.own 1 0),(3,vi (IntKind.wrap .i64 (v3 + 1)))] [(1,25,qc12 b1)] (To.again ?_)))))
    exact ih (IntKind.wrap .i64 (v3 + 1)) _ h hQ
  ·refine Wp.exit (To.thenX (To.thenX (kt [1] [1] [(1,.own 1 0)] [(1,25,qc12 b1)] ?_)))
   cases h
   exact hQ
def ref08_short_l2 (R_ref08_short:S_api_Node → Option (Bool)) (n:Nat) (b1:S_api_Node):Nat → Int → Option (Sum (Unit) (Bool))
 | 0,_=>none
 | k + 1,v4=>if (decide (v4 < (List.length b1.f_Kids:Int))) = true then (if (decide (0 ≤ v4 ∧ v4 < (List.length b1.f_Kids:Int))) = true then ((R_ref08_short ((b1.f_Kids)[Int.toNat v4]?.getD (S_api_Node.mk 0 [] [] []))).bind fun r2 =>
 if (!r2) = true then (some (.inr false))
 else (ref08_short_l2 R_ref08_short n b1 k (IntKind.wrap .i64 (v4 + 1)))) else none)
 else (some (.inl ()))
abbrev ex12 (x0:Int):Nat × D:=(4,vi (IntKind.wrap .i64 (x0 + 1)))
theorem ok_ref08_short_l2 (R_ref08_short:S_api_Node → Option (Bool)) (hR_ref08_short:hR13 R_ref08_short) (n:Nat) (b1:S_api_Node) {F0:Fz} {w0:Pt Tryz.prog} {Q:Exit → Act → World → Prop} (k:Nat):∀ (v4:Int) (o:Sum (Unit) (Bool)),ref08_short_l2 R_ref08_short n b1 k v4 = some o → (Sum.elim (fun s=>To 37 F0 w0 [] [] (.exit 2) Q) (fun s=>To 37 F0 w0 [(2,vb s)] [] .ret Q)) o → WL Tryz.prog 37 F0 w0 [(1,.own 1 0),(4,vi v4)] [(1,25,qc12 b1)] (cI (cI (cB (cA (cB (cB (cB (cF Tryz.f24)))))))) Q:=by
 induction k with
 | zero=>intro v4 o h; cases h
 | succ k ih =>
  intro v4 o h hQ
  rw [ref08_short_l2] at h
  refine WL.round (Wp.seq (Wp.seq (rg [1,4,27] [1] [(1,.own 1 0),(4,vi v4),(27,vb (ex8 v4 b1))] [(1,25,qc12 b1)] (To.thenN (cn h (fun h=>?_) (fun h=>?_))))))
  ·refine Wp.skip (To.thenN (Wp.seq (Wp.block (Wp.seq ?_))))
   obtain ⟨hc3,h⟩:=chk_of h
   obtain ⟨r2,hr2,h⟩:=bind_of h
   refine rr [] [(5,vb r2)] [] [1,4,36] [1] [(1,.own 1 0),(4,vi v4),(36,vb (!r2))] [(1,25,qc12 b1)] [_,(true = true → CX Tryz.prog 24 [.agg [vi ((ex7 b1 v4).f_Kind),.str ((ex7 b1 v4).f_Text),ls ((ex7 b1 v4).f_Keys),tn10 ((ex7 b1 v4).f_Kids)]] (vb r2))] (AllP.cons hc3 (AllP.cons (fun _=>cx (hR_ref08_short (ex7 b1 v4) _ hr2)) AllP.nil)) (To.thenN (cn h (fun h=>?_) (fun h=>?_)))
   ·refine Wp.seq (rg [2] [] [(2,vb false)] [] (To.thenN (Wp.ret (To.blockR (To.thenR (To.thenR ?_))))))
    cases h
    exact hQ
   ·refine Wp.skip (To.blockN (To.thenN (rg [1,4] [1] [(1,.own 1 0),(ex12 v4)] [(1,25,qc12 b1)] (kt [1,4] [1] [(1,.own 1 0),(ex12 v4)] [(1,25,qc12 b1)] (To.again ?_)))))
    exact ih (IntKind.wrap .i64 (v4 + 1)) _ h hQ
  ·refine Wp.exit (To.thenX (To.thenX (kt [] [] [] [] ?_)))
   cases h
   exact hQ
def ref08_short_b (R_ref08_short:S_api_Node → Option (Bool)) (n:Nat) (a0:S_api_Node):Option (Bool) :=
 if (decide ((List.length a0.f_Text:Int) > 200)) = true then some false
 else ((ref08_short_l1 R_ref08_short n a0 n 0).bind fun o1 =>
 (Sum.elim (fun o1=>(ref08_short_l2 R_ref08_short n a0 n 0).bind fun o2 =>
 (Sum.elim (fun o2=>some true) (fun o2=>some o2)) o2) (fun o1=>some o1)) o1)
theorem ok_ref08_short_b (R_ref08_short:S_api_Node → Option (Bool)) (hR_ref08_short:hR13 R_ref08_short) (n:Nat) (a0:S_api_Node) (r:Bool) (h:ref08_short_b R_ref08_short n a0 = some r):CallsX Tryz.prog 24 [.agg (qc12 a0)] (vb r):=by
 unfold ref08_short_b at h
 refine xo Tryz.f24 rfl fun F0 w0 _=>?_
 refine Wp.seq (rg [1] [1] [(1,.own 1 0)] [(1,25,qc12 a0)] (To.thenN (Wp.seq (Wp.seq (rg [1,8] [1] [(1,.own 1 0),(8,vb (decide ((List.length a0.f_Text:Int) > 200)))] [(1,25,qc12 a0)] (To.thenN (cn h (fun h=>?_) (fun h=>?_))))))))
 ·refine Wp.seq (rg [2] [] [(2,vb false)] [] (To.thenN (Wp.ret (To.thenR ?_))))
  cases h
  exact To.done hΓ (by kernel_rfl)
 ·refine Wp.skip (To.thenN (Wp.seq (Wp.seq (rg [1,3] [1] [(1,.own 1 0),(3,vi 0)] [(1,25,qc12 a0)] (To.thenN (Wp.block ?_))))))
  obtain ⟨o1,ho1,h⟩:=bind_of h
  refine kw [1,3] [1] [(1,.own 1 0),(3,vi 0)] [(1,25,qc12 a0)] (Wp.loopL (ok_ref08_short_l1 R_ref08_short hR_ref08_short n a0 n 0 o1 ho1 ?_))
  rcases o1 with o1 | o1
  ·replace h:=sum_l h
   refine To.blockX (To.thenN (Wp.seq (Wp.seq (rg [1,4] [1] [(1,.own 1 0),(4,vi 0)] [(1,25,qc12 a0)] (To.thenN (Wp.block ?_))))))
   obtain ⟨o2,ho2,h⟩:=bind_of h
   refine kw [1,4] [1] [(1,.own 1 0),(4,vi 0)] [(1,25,qc12 a0)] (Wp.loopL (ok_ref08_short_l2 R_ref08_short hR_ref08_short n a0 n 0 o2 ho2 ?_))
   rcases o2 with o2 | o2
   ·replace h:=sum_l h
    refine To.blockX (To.thenN (Wp.seq (rg [2] [] [(2,vb true)] [] (To.thenN (Wp.ret ?_)))))
    cases h
    exact To.done hΓ (by kernel_rfl)
   ·replace h:=sum_r h
    refine To.blockR (To.thenR ?_)
    cases h
    exact To.done hΓ (by kernel_rfl)
  ·replace h:=sum_r h
   refine To.blockR (To.thenR ?_)
   cases h
   exact To.done hΓ (by kernel_rfl)
def ref08_short:Nat → S_api_Node → Option (Bool)
 | 0=>fun _=>none
 | n + 1=>ref08_short_b (ref08_short n) n
theorem ok_ref08_short (n:Nat):∀ (a0:S_api_Node) (r:Bool),ref08_short n a0 = some r → CallsX Tryz.prog 24 [.agg (qc12 a0)] (vb r):=by
 induction n with
 | zero=>intro a0 r h; cases h
 | succ n ih=>exact fun a0 r h=>ok_ref08_short_b (ref08_short n) ih n a0 r h
def ref08_Small (n:Nat) (a0:S_api_Node) (a1:Int):Option (Bool) :=
 (ref08_Left n a0 1 a1).bind fun r1 =>
 ((if ((decide (r1 ≥ 0)) == true) = true then ref08_short n a0 else some false)).bind fun r2 =>
 some (bif (decide (r1 ≥ 0)) then r2 else false)
theorem ok_ref08_Small (n:Nat) (a0:S_api_Node) (a1:Int) (r:Bool) (h:ref08_Small n a0 a1 = some r):CallsX Tryz.prog 5 [.agg (qc12 a0),vi a1] (vb r):=by
 unfold ref08_Small at h
 refine xo Tryz.f5 rfl fun F0 w0 _=>?_
 refine Wp.seq (rg [1,2] [2] [(1,vi a1),(2,.own 2 0)] [(2,25,qc12 a0)] (To.thenN (Wp.seq ?_)))
 obtain ⟨r1,hr1,h⟩:=bind_of h
 obtain ⟨r2,hr2,h⟩:=bind_of h
 refine rr [] [(2,vi r1),(6,vb r2)] [] [4] [] [(4,vb (bif (decide (r1 ≥ 0)) then r2 else false))] [] [_,(((decide (r1 ≥ 0)) == true) = true → CX Tryz.prog 24 [.agg (qc12 a0)] (vb r2))] (AllP.cons (c1 (ok_ref08_Left n a0 1 a1 _ hr1)) (AllP.cons (fun hg=>cx (ok_ref08_short n a0 _ (if_t hg hr2))) AllP.nil)) (To.thenN (Wp.ret ?_))
 cases h
 exact To.done hΓ (by kernel_rfl)
def law12_Few_l1 (n:Nat) (v0:List (S_api_Var)):Nat → Int → Option (Sum (Unit) (Bool))
 | 0,_=>none
 | k + 1,v5=>if (decide (v5 < (List.length v0:Int))) = true then (if (decide (0 ≤ v5 ∧ v5 < (List.length v0:Int))) = true then (if ((!((decide ((List.length (((v0)[Int.toNat v5]?.getD (S_api_Var.mk [] [])).f_Key):Int) > 100)) == false) || decide (0 ≤ v5 ∧ v5 < (List.length v0:Int)))) = true then (lett ((bif (decide ((List.length (((v0)[Int.toNat v5]?.getD (S_api_Var.mk [] [])).f_Key):Int) > 100)) then true else (decide ((List.length (((v0)[Int.toNat v5]?.getD (S_api_Var.mk [] [])).f_Val):Int) > 100))):Bool) fun x1 =>
 if x1 = true then (some (.inr false))
 else (law12_Few_l1 n v0 k (IntKind.wrap .i64 (v5 + 1)))) else none) else none)
 else (some (.inl ()))
abbrev zx14:S_api_Var:=S_api_Var.mk [] []
abbrev rs15 (l:List (S_api_Var)):D:=.recs (α:=S_api_Var) zx14 E_api_Var l
abbrev ex13 (x0:List (S_api_Var)) (x1:Int):=((x0)[Int.toNat x1]?.getD zx14)
abbrev ex14 (x0:Int) (x1:List (S_api_Var)):=(decide (0 ≤ x0 ∧ x0 < (List.length x1:Int)))
theorem ok_law12_Few_l1 (n:Nat) (v0:List (S_api_Var)) {F0:Fz} {w0:Pt Tryz.prog} {Q:Exit → Act → World → Prop} (k:Nat):∀ (v5:Int) (o:Sum (Unit) (Bool)),law12_Few_l1 n v0 k v5 = some o → (Sum.elim (fun s=>To 32 F0 w0 [] [] (.exit 0) Q) (fun s=>To 32 F0 w0 [(4,vb s)] [] .ret Q)) o → WL Tryz.prog 32 F0 w0 [(0,rs15 v0),(5,vi v5)] [] (cI (cI (cB (cA (cB (cB (cF Tryz.f6))))))) Q:=by
 induction k with
 | zero=>intro v5 o h; cases h
 | succ k ih =>
  intro v5 o h hQ
  rw [law12_Few_l1] at h
  refine WL.round (Wp.seq (Wp.seq (rg [0,5,13] [] [(0,rs15 v0),(5,vi v5),(13,vb (decide (v5 < (List.length v0:Int))))] [] (To.thenN (cn h (fun h=>?_) (fun h=>?_))))))
  ·refine Wp.skip (To.thenN (Wp.seq (Wp.block (Wp.seq ?_))))
   obtain ⟨hc2,h⟩:=chk_of h
   obtain ⟨hc3,h⟩:=chk_of h
   obtain ⟨x1,hx1,h⟩:=lett_of h
   refine r0 [0,5,31] [] [(0,rs15 v0),(5,vi v5),(31,vb (bif (decide ((List.length ((ex13 v0 v5).f_Key):Int) > 100)) then true else (decide ((List.length ((ex13 v0 v5).f_Val):Int) > 100))))] [] (AllP.cons hc2 (AllP.cons hc3 AllP.nil)) (To.eq (K':=[(0,rs15 v0),(5,vi v5),(31,vb x1)]) (L':=[]) (by cases hx1; rfl) (by cases hx1; rfl) (To.thenN (cn h (fun h=>?_) (fun h=>?_))))
   ·refine Wp.seq (rg [4] [] [(4,vb false)] [] (To.thenN (Wp.ret (To.blockR (To.thenR (To.thenR ?_))))))
    cases h
    exact hQ
   ·refine Wp.skip (To.blockN (To.thenN (rg [0,5] [] [(0,rs15 v0),(ex6 v5)] [] (kt [0,5] [] [(0,rs15 v0),(ex6 v5)] [] (To.again ?_)))))
    exact ih (IntKind.wrap .i64 (v5 + 1)) _ h hQ
  ·refine Wp.exit (To.thenX (To.thenX (kt [] [] [] [] ?_)))
   cases h
   exact hQ
def law12_Few (n:Nat) (a0:List (S_api_Var)) (a1:Int):Option (Bool) :=
 if (decide ((List.length a0:Int) > a1)) = true then some false
 else ((law12_Few_l1 n a0 n 0).bind fun o1 =>
 (Sum.elim (fun o1=>some true) (fun o1=>some o1)) o1)
theorem ok_law12_Few (n:Nat) (a0:List (S_api_Var)) (a1:Int) (r:Bool) (h:law12_Few n a0 a1 = some r):CallsX Tryz.prog 6 [rs15 a0,vi a1] (vb r):=by
 unfold law12_Few at h
 refine xo Tryz.f6 rfl fun F0 w0 _=>?_
 refine Wp.seq (rg [0,1] [] [(0,rs15 a0),(1,vi a1)] [] (To.thenN (Wp.seq (Wp.seq (rg [0,9] [] [(0,rs15 a0),(9,vb (decide ((List.length a0:Int) > a1)))] [] (To.thenN (cn h (fun h=>?_) (fun h=>?_))))))))
 ·refine Wp.seq (rg [4] [] [(4,vb false)] [] (To.thenN (Wp.ret (To.thenR ?_))))
  cases h
  exact To.done hΓ (by kernel_rfl)
 ·refine Wp.skip (To.thenN (Wp.seq (Wp.seq (rg [0,5] [] [(0,rs15 a0),(5,vi 0)] [] (To.thenN (Wp.block ?_))))))
  obtain ⟨o1,ho1,h⟩:=bind_of h
  refine kw [0,5] [] [(0,rs15 a0),(5,vi 0)] [] (Wp.loopL (ok_law12_Few_l1 n a0 n 0 o1 ho1 ?_))
  rcases o1 with o1 | o1
  ·replace h:=sum_l h
   refine To.blockX (To.thenN (Wp.seq (rg [4] [] [(4,vb true)] [] (To.thenN (Wp.ret ?_)))))
   cases h
   exact To.done hΓ (by kernel_rfl)
  ·replace h:=sum_r h
   refine To.blockR (To.thenR ?_)
   cases h
   exact To.done hΓ (by kernel_rfl)
structure S_tmpl_reader where
 f_s:List UInt8
 f_at:Int
 f_e:Int
theorem good_E_tmpl_Part (l:List (S_tmpl_Part)):GoodR (.recs (S_tmpl_Part.mk [] [] 0 []) E_tmpl_Part l):=⟨Nat.le_of_ble_eq_true (by kernel_rfl),fun _=>⟨rfl,rfl⟩⟩
def tmpl_reader_parts_1__o0__o1 (n:Nat) (h0:List (UInt8)) (h1:List (S_tmpl_Part)):Option ((List (UInt8)) × (List (S_tmpl_Part))) :=
 if (decide ((List.length h0:Int) > 0)) = true then (if (decide ((List.length h1 + List.length ([(S_tmpl_Part.mk [] [] 0 [])]:List (S_tmpl_Part))) * (64 + 1) ≤ limit)) = true then (if (decide (0 ≤ (List.length h1:Int) ∧ (List.length h1:Int) < (List.length (h1 ++ ([(S_tmpl_Part.mk [] [] 0 [])]:List (S_tmpl_Part))):Int))) = true then (lett ((List.set (h1 ++ ([(S_tmpl_Part.mk [] [] 0 [])]:List (S_tmpl_Part))) (Int.toNat (List.length h1:Int)) (S_tmpl_Part.mk [] h0 0 [])):List (S_tmpl_Part)) fun x1 =>
 some ([],x1)) else none) else none)
 else (some (h0,h1))
abbrev rc16 (l:List (S_tmpl_Part)):D:=.rowc false (α:=S_tmpl_Part) zx2 E_tmpl_Part l
theorem ok_tmpl_reader_parts_1__o0__o1 (n:Nat) (h0:List (UInt8)) (h1:List (S_tmpl_Part)) (r:(List (UInt8)) × (List (S_tmpl_Part))) (h:tmpl_reader_parts_1__o0__o1 n h0 h1 = some r):CallsB Tryz.prog 72 [.own 1000000 0,.own 1000001 0] [(1000000,75,[.row 1010000]),(1000001,56,[.row 1010100]),(1010000,5,[rc4 h0]),(1010100,91,[rc16 h1])] (.tup []) [(200,5,[rc4 r.1]),(300,91,[rc16 r.2]),(1000000,75,[.row 200]),(1000001,56,[.row 300])]:=by
 unfold tmpl_reader_parts_1__o0__o1 at h
 refine bo Tryz.f72 rfl fun F0 w0=>?_
 refine nw [0,1] [1000000,1000001,1010000,1010100] [(1010000,504000),(1010100,504060)] [0,1] [504000,504060,1000000,1000001] [(0,.own 1000000 0),(1,.own 1000001 0)] [(504000,5,[rc4 h0]),(504060,91,[rc16 h1]),(1000000,75,[.row 504000]),(1000001,56,[.row 504060])] (Wp.seq (rg [0,1,4] [504000,504060,1000000,1000001] [(0,.own 1000000 0),(1,.own 1000001 0),(4,vb (decide ((List.length h0:Int) > 0)))] [(504000,5,[rc4 h0]),(504060,91,[rc16 h1]),(1000000,75,[.row 504000]),(1000001,56,[.row 504060])] (To.thenN (cn h (fun h=>?_) (fun h=>?_)))))
 ·refine Wp.seq ?_
  obtain ⟨hc2,h⟩:=chk_of h
  obtain ⟨hc3,h⟩:=chk_of h
  obtain ⟨x1,hx1,h⟩:=lett_of h
  refine Wp.regionO hm hΓ [] [(2,.str h0),(5,rs3 ([zx2])),(6,rs3 (h1 ++ ([zx2]:List (S_tmpl_Part)))),(8,rs3 (List.set (h1 ++ ([zx2]:List (S_tmpl_Part))) (Int.toNat (List.length h1:Int)) (S_tmpl_Part.mk [] h0 0 [])))] [] [0,1,4,5,6,7,8,9,10,11,12] [10,11,504000,504060,1000000,1000001] [0] [11,504000,1000000,1000001] (K':=[(0,.own 1000000 0)]) (L':=[(11,91,[rc16 (List.set (h1 ++ ([zx2]:List (S_tmpl_Part))) (Int.toNat (List.length h1:Int)) (S_tmpl_Part.mk [] h0 0 []))]),(504000,5,[rc4 h0]),(1000000,75,[.row 504000]),(1000001,56,[.row 11])]) (ob:=[(true = true → StrOb (List.flatMap e8 h0) (.str h0)),(MkOb 4 [.str [],.str [],vi 0,.val (.slice none 0 0)] 1 (rs3 ([zx2])) ∧ GoodR (rs3 ([zx2]))),(decide ((List.length h1 + List.length ([zx2]:List (S_tmpl_Part))) * (64 + 1) ≤ limit)) = true,(AppOb zx2 E_tmpl_Part h1 (List.flatMap E_tmpl_Part ([zx2]:List (S_tmpl_Part))) (List.length ([zx2]:List (S_tmpl_Part))) (rs3 (h1 ++ ([zx2]:List (S_tmpl_Part)))) ∧ GoodR (rs3 (h1 ++ ([zx2]:List (S_tmpl_Part))))),(decide (0 ≤ (List.length h1:Int) ∧ (List.length h1:Int) < (List.length (h1 ++ ([zx2]:List (S_tmpl_Part))):Int))) = true,(decide (0 ≤ (List.length h1:Int) ∧ (List.length h1:Int) < (List.length (h1 ++ ([zx2]:List (S_tmpl_Part))):Int))) = true,UpdOb zx2 E_tmpl_Part (h1 ++ ([zx2]:List (S_tmpl_Part))) (List.length h1:Int) 0 [.str [],.str h0,vi 0,.val (.slice none 0 0)] (rs3 (List.set (h1 ++ ([zx2]:List (S_tmpl_Part))) (Int.toNat (List.length h1:Int)) (S_tmpl_Part.mk [] h0 0 [])))]) (by kernel_rfl) (by kernel_rfl) (AllP.cons (fun _=>strOb (flat8 _)) (AllP.cons (mkObW (weaks_eq (ds:=[.str [],.str [],vi 0,.val (.slice none 0 0)]) (es:=[.str [],.str [],vi 0,tn5 []]) (by kernel_rfl) (.cons (.refl _) (.cons (.refl _) (.cons (.refl _) (.cons (.zeroT _ _ _) .nil)))) (by kernel_rfl)) rfl (by kernel_rfl) (good_E_tmpl_Part _)) (AllP.cons hc2 (AllP.cons (appOb rfl rfl (good_E_tmpl_Part _)) (AllP.cons hc3 (AllP.cons hc3 (AllP.cons (updObW (weaks_eq (ds:=[.str [],.str h0,vi 0,.val (.slice none 0 0)]) (es:=[.str [],.str h0,vi 0,tn5 []]) (by kernel_rfl) (.cons (.refl _) (.cons (.refl _) (.cons (.refl _) (.cons (.zeroT _ _ _) .nil)))) (by kernel_rfl))) AllP.nil))))))) (To.eq (K':=[(0,.own 1000000 0)]) (L':=[(11,91,[rc16 x1]),(504000,5,[rc4 h0]),(1000000,75,[.row 504000]),(1000001,56,[.row 11])]) (by cases hx1; rfl) (by cases hx1; rfl) (To.thenN (rg [] [11,1000000,1000001] [] [(11,91,[rc16 x1]),(1000000,75,[.val (.slice none 0 0)]),(1000001,56,[.row 11])] (To.fin (kt [] [11,1000000,1000001] [] [(11,91,[rc16 x1]),(1000000,75,[.val (.slice none 0 0)]),(1000001,56,[.row 11])] (To.pre (St.vacantB 1000000 0 504000 5 (good8 _) (by decide) (by kernel_rfl) (L':=[(11,91,[rc16 x1]),(1000000,75,[.row 504000]),(1000001,56,[.row 11])]) (by kernel_rfl)) (nt [] [11,504000,1000000,1000001] [(504000,200),(11,300)] [] [200,300,1000000,1000001] [] [(200,5,[rc4 []]),(300,91,[rc16 x1]),(1000000,75,[.row 200]),(1000001,56,[.row 300])] ?_)))))))
  cases h
  exact To.doneB hΓ [200,300,1000000,1000001] (by kernel_rfl) (by kernel_rfl)
 ·refine Wp.skip (To.fin (nt [] [504000,504060,1000000,1000001] [(504000,200),(504060,300)] [] [200,300,1000000,1000001] [] [(200,5,[rc4 h0]),(300,91,[rc16 h1]),(1000000,75,[.row 200]),(1000001,56,[.row 300])] ?_))
  cases h
  exact To.doneB hΓ [200,300,1000000,1000001] (by kernel_rfl) (by kernel_rfl)
def tmpl_reader_deeper__o0_j1 (v6:Bool) (b1000000:S_tmpl_reader):S_tmpl_reader :=
 if v6 = true then ((S_tmpl_reader.mk b1000000.f_s b1000000.f_at 9))
 else b1000000
abbrev qc17 (x:S_tmpl_reader):List D:=[.str x.f_s,vi x.f_at,vi x.f_e]
theorem ok_tmpl_reader_deeper__o0_j1 (v6:Bool) (b1000000:S_tmpl_reader) (o:S_tmpl_reader) (h:tmpl_reader_deeper__o0_j1 v6 b1000000 = o) {F0:Fz} {w0:Pt Tryz.prog} {Q:Exit → Act → World → Prop} (hQ:To 15 F0 w0 [(0,.own 1000000 0)] [(1000000,88,qc17 o)] .normal Q):Wp Tryz.prog 15 F0 w0 [(0,.own 1000000 0),(6,vb v6)] [(1000000,88,qc17 b1000000)] (cB (cA (cB (cF Tryz.f94)))) Q:=by
 unfold tmpl_reader_deeper__o0_j1 at h
 refine cn h (fun h=>?_) (fun h=>?_)
 ·refine rg [0] [1000000] [(0,.own 1000000 0)] [(1000000,88,[.str b1000000.f_s,vi b1000000.f_at,vi 9])] (kt [0] [1000000] [(0,.own 1000000 0)] [(1000000,88,[.str b1000000.f_s,vi b1000000.f_at,vi 9])] ?_)
  cases h
  exact hQ
 ·refine Wp.skip (kt [0] [1000000] [(0,.own 1000000 0)] [(1000000,88,qc17 b1000000)] ?_)
  cases h
  exact hQ
def tmpl_reader_deeper__o0 (a1:Int) (h0:S_tmpl_reader):Bool × S_tmpl_reader :=
 lett (tmpl_reader_deeper__o0_j1 (decide (a1 > 8)) h0) fun o1 =>
 ((o1.f_e != 0),o1)
theorem ok_tmpl_reader_deeper__o0 (a1:Int) (h0:S_tmpl_reader) (r:Bool × S_tmpl_reader) (h:tmpl_reader_deeper__o0 a1 h0 = r):CallsB Tryz.prog 94 [.own 1000000 0,vi a1] [(1000000,88,qc17 h0)] (vb r.1) [(1000000,88,qc17 r.2)]:=by
 unfold tmpl_reader_deeper__o0 at h
 refine bo Tryz.f94 rfl fun F0 w0=>?_
 refine Wp.seq (rg [0,1] [1000000] [(0,.own 1000000 0),(1,vi a1)] [(1000000,88,qc17 h0)] (To.thenN (Wp.seq (Wp.seq (rg [0,6] [1000000] [(0,.own 1000000 0),(6,vb (decide (a1 > 8)))] [(1000000,88,qc17 h0)] (To.thenN ?_))))))
 obtain ⟨o1,ho1,h⟩:=lett_of h
 refine kw [0,6] [1000000] [(0,.own 1000000 0),(6,vb (decide (a1 > 8)))] [(1000000,88,qc17 h0)] (ok_tmpl_reader_deeper__o0_j1 (decide (a1 > 8)) h0 o1 ho1 (To.thenN (Wp.seq (rg [4] [1000000] [(4,vb (o1.f_e != 0))] [(1000000,88,qc17 o1)] (To.thenN (Wp.ret ?_))))))
 cases h
 exact To.doneB hΓ [1000000] (by kernel_rfl) (by kernel_rfl)
def tmpl_word (a0:Int):Bool :=
 lett ((bif (bif (bif (a0 == 95) then true else (bif (decide (a0 ≥ 48)) then (decide (a0 ≤ 57)) else false)) then true else (bif (decide (a0 ≥ 97)) then (decide (a0 ≤ 122)) else false)) then true else (bif (decide (a0 ≥ 65)) then (decide (a0 ≤ 90)) else false)):Bool) fun x1 =>
 x1
abbrev ex15 (x0:Int):=(bif (decide (x0 ≥ 97)) then (decide (x0 ≤ 122)) else false)
abbrev ex16 (x0:Int):=(bif (decide (x0 ≥ 48)) then (decide (x0 ≤ 57)) else false)
abbrev ex17 (x0:Int):=(bif (decide (x0 ≥ 65)) then (decide (x0 ≤ 90)) else false)
theorem ok_tmpl_word (a0:Int) (r:Bool) (h:tmpl_word a0 = r):CallsX Tryz.prog 125 [.val (.int .u8 a0)] (vb r):=by
 unfold tmpl_word at h
 refine xo Tryz.f125 rfl fun F0 w0 _=>?_
 refine Wp.seq (rg [0] [] [(0,.val (.int .u8 a0))] [] (To.thenN (Wp.seq ?_)))
 obtain ⟨x1,hx1,h⟩:=lett_of h
 refine rg [2] [] [(2,vb (bif (bif (bif (a0 == 95) then true else (ex16 a0)) then true else (ex15 a0)) then true else (ex17 a0)))] [] (To.eq (K':=[(2,vb x1)]) (L':=[]) (by cases hx1; rfl) (by cases hx1; rfl) (To.thenN (Wp.ret ?_)))
 cases h
 exact To.done hΓ (by kernel_rfl)
def name_small (a0:Int):Bool :=
 (bif (decide (a0 ≥ 97)) then (decide (a0 ≤ 122)) else false)
theorem ok_name_small (a0:Int) (r:Bool) (h:name_small a0 = r):CallsX Tryz.prog 86 [.val (.int .u8 a0)] (vb r):=by
 unfold name_small at h
 refine xo Tryz.f86 rfl fun F0 w0 _=>?_
 refine Wp.seq (rg [0] [] [(0,.val (.int .u8 a0))] [] (To.thenN (Wp.seq (rg [2] [] [(2,vb (ex15 a0))] [] (To.thenN (Wp.ret ?_))))))
 cases h
 exact To.done hΓ (by kernel_rfl)
def name_letter (a0:Int):Bool :=
 (bif (name_small a0) then true else (bif (decide (a0 ≥ 65)) then (decide (a0 ≤ 90)) else false))
theorem ok_name_letter (a0:Int) (r:Bool) (h:name_letter a0 = r):CallsX Tryz.prog 59 [.val (.int .u8 a0)] (vb r):=by
 unfold name_letter at h
 refine xo Tryz.f59 rfl fun F0 w0 _=>?_
 refine Wp.seq (rg [0] [] [(0,.val (.int .u8 a0))] [] (To.thenN (Wp.seq (rc [] 1 [2] [] [(2,vb (bif (name_small a0) then true else (ex17 a0)))] [] (ok_name_small a0 _ rfl) (To.thenN (Wp.ret ?_))))))
 cases h
 exact To.done hΓ (by kernel_rfl)
def name_Variable_1 (a0:Int):Bool :=
 (bif (name_letter a0) then true else (a0 == 95))
theorem ok_name_Variable_1 (a0:Int) (r:Bool) (h:name_Variable_1 a0 = r):CallsX Tryz.prog 58 [.val (.int .u8 a0)] (vb r):=by
 unfold name_Variable_1 at h
 refine xo Tryz.f58 rfl fun F0 w0 _=>?_
 refine Wp.seq (rg [0] [] [(0,.val (.int .u8 a0))] [] (To.thenN (Wp.seq (rc [] 1 [2] [] [(2,vb (bif (name_letter a0) then true else (a0 == 95)))] [] (ok_name_letter a0 _ rfl) (To.thenN (Wp.ret ?_))))))
 cases h
 exact To.done hΓ (by kernel_rfl)
def name_number (a0:Int):Bool :=
 (bif (decide (a0 ≥ 48)) then (decide (a0 ≤ 57)) else false)
theorem ok_name_number (a0:Int) (r:Bool) (h:name_number a0 = r):CallsX Tryz.prog 61 [.val (.int .u8 a0)] (vb r):=by
 unfold name_number at h
 refine xo Tryz.f61 rfl fun F0 w0 _=>?_
 refine Wp.seq (rg [0] [] [(0,.val (.int .u8 a0))] [] (To.thenN (Wp.seq (rg [2] [] [(2,vb (ex16 a0))] [] (To.thenN (Wp.ret ?_))))))
 cases h
 exact To.done hΓ (by kernel_rfl)
def name_Variable_2 (a0:Int):Bool :=
 (bif (bif (name_letter a0) then true else (name_number a0)) then true else (a0 == 95))
theorem ok_name_Variable_2 (a0:Int) (r:Bool) (h:name_Variable_2 a0 = r):CallsX Tryz.prog 60 [.val (.int .u8 a0)] (vb r):=by
 unfold name_Variable_2 at h
 refine xo Tryz.f60 rfl fun F0 w0 _=>?_
 refine Wp.seq (rg [0] [] [(0,.val (.int .u8 a0))] [] (To.thenN (Wp.seq (rr [] [(1,vb (name_letter a0)),(4,vb (name_number a0))] [] [2] [] [(2,vb (bif (bif (name_letter a0) then true else (name_number a0)) then true else (a0 == 95)))] [] [_,(((name_letter a0) == false) = true → CX Tryz.prog 61 [.val (.int .u8 a0)] (vb (name_number a0)))] (AllP.cons (c1 (ok_name_letter a0 _ rfl)) (AllP.cons (fun _=>cx (ok_name_number a0 _ rfl)) AllP.nil)) (To.thenN (Wp.ret ?_))))))
 cases h
 exact To.done hΓ (by kernel_rfl)
def name_of__name_Variable_1__name_Variable_2_l1 (n:Nat) (v0:List UInt8):Nat → Int → Option (Sum (Unit) (Bool))
 | 0,_=>none
 | k + 1,v7=>if (decide (v7 < (List.length v0:Int))) = true then (if (decide (0 ≤ v7 ∧ v7 < (List.length v0:Int))) = true then (if (!(name_Variable_2 (((v0)[Int.toNat v7]?.getD 0).toNat:Int))) = true then (some (.inr false))
 else (name_of__name_Variable_1__name_Variable_2_l1 n v0 k (IntKind.wrap .i64 (v7 + 1)))) else none)
 else (some (.inl ()))
abbrev ex18 (x0:List UInt8) (x1:Int):=(((x0)[Int.toNat x1]?.getD 0).toNat:Int)
abbrev ex19 (x0:Int) (x1:List UInt8):=(decide (x0 < (List.length x1:Int)))
abbrev ex20 (x0:Int) (x1:List UInt8):=(decide (0 ≤ x0 ∧ x0 < (List.length x1:Int)))
theorem ok_name_of__name_Variable_1__name_Variable_2_l1 (n:Nat) (v0:List UInt8) {F0:Fz} {w0:Pt Tryz.prog} {Q:Exit → Act → World → Prop} (k:Nat):∀ (v7:Int) (o:Sum (Unit) (Bool)),name_of__name_Variable_1__name_Variable_2_l1 n v0 k v7 = some o → (Sum.elim (fun s=>To 35 F0 w0 [] [] (.exit 0) Q) (fun s=>To 35 F0 w0 [(6,vb s)] [] .ret Q)) o → WL Tryz.prog 35 F0 w0 [(0,.str v0),(2,.fn 60 []),(7,vi v7)] [] (cI (cI (cB (cA (cB (cB (cF Tryz.f57))))))) Q:=by
 induction k with
 | zero=>intro v7 o h; cases h
 | succ k ih =>
  intro v7 o h hQ
  rw [name_of__name_Variable_1__name_Variable_2_l1] at h
  refine WL.round (Wp.seq (Wp.seq (rg [0,2,7,26] [] [(0,.str v0),(2,.fn 60 []),(7,vi v7),(26,vb (ex19 v7 v0))] [] (To.thenN (cn h (fun h=>?_) (fun h=>?_))))))
  ·refine Wp.skip (To.thenN (Wp.seq (Wp.block (Wp.seq ?_))))
   obtain ⟨hc2,h⟩:=chk_of h
   refine rr [] [(4,vb (name_Variable_2 (ex18 v0 v7)))] [] [0,2,7,34] [] [(0,.str v0),(2,.fn 60 []),(7,vi v7),(34,vb (!(name_Variable_2 (ex18 v0 v7))))] [] [_,_] (AllP.cons hc2 (AllP.cons (c1 (ok_name_Variable_2 (ex18 v0 v7) _ rfl)) AllP.nil)) (To.thenN (cn h (fun h=>?_) (fun h=>?_)))
   ·refine Wp.seq (rg [6] [] [(6,vb false)] [] (To.thenN (Wp.ret (To.blockR (To.thenR (To.thenR ?_))))))
    cases h
    exact hQ
   ·refine Wp.skip (To.blockN (To.thenN (rg [0,2,7] [] [(0,.str v0),(2,.fn 60 []),(ex10 v7)] [] (kt [0,2,7] [] [(0,.str v0),(2,.fn 60 []),(ex10 v7)] [] (To.again ?_)))))
    exact ih (IntKind.wrap .i64 (v7 + 1)) _ h hQ
  ·refine Wp.exit (To.thenX (To.thenX (kt [] [] [] [] ?_)))
   cases h
   exact hQ
def name_of__name_Variable_1__name_Variable_2 (n:Nat) (a0:List UInt8):Option (Bool) :=
 if ((!((bif (decide ((List.length a0:Int) < 1)) then true else (decide ((List.length a0:Int) > 24))) == false) || decide (0 ≤ (0:Int) ∧ (0:Int) < (List.length a0:Int)))) = true then (lett ((bif (bif (decide ((List.length a0:Int) < 1)) then true else (decide ((List.length a0:Int) > 24))) then true else (!(name_Variable_1 (((a0)[Int.toNat 0]?.getD 0).toNat:Int)))):Bool) fun x1 =>
 if x1 = true then some false
 else ((name_of__name_Variable_1__name_Variable_2_l1 n a0 n 1).bind fun o2 =>
 (Sum.elim (fun o2=>some true) (fun o2=>some o2)) o2)) else none
abbrev ex21 (x0:List UInt8):=(bif (decide ((List.length x0:Int) < 1)) then true else (decide ((List.length x0:Int) > 24)))
theorem ok_name_of__name_Variable_1__name_Variable_2 (n:Nat) (a0:List UInt8) (r:Bool) (h:name_of__name_Variable_1__name_Variable_2 n a0 = some r):CallsX Tryz.prog 57 [.str a0,.fn 58 [],.fn 60 []] (vb r):=by
 unfold name_of__name_Variable_1__name_Variable_2 at h
 refine xo Tryz.f57 rfl fun F0 w0 _=>?_
 refine Wp.seq (rg [0,1,2] [] [(0,.str a0),(1,.fn 58 []),(2,.fn 60 [])] [] (To.thenN (Wp.seq (Wp.seq ?_))))
 obtain ⟨hc3,h⟩:=chk_of h
 obtain ⟨x1,hx1,h⟩:=lett_of h
 refine rr [] [(12,vb (name_Variable_1 (((a0)[Int.toNat 0]?.getD 0).toNat:Int)))] [] [0,2,22] [] [(0,.str a0),(2,.fn 60 []),(22,vb (bif (ex21 a0) then true else (!(name_Variable_1 (((a0)[Int.toNat 0]?.getD 0).toNat:Int)))))] [] [_,(((ex21 a0) == false) = true → CX Tryz.prog 58 [.val (.int .u8 (((a0)[Int.toNat 0]?.getD 0).toNat:Int))] (vb (name_Variable_1 (((a0)[Int.toNat 0]?.getD 0).toNat:Int))))] (AllP.cons hc3 (AllP.cons (fun _=>cx (ok_name_Variable_1 (((a0)[Int.toNat 0]?.getD 0).toNat:Int) _ rfl)) AllP.nil)) (To.eq (K':=[(0,.str a0),(2,.fn 60 []),(22,vb x1)]) (L':=[]) (by cases hx1; rfl) (by cases hx1; rfl) (To.thenN (cn h (fun h=>?_) (fun h=>?_))))
 ·refine Wp.seq (rg [6] [] [(6,vb false)] [] (To.thenN (Wp.ret (To.thenR ?_))))
  cases h
  exact To.done hΓ (by kernel_rfl)
 ·refine Wp.skip (To.thenN (Wp.seq (Wp.seq (rg [0,2,7] [] [(0,.str a0),(2,.fn 60 []),(7,vi 1)] [] (To.thenN (Wp.block ?_))))))
  obtain ⟨o2,ho2,h⟩:=bind_of h
  refine kw [0,2,7] [] [(0,.str a0),(2,.fn 60 []),(7,vi 1)] [] (Wp.loopL (ok_name_of__name_Variable_1__name_Variable_2_l1 n a0 n 1 o2 ho2 ?_))
  rcases o2 with o2 | o2
  ·replace h:=sum_l h
   refine To.blockX (To.thenN (Wp.seq (rg [6] [] [(6,vb true)] [] (To.thenN (Wp.ret ?_)))))
   cases h
   exact To.done hΓ (by kernel_rfl)
  ·replace h:=sum_r h
   refine To.blockR (To.thenR ?_)
   cases h
   exact To.done hΓ (by kernel_rfl)
def name_Variable (n:Nat) (a0:List UInt8):Option (Bool) :=
 (name_of__name_Variable_1__name_Variable_2 n a0).bind fun r1 =>
 some r1
theorem ok_name_Variable (n:Nat) (a0:List UInt8) (r:Bool) (h:name_Variable n a0 = some r):CallsX Tryz.prog 38 [.str a0] (vb r):=by
 unfold name_Variable at h
 refine xo Tryz.f38 rfl fun F0 w0 _=>?_
 refine Wp.seq (rg [0] [] [(0,.str a0)] [] (To.thenN (Wp.seq ?_)))
 obtain ⟨r1,hr1,h⟩:=bind_of h
 refine rc [] 1 [2] [] [(2,vb r1)] [] (ok_name_of__name_Variable_1__name_Variable_2 n a0 _ hr1) (To.thenN (Wp.ret ?_))
 cases h
 exact To.done hΓ (by kernel_rfl)
def tmpl_reader_name__o0_l1 (n:Nat) (v3:Int):Nat → S_tmpl_reader → Option (S_tmpl_reader)
 | 0,_=>none
 | k + 1,b1000000=>if ((!((decide (b1000000.f_at < (List.length b1000000.f_s:Int))) == true) || decide (0 ≤ b1000000.f_at ∧ b1000000.f_at < (List.length b1000000.f_s:Int)))) = true then (lett (tmpl_word (((b1000000.f_s)[Int.toNat b1000000.f_at]?.getD 0).toNat:Int)) fun r1 =>
 if (bif (decide (b1000000.f_at < (List.length b1000000.f_s:Int))) then r1 else false) = true then (tmpl_reader_name__o0_l1 n v3 k (S_tmpl_reader.mk b1000000.f_s (IntKind.wrap .i64 (b1000000.f_at + 1)) b1000000.f_e))
 else some b1000000) else none
abbrev ex22 (x0:S_tmpl_reader):Nat × Nat × List D:=(1000000,88,[.str x0.f_s,vi (IntKind.wrap .i64 (x0.f_at + 1)),vi x0.f_e])
abbrev ex23 (x0:S_tmpl_reader):=((x0.f_s)[Int.toNat x0.f_at]?.getD 0)
abbrev ex24 (x0:S_tmpl_reader):=(S_tmpl_reader.mk x0.f_s (IntKind.wrap .i64 (x0.f_at + 1)) x0.f_e)
abbrev ex25 (x0:S_tmpl_reader):=(List.length x0.f_s:Int)
theorem ok_tmpl_reader_name__o0_l1 (n:Nat) (v3:Int) {F0:Fz} {w0:Pt Tryz.prog} {Q:Exit → Act → World → Prop} (k:Nat):∀ (b1000000:S_tmpl_reader) (o:S_tmpl_reader),tmpl_reader_name__o0_l1 n v3 k b1000000 = some o → To 62 F0 w0 [(0,.own 1000000 0),(3,vi v3)] [(1000000,88,qc17 o)] (.exit 0) Q → WL Tryz.prog 62 F0 w0 [(0,.own 1000000 0),(3,vi v3)] [(1000000,88,qc17 b1000000)] (cI (cI (cA (cB (cB (cF Tryz.f95)))))) Q:=by
 induction k with
 | zero=>intro b1000000 o h; cases h
 | succ k ih =>
  intro b1000000 o h hQ
  rw [tmpl_reader_name__o0_l1] at h
  refine WL.round (Wp.seq (Wp.seq ?_))
  obtain ⟨hc2,h⟩:=chk_of h
  obtain ⟨r1,hr1,h⟩:=lett_of h
  refine Wp.regionD hm hΓ [(20,vb r1)] [0,3,29] [1000000] (K':=[(0,.own 1000000 0),(3,vi v3),(29,vb (bif (decide (b1000000.f_at < (ex25 b1000000))) then r1 else false))]) (L':=[(1000000,88,qc17 b1000000)]) (ob:=[(!((decide (b1000000.f_at < (ex25 b1000000))) == true) || decide (0 ≤ b1000000.f_at ∧ b1000000.f_at < (ex25 b1000000))) = true,(((decide (b1000000.f_at < (ex25 b1000000))) == true) = true → CX Tryz.prog 125 [.val (.int .u8 ((ex23 b1000000).toNat:Int))] (vb r1))]) (by kernel_rfl) (AllP.cons hc2 (AllP.cons (fun _=>cx (ok_tmpl_word ((ex23 b1000000).toNat:Int) _ hr1)) AllP.nil)) (To.thenN (cn h (fun h=>?_) (fun h=>?_)))
  ·refine Wp.skip (To.thenN (Wp.block (rg [0,3] [1000000] [(0,.own 1000000 0),(3,vi v3)] [(ex22 b1000000)] (To.blockN (To.again ?_)))))
   exact ih (ex24 b1000000) _ h hQ
  ·refine Wp.exit (To.thenX (To.thenX (kt [0,3] [1000000] [(0,.own 1000000 0),(3,vi v3)] [(1000000,88,qc17 b1000000)] ?_)))
   cases h
   exact hQ
def tmpl_reader_name__o0_j2 (n:Nat) (v3:Int) (v48:Bool) (b1000000:S_tmpl_reader):Option (S_tmpl_reader) :=
 if v48 = true then (some (S_tmpl_reader.mk b1000000.f_s b1000000.f_at 3))
 else some b1000000
theorem ok_tmpl_reader_name__o0_j2 (n:Nat) (v3:Int) (v48:Bool) (b1000000:S_tmpl_reader) (o:S_tmpl_reader) (h:tmpl_reader_name__o0_j2 n v3 v48 b1000000 = some o) {F0:Fz} {w0:Pt Tryz.prog} {Q:Exit → Act → World → Prop} (hQ:To 62 F0 w0 [(0,.own 1000000 0),(3,vi v3)] [(1000000,88,qc17 o)] .normal Q):Wp Tryz.prog 62 F0 w0 [(0,.own 1000000 0),(3,vi v3),(48,vb v48)] [(1000000,88,qc17 b1000000)] (cB (cA (cB (cB (cB (cF Tryz.f95)))))) Q:=by
 unfold tmpl_reader_name__o0_j2 at h
 refine cn h (fun h=>?_) (fun h=>?_)
 ·refine rg [0,3] [1000000] [(0,.own 1000000 0),(3,vi v3)] [(1000000,88,[.str b1000000.f_s,vi b1000000.f_at,vi 3])] (kt [0,3] [1000000] [(0,.own 1000000 0),(3,vi v3)] [(1000000,88,[.str b1000000.f_s,vi b1000000.f_at,vi 3])] ?_)
  cases h
  exact hQ
 ·refine Wp.skip (kt [0,3] [1000000] [(0,.own 1000000 0),(3,vi v3)] [(1000000,88,qc17 b1000000)] ?_)
  cases h
  exact hQ
def tmpl_reader_name__o0 (n:Nat) (h0:S_tmpl_reader):Option ((List UInt8) × S_tmpl_reader) :=
 (tmpl_reader_name__o0_l1 n h0.f_at n h0).bind fun o1 =>
 if (decide (0 ≤ o1.f_at ∧ o1.f_at ≤ (List.length o1.f_s:Int))) = true then (if (decide (0 ≤ h0.f_at ∧ h0.f_at ≤ o1.f_at)) = true then ((name_Variable n (List.take (Int.toNat o1.f_at - Int.toNat h0.f_at) (List.drop (Int.toNat h0.f_at) o1.f_s))).bind fun r2 =>
 (tmpl_reader_name__o0_j2 n h0.f_at (!r2) o1).bind fun o3 =>
 if (decide (0 ≤ o3.f_at ∧ o3.f_at ≤ (List.length o3.f_s:Int))) = true then (if (decide (0 ≤ h0.f_at ∧ h0.f_at ≤ o3.f_at)) = true then (some ((List.take (Int.toNat o3.f_at - Int.toNat h0.f_at) (List.drop (Int.toNat h0.f_at) o3.f_s)),o3)) else none) else none) else none) else none
theorem ok_tmpl_reader_name__o0 (n:Nat) (h0:S_tmpl_reader) (r:(List UInt8) × S_tmpl_reader) (h:tmpl_reader_name__o0 n h0 = some r):CallsB Tryz.prog 95 [.own 1000000 0] [(1000000,88,qc17 h0)] (.str r.1) [(1000000,88,qc17 r.2)]:=by
 unfold tmpl_reader_name__o0 at h
 refine bo Tryz.f95 rfl fun F0 w0=>?_
 refine Wp.seq (rg [0] [1000000] [(0,.own 1000000 0)] [(1000000,88,qc17 h0)] (To.thenN (Wp.seq (rg [0,3] [1000000] [(0,.own 1000000 0),(3,vi h0.f_at)] [(1000000,88,qc17 h0)] (To.thenN (Wp.seq (Wp.block ?_)))))))
 obtain ⟨o1,ho1,h⟩:=bind_of h
 refine kw [0,3] [1000000] [(0,.own 1000000 0),(3,vi h0.f_at)] [(1000000,88,qc17 h0)] (Wp.loopL (ok_tmpl_reader_name__o0_l1 n h0.f_at n h0 o1 ho1 (To.blockX (To.thenN (Wp.seq (Wp.seq ?_))))))
 obtain ⟨hc6,h⟩:=chk_of h
 obtain ⟨hc7,h⟩:=chk_of h
 obtain ⟨r2,hr2,h⟩:=bind_of h
 refine Wp.regionD hm hΓ [(10,vb r2)] [0,3,48] [1000000] (K':=[(0,.own 1000000 0),(3,vi h0.f_at),(48,vb (!r2))]) (L':=[(1000000,88,qc17 o1)]) (ob:=[(decide (0 ≤ o1.f_at ∧ o1.f_at ≤ (List.length o1.f_s:Int))) = true,(decide (0 ≤ h0.f_at ∧ h0.f_at ≤ o1.f_at)) = true,(true = true → CX Tryz.prog 38 [.str (List.take (Int.toNat o1.f_at - Int.toNat h0.f_at) (List.drop (Int.toNat h0.f_at) o1.f_s))] (vb r2))]) (by kernel_rfl) (AllP.cons hc6 (AllP.cons hc7 (AllP.cons (fun _=>cx (ok_name_Variable n (List.take (Int.toNat o1.f_at - Int.toNat h0.f_at) (List.drop (Int.toNat h0.f_at) o1.f_s)) _ hr2)) AllP.nil))) (To.thenN ?_)
 obtain ⟨o3,ho3,h⟩:=bind_of h
 refine kw [0,3,48] [1000000] [(0,.own 1000000 0),(3,vi h0.f_at),(48,vb (!r2))] [(1000000,88,qc17 o1)] (ok_tmpl_reader_name__o0_j2 n h0.f_at (!r2) o1 o3 ho3 (To.thenN (Wp.seq ?_)))
 obtain ⟨hc4,h⟩:=chk_of h
 obtain ⟨hc5,h⟩:=chk_of h
 refine Wp.regionD hm hΓ [] [2] [1000000] (K':=[(2,.str (List.take (Int.toNat o3.f_at - Int.toNat h0.f_at) (List.drop (Int.toNat h0.f_at) o3.f_s)))]) (L':=[(1000000,88,qc17 o3)]) (ob:=[(decide (0 ≤ o3.f_at ∧ o3.f_at ≤ (List.length o3.f_s:Int))) = true,(decide (0 ≤ h0.f_at ∧ h0.f_at ≤ o3.f_at)) = true]) (by kernel_rfl) (AllP.cons hc4 (AllP.cons hc5 AllP.nil)) (To.thenN (Wp.ret ?_))
 cases h
 exact To.doneB hΓ [1000000] (by kernel_rfl) (by kernel_rfl)
def tmpl_reader_mark__o0_j2 (n:Nat) (v3:Int) (v4:Int) (v7:List (List UInt8)) (v8:Int) (b1000000:S_tmpl_reader):Option (Int × Int) :=
 if (decide (0 ≤ v8 ∧ v8 < (8:Int))) = true then (if (decide (List.length v7 = 8)) = true then (if ((!((decide ((List.length ((v7)[Int.toNat v8]?.getD []):Int) > v4)) == true) || decide (0 ≤ b1000000.f_at ∧ b1000000.f_at ≤ (List.length b1000000.f_s:Int)))) = true then (lett ((bif (decide ((List.length ((v7)[Int.toNat v8]?.getD []):Int) > v4)) then (Lib.hasPrefix (List.drop (Int.toNat b1000000.f_at) b1000000.f_s) ((v7)[Int.toNat v8]?.getD [])) else false):Bool) fun x2 =>
 if x2 = true then (some (v8,(List.length ((v7)[Int.toNat v8]?.getD []):Int)))
 else (some (v3,v4))) else none) else none) else none
abbrev ex26 (x0:S_tmpl_reader):=(List.drop (Int.toNat x0.f_at) x0.f_s)
abbrev ex55 (x0:S_tmpl_reader):=(0 ≤ x0.f_at ∧ x0.f_at ≤ (ex25 x0))
theorem ok_tmpl_reader_mark__o0_j2 (n:Nat) (v3:Int) (v4:Int) (v7:List (List UInt8)) (v8:Int) (b1000000:S_tmpl_reader) (o:Int × Int) (h:tmpl_reader_mark__o0_j2 n v3 v4 v7 v8 b1000000 = some o) {F0:Fz} {w0:Pt Tryz.prog} {Q:Exit → Act → World → Prop} (hQ:To 42 F0 w0 [(0,.own 1000000 0),(3,vi o.1),(4,vi o.2),(7,.arr (α:=List UInt8) [] E_string v7),(8,vi v8)] [(1000000,88,qc17 b1000000)] .normal Q):Wp Tryz.prog 42 F0 w0 [(0,.own 1000000 0),(3,vi v3),(4,vi v4),(7,.arr (α:=List UInt8) [] E_string v7),(8,vi v8)] [(1000000,88,qc17 b1000000)] (cA (cB (cB (cI (cI (cB (cA (cB (cB (cF Tryz.f96)))))))))) Q:=by
 unfold tmpl_reader_mark__o0_j2 at h
 refine Wp.block (Wp.seq ?_)
 obtain ⟨hc4,h⟩:=chk_of h
 obtain ⟨hc5,h⟩:=chk_of h
 refine r0 [0,3,4,5,6,7,8] [1000000] [(0,.own 1000000 0),(3,vi v3),(4,vi v4),(5,vi v8),(6,.str ((v7)[Int.toNat v8]?.getD [])),(7,.arr (α:=List UInt8) [] E_string v7),(8,vi v8)] [(1000000,88,qc17 b1000000)] (AllP.cons hc4 (AllP.cons hc5 AllP.nil)) (To.thenN (Wp.seq ?_))
 obtain ⟨hc3,h⟩:=chk_of h
 obtain ⟨x2,hx2,h⟩:=lett_of h
 refine Wp.regionD hm hΓ [(15,vb (Lib.hasPrefix (ex26 b1000000) ((v7)[Int.toNat v8]?.getD [])))] [0,3,4,5,6,7,8,28] [1000000] (K':=[(0,.own 1000000 0),(3,vi v3),(4,vi v4),(5,vi v8),(6,.str ((v7)[Int.toNat v8]?.getD [])),(7,.arr (α:=List UInt8) [] E_string v7),(8,vi v8),(28,vb (bif (decide ((List.length ((v7)[Int.toNat v8]?.getD []):Int) > v4)) then (Lib.hasPrefix (ex26 b1000000) ((v7)[Int.toNat v8]?.getD [])) else false))]) (L':=[(1000000,88,qc17 b1000000)]) (ob:=[(!((decide ((List.length ((v7)[Int.toNat v8]?.getD []):Int) > v4)) == true) || decide (ex55 b1000000)) = true,(((decide ((List.length ((v7)[Int.toNat v8]?.getD []):Int) > v4)) == true) = true → CX Tryz.prog 73 [.str (ex26 b1000000),.str ((v7)[Int.toNat v8]?.getD [])] (vb (Lib.hasPrefix (ex26 b1000000) ((v7)[Int.toNat v8]?.getD []))))]) (by kernel_rfl) (AllP.cons hc3 (AllP.cons (fun _=>cx (Sh.hasPrefix73)) AllP.nil)) (To.eq (K':=[(0,.own 1000000 0),(3,vi v3),(4,vi v4),(5,vi v8),(6,.str ((v7)[Int.toNat v8]?.getD [])),(7,.arr (α:=List UInt8) [] E_string v7),(8,vi v8),(28,vb x2)]) (L':=[(1000000,88,qc17 b1000000)]) (by cases hx2; rfl) (by cases hx2; rfl) (To.thenN (cn h (fun h=>?_) (fun h=>?_))))
 ·refine rg [0,3,4,7,8] [1000000] [(0,.own 1000000 0),(3,vi v8),(4,vi (List.length ((v7)[Int.toNat v8]?.getD []):Int)),(7,.arr (α:=List UInt8) [] E_string v7),(8,vi v8)] [(1000000,88,qc17 b1000000)] (To.blockN ?_)
  cases h
  exact hQ
 ·refine Wp.skip (To.blockN (kt [0,3,4,7,8] [1000000] [(0,.own 1000000 0),(3,vi v3),(4,vi v4),(7,.arr (α:=List UInt8) [] E_string v7),(8,vi v8)] [(1000000,88,qc17 b1000000)] ?_))
  cases h
  exact hQ
def tmpl_reader_mark__o0_l1 (n:Nat) (v7:List (List UInt8)) (b1000000:S_tmpl_reader):Nat → Int → Int → Int → Option (Int × Int)
 | 0,_,_,_=>none
 | k + 1,v3,v4,v8=>if (decide (v8 < 8)) = true then ((tmpl_reader_mark__o0_j2 n v3 v4 v7 v8 b1000000).bind fun o2 =>
 tmpl_reader_mark__o0_l1 n v7 b1000000 k o2.1 o2.2 (IntKind.wrap .i64 (v8 + 1)))
 else (some (v3,v4))
theorem ok_tmpl_reader_mark__o0_l1 (n:Nat) (v7:List (List UInt8)) (b1000000:S_tmpl_reader) {F0:Fz} {w0:Pt Tryz.prog} {Q:Exit → Act → World → Prop} (k:Nat):∀ (v3:Int) (v4:Int) (v8:Int) (o:Int × Int),tmpl_reader_mark__o0_l1 n v7 b1000000 k v3 v4 v8 = some o → To 42 F0 w0 [(0,.own 1000000 0),(3,vi o.1),(4,vi o.2)] [(1000000,88,qc17 b1000000)] (.exit 0) Q → WL Tryz.prog 42 F0 w0 [(0,.own 1000000 0),(3,vi v3),(4,vi v4),(7,.arr (α:=List UInt8) [] E_string v7),(8,vi v8)] [(1000000,88,qc17 b1000000)] (cI (cI (cB (cA (cB (cB (cF Tryz.f96))))))) Q:=by
 induction k with
 | zero=>intro v3 v4 v8 o h; cases h
 | succ k ih =>
  intro v3 v4 v8 o h hQ
  rw [tmpl_reader_mark__o0_l1] at h
  refine WL.round (Wp.seq (rg [0,3,4,7,8,9] [1000000] [(0,.own 1000000 0),(3,vi v3),(4,vi v4),(7,.arr (α:=List UInt8) [] E_string v7),(8,vi v8),(9,vb (decide (v8 < 8)))] [(1000000,88,qc17 b1000000)] (To.thenN (Wp.seq (cn h (fun h=>?_) (fun h=>?_))))))
  ·refine Wp.skip (To.thenN (Wp.seq ?_))
   obtain ⟨o2,ho2,h⟩:=bind_of h
   refine kw [0,3,4,7,8] [1000000] [(0,.own 1000000 0),(3,vi v3),(4,vi v4),(7,.arr (α:=List UInt8) [] E_string v7),(8,vi v8)] [(1000000,88,qc17 b1000000)] (ok_tmpl_reader_mark__o0_j2 n v3 v4 v7 v8 b1000000 o2 ho2 (To.thenN (rg [0,3,4,7,8] [1000000] [(0,.own 1000000 0),(3,vi o2.1),(4,vi o2.2),(7,.arr (α:=List UInt8) [] E_string v7),(ex2 v8)] [(1000000,88,qc17 b1000000)] (kt [0,3,4,7,8] [1000000] [(0,.own 1000000 0),(3,vi o2.1),(4,vi o2.2),(7,.arr (α:=List UInt8) [] E_string v7),(ex2 v8)] [(1000000,88,qc17 b1000000)] (To.again ?_)))))
   exact ih o2.1 o2.2 (IntKind.wrap .i64 (v8 + 1)) _ h hQ
  ·refine Wp.exit (To.thenX (To.thenX (kt [0,3,4] [1000000] [(0,.own 1000000 0),(3,vi v3),(4,vi v4)] [(1000000,88,qc17 b1000000)] ?_)))
   cases h
   exact hQ
def tmpl_reader_mark__o0 (n:Nat) (h0:S_tmpl_reader):Option (Int × S_tmpl_reader) :=
 (tmpl_marks n).bind fun r1 =>
 (tmpl_reader_mark__o0_l1 n r1 h0 n 1 0 0).bind fun o2 =>
 some (o2.1,(S_tmpl_reader.mk h0.f_s (IntKind.wrap .i64 (h0.f_at + o2.2)) h0.f_e))
theorem ok_tmpl_reader_mark__o0 (n:Nat) (h0:S_tmpl_reader) (r:Int × S_tmpl_reader) (h:tmpl_reader_mark__o0 n h0 = some r):CallsB Tryz.prog 96 [.own 1000000 0] [(1000000,88,qc17 h0)] (vi r.1) [(1000000,88,qc17 r.2)]:=by
 unfold tmpl_reader_mark__o0 at h
 refine bo Tryz.f96 rfl fun F0 w0=>?_
 refine Wp.seq (rg [0] [1000000] [(0,.own 1000000 0)] [(1000000,88,qc17 h0)] (To.thenN (Wp.seq (rg [0,3,4] [1000000] [(0,.own 1000000 0),(3,vi 1),(4,vi 0)] [(1000000,88,qc17 h0)] (To.thenN (Wp.seq (Wp.seq ?_)))))))
 obtain ⟨r1,hr1,h⟩:=bind_of h
 refine rc [] 0 [0,3,4,7,8] [1000000] [(0,.own 1000000 0),(3,vi 1),(4,vi 0),(7,.arr (α:=List UInt8) [] E_string r1),(8,vi 0)] [(1000000,88,qc17 h0)] (ok_tmpl_marks n  _ hr1) (To.thenN (Wp.block ?_))
 obtain ⟨o2,ho2,h⟩:=bind_of h
 refine kw [0,3,4,7,8] [1000000] [(0,.own 1000000 0),(3,vi 1),(4,vi 0),(7,.arr (α:=List UInt8) [] E_string r1),(8,vi 0)] [(1000000,88,qc17 h0)] (Wp.loopL (ok_tmpl_reader_mark__o0_l1 n r1 h0 n 1 0 0 o2 ho2 (To.blockX (To.thenN (Wp.seq (rg [3] [1000000] [(3,vi o2.1)] [(1000000,88,[.str h0.f_s,vi (IntKind.wrap .i64 (h0.f_at + o2.2)),vi h0.f_e])] (To.thenN (Wp.seq (rg [2] [1000000] [(2,vi o2.1)] [(1000000,88,[.str h0.f_s,vi (IntKind.wrap .i64 (h0.f_at + o2.2)),vi h0.f_e])] (To.thenN (Wp.ret ?_)))))))))))
 cases h
 exact To.doneB hΓ [1000000] (by kernel_rfl) (by kernel_rfl)
def tmpl_reader_end__o0_j1 (n:Nat) (v30:Bool) (b1000000:S_tmpl_reader):Option (S_tmpl_reader) :=
 if v30 = true then (some (S_tmpl_reader.mk b1000000.f_s b1000000.f_at 3))
 else some b1000000
theorem ok_tmpl_reader_end__o0_j1 (n:Nat) (v30:Bool) (b1000000:S_tmpl_reader) (o:S_tmpl_reader) (h:tmpl_reader_end__o0_j1 n v30 b1000000 = some o) {F0:Fz} {w0:Pt Tryz.prog} {Q:Exit → Act → World → Prop} (hQ:To 41 F0 w0 [(0,.own 1000000 0)] [(1000000,88,qc17 o)] .normal Q):Wp Tryz.prog 41 F0 w0 [(0,.own 1000000 0),(30,vb v30)] [(1000000,88,qc17 b1000000)] (cB (cA (cF Tryz.f97))) Q:=by
 unfold tmpl_reader_end__o0_j1 at h
 refine cn h (fun h=>?_) (fun h=>?_)
 ·refine rg [0] [1000000] [(0,.own 1000000 0)] [(1000000,88,[.str b1000000.f_s,vi b1000000.f_at,vi 3])] (kt [0] [1000000] [(0,.own 1000000 0)] [(1000000,88,[.str b1000000.f_s,vi b1000000.f_at,vi 3])] ?_)
  cases h
  exact hQ
 ·refine Wp.skip (kt [0] [1000000] [(0,.own 1000000 0)] [(1000000,88,qc17 b1000000)] ?_)
  cases h
  exact hQ
def tmpl_reader_end__o0 (n:Nat) (h0:S_tmpl_reader):Option (S_tmpl_reader) :=
 if ((!(((h0.f_at == (List.length h0.f_s:Int)) == false) && ((h0.f_e == 0) == true)) || decide (0 ≤ h0.f_at ∧ h0.f_at < (List.length h0.f_s:Int)))) = true then (lett ((bif (h0.f_e == 0) then (bif (h0.f_at == (List.length h0.f_s:Int)) then true else ((((h0.f_s)[Int.toNat h0.f_at]?.getD 0).toNat:Int) != 125)) else false):Bool) fun x1 =>
 (tmpl_reader_end__o0_j1 n x1 h0).bind fun o2 =>
 some (S_tmpl_reader.mk o2.f_s (IntKind.wrap .i64 (o2.f_at + 1)) o2.f_e)) else none
theorem ok_tmpl_reader_end__o0 (n:Nat) (h0:S_tmpl_reader) (r:S_tmpl_reader) (h:tmpl_reader_end__o0 n h0 = some r):CallsB Tryz.prog 97 [.own 1000000 0] [(1000000,88,qc17 h0)] (.tup []) [(1000000,88,qc17 r)]:=by
 unfold tmpl_reader_end__o0 at h
 refine bo Tryz.f97 rfl fun F0 w0=>?_
 refine kw [0] [1000000] [(0,.own 1000000 0)] [(1000000,88,qc17 h0)] (Wp.seq (Wp.seq ?_))
 obtain ⟨hc3,h⟩:=chk_of h
 obtain ⟨x1,hx1,h⟩:=lett_of h
 refine Wp.regionD hm hΓ [] [0,30] [1000000] (K':=[(0,.own 1000000 0),(30,vb (bif (h0.f_e == 0) then (bif (h0.f_at == (List.length h0.f_s:Int)) then true else ((((h0.f_s)[Int.toNat h0.f_at]?.getD 0).toNat:Int) != 125)) else false))]) (L':=[(1000000,88,qc17 h0)]) (ob:=[(!(((h0.f_at == (List.length h0.f_s:Int)) == false) && ((h0.f_e == 0) == true)) || decide (0 ≤ h0.f_at ∧ h0.f_at < (List.length h0.f_s:Int))) = true]) (by kernel_rfl) (AllP.cons hc3 AllP.nil) (To.eq (K':=[(0,.own 1000000 0),(30,vb x1)]) (L':=[(1000000,88,qc17 h0)]) (by cases hx1; rfl) (by cases hx1; rfl) (To.thenN ?_))
 obtain ⟨o2,ho2,h⟩:=bind_of h
 refine kw [0,30] [1000000] [(0,.own 1000000 0),(30,vb x1)] [(1000000,88,qc17 h0)] (ok_tmpl_reader_end__o0_j1 n x1 h0 o2 ho2 (To.thenN (rg [] [1000000] [] [(1000000,88,[.str o2.f_s,vi (IntKind.wrap .i64 (o2.f_at + 1)),vi o2.f_e])] (To.fin ?_))))
 cases h
 exact To.doneB hΓ [1000000] (by kernel_rfl) (by kernel_rfl)
def tmpl_reader_reference__o0_j1 (R_tmpl_reader_parts__o0:Int → S_tmpl_reader → Option ((List (S_tmpl_Part)) × S_tmpl_reader)) (n:Nat) (v1:Int) (v24:Bool) (b4:S_tmpl_Part) (b5:S_tmpl_Part) (b1000000:S_tmpl_reader):Option (S_tmpl_Part × S_tmpl_reader) :=
 if v24 = true then ((R_tmpl_reader_parts__o0 (IntKind.wrap .i64 (v1 + 1)) b1000000).bind fun r4 =>
 some ((S_tmpl_Part.mk b5.f_Name b5.f_Text b5.f_Op r4.1),r4.2))
 else (some (b5,b1000000))
abbrev hR18 (R_tmpl_reader_parts__o0:Int → S_tmpl_reader → Option ((List (S_tmpl_Part)) × S_tmpl_reader)):Prop:=∀ (a1:Int) (h0:S_tmpl_reader) (r:(List (S_tmpl_Part)) × S_tmpl_reader),R_tmpl_reader_parts__o0 a1 h0 = some r → CallsB Tryz.prog 50 [.own 1000000 0,vi a1] [(1000000,88,[.str h0.f_s,vi h0.f_at,vi h0.f_e])] (rs3 r.1) [(1000000,88,[.str r.2.f_s,vi r.2.f_at,vi r.2.f_e])]
theorem ok_tmpl_reader_reference__o0_j1 (R_tmpl_reader_parts__o0:Int → S_tmpl_reader → Option ((List (S_tmpl_Part)) × S_tmpl_reader)) (hR_tmpl_reader_parts__o0:hR18 R_tmpl_reader_parts__o0) (n:Nat) (v1:Int) (v24:Bool) (b4:S_tmpl_Part) (b5:S_tmpl_Part) (b1000000:S_tmpl_reader) (o:S_tmpl_Part × S_tmpl_reader) (h:tmpl_reader_reference__o0_j1 R_tmpl_reader_parts__o0 n v1 v24 b4 b5 b1000000 = some o) {F0:Fz} {w0:Pt Tryz.prog} {Q:Exit → Act → World → Prop} (hQ:To 33 F0 w0 [(0,.own 1000000 0),(4,.own 4 0),(5,.own 5 0)] [(4,91,qc7 b4),(5,91,qc7 o.1),(1000000,88,qc17 o.2)] .normal Q):Wp Tryz.prog 33 F0 w0 [(0,.own 1000000 0),(1,vi v1),(4,.own 4 0),(5,.own 5 0),(24,vb v24)] [(4,91,qc7 b4),(5,91,qc7 b5),(1000000,88,qc17 b1000000)] (cB (cB (cA (cB (cB (cB (cB (cF Tryz.f74)))))))) Q:=by
 unfold tmpl_reader_reference__o0_j1 at h
 refine cn h (fun h=>?_) (fun h=>?_)
 ·obtain ⟨r4,hr4,h⟩:=bind_of h
  refine rb [] 3 ⟨[(1000000,1000000)],[(1000000,1000000)],[.own 1000000 0,vi (IntKind.wrap .i64 (v1 + 1))],[(1000000,88,qc17 b1000000)],rs3 r4.1,[(1000000,88,qc17 r4.2)]⟩ [0,4,5] [4,5,1000000] [(0,.own 1000000 0),(4,.own 4 0),(5,.own 5 0)] [(4,91,qc7 b4),(5,91,[.str b5.f_Name,.str b5.f_Text,vi b5.f_Op,rs3 r4.1]),(1000000,88,qc17 r4.2)] ((hR_tmpl_reader_parts__o0 (IntKind.wrap .i64 (v1 + 1)) b1000000 _ hr4)) (kt [0,4,5] [4,5,1000000] [(0,.own 1000000 0),(4,.own 4 0),(5,.own 5 0)] [(4,91,qc7 b4),(5,91,[.str b5.f_Name,.str b5.f_Text,vi b5.f_Op,rs3 r4.1]),(1000000,88,qc17 r4.2)] (To.weak (K':=[(0,.own 1000000 0),(4,.own 4 0),(5,.own 5 0)]) (L':=[(4,91,qc7 b4),(5,91,[.str b5.f_Name,.str b5.f_Text,vi b5.f_Op,tn5 r4.1]),(1000000,88,qc17 r4.2)]) (.cons (.refl _) (.cons (.refl _) (.cons (.refl _) .nil))) (.cons (.cons (.refl _) (.cons (.refl _) (.cons (.refl _) (.cons (.refl _) .nil)))) (.cons (.cons (.refl _) (.cons (.refl _) (.cons (.refl _) (.cons (.close _ _ _ _) .nil)))) (.cons (.cons (.refl _) (.cons (.refl _) (.cons (.refl _) .nil))) .nil))) ?_))
  cases h
  exact hQ
 ·refine Wp.skip (kt [0,4,5] [4,5,1000000] [(0,.own 1000000 0),(4,.own 4 0),(5,.own 5 0)] [(4,91,qc7 b4),(5,91,qc7 b5),(1000000,88,qc17 b1000000)] ?_)
  cases h
  exact hQ
def tmpl_reader_reference__o0 (R_tmpl_reader_parts__o0:Int → S_tmpl_reader → Option ((List (S_tmpl_Part)) × S_tmpl_reader)) (n:Nat) (a1:Int) (h0:S_tmpl_reader):Option (S_tmpl_Part × S_tmpl_reader) :=
 lett (tmpl_reader_deeper__o0 a1 h0) fun r1 =>
 if r1.1 = true then (some ((S_tmpl_Part.mk [] [] 0 []),r1.2))
 else ((tmpl_reader_name__o0 n r1.2).bind fun r2 =>
 if (r2.2.f_e != 0) = true then (some ((S_tmpl_Part.mk r2.1 [] 0 []),r2.2))
 else ((tmpl_reader_mark__o0 n r2.2).bind fun r3 =>
 (tmpl_reader_reference__o0_j1 R_tmpl_reader_parts__o0 n a1 (r3.1 != 1) (S_tmpl_Part.mk [] [] 0 []) (S_tmpl_Part.mk r2.1 [] r3.1 []) r3.2).bind fun o4 =>
 (tmpl_reader_end__o0 n o4.2).bind fun r5 =>
 some (o4.1,r5)))
theorem ok_tmpl_reader_reference__o0 (R_tmpl_reader_parts__o0:Int → S_tmpl_reader → Option ((List (S_tmpl_Part)) × S_tmpl_reader)) (hR_tmpl_reader_parts__o0:hR18 R_tmpl_reader_parts__o0) (n:Nat) (a1:Int) (h0:S_tmpl_reader) (r:S_tmpl_Part × S_tmpl_reader) (h:tmpl_reader_reference__o0 R_tmpl_reader_parts__o0 n a1 h0 = some r):CallsB Tryz.prog 74 [.own 1000000 0,vi a1] [(1000000,88,qc17 h0)] (.agg (qc7 r.1)) [(1000000,88,qc17 r.2)]:=by
 unfold tmpl_reader_reference__o0 at h
 refine bo Tryz.f74 rfl fun F0 w0=>?_
 refine Wp.seq (rg [0,1,4] [4,1000000] [(0,.own 1000000 0),(1,vi a1),(4,.own 4 0)] [(4,91,[.str [],.str [],vi 0,.val (.slice none 0 0)]),(1000000,88,qc17 h0)] (To.thenN (Wp.seq (Wp.seq ?_))))
 obtain ⟨r1,hr1,h⟩:=lett_of h
 refine rb [] 2 ⟨[(1000000,1000000)],[(1000000,1000000)],[.own 1000000 0,vi a1],[(1000000,88,qc17 h0)],vb r1.1,[(1000000,88,qc17 r1.2)]⟩ [0,1,4,8] [4,1000000] [(0,.own 1000000 0),(1,vi a1),(4,.own 4 0),(8,vb r1.1)] [(4,91,[.str [],.str [],vi 0,.val (.slice none 0 0)]),(1000000,88,qc17 r1.2)] ((ok_tmpl_reader_deeper__o0 a1 h0 _ hr1)) (To.thenN (cn h (fun h=>?_) (fun h=>?_)))
 ·refine Wp.seq (rg [4] [4,1000000] [(4,.own 4 0)] [(4,91,[.str [],.str [],vi 0,.val (.slice none 0 0)]),(1000000,88,qc17 r1.2)] (To.thenN (Wp.ret (To.thenR (To.weak (K':=[(4,.own 4 0)]) (L':=[(4,91,[.str [],.str [],vi 0,tn5 []]),(1000000,88,qc17 r1.2)]) (.cons (.refl _) .nil) (.cons (.cons (.refl _) (.cons (.refl _) (.cons (.refl _) (.cons (.zeroT _ _ _) .nil)))) (.cons (.cons (.refl _) (.cons (.refl _) (.cons (.refl _) .nil))) .nil)) ?_)))))
  cases h
  exact To.doneB hΓ [1000000] (by kernel_rfl) (by kernel_rfl)
 ·refine Wp.skip (To.thenN (Wp.seq ?_))
  obtain ⟨r2,hr2,h⟩:=bind_of h
  refine rb [] 1 ⟨[(1000000,1000000)],[(1000000,1000000)],[.own 1000000 0],[(1000000,88,qc17 r1.2)],.str r2.1,[(1000000,88,qc17 r2.2)]⟩ [0,1,4,5] [4,5,1000000] [(0,.own 1000000 0),(1,vi a1),(4,.own 4 0),(5,.own 5 0)] [(4,91,[.str [],.str [],vi 0,.val (.slice none 0 0)]),(5,91,[.str r2.1,.str [],vi 0,.val (.slice none 0 0)]),(1000000,88,qc17 r2.2)] ((ok_tmpl_reader_name__o0 n r1.2 _ hr2)) (To.thenN (Wp.seq (Wp.seq (rg [0,1,4,5,17] [4,5,1000000] [(0,.own 1000000 0),(1,vi a1),(4,.own 4 0),(5,.own 5 0),(17,vb (r2.2.f_e != 0))] [(4,91,[.str [],.str [],vi 0,.val (.slice none 0 0)]),(5,91,[.str r2.1,.str [],vi 0,.val (.slice none 0 0)]),(1000000,88,qc17 r2.2)] (To.thenN (cn h (fun h=>?_) (fun h=>?_)))))))
  ·refine Wp.seq (rg [4] [4,1000000] [(4,.own 4 0)] [(4,91,[.str r2.1,.str [],vi 0,.val (.slice none 0 0)]),(1000000,88,qc17 r2.2)] (To.thenN (Wp.ret (To.thenR (To.weak (K':=[(4,.own 4 0)]) (L':=[(4,91,[.str r2.1,.str [],vi 0,tn5 []]),(1000000,88,qc17 r2.2)]) (.cons (.refl _) .nil) (.cons (.cons (.refl _) (.cons (.refl _) (.cons (.refl _) (.cons (.zeroT _ _ _) .nil)))) (.cons (.cons (.refl _) (.cons (.refl _) (.cons (.refl _) .nil))) .nil)) ?_)))))
   cases h
   exact To.doneB hΓ [1000000] (by kernel_rfl) (by kernel_rfl)
  ·refine Wp.skip (To.thenN (Wp.seq (Wp.seq ?_)))
   obtain ⟨r3,hr3,h⟩:=bind_of h
   refine rb [] 1 ⟨[(1000000,1000000)],[(1000000,1000000)],[.own 1000000 0],[(1000000,88,qc17 r2.2)],vi r3.1,[(1000000,88,qc17 r3.2)]⟩ [0,1,4,5] [4,5,1000000] [(0,.own 1000000 0),(1,vi a1),(4,.own 4 0),(5,.own 5 0)] [(4,91,[.str [],.str [],vi 0,.val (.slice none 0 0)]),(5,91,[.str r2.1,.str [],vi r3.1,.val (.slice none 0 0)]),(1000000,88,qc17 r3.2)] ((ok_tmpl_reader_mark__o0 n r2.2 _ hr3)) (To.thenN (Wp.seq (rg [0,1,4,5,24] [4,5,1000000] [(0,.own 1000000 0),(1,vi a1),(4,.own 4 0),(5,.own 5 0),(24,vb (r3.1 != 1))] [(4,91,[.str [],.str [],vi 0,.val (.slice none 0 0)]),(5,91,[.str r2.1,.str [],vi r3.1,.val (.slice none 0 0)]),(1000000,88,qc17 r3.2)] (To.thenN ?_))))
   obtain ⟨o4,ho4,h⟩:=bind_of h
   refine kw [0,1,4,5,24] [4,5,1000000] [(0,.own 1000000 0),(1,vi a1),(4,.own 4 0),(5,.own 5 0),(24,vb (r3.1 != 1))] [(4,91,[.str [],.str [],vi 0,.val (.slice none 0 0)]),(5,91,[.str r2.1,.str [],vi r3.1,.val (.slice none 0 0)]),(1000000,88,qc17 r3.2)] (Wp.weak (K':=[(0,.own 1000000 0),(1,vi a1),(4,.own 4 0),(5,.own 5 0),(24,vb (r3.1 != 1))]) (L':=[(4,91,[.str [],.str [],vi 0,tn5 []]),(5,91,[.str r2.1,.str [],vi r3.1,tn5 []]),(1000000,88,qc17 r3.2)]) (.cons (.refl _) (.cons (.refl _) (.cons (.refl _) (.cons (.refl _) (.cons (.refl _) .nil))))) (.cons (.cons (.refl _) (.cons (.refl _) (.cons (.refl _) (.cons (.zeroT _ _ _) .nil)))) (.cons (.cons (.refl _) (.cons (.refl _) (.cons (.refl _) (.cons (.zeroT _ _ _) .nil)))) (.cons (.cons (.refl _) (.cons (.refl _) (.cons (.refl _) .nil))) .nil))) (ok_tmpl_reader_reference__o0_j1 R_tmpl_reader_parts__o0 hR_tmpl_reader_parts__o0 n a1 (r3.1 != 1) zx2 (S_tmpl_Part.mk r2.1 [] r3.1 []) r3.2 o4 ho4 (To.thenN (Wp.seq ?_))))
   obtain ⟨r5,hr5,h⟩:=bind_of h
   refine rb [] 1 ⟨[(1000000,1000000)],[(1000000,1000000)],[.own 1000000 0],[(1000000,88,qc17 o4.2)],.tup [],[(1000000,88,qc17 r5)]⟩ [4,5] [4,5,1000000] [(4,.own 4 0),(5,.own 5 0)] [(4,91,[.str [],.str [],vi 0,tn5 []]),(5,91,qc7 o4.1),(1000000,88,qc17 r5)] ((ok_tmpl_reader_end__o0 n o4.2 _ hr5)) (To.thenN (Wp.seq (rg [4] [4,1000000] [(4,.own 4 0)] [(4,91,qc7 o4.1),(1000000,88,qc17 r5)] (To.thenN (Wp.ret ?_)))))
   cases h
   exact To.doneB hΓ [1000000] (by kernel_rfl) (by kernel_rfl)
def tmpl_reader_plain__o0 (n:Nat) (a1:Int) (h0:S_tmpl_reader):Option (S_tmpl_Part × S_tmpl_reader) :=
 lett (tmpl_reader_deeper__o0 a1 h0) fun r1 =>
 if r1.1 = true then (some ((S_tmpl_Part.mk [] [] 0 []),r1.2))
 else ((tmpl_reader_name__o0 n r1.2).bind fun r2 =>
 some ((S_tmpl_Part.mk r2.1 [] 1 []),r2.2))
theorem ok_tmpl_reader_plain__o0 (n:Nat) (a1:Int) (h0:S_tmpl_reader) (r:S_tmpl_Part × S_tmpl_reader) (h:tmpl_reader_plain__o0 n a1 h0 = some r):CallsB Tryz.prog 75 [.own 1000000 0,vi a1] [(1000000,88,qc17 h0)] (.agg (qc7 r.1)) [(1000000,88,qc17 r.2)]:=by
 unfold tmpl_reader_plain__o0 at h
 refine bo Tryz.f75 rfl fun F0 w0=>?_
 refine Wp.seq (rg [0,1,4] [4,1000000] [(0,.own 1000000 0),(1,vi a1),(4,.own 4 0)] [(4,91,[.str [],.str [],vi 0,.val (.slice none 0 0)]),(1000000,88,qc17 h0)] (To.thenN (Wp.seq (Wp.seq ?_))))
 obtain ⟨r1,hr1,h⟩:=lett_of h
 refine rb [] 2 ⟨[(1000000,1000000)],[(1000000,1000000)],[.own 1000000 0,vi a1],[(1000000,88,qc17 h0)],vb r1.1,[(1000000,88,qc17 r1.2)]⟩ [0,4,7] [4,1000000] [(0,.own 1000000 0),(4,.own 4 0),(7,vb r1.1)] [(4,91,[.str [],.str [],vi 0,.val (.slice none 0 0)]),(1000000,88,qc17 r1.2)] ((ok_tmpl_reader_deeper__o0 a1 h0 _ hr1)) (To.thenN (cn h (fun h=>?_) (fun h=>?_)))
 ·refine Wp.seq (rg [4] [4,1000000] [(4,.own 4 0)] [(4,91,[.str [],.str [],vi 0,.val (.slice none 0 0)]),(1000000,88,qc17 r1.2)] (To.thenN (Wp.ret (To.thenR (To.weak (K':=[(4,.own 4 0)]) (L':=[(4,91,[.str [],.str [],vi 0,tn5 []]),(1000000,88,qc17 r1.2)]) (.cons (.refl _) .nil) (.cons (.cons (.refl _) (.cons (.refl _) (.cons (.refl _) (.cons (.zeroT _ _ _) .nil)))) (.cons (.cons (.refl _) (.cons (.refl _) (.cons (.refl _) .nil))) .nil)) ?_)))))
  cases h
  exact To.doneB hΓ [1000000] (by kernel_rfl) (by kernel_rfl)
 ·refine Wp.skip (To.thenN (Wp.seq ?_))
  obtain ⟨r2,hr2,h⟩:=bind_of h
  refine rb [] 1 ⟨[(1000000,1000000)],[(1000000,1000000)],[.own 1000000 0],[(1000000,88,qc17 r1.2)],.str r2.1,[(1000000,88,qc17 r2.2)]⟩ [4] [4,1000000] [(4,.own 4 0)] [(4,91,[.str r2.1,.str [],vi 1,.val (.slice none 0 0)]),(1000000,88,qc17 r2.2)] ((ok_tmpl_reader_name__o0 n r1.2 _ hr2)) (To.thenN (Wp.ret (To.weak (K':=[(4,.own 4 0)]) (L':=[(4,91,[.str r2.1,.str [],vi 1,tn5 []]),(1000000,88,qc17 r2.2)]) (.cons (.refl _) .nil) (.cons (.cons (.refl _) (.cons (.refl _) (.cons (.refl _) (.cons (.zeroT _ _ _) .nil)))) (.cons (.cons (.refl _) (.cons (.refl _) (.cons (.refl _) .nil))) .nil)) ?_)))
  cases h
  exact To.doneB hΓ [1000000] (by kernel_rfl) (by kernel_rfl)
def tmpl_reader_parts__o0_j2 (R_tmpl_reader_parts__o0:Int → S_tmpl_reader → Option ((List (S_tmpl_Part)) × S_tmpl_reader)) (n:Nat) (v1:Int) (v8:Int) (b5:List (S_tmpl_Part)) (b6:List (UInt8)) (b1000000:S_tmpl_reader):Option ((List (S_tmpl_Part)) × (List (UInt8)) × S_tmpl_reader) :=
 if (decide (0 ≤ b1000000.f_at ∧ b1000000.f_at ≤ (List.length b1000000.f_s:Int))) = true then (if (Lib.hasPrefix (List.drop (Int.toNat b1000000.f_at) b1000000.f_s) ([36]:List UInt8)) = true then (if (decide (0 ≤ v8 ∧ v8 < 256)) = true then (if (decide ((List.length b6 + List.length ([(UInt8.ofNat (Int.toNat v8))]:List (UInt8))) * (1 + 1) ≤ limit)) = true then (some (b5,(b6 ++ ([(UInt8.ofNat (Int.toNat v8))]:List (UInt8))),(S_tmpl_reader.mk b1000000.f_s (IntKind.wrap .i64 (b1000000.f_at + 1)) b1000000.f_e))) else none) else none)
 else (if (decide (0 ≤ b1000000.f_at ∧ b1000000.f_at ≤ (List.length b1000000.f_s:Int))) = true then (if (Lib.hasPrefix (List.drop (Int.toNat b1000000.f_at) b1000000.f_s) ([123]:List UInt8)) = true then ((tmpl_reader_parts_1__o0__o1 n b6 b5).bind fun r6 =>
 (tmpl_reader_reference__o0 R_tmpl_reader_parts__o0 n v1 (S_tmpl_reader.mk b1000000.f_s (IntKind.wrap .i64 (b1000000.f_at + 1)) b1000000.f_e)).bind fun r7 =>
 if (decide ((List.length r6.2 + List.length ([(S_tmpl_Part.mk [] [] 0 [])]:List (S_tmpl_Part))) * (64 + 1) ≤ limit)) = true then (if (decide (0 ≤ (List.length r6.2:Int) ∧ (List.length r6.2:Int) < (List.length (r6.2 ++ ([(S_tmpl_Part.mk [] [] 0 [])]:List (S_tmpl_Part))):Int))) = true then (some ((List.set (r6.2 ++ ([(S_tmpl_Part.mk [] [] 0 [])]:List (S_tmpl_Part))) (Int.toNat (List.length r6.2:Int)) r7.1),r6.1,r7.2)) else none) else none)
 else ((tmpl_reader_parts_1__o0__o1 n b6 b5).bind fun r10 =>
 (tmpl_reader_plain__o0 n v1 b1000000).bind fun r11 =>
 if (decide ((List.length r10.2 + List.length ([(S_tmpl_Part.mk [] [] 0 [])]:List (S_tmpl_Part))) * (64 + 1) ≤ limit)) = true then (if (decide (0 ≤ (List.length r10.2:Int) ∧ (List.length r10.2:Int) < (List.length (r10.2 ++ ([(S_tmpl_Part.mk [] [] 0 [])]:List (S_tmpl_Part))):Int))) = true then (some ((List.set (r10.2 ++ ([(S_tmpl_Part.mk [] [] 0 [])]:List (S_tmpl_Part))) (Int.toNat (List.length r10.2:Int)) r11.1),r10.1,r11.2)) else none) else none)) else none)) else none
end Go.Proofs.YtibgdilkodjojaaGreatDoor.M
