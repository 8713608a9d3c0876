import Derived.Test.YtibgdilkodjojaaDoorQRxAnyD
import Derived.Test.YtibgdilkodjojaaDoorQRxArgs
import Derived.Test.YtibgdilkodjojaaDoorQRxGoto
import Derived.Test.YtibgdilkodjojaaDoorQRxNil
import Derived.Test.YtibgdilkodjojaaDoorQRxOrd
import Derived.Test.YtibgdilkodjojaaDoorQRxEqArr
import Derived.Test.YtibgdilkodjojaaDoorQRxEnd
import Derived.Test.YtibgdilkodjojaaDoorQRxKeys
import Derived.Test.YtibgdilkodjojaaDoorQRxRec
import Derived.Test.YtibgdilkodjojaaDoorQSh14
import Derived.Test.YtibgdilkodjojaaDoorQBld14
import Derived.Test.YtibgdilkodjojaaDoorProg
set_option linter.all false
namespace Go.Proofs.YtibgdilkodjojaaDoor.M
open Go.RowKit Go.Proofs.YtibgdilkodjojaaDoor.RX
set_option maxRecDepth 100000
def tab:List (Nat × TI):=[
 (3,{ agg:=false,size:=1,zero:=[.int .i64 0],kind:=.int .i64,eqs:=[] }),
 (4,{ agg:=false,size:=1,zero:=[.bool false],kind:=.bool,eqs:=[] }),
 (9,{ agg:=false,size:=1,zero:=[.string ⟨#[]⟩],kind:=.str,eqs:=[] }),
 (22,{ agg:=false,size:=1,zero:=[.slice none 0 0],kind:=.slice 2 true,elt:=43,eb:=32,ez:=[.string ⟨#[]⟩,.string ⟨#[]⟩],ek:=none,eqs:=[] }),
 (26,{ agg:=false,size:=1,zero:=[.int .i64 0],kind:=.int .i64,eqs:=[] }),
 (30,{ agg:=true,size:=4,zero:=[.string ⟨#[]⟩,.string ⟨#[]⟩,.string ⟨#[]⟩,.int .i64 0],kind:=.struct [(0,1,false),(1,1,false),(2,1,false),(3,1,false)],eqs:=[] }),
 (32,{ agg:=false,size:=1,zero:=[.slice none 0 0],kind:=.slice 4 true,elt:=68,eb:=64,ez:=[.string ⟨#[]⟩,.string ⟨#[]⟩,.int .i64 0,.slice none 0 0],ek:=none,eqs:=[] }),
 (39,{ agg:=false,size:=1,zero:=[.slice none 0 0],kind:=.slice 1 false,elt:=9,eb:=16,ez:=[.string ⟨#[]⟩],ek:=none,eqs:=[] }),
 (43,{ agg:=true,size:=2,zero:=[.string ⟨#[]⟩,.string ⟨#[]⟩],kind:=.struct [(0,1,false),(1,1,false)],eqs:=[] }),
 (56,{ agg:=false,size:=1,zero:=[.slice none 0 0],kind:=.slice 4 true,elt:=96,eb:=64,ez:=[.string ⟨#[]⟩,.string ⟨#[]⟩,.int .i64 0,.slice none 0 0],ek:=none,eqs:=[] }),
 (61,{ agg:=true,size:=3,zero:=[.string ⟨#[]⟩,.int .i64 0,.int .i64 0],kind:=.struct [(0,1,false),(1,1,false),(2,1,false)],eqs:=[] }),
 (64,{ agg:=true,size:=3,zero:=[.int .i64 0,.string ⟨#[]⟩,.string ⟨#[]⟩],kind:=.struct [(0,1,false),(1,1,false),(2,1,false)],eqs:=[] }),
 (68,{ agg:=true,size:=4,zero:=[.string ⟨#[]⟩,.string ⟨#[]⟩,.int .i64 0,.slice none 0 0],kind:=.struct [(0,1,false),(1,1,false),(2,1,false),(3,1,false)],eqs:=[] }),
 (71,{ agg:=false,size:=1,zero:=[.slice none 0 0],kind:=.slice 1 false,elt:=5,eb:=1,ez:=[.int .u8 0],ek:=some .u8,eqs:=[] }),
 (73,{ agg:=true,size:=2,zero:=[.pointer none,.slice none 0 0],kind:=.struct [(0,1,false),(1,1,false)],eqs:=[] }),
 (79,{ agg:=true,size:=8,zero:=[.string ⟨#[]⟩,.string ⟨#[]⟩,.string ⟨#[]⟩,.string ⟨#[]⟩,.string ⟨#[]⟩,.string ⟨#[]⟩,.string ⟨#[]⟩,.string ⟨#[]⟩],kind:=.array 8 1 false,eqs:=[] }),
 (96,{ agg:=true,size:=4,zero:=[.string ⟨#[]⟩,.string ⟨#[]⟩,.int .i64 0,.slice none 0 0],kind:=.struct [(0,1,false),(1,1,false),(2,1,false),(3,1,false)],eqs:=[] }),
 (102,{ agg:=true,size:=1,zero:=[.slice none 0 0],kind:=.struct [(0,1,false)],eqs:=[] })]
theorem tabOK:TabOK Tryd.prog tab:=⟨⟨by kernel_rfl,fun h=>absurd rfl h⟩,⟨by kernel_rfl,fun h=>absurd rfl h⟩,⟨by kernel_rfl,fun h=>absurd rfl h⟩,⟨by kernel_rfl,fun h=>absurd rfl h⟩,⟨by kernel_rfl,fun h=>absurd rfl h⟩,⟨by kernel_rfl,fun h=>absurd rfl h⟩,⟨by kernel_rfl,fun h=>absurd rfl h⟩,⟨by kernel_rfl,fun h=>absurd rfl h⟩,⟨by kernel_rfl,fun h=>absurd rfl h⟩,⟨by kernel_rfl,fun h=>absurd rfl h⟩,⟨by kernel_rfl,fun h=>absurd rfl h⟩,⟨by kernel_rfl,fun h=>absurd rfl h⟩,⟨by kernel_rfl,fun h=>absurd rfl h⟩,⟨by kernel_rfl,fun h=>absurd rfl h⟩,⟨by kernel_rfl,fun h=>absurd rfl h⟩,⟨by kernel_rfl,fun h=>absurd rfl h⟩,⟨by kernel_rfl,fun h=>absurd rfl h⟩,⟨by kernel_rfl,fun h=>absurd rfl h⟩,trivial⟩
theorem hΓ:ΓOK Tryd.prog (tabΓ tab):=ΓOK.of tabOK
theorem hm:Tryd.prog.follows .mixedOrders = true:=by kernel_rfl
structure S_tmpl_Part where
 f_Name:List UInt8
 f_Text:List UInt8
 f_Op:Int
 f_Sub:List (S_tmpl_Part)
def pre_S_tmpl_Part:S_tmpl_Part → List D:=fun x=>[.str x.f_Name,.str x.f_Text,.val (.int .i64 x.f_Op)]
def kids_S_tmpl_Part:S_tmpl_Part → List (S_tmpl_Part):=fun x=>x.f_Sub
def tr_S_tmpl_Part:S_tmpl_Part → List D:=treeEnc (S_tmpl_Part.mk [] [] 0 []) pre_S_tmpl_Part kids_S_tmpl_Part
def E_tmpl_Part:S_tmpl_Part → List D:=tr_S_tmpl_Part
def E_string:List UInt8 → List D:=fun x=>[.str x]
abbrev vi (x:Int):D:=.val (.int .i64 x)
abbrev vb (x:Bool):D:=.val (.bool x)
abbrev ls (l:List (List UInt8)):D:=.recs (α:=List UInt8) [] E_string l
theorem rg {nt:Nat} {F0:Fz} {w0:Pt Tryd.prog} {K:List (Nat × D)} {L:Boxes} {Q:Exit → Act → World → Prop} {id:Nat} {l:List Oper} (kk kl:List Nat) (K':List (Nat × D)) (L':Boxes) (hn:To nt F0 w0 K' L' .normal Q) (h:evRegion (CX Tryd.prog) (CallsB Tryd.prog) (tabΓ tab) nt [] [] l [] K L kk kl = some (K',L',[]):=by kernel_rfl):Wp Tryd.prog nt F0 w0 K L (.region id l.toArray false) Q:=Wp.region hΓ [] [] [] kk kl h AllP.nil hn
theorem rr {nt:Nat} {F0:Fz} {w0:Pt Tryd.prog} {K:List (Nat × D)} {L:Boxes} {Q:Exit → Act → World → Prop} {id:Nat} {l:List Oper} (fz:List (Nat × List Nat)) (orc:List (Nat × D)) (orb:List (Nat × CBd)) (kk kl:List Nat) (K':List (Nat × D)) (L':Boxes) (ob:List Prop) (hob:AllP ob) (hn:To nt F0 w0 K' L' .normal Q) (h:evRegion (CX Tryd.prog) (CallsB Tryd.prog) (tabΓ tab) nt orc orb l fz K L kk kl = some (K',L',ob):=by kernel_rfl):Wp Tryd.prog nt F0 w0 K L (.region id l.toArray false) Q:=Wp.region hΓ fz orc orb kk kl h hob hn
theorem kw {nt:Nat} {F0:Fz} {w0:Pt Tryd.prog} {K:List (Nat × D)} {L:Boxes} {Q:Exit → Act → World → Prop} {c:Code} (kk kl:List Nat) (K':List (Nat × D)) (L':Boxes) (hn:Wp Tryd.prog nt F0 w0 K' L' c Q) (h1:keepS K kk = some K':=by kernel_rfl) (h2:keepL L kl = some L':=by kernel_rfl):Wp Tryd.prog nt F0 w0 K L c Q:=Wp.keep h1 h2 hn
theorem kt {nt:Nat} {F0:Fz} {w0:Pt Tryd.prog} {K:List (Nat × D)} {L:Boxes} {Q:Exit → Act → World → Prop} {e:Exit} (kk kl:List Nat) (K':List (Nat × D)) (L':Boxes) (hn:To nt F0 w0 K' L' e Q) (h1:keepS K kk = some K':=by kernel_rfl) (h2:keepL L kl = some L':=by kernel_rfl):To nt F0 w0 K L e Q:=To.keep h1 h2 hn
theorem r0 {nt:Nat} {F0:Fz} {w0:Pt Tryd.prog} {K:List (Nat × D)} {L:Boxes} {Q:Exit → Act → World → Prop} {id:Nat} {l:List Oper} {ob:List Prop} (kk kl:List Nat) (K':List (Nat × D)) (L':Boxes) (hob:AllP ob) (hn:To nt F0 w0 K' L' .normal Q) (h:evRegion (CX Tryd.prog) (CallsB Tryd.prog) (tabΓ tab) nt [] [] l [] K L kk kl = some (K',L',ob):=by kernel_rfl):Wp Tryd.prog nt F0 w0 K L (.region id l.toArray false) Q:=Wp.region hΓ [] [] [] kk kl h hob hn
theorem rc {nt:Nat} {F0:Fz} {w0:Pt Tryd.prog} {K:List (Nat × D)} {L:Boxes} {Q:Exit → Act → World → Prop} {id:Nat} {l:List Oper} {f:Nat} {ds:List D} {r:D} (fz:List (Nat × List Nat)) (i:Nat) (kk kl:List Nat) (K':List (Nat × D)) (L':Boxes) (hc:CallsX Tryd.prog f ds r) (hn:To nt F0 w0 K' L' .normal Q) (h:evRegion (CX Tryd.prog) (CallsB Tryd.prog) (tabΓ tab) nt [(i,r)] [] l fz K L kk kl = some (K',L',[(true = true → CX Tryd.prog f ds r)]):=by kernel_rfl):Wp Tryd.prog nt F0 w0 K L (.region id l.toArray false) Q:=Wp.region hΓ fz [(i,r)] [] kk kl h (AllP.cons (fun _=>cx hc) AllP.nil) hn
theorem rb {nt:Nat} {F0:Fz} {w0:Pt Tryd.prog} {K:List (Nat × D)} {L:Boxes} {Q:Exit → Act → World → Prop} {id:Nat} {l:List Oper} {f:Nat} (fz:List (Nat × List Nat)) (i:Nat) (c:CBd) (kk kl:List Nat) (K':List (Nat × D)) (L':Boxes) (hc:CallsB Tryd.prog f c.ds c.Lin c.r c.Lout) (hn:To nt F0 w0 K' L' .normal Q) (h:evRegion (CX Tryd.prog) (CallsB Tryd.prog) (tabΓ tab) nt [] [(i,c)] l fz K L kk kl = some (K',L',[CbOb (CallsB Tryd.prog) f (D.subs (renF never c.ren) c.ds) (c.Lin.map fun x=>some (x.2.1,D.subs (renF never c.ren) x.2.2)) c]):=by kernel_rfl):Wp Tryd.prog nt F0 w0 K L (.region id l.toArray false) Q:=Wp.region hΓ fz [] [(i,c)] kk kl h (AllP.cons ⟨hc,rfl,rfl⟩ AllP.nil) hn
theorem c1 {f:Nat} {ds:List D} {r:D} (h:CallsX Tryd.prog f ds r):true = true → CX Tryd.prog f ds r:=fun _=>cx h
theorem cn {nt:Nat} {F0:Fz} {w0:Pt Tryd.prog} {K:List (Nat × D)} {L:Boxes} {Q:Exit → Act → World → Prop} {t:Nat} {x y:Code} {b:Bool} {α:Type _} {p q r:α} (h:(if b = true then p else q) = r) (h1:p = r → Wp Tryd.prog nt F0 w0 K L x Q) (h2:q = r → Wp Tryd.prog nt F0 w0 K L y Q) (hc:K.lookup t = some (.val (.bool b)):=by kernel_rfl):Wp Tryd.prog nt F0 w0 K L (.cond (.tmp t) x y) Q:=Wp.cond hc (fun hb=>h1 (if_t hb h)) (fun hb=>h2 (if_f hb h))
theorem xo {f : Nat} (fn : Func) {c : Code} {ds : List D} {r : D} (hbody : fn.body = some c) (h : ∀ (F0 : Fz) (w0 : World) (hsh : Shp Tryd.prog w0), Wp Tryd.prog fn.ntmps F0 (.top w0 hsh) (ds.zipIdx.map fun x => (x.2, x.1)) [] c (bodyPost Tryd.prog fn (PostX F0 w0 r))) (hf : Tryd.prog.funcs[f]? = some fn := by kernel_rfl) (hname : (fn.name == "runtime.NumGoroutine") = false := by kernel_rfl) (hn : ds.length.ble fn.ntmps = true := by kernel_rfl) : CallsX Tryd.prog f ds r := callsX_of hf hbody hname (Nat.le_of_ble_eq_true hn) h
theorem bo {f : Nat} (fn : Func) {c : Code} {ds : List D} {Lin : Boxes} {r : D} {Lout : Boxes} (hbody : fn.body = some c) (h : ∀ (F0 : Fz) (w0 : Pt Tryd.prog), Wp Tryd.prog fn.ntmps F0 w0.cl (ds.zipIdx.map fun x => (x.2, x.1)) Lin c (bodyPost Tryd.prog fn (PostB F0 w0.cl r Lout))) (hf : Tryd.prog.funcs[f]? = some fn := by kernel_rfl) (hname : (fn.name == "runtime.NumGoroutine") = false := by kernel_rfl) (hn : ds.length.ble fn.ntmps = true := by kernel_rfl) : CallsB Tryd.prog f ds Lin r Lout := callsB_of hf hbody hname (Nat.le_of_ble_eq_true hn) h
def rnA:List (Nat × Nat) → List (Nat × D) → Boxes → Option (List (Nat × D) × Boxes)
 | [],K,L=>some (K,L)
 | x :: rs,K,L=>if (Nat.blt x.2 1000000 && freshKey x.2 K L) = true then rnA rs (renK x.1 x.2 K) (renL x.1 x.2 L) else none
theorem rnA_st {nt:Nat} {F0:Fz} {w0:Pt Tryd.prog}:∀ (rs:List (Nat × Nat)) {K K':List (Nat × D)} {L L':Boxes},rnA rs K L = some (K',L') → ∀ a w,St nt F0 w0 K L a w → St nt F0 w0 K' L' a w
 | [],_,_,_,_,h,_,_,hs=>by cases h; exact hs
 | x :: rs,K,K',L,L',h,a,w,hs=>by
  unfold rnA at h
  split at h
  ·rename_i hc
   rw [Bool.and_eq_true] at hc
   exact rnA_st rs h a w (St.rename x.1 x.2 (by simpa using hc.1) hc.2 rfl rfl a w hs)
  ·cases h
def knA (rs:List (Nat × Nat)) (k0 l0 kk kl:List Nat) (K:List (Nat × D)) (L:Boxes):Option (List (Nat × D) × Boxes) :=
 match keepS K k0,keepL L l0 with
 | some K0,some L0=>(match rnA rs K0 L0 with
  | some (K1,L1)=>(match keepS K1 kk,keepL L1 kl with | some K2,some L2=>some (K2,L2) | _,_=>none)
  | none=>none)
 | _,_=>none
theorem knA_st {nt:Nat} {F0:Fz} {w0:Pt Tryd.prog} {rs:List (Nat × Nat)} {k0 l0 kk kl:List Nat} {K K':List (Nat × D)} {L L':Boxes} (h:knA rs k0 l0 kk kl K L = some (K',L')):∃ K0 L0 K1 L1,keepS K k0 = some K0 ∧ keepL L l0 = some L0 ∧ rnA rs K0 L0 = some (K1,L1) ∧ keepS K1 kk = some K' ∧ keepL L1 kl = some L':=by
 unfold knA at h
 split at h
 ·rename_i K0 L0 e1 e2
  split at h
  ·rename_i K1 L1 e3
   split at h
   ·rename_i K2 L2 e4 e5
    cases h
    exact ⟨K0,L0,K1,L1,e1,e2,e3,e4,e5⟩
   ·cases h
  ·cases h
 ·cases h
theorem nw {nt:Nat} {F0:Fz} {w0:Pt Tryd.prog} {K:List (Nat × D)} {L:Boxes} {Q:Exit → Act → World → Prop} {c:Code} (k0 l0:List Nat) (rs:List (Nat × Nat)) (kk kl:List Nat) (K':List (Nat × D)) (L':Boxes) (hn:Wp Tryd.prog nt F0 w0 K' L' c Q) (h:knA rs k0 l0 kk kl K L = some (K',L'):=by kernel_rfl):Wp Tryd.prog nt F0 w0 K L c Q :=
 let ⟨_,_,_,_,e1,e2,e3,e4,e5⟩:=knA_st (w0:=w0) (F0:=F0) (nt:=nt) h
 Wp.keep e1 e2 (Wp.pre (rnA_st rs e3) (Wp.keep e4 e5 hn))
theorem nt {nt:Nat} {F0:Fz} {w0:Pt Tryd.prog} {K:List (Nat × D)} {L:Boxes} {Q:Exit → Act → World → Prop} {e:Exit} (k0 l0:List Nat) (rs:List (Nat × Nat)) (kk kl:List Nat) (K':List (Nat × D)) (L':Boxes) (hn:To nt F0 w0 K' L' e Q) (h:knA rs k0 l0 kk kl K L = some (K',L'):=by kernel_rfl):To nt F0 w0 K L e Q :=
 let ⟨_,_,_,_,e1,e2,e3,e4,e5⟩:=knA_st (w0:=w0) (F0:=F0) (nt:=nt) h
 To.keep e1 e2 (To.pre (rnA_st rs e3) (To.keep e4 e5 hn))
theorem good_E_string (l:List (List UInt8)):GoodR (.recs [] E_string l):=⟨Nat.le_of_ble_eq_true (by kernel_rfl),fun _=>⟨rfl,rfl⟩⟩
def tmpl_marks (n:Nat):Option ((List (List UInt8))) :=
 if (decide (List.length (List.replicate 8 ([]:List UInt8)) = 8)) = true then (if (decide (List.length ([[],[],[58,45],[45],[58,63],[63],[58,43],[43]]:List (List UInt8)) = 8)) = true then some ([[],[],[58,45],[45],[58,63],[63],[58,43],[43]]:List (List UInt8)) else none) else none
abbrev rc1 (l:List (List UInt8)):D:=.rowc false (α:=List UInt8) [] E_string l
theorem ok_tmpl_marks (n:Nat) (r:(List (List UInt8))) (h:tmpl_marks n = some r):CallsX Tryd.prog 34 [] (.arr (α:=List UInt8) [] E_string r):=by
 unfold tmpl_marks at h
 refine xo Tryd.f34 rfl fun F0 w0 _=>?_
 refine Wp.seq (rg [0] [0] [(0,.own 0 0)] [(0,79,[.str [],.str [],.str [],.str [],.str [],.str [],.str [],.str []])] (To.pre (St.toRow (t:=79) (l:=(List.replicate 8 ([]:List UInt8))) 0 1 8 (by decide) (by decide) (good_E_string _) (by kernel_rfl) (by kernel_rfl) (by kernel_rfl) (by kernel_rfl) (K':=[(0,.elm 0 0 1 0)]) (L':=[(0,79,[rc1 (List.replicate 8 ([]:List UInt8))])]) (by kernel_rfl) (by kernel_rfl)) (To.thenN (Wp.seq ?_))))
 obtain ⟨hc2,h⟩:=chk_of h
 refine rr [] [(1,ls ([[],[],[58,45],[45],[58,63],[63],[58,43],[43]]:List (List UInt8)))] [] [0] [0] [(0,.elm 0 0 1 0)] [(0,79,[rc1 ([[],[],[58,45],[45],[58,63],[63],[58,43],[43]]:List (List UInt8))])] [_,(MkOb 1 (D.cells (.agg [.str [],.str [],.str [58,45],.str [45],.str [58,63],.str [63],.str [58,43],.str [43]])) 8 (ls ([[],[],[58,45],[45],[58,63],[63],[58,43],[43]]:List (List UInt8))) ∧ GoodR (ls ([[],[],[58,45],[45],[58,63],[63],[58,43],[43]]:List (List UInt8))))] (AllP.cons hc2 (AllP.cons (mkOb (by kernel_rfl) rfl (by kernel_rfl) (good_E_string _)) AllP.nil)) (To.thenN (Wp.ret ?_))
 obtain ⟨hc1,h⟩:=chk_of h
 cases h
 exact To.doneA hΓ (by kernel_rfl) hc1
def tmpl_Text_j3 (R_tmpl_Text:(List (S_tmpl_Part)) → Option ((List UInt8))) (n:Nat) (v6:List (S_tmpl_Part)) (v7:Int) (v8:Int) (v30:Bool) (b3:List UInt8) (b5:S_tmpl_Part):Option ((List UInt8)) :=
 if v30 = true then ((tmpl_marks n).bind fun r6 =>
 if (decide (0 ≤ b5.f_Op ∧ b5.f_Op < (8:Int))) = true then (if (decide (List.length r6 = 8)) = true then ((R_tmpl_Text b5.f_Sub).bind fun r7 =>
 if (decide (((List.length ((r6)[Int.toNat b5.f_Op]?.getD []) + List.length r7:Nat):Int) ≤ 9223372036854775807)) = true then (if (decide ((List.length b3 + List.length (((r6)[Int.toNat b5.f_Op]?.getD []) ++ r7)) * (1 + 1) ≤ limit)) = true then (some (b3 ++ (((r6)[Int.toNat b5.f_Op]?.getD []) ++ r7))) else none) else none) else none) else none)
 else some b3
abbrev zx2:S_tmpl_Part:=S_tmpl_Part.mk [] [] 0 []
abbrev rs3 (l:List (S_tmpl_Part)):D:=.recs (α:=S_tmpl_Part) zx2 E_tmpl_Part l
abbrev rc4 (l:List (UInt8)):D:=.rowc false (α:=UInt8) 0 e8 l
abbrev tn5 (l:List (S_tmpl_Part)):D:=.tree (α:=S_tmpl_Part) zx2 pre_S_tmpl_Part kids_S_tmpl_Part l
abbrev hR6 (R_tmpl_Text:(List (S_tmpl_Part)) → Option ((List UInt8))):Prop:=∀ (a0:List (S_tmpl_Part)) (r:(List UInt8)),R_tmpl_Text a0 = some r → CallsX Tryd.prog 17 [rs3 a0] (.str r)
abbrev qc7 (x:S_tmpl_Part):List D:=[.str x.f_Name,.str x.f_Text,vi x.f_Op,tn5 x.f_Sub]
theorem ok_tmpl_Text_j3 (R_tmpl_Text:(List (S_tmpl_Part)) → Option ((List UInt8))) (hR_tmpl_Text:hR6 R_tmpl_Text) (n:Nat) (v6:List (S_tmpl_Part)) (v7:Int) (v8:Int) (v30:Bool) (b3:List UInt8) (b5:S_tmpl_Part) (o:(List UInt8)) (h:tmpl_Text_j3 R_tmpl_Text n v6 v7 v8 v30 b3 b5 = some o) {F0:Fz} {w0:Pt Tryd.prog} {Q:Exit → Act → World → Prop} (hQ:To 43 F0 w0 [(3,.own 3 0),(6,rs3 v6),(7,vi v7),(8,vi v8)] [(3,73,[.opt 3,.srow 4181]),(4181,5,[rc4 o])] .normal Q):Wp Tryd.prog 43 F0 w0 [(3,.own 3 0),(5,.own 5 0),(6,rs3 v6),(7,vi v7),(8,vi v8),(30,vb v30)] [(3,73,[.opt 3,.srow 4181]),(5,68,qc7 b5),(4181,5,[rc4 b3])] (cB (cA (cB (cB (cB (cI (cA (cB (cB (cI (cI (cB (cA (cB (cB (cF Tryd.f17)))))))))))))))) Q:=by
 unfold tmpl_Text_j3 at h
 refine cn h (fun h=>?_) (fun h=>?_)
 ·obtain ⟨r6,hr6,h⟩:=bind_of h
  obtain ⟨hc9,h⟩:=chk_of h
  obtain ⟨hc10,h⟩:=chk_of h
  obtain ⟨r7,hr7,h⟩:=bind_of h
  obtain ⟨hc11,h⟩:=chk_of h
  obtain ⟨u8,h⟩:=chk_of h
  refine Wp.regionS hm hΓ 7 [] [(0,.arr (α:=List UInt8) [] E_string r6),(6,.str r7)] [(8,⟨[(1000000,3),(1000001,4181)],[(1000000,3),(1,4181)],[.own 1000000 0,.str (((r6)[Int.toNat b5.f_Op]?.getD []) ++ r7)],[(1000000,73,[.opt 1000000,.srow 1000001]),(1000001,5,[rc4 b3])],.tup [vi (List.length (((r6)[Int.toNat b5.f_Op]?.getD []) ++ r7):Int),.val (.nilIface)],[(1000000,73,[.opt 1000000,.srow 1]),(1,5,[rc4 (b3 ++ (((r6)[Int.toNat b5.f_Op]?.getD []) ++ r7))])]⟩)] [3,6,7,8] [3,4181] (K':=[(3,.own 3 0),(6,rs3 v6),(7,vi v7),(8,vi v8)]) (L':=[(3,73,[.opt 3,.srow 4181]),(4181,5,[rc4 (b3 ++ (((r6)[Int.toNat b5.f_Op]?.getD []) ++ r7))])]) (ob:=[(true = true → CX Tryd.prog 34 [] (.arr (α:=List UInt8) [] E_string r6)),(decide (0 ≤ b5.f_Op ∧ b5.f_Op < (8:Int))) = true,(decide (List.length r6 = 8)) = true,(true = true → CX Tryd.prog 17 [rs3 b5.f_Sub] (.str r7)),(decide (((List.length ((r6)[Int.toNat b5.f_Op]?.getD []) + List.length r7:Nat):Int) ≤ 9223372036854775807)) = true,CbOb (CallsB Tryd.prog) 32 [.own 3 0,.str (((r6)[Int.toNat b5.f_Op]?.getD []) ++ r7)] [some (73,[.opt 3,.srow 4181]),some (5,[rc4 b3])] ⟨[(1000000,3),(1000001,4181)],[(1000000,3),(1,4181)],[.own 1000000 0,.str (((r6)[Int.toNat b5.f_Op]?.getD []) ++ r7)],[(1000000,73,[.opt 1000000,.srow 1000001]),(1000001,5,[rc4 b3])],.tup [vi (List.length (((r6)[Int.toNat b5.f_Op]?.getD []) ++ r7):Int),.val (.nilIface)],[(1000000,73,[.opt 1000000,.srow 1]),(1,5,[rc4 (b3 ++ (((r6)[Int.toNat b5.f_Op]?.getD []) ++ r7))])]⟩]) (by kernel_rfl) (AllP.cons (fun _=>cx (ok_tmpl_marks n  _ hr6)) (AllP.cons hc9 (AllP.cons hc10 (AllP.cons (fun _=>cx (hR_tmpl_Text b5.f_Sub _ hr7)) (AllP.cons hc11 (AllP.cons (⟨writeString (l:=b3) (s:=(((r6)[Int.toNat b5.f_Op]?.getD []) ++ r7)) u8,by kernel_rfl,by kernel_rfl⟩) AllP.nil)))))) ?_
  refine kt [3,6,7,8] [3,4181] [(3,.own 3 0),(6,rs3 v6),(7,vi v7),(8,vi v8)] [(3,73,[.opt 3,.srow 4181]),(4181,5,[rc4 (b3 ++ (((r6)[Int.toNat b5.f_Op]?.getD []) ++ r7))])] ?_
  cases h
  exact hQ
 ·refine Wp.skip (kt [3,6,7,8] [3,4181] [(3,.own 3 0),(6,rs3 v6),(7,vi v7),(8,vi v8)] [(3,73,[.opt 3,.srow 4181]),(4181,5,[rc4 b3])] ?_)
  cases h
  exact hQ
def tmpl_Text_j2 (R_tmpl_Text:(List (S_tmpl_Part)) → Option ((List UInt8))) (n:Nat) (v6:List (S_tmpl_Part)) (v7:Int) (v8:Int) (b3:List UInt8):Option ((List UInt8)) :=
 if (decide (0 ≤ v8 ∧ v8 < (List.length v6:Int))) = true then (if ((((v6)[Int.toNat v8]?.getD (S_tmpl_Part.mk [] [] 0 [])).f_Op) == 0) = true then (if (decide (List.length (((v6)[Int.toNat v8]?.getD (S_tmpl_Part.mk [] [] 0 [])).f_Text) < 4294967281 ∧ 1 ≤ List.length ([36]:List UInt8) ∧ List.length (((v6)[Int.toNat v8]?.getD (S_tmpl_Part.mk [] [] 0 [])).f_Text) + Lib.countB ⟨List.toArray (((v6)[Int.toNat v8]?.getD (S_tmpl_Part.mk [] [] 0 [])).f_Text)⟩ ⟨List.toArray ([36]:List UInt8)⟩ * List.length ([36,36]:List UInt8) ≤ limit)) = true then (if (decide ((List.length b3 + List.length (Lib.replaceAll (((v6)[Int.toNat v8]?.getD (S_tmpl_Part.mk [] [] 0 [])).f_Text) ([36]:List UInt8) ([36,36]:List UInt8))) * (1 + 1) ≤ limit)) = true then (lett ((b3 ++ (Lib.replaceAll (((v6)[Int.toNat v8]?.getD (S_tmpl_Part.mk [] [] 0 [])).f_Text) ([36]:List UInt8) ([36,36]:List UInt8))):List (UInt8)) fun x3 =>
 some x3) else none) else none)
 else (if (decide (((List.length ([36,123]:List UInt8) + List.length (((v6)[Int.toNat v8]?.getD (S_tmpl_Part.mk [] [] 0 [])).f_Name):Nat):Int) ≤ 9223372036854775807)) = true then (if (decide ((List.length b3 + List.length (([36,123]:List UInt8) ++ (((v6)[Int.toNat v8]?.getD (S_tmpl_Part.mk [] [] 0 [])).f_Name))) * (1 + 1) ≤ limit)) = true then (lett ((bif (decide ((((v6)[Int.toNat v8]?.getD (S_tmpl_Part.mk [] [] 0 [])).f_Op) > 1)) then (decide ((((v6)[Int.toNat v8]?.getD (S_tmpl_Part.mk [] [] 0 [])).f_Op) ≤ 7)) else false):Bool) fun x5 =>
 (tmpl_Text_j3 R_tmpl_Text n v6 v7 v8 x5 (b3 ++ (([36,123]:List UInt8) ++ (((v6)[Int.toNat v8]?.getD (S_tmpl_Part.mk [] [] 0 [])).f_Name))) ((v6)[Int.toNat v8]?.getD (S_tmpl_Part.mk [] [] 0 []))).bind fun o6 =>
 if (decide ((List.length o6 + List.length ([125]:List UInt8)) * (1 + 1) ≤ limit)) = true then (some (o6 ++ ([125]:List UInt8))) else none) else none) else none)) else none
abbrev ex1 (x0:List (S_tmpl_Part)) (x1:Int):=((x0)[Int.toNat x1]?.getD zx2)
abbrev ex32 (x0:List (S_tmpl_Part)) (x1:Int):=(Lib.replaceAll ((ex1 x0 x1).f_Text) ([36]:List UInt8) ([36,36]:List UInt8))
abbrev ex33 (x0:List (S_tmpl_Part)) (x1:Int):Nat × Nat × List D:=(5,68,[.str ((ex1 x0 x1).f_Name),.str ((ex1 x0 x1).f_Text),vi ((ex1 x0 x1).f_Op),tn5 ((ex1 x0 x1).f_Sub)])
abbrev ex34 (x0:List (S_tmpl_Part)) (x1:Int):=(([36,123]:List UInt8) ++ ((ex1 x0 x1).f_Name))
theorem ok_tmpl_Text_j2 (R_tmpl_Text:(List (S_tmpl_Part)) → Option ((List UInt8))) (hR_tmpl_Text:hR6 R_tmpl_Text) (n:Nat) (v6:List (S_tmpl_Part)) (v7:Int) (v8:Int) (b3:List UInt8) (o:(List UInt8)) (h:tmpl_Text_j2 R_tmpl_Text n v6 v7 v8 b3 = some o) {F0:Fz} {w0:Pt Tryd.prog} {Q:Exit → Act → World → Prop} (hQ:To 43 F0 w0 [(3,.own 3 0),(6,rs3 v6),(7,vi v7),(8,vi v8)] [(3,73,[.opt 3,.srow 4181]),(4181,5,[rc4 o])] .normal Q):Wp Tryd.prog 43 F0 w0 [(3,.own 3 0),(6,rs3 v6),(7,vi v7),(8,vi v8)] [(3,73,[.opt 3,.srow 4181]),(4181,5,[rc4 b3])] (cA (cB (cB (cI (cI (cB (cA (cB (cB (cF Tryd.f17)))))))))) Q:=by
 unfold tmpl_Text_j2 at h
 refine Wp.block (Wp.seq ?_)
 obtain ⟨hc9,h⟩:=chk_of h
 refine r0 [3,5,6,7,8] [3,5,4181] [(3,.own 3 0),(5,.own 5 0),(6,rs3 v6),(7,vi v7),(8,vi v8)] [(3,73,[.opt 3,.srow 4181]),(ex33 v6 v8),(4181,5,[rc4 b3])] (AllP.cons hc9 AllP.nil) (To.thenN (Wp.seq (Wp.seq (rg [3,5,6,7,8,14] [3,5,4181] [(3,.own 3 0),(5,.own 5 0),(6,rs3 v6),(7,vi v7),(8,vi v8),(14,vb (((ex1 v6 v8).f_Op) == 0))] [(3,73,[.opt 3,.srow 4181]),(ex33 v6 v8),(4181,5,[rc4 b3])] (To.thenN (cn h (fun h=>?_) (fun h=>?_)))))))
 ·refine Wp.seq ?_
  obtain ⟨u1,h⟩:=chk_of h
  obtain ⟨u2,h⟩:=chk_of h
  obtain ⟨x3,hx3,h⟩:=lett_of h
  refine rr [] [(2,.str (ex32 v6 v8))] [(3,⟨[(1000000,3),(1000001,4181)],[(1000000,3),(1,4181)],[.own 1000000 0,.str (ex32 v6 v8)],[(1000000,73,[.opt 1000000,.srow 1000001]),(1000001,5,[rc4 b3])],.tup [vi (List.length (ex32 v6 v8):Int),.val (.nilIface)],[(1000000,73,[.opt 1000000,.srow 1]),(1,5,[rc4 (b3 ++ (ex32 v6 v8))])]⟩)] [3,6,7,8] [3,4181] [(3,.own 3 0),(6,rs3 v6),(7,vi v7),(8,vi v8)] [(3,73,[.opt 3,.srow 4181]),(4181,5,[rc4 (b3 ++ (ex32 v6 v8))])] [(true = true → CX Tryd.prog 33 [.str ((ex1 v6 v8).f_Text),.str [36],.str [36,36]] (.str (ex32 v6 v8))),CbOb (CallsB Tryd.prog) 32 [.own 3 0,.str (ex32 v6 v8)] [some (73,[.opt 3,.srow 4181]),some (5,[rc4 b3])] ⟨[(1000000,3),(1000001,4181)],[(1000000,3),(1,4181)],[.own 1000000 0,.str (ex32 v6 v8)],[(1000000,73,[.opt 1000000,.srow 1000001]),(1000001,5,[rc4 b3])],.tup [vi (List.length (ex32 v6 v8):Int),.val (.nilIface)],[(1000000,73,[.opt 1000000,.srow 1]),(1,5,[rc4 (b3 ++ (ex32 v6 v8))])]⟩] (AllP.cons (fun _=>cx (Sh.replaceAll33 u1)) (AllP.cons (⟨writeString (l:=b3) (s:=(ex32 v6 v8)) u2,by kernel_rfl,by kernel_rfl⟩) AllP.nil)) ?_
  refine To.eq (K':=[(3,.own 3 0),(6,rs3 v6),(7,vi v7),(8,vi v8)]) (L':=[(3,73,[.opt 3,.srow 4181]),(4181,5,[rc4 x3])]) (by cases hx3; rfl) (by cases hx3; rfl) (To.thenN (Wp.exit (To.thenX (To.blockX (kt [3,6,7,8] [3,4181] [(3,.own 3 0),(6,rs3 v6),(7,vi v7),(8,vi v8)] [(3,73,[.opt 3,.srow 4181]),(4181,5,[rc4 x3])] ?_)))))
  cases h
  exact hQ
 ·refine Wp.skip (To.thenN (Wp.seq ?_))
  obtain ⟨hc8,h⟩:=chk_of h
  obtain ⟨u4,h⟩:=chk_of h
  refine rr [] [] [(3,⟨[(1000000,3),(1000001,4181)],[(1000000,3),(1,4181)],[.own 1000000 0,.str (ex34 v6 v8)],[(1000000,73,[.opt 1000000,.srow 1000001]),(1000001,5,[rc4 b3])],.tup [vi (List.length (ex34 v6 v8):Int),.val (.nilIface)],[(1000000,73,[.opt 1000000,.srow 1]),(1,5,[rc4 (b3 ++ (ex34 v6 v8))])]⟩)] [3,5,6,7,8] [3,5,4181] [(3,.own 3 0),(5,.own 5 0),(6,rs3 v6),(7,vi v7),(8,vi v8)] [(3,73,[.opt 3,.srow 4181]),(ex33 v6 v8),(4181,5,[rc4 (b3 ++ (ex34 v6 v8))])] [_,CbOb (CallsB Tryd.prog) 32 [.own 3 0,.str (ex34 v6 v8)] [some (73,[.opt 3,.srow 4181]),some (5,[rc4 b3])] ⟨[(1000000,3),(1000001,4181)],[(1000000,3),(1,4181)],[.own 1000000 0,.str (ex34 v6 v8)],[(1000000,73,[.opt 1000000,.srow 1000001]),(1000001,5,[rc4 b3])],.tup [vi (List.length (ex34 v6 v8):Int),.val (.nilIface)],[(1000000,73,[.opt 1000000,.srow 1]),(1,5,[rc4 (b3 ++ (ex34 v6 v8))])]⟩] (AllP.cons hc8 (AllP.cons (⟨writeString (l:=b3) (s:=(ex34 v6 v8)) u4,by kernel_rfl,by kernel_rfl⟩) AllP.nil)) ?_
  refine To.thenN (Wp.seq (Wp.seq ?_))
  obtain ⟨x5,hx5,h⟩:=lett_of h
  refine rg [3,5,6,7,8,30] [3,5,4181] [(3,.own 3 0),(5,.own 5 0),(6,rs3 v6),(7,vi v7),(8,vi v8),(30,vb (bif (decide (((ex1 v6 v8).f_Op) > 1)) then (decide (((ex1 v6 v8).f_Op) ≤ 7)) else false))] [(3,73,[.opt 3,.srow 4181]),(ex33 v6 v8),(4181,5,[rc4 (b3 ++ (ex34 v6 v8))])] (To.eq (K':=[(3,.own 3 0),(5,.own 5 0),(6,rs3 v6),(7,vi v7),(8,vi v8),(30,vb x5)]) (L':=[(3,73,[.opt 3,.srow 4181]),(ex33 v6 v8),(4181,5,[rc4 (b3 ++ (ex34 v6 v8))])]) (by cases hx5; rfl) (by cases hx5; rfl) (To.thenN ?_))
  obtain ⟨o6,ho6,h⟩:=bind_of h
  refine kw [3,5,6,7,8,30] [3,5,4181] [(3,.own 3 0),(5,.own 5 0),(6,rs3 v6),(7,vi v7),(8,vi v8),(30,vb x5)] [(3,73,[.opt 3,.srow 4181]),(ex33 v6 v8),(4181,5,[rc4 (b3 ++ (ex34 v6 v8))])] (ok_tmpl_Text_j3 R_tmpl_Text hR_tmpl_Text n v6 v7 v8 x5 (b3 ++ (ex34 v6 v8)) (ex1 v6 v8) o6 ho6 (To.thenN ?_))
  obtain ⟨u7,h⟩:=chk_of h
  refine rb [] 0 ⟨[(1000000,3),(1000001,4181)],[(1000000,3),(1,4181)],[.own 1000000 0,.str [125]],[(1000000,73,[.opt 1000000,.srow 1000001]),(1000001,5,[rc4 o6])],.tup [vi (List.length ([125]:List UInt8):Int),.val (.nilIface)],[(1000000,73,[.opt 1000000,.srow 1]),(1,5,[rc4 (o6 ++ ([125]:List UInt8))])]⟩ [3,6,7,8] [3,4181] [(3,.own 3 0),(6,rs3 v6),(7,vi v7),(8,vi v8)] [(3,73,[.opt 3,.srow 4181]),(4181,5,[rc4 (o6 ++ ([125]:List UInt8))])] (writeString (l:=o6) (s:=([125]:List UInt8)) u7) (To.blockN ?_)
  cases h
  exact hQ
def tmpl_Text_l1 (R_tmpl_Text:(List (S_tmpl_Part)) → Option ((List UInt8))) (n:Nat) (v6:List (S_tmpl_Part)) (v7:Int):Nat → Int → (List UInt8) → Option ((List UInt8))
 | 0,_,_=>none
 | k + 1,v8,b3=>if (decide (v8 < v7)) = true then ((tmpl_Text_j2 R_tmpl_Text n v6 v7 v8 b3).bind fun o1 =>
 tmpl_Text_l1 R_tmpl_Text n v6 v7 k (IntKind.wrap .i64 (v8 + 1)) o1)
 else some b3
theorem ok_tmpl_Text_l1 (R_tmpl_Text:(List (S_tmpl_Part)) → Option ((List UInt8))) (hR_tmpl_Text:hR6 R_tmpl_Text) (n:Nat) (v6:List (S_tmpl_Part)) (v7:Int) {F0:Fz} {w0:Pt Tryd.prog} {Q:Exit → Act → World → Prop} (k:Nat):∀ (v8:Int) (b3:List UInt8) (o:(List UInt8)),tmpl_Text_l1 R_tmpl_Text n v6 v7 k v8 b3 = some o → To 43 F0 w0 [(3,.own 3 0)] [(3,73,[.opt 3,.srow 4181]),(4181,5,[rc4 o])] (.exit 0) Q → WL Tryd.prog 43 F0 w0 [(3,.own 3 0),(6,rs3 v6),(7,vi v7),(8,vi v8)] [(3,73,[.opt 3,.srow 4181]),(4181,5,[rc4 b3])] (cI (cI (cB (cA (cB (cB (cF Tryd.f17))))))) Q:=by
 induction k with
 | zero=>intro v8 b3 o h; cases h
 | succ k ih =>
  intro v8 b3 o h hQ
  rw [tmpl_Text_l1] at h
  refine WL.round (Wp.seq (rg [3,6,7,8,9] [3,4181] [(3,.own 3 0),(6,rs3 v6),(7,vi v7),(8,vi v8),(9,vb (decide (v8 < v7)))] [(3,73,[.opt 3,.srow 4181]),(4181,5,[rc4 b3])] (To.thenN (Wp.seq (cn h (fun h=>?_) (fun h=>?_))))))
  ·refine Wp.skip (To.thenN (Wp.seq ?_))
   obtain ⟨o1,ho1,h⟩:=bind_of h
   refine kw [3,6,7,8] [3,4181] [(3,.own 3 0),(6,rs3 v6),(7,vi v7),(8,vi v8)] [(3,73,[.opt 3,.srow 4181]),(4181,5,[rc4 b3])] (ok_tmpl_Text_j2 R_tmpl_Text hR_tmpl_Text n v6 v7 v8 b3 o1 ho1 (To.thenN (rg [3,6,7,8] [3,4181] [(3,.own 3 0),(6,rs3 v6),(7,vi v7),(8,vi (IntKind.wrap .i64 (v8 + 1)))] [(3,73,[.opt 3,.srow 4181]),(4181,5,[rc4 o1])] (kt [3,6,7,8] [3,4181] [(3,.own 3 0),(6,rs3 v6),(7,vi v7),(8,vi (IntKind.wrap .i64 (v8 + 1)))] [(3,73,[.opt 3,.srow 4181]),(4181,5,[rc4 o1])] (To.again ?_)))))
   exact ih (IntKind.wrap .i64 (v8 + 1)) o1 _ h hQ
  ·refine Wp.exit (To.thenX (To.thenX (kt [3] [3,4181] [(3,.own 3 0)] [(3,73,[.opt 3,.srow 4181]),(4181,5,[rc4 b3])] ?_)))
   cases h
   exact hQ
def tmpl_Text_b (R_tmpl_Text:(List (S_tmpl_Part)) → Option ((List UInt8))) (n:Nat) (a0:List (S_tmpl_Part)):Option ((List UInt8)) :=
 (tmpl_Text_l1 R_tmpl_Text n a0 (List.length a0:Int) n 0 ([]:List (UInt8))).bind fun o1 =>
 some o1
theorem ok_tmpl_Text_b (R_tmpl_Text:(List (S_tmpl_Part)) → Option ((List UInt8))) (hR_tmpl_Text:hR6 R_tmpl_Text) (n:Nat) (a0:List (S_tmpl_Part)) (r:(List UInt8)) (h:tmpl_Text_b R_tmpl_Text n a0 = some r):CallsX Tryd.prog 17 [rs3 a0] (.str r):=by
 unfold tmpl_Text_b at h
 refine xo Tryd.f17 rfl fun F0 w0 _=>?_
 refine Wp.seq (rg [0] [] [(0,rs3 a0)] [] (To.thenN (Wp.seq (rg [0,3] [3] [(0,rs3 a0),(3,.own 3 0)] [(3,73,[.val (.pointer none),.val (.slice none 0 0)])] (To.pre (St.builderB 3 4181 5 (by decide) (by kernel_rfl) (L':=[(3,73,[.opt 3,.srow 4181])]) (by kernel_rfl)) (To.thenN (Wp.seq (Wp.seq (rg [3,6,7,8] [3,4181] [(3,.own 3 0),(6,rs3 a0),(7,vi (List.length a0:Int)),(8,vi 0)] [(3,73,[.opt 3,.srow 4181]),(4181,5,[rc4 []])] (To.thenN (Wp.block ?_)))))))))))
 obtain ⟨o1,ho1,h⟩:=bind_of h
 refine kw [3,6,7,8] [3,4181] [(3,.own 3 0),(6,rs3 a0),(7,vi (List.length a0:Int)),(8,vi 0)] [(3,73,[.opt 3,.srow 4181]),(4181,5,[rc4 []])] (Wp.loopL (ok_tmpl_Text_l1 R_tmpl_Text hR_tmpl_Text n a0 (List.length a0:Int) n 0 ([]:List (UInt8)) o1 ho1 (To.blockX (To.thenN (Wp.seq (rb [] 0 ⟨[(1000000,3),(1000001,4181)],[(1000000,3)],[.own 1000000 0],[(1000000,73,[.opt 1000000,.srow 1000001]),(1000001,5,[rc4 o1])],.str o1,[(1000000,73,[.opt 1000000,.hole])]⟩ [2] [] [(2,.str o1)] [] (bstring (l:=o1)) (To.thenN (Wp.ret ?_))))))))
 cases h
 exact To.done hΓ (by kernel_rfl)
def tmpl_Text:Nat → (List (S_tmpl_Part)) → Option ((List UInt8))
 | 0=>fun _=>none
 | n + 1=>tmpl_Text_b (tmpl_Text n) n
theorem ok_tmpl_Text (n:Nat):∀ (a0:List (S_tmpl_Part)) (r:(List UInt8)),tmpl_Text n a0 = some r → CallsX Tryd.prog 17 [rs3 a0] (.str r):=by
 induction n with
 | zero=>intro a0 r h; cases h
 | succ n ih=>exact fun a0 r h=>ok_tmpl_Text_b (tmpl_Text n) ih n a0 r h
structure S_api_Var where
 f_Key:List UInt8
 f_Val:List UInt8
def E_api_Var:S_api_Var → List D:=fun x=>[.str x.f_Key,.str x.f_Val]
def law12_Few_l1 (n:Nat) (v0:List (S_api_Var)):Nat → Int → Option (Sum (Unit) (Bool))
 | 0,_=>none
 | k + 1,v5=>if (decide (v5 < (List.length v0:Int))) = true then (if (decide (0 ≤ v5 ∧ v5 < (List.length v0:Int))) = true then (if ((!((decide ((List.length (((v0)[Int.toNat v5]?.getD (S_api_Var.mk [] [])).f_Key):Int) > 100)) == false) || decide (0 ≤ v5 ∧ v5 < (List.length v0:Int)))) = true then (lett ((bif (decide ((List.length (((v0)[Int.toNat v5]?.getD (S_api_Var.mk [] [])).f_Key):Int) > 100)) then true else (decide ((List.length (((v0)[Int.toNat v5]?.getD (S_api_Var.mk [] [])).f_Val):Int) > 100))):Bool) fun x1 =>
 if x1 = true then (some (.inr false))
 else (law12_Few_l1 n v0 k (IntKind.wrap .i64 (v5 + 1)))) else none) else none)
 else (some (.inl ()))
abbrev zx8:S_api_Var:=S_api_Var.mk [] []
abbrev rs9 (l:List (S_api_Var)):D:=.recs (α:=S_api_Var) zx8 E_api_Var l
abbrev ex2 (x0:List (S_api_Var)) (x1:Int):=((x0)[Int.toNat x1]?.getD zx8)
abbrev ex3 (x0:Int) (x1:List (S_api_Var)):=(decide (0 ≤ x0 ∧ x0 < (List.length x1:Int)))
theorem ok_law12_Few_l1 (n:Nat) (v0:List (S_api_Var)) {F0:Fz} {w0:Pt Tryd.prog} {Q:Exit → Act → World → Prop} (k:Nat):∀ (v5:Int) (o:Sum (Unit) (Bool)),law12_Few_l1 n v0 k v5 = some o → (Sum.elim (fun s=>To 32 F0 w0 [] [] (.exit 0) Q) (fun s=>To 32 F0 w0 [(4,vb s)] [] .ret Q)) o → WL Tryd.prog 32 F0 w0 [(0,rs9 v0),(5,vi v5)] [] (cI (cI (cB (cA (cB (cB (cF Tryd.f7))))))) Q:=by
 induction k with
 | zero=>intro v5 o h; cases h
 | succ k ih =>
  intro v5 o h hQ
  rw [law12_Few_l1] at h
  refine WL.round (Wp.seq (Wp.seq (rg [0,5,13] [] [(0,rs9 v0),(5,vi v5),(13,vb (decide (v5 < (List.length v0:Int))))] [] (To.thenN (cn h (fun h=>?_) (fun h=>?_))))))
  ·refine Wp.skip (To.thenN (Wp.seq (Wp.block (Wp.seq ?_))))
   obtain ⟨hc2,h⟩:=chk_of h
   obtain ⟨hc3,h⟩:=chk_of h
   obtain ⟨x1,hx1,h⟩:=lett_of h
   refine r0 [0,5,31] [] [(0,rs9 v0),(5,vi v5),(31,vb (bif (decide ((List.length ((ex2 v0 v5).f_Key):Int) > 100)) then true else (decide ((List.length ((ex2 v0 v5).f_Val):Int) > 100))))] [] (AllP.cons hc2 (AllP.cons hc3 AllP.nil)) (To.eq (K':=[(0,rs9 v0),(5,vi v5),(31,vb x1)]) (L':=[]) (by cases hx1; rfl) (by cases hx1; rfl) (To.thenN (cn h (fun h=>?_) (fun h=>?_))))
   ·refine Wp.seq (rg [4] [] [(4,vb false)] [] (To.thenN (Wp.ret (To.blockR (To.thenR (To.thenR ?_))))))
    cases h
    exact hQ
   ·refine Wp.skip (To.blockN (To.thenN (rg [0,5] [] [(0,rs9 v0),(5,vi (IntKind.wrap .i64 (v5 + 1)))] [] (kt [0,5] [] [(0,rs9 v0),(5,vi (IntKind.wrap .i64 (v5 + 1)))] [] (To.again ?_)))))
    exact ih (IntKind.wrap .i64 (v5 + 1)) _ h hQ
  ·refine Wp.exit (To.thenX (To.thenX (kt [] [] [] [] ?_)))
   cases h
   exact hQ
def law12_Few (n:Nat) (a0:List (S_api_Var)) (a1:Int):Option (Bool) :=
 if (decide ((List.length a0:Int) > a1)) = true then some false
 else ((law12_Few_l1 n a0 n 0).bind fun o1 =>
 (Sum.elim (fun o1=>some true) (fun o1=>some o1)) o1)
theorem ok_law12_Few (n:Nat) (a0:List (S_api_Var)) (a1:Int) (r:Bool) (h:law12_Few n a0 a1 = some r):CallsX Tryd.prog 7 [rs9 a0,vi a1] (vb r):=by
 unfold law12_Few at h
 refine xo Tryd.f7 rfl fun F0 w0 _=>?_
 refine Wp.seq (rg [0,1] [] [(0,rs9 a0),(1,vi a1)] [] (To.thenN (Wp.seq (Wp.seq (rg [0,9] [] [(0,rs9 a0),(9,vb (decide ((List.length a0:Int) > a1)))] [] (To.thenN (cn h (fun h=>?_) (fun h=>?_))))))))
 ·refine Wp.seq (rg [4] [] [(4,vb false)] [] (To.thenN (Wp.ret (To.thenR ?_))))
  cases h
  exact To.done hΓ (by kernel_rfl)
 ·refine Wp.skip (To.thenN (Wp.seq (Wp.seq (rg [0,5] [] [(0,rs9 a0),(5,vi 0)] [] (To.thenN (Wp.block ?_))))))
  obtain ⟨o1,ho1,h⟩:=bind_of h
  refine kw [0,5] [] [(0,rs9 a0),(5,vi 0)] [] (Wp.loopL (ok_law12_Few_l1 n a0 n 0 o1 ho1 ?_))
  rcases o1 with o1 | o1
  ·replace h:=sum_l h
   refine To.blockX (To.thenN (Wp.seq (rg [4] [] [(4,vb true)] [] (To.thenN (Wp.ret ?_)))))
   cases h
   exact To.done hΓ (by kernel_rfl)
  ·replace h:=sum_r h
   refine To.blockR (To.thenR ?_)
   cases h
   exact To.done hΓ (by kernel_rfl)
structure S_tmpl_reader where
 f_s:List UInt8
 f_at:Int
 f_e:Int
theorem good_E_tmpl_Part (l:List (S_tmpl_Part)):GoodR (.recs (S_tmpl_Part.mk [] [] 0 []) E_tmpl_Part l):=⟨Nat.le_of_ble_eq_true (by kernel_rfl),fun _=>⟨rfl,rfl⟩⟩
def tmpl_reader_parts_1__o0__o1 (n:Nat) (h0:List (UInt8)) (h1:List (S_tmpl_Part)):Option ((List (UInt8)) × (List (S_tmpl_Part))) :=
 if (decide ((List.length h0:Int) > 0)) = true then (if (decide ((List.length h1 + List.length ([(S_tmpl_Part.mk [] [] 0 [])]:List (S_tmpl_Part))) * (64 + 1) ≤ limit)) = true then (if (decide (0 ≤ (List.length h1:Int) ∧ (List.length h1:Int) < (List.length (h1 ++ ([(S_tmpl_Part.mk [] [] 0 [])]:List (S_tmpl_Part))):Int))) = true then (lett ((List.set (h1 ++ ([(S_tmpl_Part.mk [] [] 0 [])]:List (S_tmpl_Part))) (Int.toNat (List.length h1:Int)) (S_tmpl_Part.mk [] h0 0 [])):List (S_tmpl_Part)) fun x1 =>
 some ([],x1)) else none) else none)
 else (some (h0,h1))
abbrev rc10 (l:List (S_tmpl_Part)):D:=.rowc false (α:=S_tmpl_Part) zx2 E_tmpl_Part l
theorem ok_tmpl_reader_parts_1__o0__o1 (n:Nat) (h0:List (UInt8)) (h1:List (S_tmpl_Part)) (r:(List (UInt8)) × (List (S_tmpl_Part))) (h:tmpl_reader_parts_1__o0__o1 n h0 h1 = some r):CallsB Tryd.prog 48 [.own 1000000 0,.own 1000001 0] [(1000000,71,[.row 1010000]),(1000001,32,[.row 1010100]),(1010000,5,[rc4 h0]),(1010100,68,[rc10 h1])] (.tup []) [(200,5,[rc4 r.1]),(300,68,[rc10 r.2]),(1000000,71,[.row 200]),(1000001,32,[.row 300])]:=by
 unfold tmpl_reader_parts_1__o0__o1 at h
 refine bo Tryd.f48 rfl fun F0 w0=>?_
 refine nw [0,1] [1000000,1000001,1010000,1010100] [(1010000,504000),(1010100,504060)] [0,1] [504000,504060,1000000,1000001] [(0,.own 1000000 0),(1,.own 1000001 0)] [(504000,5,[rc4 h0]),(504060,68,[rc10 h1]),(1000000,71,[.row 504000]),(1000001,32,[.row 504060])] (Wp.seq (rg [0,1,4] [504000,504060,1000000,1000001] [(0,.own 1000000 0),(1,.own 1000001 0),(4,vb (decide ((List.length h0:Int) > 0)))] [(504000,5,[rc4 h0]),(504060,68,[rc10 h1]),(1000000,71,[.row 504000]),(1000001,32,[.row 504060])] (To.thenN (cn h (fun h=>?_) (fun h=>?_)))))
 ·refine Wp.seq ?_
  obtain ⟨hc2,h⟩:=chk_of h
  obtain ⟨hc3,h⟩:=chk_of h
  obtain ⟨x1,hx1,h⟩:=lett_of h
  refine Wp.regionO hm hΓ [] [(2,.str h0),(5,rs3 ([zx2])),(6,rs3 (h1 ++ ([zx2]:List (S_tmpl_Part)))),(8,rs3 (List.set (h1 ++ ([zx2]:List (S_tmpl_Part))) (Int.toNat (List.length h1:Int)) (S_tmpl_Part.mk [] h0 0 [])))] [] [0,1,4,5,6,7,8,9,10,11,12] [10,11,504000,504060,1000000,1000001] [0] [11,504000,1000000,1000001] (K':=[(0,.own 1000000 0)]) (L':=[(11,68,[rc10 (List.set (h1 ++ ([zx2]:List (S_tmpl_Part))) (Int.toNat (List.length h1:Int)) (S_tmpl_Part.mk [] h0 0 []))]),(504000,5,[rc4 h0]),(1000000,71,[.row 504000]),(1000001,32,[.row 11])]) (ob:=[(true = true → StrOb (List.flatMap e8 h0) (.str h0)),(MkOb 4 [.str [],.str [],vi 0,.val (.slice none 0 0)] 1 (rs3 ([zx2])) ∧ GoodR (rs3 ([zx2]))),(decide ((List.length h1 + List.length ([zx2]:List (S_tmpl_Part))) * (64 + 1) ≤ limit)) = true,(AppOb zx2 E_tmpl_Part h1 (List.flatMap E_tmpl_Part ([zx2]:List (S_tmpl_Part))) (List.length ([zx2]:List (S_tmpl_Part))) (rs3 (h1 ++ ([zx2]:List (S_tmpl_Part)))) ∧ GoodR (rs3 (h1 ++ ([zx2]:List (S_tmpl_Part))))),(decide (0 ≤ (List.length h1:Int) ∧ (List.length h1:Int) < (List.length (h1 ++ ([zx2]:List (S_tmpl_Part))):Int))) = true,(decide (0 ≤ (List.length h1:Int) ∧ (List.length h1:Int) < (List.length (h1 ++ ([zx2]:List (S_tmpl_Part))):Int))) = true,UpdOb zx2 E_tmpl_Part (h1 ++ ([zx2]:List (S_tmpl_Part))) (List.length h1:Int) 0 [.str [],.str h0,vi 0,.val (.slice none 0 0)] (rs3 (List.set (h1 ++ ([zx2]:List (S_tmpl_Part))) (Int.toNat (List.length h1:Int)) (S_tmpl_Part.mk [] h0 0 [])))]) (by kernel_rfl) (by kernel_rfl) (AllP.cons (fun _=>strOb (flat8 _)) (AllP.cons (mkObW (weaks_eq (ds:=[.str [],.str [],vi 0,.val (.slice none 0 0)]) (es:=[.str [],.str [],vi 0,tn5 []]) (by kernel_rfl) (.cons (.refl _) (.cons (.refl _) (.cons (.refl _) (.cons (.zeroT _ _ _) .nil)))) (by kernel_rfl)) rfl (by kernel_rfl) (good_E_tmpl_Part _)) (AllP.cons hc2 (AllP.cons (appOb rfl rfl (good_E_tmpl_Part _)) (AllP.cons hc3 (AllP.cons hc3 (AllP.cons (updObW (weaks_eq (ds:=[.str [],.str h0,vi 0,.val (.slice none 0 0)]) (es:=[.str [],.str h0,vi 0,tn5 []]) (by kernel_rfl) (.cons (.refl _) (.cons (.refl _) (.cons (.refl _) (.cons (.zeroT _ _ _) .nil)))) (by kernel_rfl))) AllP.nil))))))) (To.eq (K':=[(0,.own 1000000 0)]) (L':=[(11,68,[rc10 x1]),(504000,5,[rc4 h0]),(1000000,71,[.row 504000]),(1000001,32,[.row 11])]) (by cases hx1; rfl) (by cases hx1; rfl) (To.thenN (rg [] [11,1000000,1000001] [] [(11,68,[rc10 x1]),(1000000,71,[.val (.slice none 0 0)]),(1000001,32,[.row 11])] (To.fin (kt [] [11,1000000,1000001] [] [(11,68,[rc10 x1]),(1000000,71,[.val (.slice none 0 0)]),(1000001,32,[.row 11])] (To.pre (St.vacantB 1000000 0 504000 5 (good8 _) (by decide) (by kernel_rfl) (L':=[(11,68,[rc10 x1]),(1000000,71,[.row 504000]),(1000001,32,[.row 11])]) (by kernel_rfl)) (nt [] [11,504000,1000000,1000001] [(504000,200),(11,300)] [] [200,300,1000000,1000001] [] [(200,5,[rc4 []]),(300,68,[rc10 x1]),(1000000,71,[.row 200]),(1000001,32,[.row 300])] ?_)))))))
  cases h
  exact To.doneB hΓ [200,300,1000000,1000001] (by kernel_rfl) (by kernel_rfl)
 ·refine Wp.skip (To.fin (nt [] [504000,504060,1000000,1000001] [(504000,200),(504060,300)] [] [200,300,1000000,1000001] [] [(200,5,[rc4 h0]),(300,68,[rc10 h1]),(1000000,71,[.row 200]),(1000001,32,[.row 300])] ?_))
  cases h
  exact To.doneB hΓ [200,300,1000000,1000001] (by kernel_rfl) (by kernel_rfl)
def tmpl_reader_deeper__o0_j1 (v6:Bool) (b1000000:S_tmpl_reader):S_tmpl_reader :=
 if v6 = true then ((S_tmpl_reader.mk b1000000.f_s b1000000.f_at 9))
 else b1000000
abbrev qc11 (x:S_tmpl_reader):List D:=[.str x.f_s,vi x.f_at,vi x.f_e]
theorem ok_tmpl_reader_deeper__o0_j1 (v6:Bool) (b1000000:S_tmpl_reader) (o:S_tmpl_reader) (h:tmpl_reader_deeper__o0_j1 v6 b1000000 = o) {F0:Fz} {w0:Pt Tryd.prog} {Q:Exit → Act → World → Prop} (hQ:To 15 F0 w0 [(0,.own 1000000 0)] [(1000000,61,qc11 o)] .normal Q):Wp Tryd.prog 15 F0 w0 [(0,.own 1000000 0),(6,vb v6)] [(1000000,61,qc11 b1000000)] (cB (cA (cB (cF Tryd.f80)))) Q:=by
 unfold tmpl_reader_deeper__o0_j1 at h
 refine cn h (fun h=>?_) (fun h=>?_)
 ·refine rg [0] [1000000] [(0,.own 1000000 0)] [(1000000,61,[.str b1000000.f_s,vi b1000000.f_at,vi 9])] (kt [0] [1000000] [(0,.own 1000000 0)] [(1000000,61,[.str b1000000.f_s,vi b1000000.f_at,vi 9])] ?_)
  cases h
  exact hQ
 ·refine Wp.skip (kt [0] [1000000] [(0,.own 1000000 0)] [(1000000,61,qc11 b1000000)] ?_)
  cases h
  exact hQ
def tmpl_reader_deeper__o0 (a1:Int) (h0:S_tmpl_reader):Bool × S_tmpl_reader :=
 lett (tmpl_reader_deeper__o0_j1 (decide (a1 > 8)) h0) fun o1 =>
 ((o1.f_e != 0),o1)
theorem ok_tmpl_reader_deeper__o0 (a1:Int) (h0:S_tmpl_reader) (r:Bool × S_tmpl_reader) (h:tmpl_reader_deeper__o0 a1 h0 = r):CallsB Tryd.prog 80 [.own 1000000 0,vi a1] [(1000000,61,qc11 h0)] (vb r.1) [(1000000,61,qc11 r.2)]:=by
 unfold tmpl_reader_deeper__o0 at h
 refine bo Tryd.f80 rfl fun F0 w0=>?_
 refine Wp.seq (rg [0,1] [1000000] [(0,.own 1000000 0),(1,vi a1)] [(1000000,61,qc11 h0)] (To.thenN (Wp.seq (Wp.seq (rg [0,6] [1000000] [(0,.own 1000000 0),(6,vb (decide (a1 > 8)))] [(1000000,61,qc11 h0)] (To.thenN ?_))))))
 obtain ⟨o1,ho1,h⟩:=lett_of h
 refine kw [0,6] [1000000] [(0,.own 1000000 0),(6,vb (decide (a1 > 8)))] [(1000000,61,qc11 h0)] (ok_tmpl_reader_deeper__o0_j1 (decide (a1 > 8)) h0 o1 ho1 (To.thenN (Wp.seq (rg [4] [1000000] [(4,vb (o1.f_e != 0))] [(1000000,61,qc11 o1)] (To.thenN (Wp.ret ?_))))))
 cases h
 exact To.doneB hΓ [1000000] (by kernel_rfl) (by kernel_rfl)
def tmpl_word (a0:Int):Bool :=
 lett ((bif (bif (bif (a0 == 95) then true else (bif (decide (a0 ≥ 48)) then (decide (a0 ≤ 57)) else false)) then true else (bif (decide (a0 ≥ 97)) then (decide (a0 ≤ 122)) else false)) then true else (bif (decide (a0 ≥ 65)) then (decide (a0 ≤ 90)) else false)):Bool) fun x1 =>
 x1
abbrev ex4 (x0:Int):=(bif (decide (x0 ≥ 97)) then (decide (x0 ≤ 122)) else false)
abbrev ex5 (x0:Int):=(bif (decide (x0 ≥ 48)) then (decide (x0 ≤ 57)) else false)
abbrev ex6 (x0:Int):=(bif (decide (x0 ≥ 65)) then (decide (x0 ≤ 90)) else false)
theorem ok_tmpl_word (a0:Int) (r:Bool) (h:tmpl_word a0 = r):CallsX Tryd.prog 110 [.val (.int .u8 a0)] (vb r):=by
 unfold tmpl_word at h
 refine xo Tryd.f110 rfl fun F0 w0 _=>?_
 refine Wp.seq (rg [0] [] [(0,.val (.int .u8 a0))] [] (To.thenN (Wp.seq ?_)))
 obtain ⟨x1,hx1,h⟩:=lett_of h
 refine rg [2] [] [(2,vb (bif (bif (bif (a0 == 95) then true else (ex5 a0)) then true else (ex4 a0)) then true else (ex6 a0)))] [] (To.eq (K':=[(2,vb x1)]) (L':=[]) (by cases hx1; rfl) (by cases hx1; rfl) (To.thenN (Wp.ret ?_)))
 cases h
 exact To.done hΓ (by kernel_rfl)
def name_small (a0:Int):Bool :=
 (bif (decide (a0 ≥ 97)) then (decide (a0 ≤ 122)) else false)
theorem ok_name_small (a0:Int) (r:Bool) (h:name_small a0 = r):CallsX Tryd.prog 107 [.val (.int .u8 a0)] (vb r):=by
 unfold name_small at h
 refine xo Tryd.f107 rfl fun F0 w0 _=>?_
 refine Wp.seq (rg [0] [] [(0,.val (.int .u8 a0))] [] (To.thenN (Wp.seq (rg [2] [] [(2,vb (ex4 a0))] [] (To.thenN (Wp.ret ?_))))))
 cases h
 exact To.done hΓ (by kernel_rfl)
def name_letter (a0:Int):Bool :=
 (bif (name_small a0) then true else (bif (decide (a0 ≥ 65)) then (decide (a0 ≤ 90)) else false))
theorem ok_name_letter (a0:Int) (r:Bool) (h:name_letter a0 = r):CallsX Tryd.prog 69 [.val (.int .u8 a0)] (vb r):=by
 unfold name_letter at h
 refine xo Tryd.f69 rfl fun F0 w0 _=>?_
 refine Wp.seq (rg [0] [] [(0,.val (.int .u8 a0))] [] (To.thenN (Wp.seq (rc [] 1 [2] [] [(2,vb (bif (name_small a0) then true else (ex6 a0)))] [] (ok_name_small a0 _ rfl) (To.thenN (Wp.ret ?_))))))
 cases h
 exact To.done hΓ (by kernel_rfl)
def name_Variable_1 (a0:Int):Bool :=
 (bif (name_letter a0) then true else (a0 == 95))
theorem ok_name_Variable_1 (a0:Int) (r:Bool) (h:name_Variable_1 a0 = r):CallsX Tryd.prog 68 [.val (.int .u8 a0)] (vb r):=by
 unfold name_Variable_1 at h
 refine xo Tryd.f68 rfl fun F0 w0 _=>?_
 refine Wp.seq (rg [0] [] [(0,.val (.int .u8 a0))] [] (To.thenN (Wp.seq (rc [] 1 [2] [] [(2,vb (bif (name_letter a0) then true else (a0 == 95)))] [] (ok_name_letter a0 _ rfl) (To.thenN (Wp.ret ?_))))))
 cases h
 exact To.done hΓ (by kernel_rfl)
def name_number (a0:Int):Bool :=
 (bif (decide (a0 ≥ 48)) then (decide (a0 ≤ 57)) else false)
theorem ok_name_number (a0:Int) (r:Bool) (h:name_number a0 = r):CallsX Tryd.prog 71 [.val (.int .u8 a0)] (vb r):=by
 unfold name_number at h
 refine xo Tryd.f71 rfl fun F0 w0 _=>?_
 refine Wp.seq (rg [0] [] [(0,.val (.int .u8 a0))] [] (To.thenN (Wp.seq (rg [2] [] [(2,vb (ex5 a0))] [] (To.thenN (Wp.ret ?_))))))
 cases h
 exact To.done hΓ (by kernel_rfl)
def name_Variable_2 (a0:Int):Bool :=
 (bif (bif (name_letter a0) then true else (name_number a0)) then true else (a0 == 95))
theorem ok_name_Variable_2 (a0:Int) (r:Bool) (h:name_Variable_2 a0 = r):CallsX Tryd.prog 70 [.val (.int .u8 a0)] (vb r):=by
 unfold name_Variable_2 at h
 refine xo Tryd.f70 rfl fun F0 w0 _=>?_
 refine Wp.seq (rg [0] [] [(0,.val (.int .u8 a0))] [] (To.thenN (Wp.seq (rr [] [(1,vb (name_letter a0)),(4,vb (name_number a0))] [] [2] [] [(2,vb (bif (bif (name_letter a0) then true else (name_number a0)) then true else (a0 == 95)))] [] [_,(((name_letter a0) == false) = true → CX Tryd.prog 71 [.val (.int .u8 a0)] (vb (name_number a0)))] (AllP.cons (c1 (ok_name_letter a0 _ rfl)) (AllP.cons (fun _=>cx (ok_name_number a0 _ rfl)) AllP.nil)) (To.thenN (Wp.ret ?_))))))
 cases h
 exact To.done hΓ (by kernel_rfl)
def name_of__name_Variable_1__name_Variable_2_l1 (n:Nat) (v0:List UInt8):Nat → Int → Option (Sum (Unit) (Bool))
 | 0,_=>none
 | k + 1,v7=>if (decide (v7 < (List.length v0:Int))) = true then (if (decide (0 ≤ v7 ∧ v7 < (List.length v0:Int))) = true then (if (!(name_Variable_2 (((v0)[Int.toNat v7]?.getD 0).toNat:Int))) = true then (some (.inr false))
 else (name_of__name_Variable_1__name_Variable_2_l1 n v0 k (IntKind.wrap .i64 (v7 + 1)))) else none)
 else (some (.inl ()))
abbrev ex7 (x0:List UInt8) (x1:Int):=(((x0)[Int.toNat x1]?.getD 0).toNat:Int)
abbrev ex8 (x0:Int) (x1:List UInt8):=(decide (x0 < (List.length x1:Int)))
abbrev ex9 (x0:Int) (x1:List UInt8):=(decide (0 ≤ x0 ∧ x0 < (List.length x1:Int)))
theorem ok_name_of__name_Variable_1__name_Variable_2_l1 (n:Nat) (v0:List UInt8) {F0:Fz} {w0:Pt Tryd.prog} {Q:Exit → Act → World → Prop} (k:Nat):∀ (v7:Int) (o:Sum (Unit) (Bool)),name_of__name_Variable_1__name_Variable_2_l1 n v0 k v7 = some o → (Sum.elim (fun s=>To 35 F0 w0 [] [] (.exit 0) Q) (fun s=>To 35 F0 w0 [(6,vb s)] [] .ret Q)) o → WL Tryd.prog 35 F0 w0 [(0,.str v0),(2,.fn 70 []),(7,vi v7)] [] (cI (cI (cB (cA (cB (cB (cF Tryd.f67))))))) Q:=by
 induction k with
 | zero=>intro v7 o h; cases h
 | succ k ih =>
  intro v7 o h hQ
  rw [name_of__name_Variable_1__name_Variable_2_l1] at h
  refine WL.round (Wp.seq (Wp.seq (rg [0,2,7,26] [] [(0,.str v0),(2,.fn 70 []),(7,vi v7),(26,vb (ex8 v7 v0))] [] (To.thenN (cn h (fun h=>?_) (fun h=>?_))))))
  ·refine Wp.skip (To.thenN (Wp.seq (Wp.block (Wp.seq ?_))))
   obtain ⟨hc2,h⟩:=chk_of h
   refine rr [] [(4,vb (name_Variable_2 (ex7 v0 v7)))] [] [0,2,7,34] [] [(0,.str v0),(2,.fn 70 []),(7,vi v7),(34,vb (!(name_Variable_2 (ex7 v0 v7))))] [] [_,_] (AllP.cons hc2 (AllP.cons (c1 (ok_name_Variable_2 (ex7 v0 v7) _ rfl)) AllP.nil)) (To.thenN (cn h (fun h=>?_) (fun h=>?_)))
   ·refine Wp.seq (rg [6] [] [(6,vb false)] [] (To.thenN (Wp.ret (To.blockR (To.thenR (To.thenR ?_))))))
    cases h
    exact hQ
   ·refine Wp.skip (To.blockN (To.thenN (rg [0,2,7] [] [(0,.str v0),(2,.fn 70 []),(7,vi (IntKind.wrap .i64 (v7 + 1)))] [] (kt [0,2,7] [] [(0,.str v0),(2,.fn 70 []),(7,vi (IntKind.wrap .i64 (v7 + 1)))] [] (To.again ?_)))))
    exact ih (IntKind.wrap .i64 (v7 + 1)) _ h hQ
  ·refine Wp.exit (To.thenX (To.thenX (kt [] [] [] [] ?_)))
   cases h
   exact hQ
def name_of__name_Variable_1__name_Variable_2 (n:Nat) (a0:List UInt8):Option (Bool) :=
 if ((!((bif (decide ((List.length a0:Int) < 1)) then true else (decide ((List.length a0:Int) > 24))) == false) || decide (0 ≤ (0:Int) ∧ (0:Int) < (List.length a0:Int)))) = true then (lett ((bif (bif (decide ((List.length a0:Int) < 1)) then true else (decide ((List.length a0:Int) > 24))) then true else (!(name_Variable_1 (((a0)[Int.toNat 0]?.getD 0).toNat:Int)))):Bool) fun x1 =>
 if x1 = true then some false
 else ((name_of__name_Variable_1__name_Variable_2_l1 n a0 n 1).bind fun o2 =>
 (Sum.elim (fun o2=>some true) (fun o2=>some o2)) o2)) else none
abbrev ex10 (x0:List UInt8):=(bif (decide ((List.length x0:Int) < 1)) then true else (decide ((List.length x0:Int) > 24)))
theorem ok_name_of__name_Variable_1__name_Variable_2 (n:Nat) (a0:List UInt8) (r:Bool) (h:name_of__name_Variable_1__name_Variable_2 n a0 = some r):CallsX Tryd.prog 67 [.str a0,.fn 68 [],.fn 70 []] (vb r):=by
 unfold name_of__name_Variable_1__name_Variable_2 at h
 refine xo Tryd.f67 rfl fun F0 w0 _=>?_
 refine Wp.seq (rg [0,1,2] [] [(0,.str a0),(1,.fn 68 []),(2,.fn 70 [])] [] (To.thenN (Wp.seq (Wp.seq ?_))))
 obtain ⟨hc3,h⟩:=chk_of h
 obtain ⟨x1,hx1,h⟩:=lett_of h
 refine rr [] [(12,vb (name_Variable_1 (((a0)[Int.toNat 0]?.getD 0).toNat:Int)))] [] [0,2,22] [] [(0,.str a0),(2,.fn 70 []),(22,vb (bif (ex10 a0) then true else (!(name_Variable_1 (((a0)[Int.toNat 0]?.getD 0).toNat:Int)))))] [] [_,(((ex10 a0) == false) = true → CX Tryd.prog 68 [.val (.int .u8 (((a0)[Int.toNat 0]?.getD 0).toNat:Int))] (vb (name_Variable_1 (((a0)[Int.toNat 0]?.getD 0).toNat:Int))))] (AllP.cons hc3 (AllP.cons (fun _=>cx (ok_name_Variable_1 (((a0)[Int.toNat 0]?.getD 0).toNat:Int) _ rfl)) AllP.nil)) (To.eq (K':=[(0,.str a0),(2,.fn 70 []),(22,vb x1)]) (L':=[]) (by cases hx1; rfl) (by cases hx1; rfl) (To.thenN (cn h (fun h=>?_) (fun h=>?_))))
 ·refine Wp.seq (rg [6] [] [(6,vb false)] [] (To.thenN (Wp.ret (To.thenR ?_))))
  cases h
  exact To.done hΓ (by kernel_rfl)
 ·refine Wp.skip (To.thenN (Wp.seq (Wp.seq (rg [0,2,7] [] [(0,.str a0),(2,.fn 70 []),(7,vi 1)] [] (To.thenN (Wp.block ?_))))))
  obtain ⟨o2,ho2,h⟩:=bind_of h
  refine kw [0,2,7] [] [(0,.str a0),(2,.fn 70 []),(7,vi 1)] [] (Wp.loopL (ok_name_of__name_Variable_1__name_Variable_2_l1 n a0 n 1 o2 ho2 ?_))
  rcases o2 with o2 | o2
  ·replace h:=sum_l h
   refine To.blockX (To.thenN (Wp.seq (rg [6] [] [(6,vb true)] [] (To.thenN (Wp.ret ?_)))))
   cases h
   exact To.done hΓ (by kernel_rfl)
  ·replace h:=sum_r h
   refine To.blockR (To.thenR ?_)
   cases h
   exact To.done hΓ (by kernel_rfl)
def name_Variable (n:Nat) (a0:List UInt8):Option (Bool) :=
 (name_of__name_Variable_1__name_Variable_2 n a0).bind fun r1 =>
 some r1
theorem ok_name_Variable (n:Nat) (a0:List UInt8) (r:Bool) (h:name_Variable n a0 = some r):CallsX Tryd.prog 40 [.str a0] (vb r):=by
 unfold name_Variable at h
 refine xo Tryd.f40 rfl fun F0 w0 _=>?_
 refine Wp.seq (rg [0] [] [(0,.str a0)] [] (To.thenN (Wp.seq ?_)))
 obtain ⟨r1,hr1,h⟩:=bind_of h
 refine rc [] 1 [2] [] [(2,vb r1)] [] (ok_name_of__name_Variable_1__name_Variable_2 n a0 _ hr1) (To.thenN (Wp.ret ?_))
 cases h
 exact To.done hΓ (by kernel_rfl)
def tmpl_reader_name__o0_l1 (n:Nat) (v3:Int):Nat → S_tmpl_reader → Option (S_tmpl_reader)
 | 0,_=>none
 | k + 1,b1000000=>if ((!((decide (b1000000.f_at < (List.length b1000000.f_s:Int))) == true) || decide (0 ≤ b1000000.f_at ∧ b1000000.f_at < (List.length b1000000.f_s:Int)))) = true then (lett (tmpl_word (((b1000000.f_s)[Int.toNat b1000000.f_at]?.getD 0).toNat:Int)) fun r1 =>
 if (bif (decide (b1000000.f_at < (List.length b1000000.f_s:Int))) then r1 else false) = true then (tmpl_reader_name__o0_l1 n v3 k (S_tmpl_reader.mk b1000000.f_s (IntKind.wrap .i64 (b1000000.f_at + 1)) b1000000.f_e))
 else some b1000000) else none
abbrev ex11 (x0:S_tmpl_reader):Nat × Nat × List D:=(1000000,61,[.str x0.f_s,vi (IntKind.wrap .i64 (x0.f_at + 1)),vi x0.f_e])
abbrev ex12 (x0:S_tmpl_reader):=((x0.f_s)[Int.toNat x0.f_at]?.getD 0)
abbrev ex13 (x0:S_tmpl_reader):=(S_tmpl_reader.mk x0.f_s (IntKind.wrap .i64 (x0.f_at + 1)) x0.f_e)
abbrev ex14 (x0:S_tmpl_reader):=(List.length x0.f_s:Int)
theorem ok_tmpl_reader_name__o0_l1 (n:Nat) (v3:Int) {F0:Fz} {w0:Pt Tryd.prog} {Q:Exit → Act → World → Prop} (k:Nat):∀ (b1000000:S_tmpl_reader) (o:S_tmpl_reader),tmpl_reader_name__o0_l1 n v3 k b1000000 = some o → To 62 F0 w0 [(0,.own 1000000 0),(3,vi v3)] [(1000000,61,qc11 o)] (.exit 0) Q → WL Tryd.prog 62 F0 w0 [(0,.own 1000000 0),(3,vi v3)] [(1000000,61,qc11 b1000000)] (cI (cI (cA (cB (cB (cF Tryd.f81)))))) Q:=by
 induction k with
 | zero=>intro b1000000 o h; cases h
 | succ k ih =>
  intro b1000000 o h hQ
  rw [tmpl_reader_name__o0_l1] at h
  refine WL.round (Wp.seq (Wp.seq ?_))
  obtain ⟨hc2,h⟩:=chk_of h
  obtain ⟨r1,hr1,h⟩:=lett_of h
  refine Wp.regionD hm hΓ [(20,vb r1)] [0,3,29] [1000000] (K':=[(0,.own 1000000 0),(3,vi v3),(29,vb (bif (decide (b1000000.f_at < (ex14 b1000000))) then r1 else false))]) (L':=[(1000000,61,qc11 b1000000)]) (ob:=[(!((decide (b1000000.f_at < (ex14 b1000000))) == true) || decide (0 ≤ b1000000.f_at ∧ b1000000.f_at < (ex14 b1000000))) = true,(((decide (b1000000.f_at < (ex14 b1000000))) == true) = true → CX Tryd.prog 110 [.val (.int .u8 ((ex12 b1000000).toNat:Int))] (vb r1))]) (by kernel_rfl) (AllP.cons hc2 (AllP.cons (fun _=>cx (ok_tmpl_word ((ex12 b1000000).toNat:Int) _ hr1)) AllP.nil)) (To.thenN (cn h (fun h=>?_) (fun h=>?_)))
  ·refine Wp.skip (To.thenN (Wp.block (rg [0,3] [1000000] [(0,.own 1000000 0),(3,vi v3)] [(ex11 b1000000)] (To.blockN (To.again ?_)))))
   exact ih (ex13 b1000000) _ h hQ
  ·refine Wp.exit (To.thenX (To.thenX (kt [0,3] [1000000] [(0,.own 1000000 0),(3,vi v3)] [(1000000,61,qc11 b1000000)] ?_)))
   cases h
   exact hQ
def tmpl_reader_name__o0_j2 (n:Nat) (v3:Int) (v48:Bool) (b1000000:S_tmpl_reader):Option (S_tmpl_reader) :=
 if v48 = true then (some (S_tmpl_reader.mk b1000000.f_s b1000000.f_at 3))
 else some b1000000
theorem ok_tmpl_reader_name__o0_j2 (n:Nat) (v3:Int) (v48:Bool) (b1000000:S_tmpl_reader) (o:S_tmpl_reader) (h:tmpl_reader_name__o0_j2 n v3 v48 b1000000 = some o) {F0:Fz} {w0:Pt Tryd.prog} {Q:Exit → Act → World → Prop} (hQ:To 62 F0 w0 [(0,.own 1000000 0),(3,vi v3)] [(1000000,61,qc11 o)] .normal Q):Wp Tryd.prog 62 F0 w0 [(0,.own 1000000 0),(3,vi v3),(48,vb v48)] [(1000000,61,qc11 b1000000)] (cB (cA (cB (cB (cB (cF Tryd.f81)))))) Q:=by
 unfold tmpl_reader_name__o0_j2 at h
 refine cn h (fun h=>?_) (fun h=>?_)
 ·refine rg [0,3] [1000000] [(0,.own 1000000 0),(3,vi v3)] [(1000000,61,[.str b1000000.f_s,vi b1000000.f_at,vi 3])] (kt [0,3] [1000000] [(0,.own 1000000 0),(3,vi v3)] [(1000000,61,[.str b1000000.f_s,vi b1000000.f_at,vi 3])] ?_)
  cases h
  exact hQ
 ·refine Wp.skip (kt [0,3] [1000000] [(0,.own 1000000 0),(3,vi v3)] [(1000000,61,qc11 b1000000)] ?_)
  cases h
  exact hQ
def tmpl_reader_name__o0 (n:Nat) (h0:S_tmpl_reader):Option ((List UInt8) × S_tmpl_reader) :=
 (tmpl_reader_name__o0_l1 n h0.f_at n h0).bind fun o1 =>
 if (decide (0 ≤ o1.f_at ∧ o1.f_at ≤ (List.length o1.f_s:Int))) = true then (if (decide (0 ≤ h0.f_at ∧ h0.f_at ≤ o1.f_at)) = true then ((name_Variable n (List.take (Int.toNat o1.f_at - Int.toNat h0.f_at) (List.drop (Int.toNat h0.f_at) o1.f_s))).bind fun r2 =>
 (tmpl_reader_name__o0_j2 n h0.f_at (!r2) o1).bind fun o3 =>
 if (decide (0 ≤ o3.f_at ∧ o3.f_at ≤ (List.length o3.f_s:Int))) = true then (if (decide (0 ≤ h0.f_at ∧ h0.f_at ≤ o3.f_at)) = true then (some ((List.take (Int.toNat o3.f_at - Int.toNat h0.f_at) (List.drop (Int.toNat h0.f_at) o3.f_s)),o3)) else none) else none) else none) else none
theorem ok_tmpl_reader_name__o0 (n:Nat) (h0:S_tmpl_reader) (r:(List UInt8) × S_tmpl_reader) (h:tmpl_reader_name__o0 n h0 = some r):CallsB Tryd.prog 81 [.own 1000000 0] [(1000000,61,qc11 h0)] (.str r.1) [(1000000,61,qc11 r.2)]:=by
 unfold tmpl_reader_name__o0 at h
 refine bo Tryd.f81 rfl fun F0 w0=>?_
 refine Wp.seq (rg [0] [1000000] [(0,.own 1000000 0)] [(1000000,61,qc11 h0)] (To.thenN (Wp.seq (rg [0,3] [1000000] [(0,.own 1000000 0),(3,vi h0.f_at)] [(1000000,61,qc11 h0)] (To.thenN (Wp.seq (Wp.block ?_)))))))
 obtain ⟨o1,ho1,h⟩:=bind_of h
 refine kw [0,3] [1000000] [(0,.own 1000000 0),(3,vi h0.f_at)] [(1000000,61,qc11 h0)] (Wp.loopL (ok_tmpl_reader_name__o0_l1 n h0.f_at n h0 o1 ho1 (To.blockX (To.thenN (Wp.seq (Wp.seq ?_))))))
 obtain ⟨hc6,h⟩:=chk_of h
 obtain ⟨hc7,h⟩:=chk_of h
 obtain ⟨r2,hr2,h⟩:=bind_of h
 refine Wp.regionD hm hΓ [(10,vb r2)] [0,3,48] [1000000] (K':=[(0,.own 1000000 0),(3,vi h0.f_at),(48,vb (!r2))]) (L':=[(1000000,61,qc11 o1)]) (ob:=[(decide (0 ≤ o1.f_at ∧ o1.f_at ≤ (List.length o1.f_s:Int))) = true,(decide (0 ≤ h0.f_at ∧ h0.f_at ≤ o1.f_at)) = true,(true = true → CX Tryd.prog 40 [.str (List.take (Int.toNat o1.f_at - Int.toNat h0.f_at) (List.drop (Int.toNat h0.f_at) o1.f_s))] (vb r2))]) (by kernel_rfl) (AllP.cons hc6 (AllP.cons hc7 (AllP.cons (fun _=>cx (ok_name_Variable n (List.take (Int.toNat o1.f_at - Int.toNat h0.f_at) (List.drop (Int.toNat h0.f_at) o1.f_s)) _ hr2)) AllP.nil))) (To.thenN ?_)
 obtain ⟨o3,ho3,h⟩:=bind_of h
 refine kw [0,3,48] [1000000] [(0,.own 1000000 0),(3,vi h0.f_at),(48,vb (!r2))] [(1000000,61,qc11 o1)] (ok_tmpl_reader_name__o0_j2 n h0.f_at (!r2) o1 o3 ho3 (To.thenN (Wp.seq ?_)))
 obtain ⟨hc4,h⟩:=chk_of h
 obtain ⟨hc5,h⟩:=chk_of h
 refine Wp.regionD hm hΓ [] [2] [1000000] (K':=[(2,.str (List.take (Int.toNat o3.f_at - Int.toNat h0.f_at) (List.drop (Int.toNat h0.f_at) o3.f_s)))]) (L':=[(1000000,61,qc11 o3)]) (ob:=[(decide (0 ≤ o3.f_at ∧ o3.f_at ≤ (List.length o3.f_s:Int))) = true,(decide (0 ≤ h0.f_at ∧ h0.f_at ≤ o3.f_at)) = true]) (by kernel_rfl) (AllP.cons hc4 (AllP.cons hc5 AllP.nil)) (To.thenN (Wp.ret ?_))
 cases h
 exact To.doneB hΓ [1000000] (by kernel_rfl) (by kernel_rfl)
def tmpl_reader_mark__o0_j2 (n:Nat) (v3:Int) (v4:Int) (v7:List (List UInt8)) (v8:Int) (b1000000:S_tmpl_reader):Option (Int × Int) :=
 if (decide (0 ≤ v8 ∧ v8 < (8:Int))) = true then (if (decide (List.length v7 = 8)) = true then (if ((!((decide ((List.length ((v7)[Int.toNat v8]?.getD []):Int) > v4)) == true) || decide (0 ≤ b1000000.f_at ∧ b1000000.f_at ≤ (List.length b1000000.f_s:Int)))) = true then (lett ((bif (decide ((List.length ((v7)[Int.toNat v8]?.getD []):Int) > v4)) then (Lib.hasPrefix (List.drop (Int.toNat b1000000.f_at) b1000000.f_s) ((v7)[Int.toNat v8]?.getD [])) else false):Bool) fun x2 =>
 if x2 = true then (some (v8,(List.length ((v7)[Int.toNat v8]?.getD []):Int)))
 else (some (v3,v4))) else none) else none) else none
abbrev ex15 (x0:S_tmpl_reader):=(List.drop (Int.toNat x0.f_at) x0.f_s)
theorem ok_tmpl_reader_mark__o0_j2 (n:Nat) (v3:Int) (v4:Int) (v7:List (List UInt8)) (v8:Int) (b1000000:S_tmpl_reader) (o:Int × Int) (h:tmpl_reader_mark__o0_j2 n v3 v4 v7 v8 b1000000 = some o) {F0:Fz} {w0:Pt Tryd.prog} {Q:Exit → Act → World → Prop} (hQ:To 42 F0 w0 [(0,.own 1000000 0),(3,vi o.1),(4,vi o.2),(7,.arr (α:=List UInt8) [] E_string v7),(8,vi v8)] [(1000000,61,qc11 b1000000)] .normal Q):Wp Tryd.prog 42 F0 w0 [(0,.own 1000000 0),(3,vi v3),(4,vi v4),(7,.arr (α:=List UInt8) [] E_string v7),(8,vi v8)] [(1000000,61,qc11 b1000000)] (cA (cB (cB (cI (cI (cB (cA (cB (cB (cF Tryd.f82)))))))))) Q:=by
 unfold tmpl_reader_mark__o0_j2 at h
 refine Wp.block (Wp.seq ?_)
 obtain ⟨hc4,h⟩:=chk_of h
 obtain ⟨hc5,h⟩:=chk_of h
 refine r0 [0,3,4,5,6,7,8] [1000000] [(0,.own 1000000 0),(3,vi v3),(4,vi v4),(5,vi v8),(6,.str ((v7)[Int.toNat v8]?.getD [])),(7,.arr (α:=List UInt8) [] E_string v7),(8,vi v8)] [(1000000,61,qc11 b1000000)] (AllP.cons hc4 (AllP.cons hc5 AllP.nil)) (To.thenN (Wp.seq ?_))
 obtain ⟨hc3,h⟩:=chk_of h
 obtain ⟨x2,hx2,h⟩:=lett_of h
 refine Wp.regionD hm hΓ [(15,vb (Lib.hasPrefix (ex15 b1000000) ((v7)[Int.toNat v8]?.getD [])))] [0,3,4,5,6,7,8,28] [1000000] (K':=[(0,.own 1000000 0),(3,vi v3),(4,vi v4),(5,vi v8),(6,.str ((v7)[Int.toNat v8]?.getD [])),(7,.arr (α:=List UInt8) [] E_string v7),(8,vi v8),(28,vb (bif (decide ((List.length ((v7)[Int.toNat v8]?.getD []):Int) > v4)) then (Lib.hasPrefix (ex15 b1000000) ((v7)[Int.toNat v8]?.getD [])) else false))]) (L':=[(1000000,61,qc11 b1000000)]) (ob:=[(!((decide ((List.length ((v7)[Int.toNat v8]?.getD []):Int) > v4)) == true) || decide (0 ≤ b1000000.f_at ∧ b1000000.f_at ≤ (ex14 b1000000))) = true,(((decide ((List.length ((v7)[Int.toNat v8]?.getD []):Int) > v4)) == true) = true → CX Tryd.prog 49 [.str (ex15 b1000000),.str ((v7)[Int.toNat v8]?.getD [])] (vb (Lib.hasPrefix (ex15 b1000000) ((v7)[Int.toNat v8]?.getD []))))]) (by kernel_rfl) (AllP.cons hc3 (AllP.cons (fun _=>cx (Sh.hasPrefix49)) AllP.nil)) (To.eq (K':=[(0,.own 1000000 0),(3,vi v3),(4,vi v4),(5,vi v8),(6,.str ((v7)[Int.toNat v8]?.getD [])),(7,.arr (α:=List UInt8) [] E_string v7),(8,vi v8),(28,vb x2)]) (L':=[(1000000,61,qc11 b1000000)]) (by cases hx2; rfl) (by cases hx2; rfl) (To.thenN (cn h (fun h=>?_) (fun h=>?_))))
 ·refine rg [0,3,4,7,8] [1000000] [(0,.own 1000000 0),(3,vi v8),(4,vi (List.length ((v7)[Int.toNat v8]?.getD []):Int)),(7,.arr (α:=List UInt8) [] E_string v7),(8,vi v8)] [(1000000,61,qc11 b1000000)] (To.blockN ?_)
  cases h
  exact hQ
 ·refine Wp.skip (To.blockN (kt [0,3,4,7,8] [1000000] [(0,.own 1000000 0),(3,vi v3),(4,vi v4),(7,.arr (α:=List UInt8) [] E_string v7),(8,vi v8)] [(1000000,61,qc11 b1000000)] ?_))
  cases h
  exact hQ
def tmpl_reader_mark__o0_l1 (n:Nat) (v7:List (List UInt8)) (b1000000:S_tmpl_reader):Nat → Int → Int → Int → Option (Int × Int)
 | 0,_,_,_=>none
 | k + 1,v3,v4,v8=>if (decide (v8 < 8)) = true then ((tmpl_reader_mark__o0_j2 n v3 v4 v7 v8 b1000000).bind fun o2 =>
 tmpl_reader_mark__o0_l1 n v7 b1000000 k o2.1 o2.2 (IntKind.wrap .i64 (v8 + 1)))
 else (some (v3,v4))
theorem ok_tmpl_reader_mark__o0_l1 (n:Nat) (v7:List (List UInt8)) (b1000000:S_tmpl_reader) {F0:Fz} {w0:Pt Tryd.prog} {Q:Exit → Act → World → Prop} (k:Nat):∀ (v3:Int) (v4:Int) (v8:Int) (o:Int × Int),tmpl_reader_mark__o0_l1 n v7 b1000000 k v3 v4 v8 = some o → To 42 F0 w0 [(0,.own 1000000 0),(3,vi o.1),(4,vi o.2)] [(1000000,61,qc11 b1000000)] (.exit 0) Q → WL Tryd.prog 42 F0 w0 [(0,.own 1000000 0),(3,vi v3),(4,vi v4),(7,.arr (α:=List UInt8) [] E_string v7),(8,vi v8)] [(1000000,61,qc11 b1000000)] (cI (cI (cB (cA (cB (cB (cF Tryd.f82))))))) Q:=by
 induction k with
 | zero=>intro v3 v4 v8 o h; cases h
 | succ k ih =>
  intro v3 v4 v8 o h hQ
  rw [tmpl_reader_mark__o0_l1] at h
  refine WL.round (Wp.seq (rg [0,3,4,7,8,9] [1000000] [(0,.own 1000000 0),(3,vi v3),(4,vi v4),(7,.arr (α:=List UInt8) [] E_string v7),(8,vi v8),(9,vb (decide (v8 < 8)))] [(1000000,61,qc11 b1000000)] (To.thenN (Wp.seq (cn h (fun h=>?_) (fun h=>?_))))))
  ·refine Wp.skip (To.thenN (Wp.seq ?_))
   obtain ⟨o2,ho2,h⟩:=bind_of h
   refine kw [0,3,4,7,8] [1000000] [(0,.own 1000000 0),(3,vi v3),(4,vi v4),(7,.arr (α:=List UInt8) [] E_string v7),(8,vi v8)] [(1000000,61,qc11 b1000000)] (ok_tmpl_reader_mark__o0_j2 n v3 v4 v7 v8 b1000000 o2 ho2 (To.thenN (rg [0,3,4,7,8] [1000000] [(0,.own 1000000 0),(3,vi o2.1),(4,vi o2.2),(7,.arr (α:=List UInt8) [] E_string v7),(8,vi (IntKind.wrap .i64 (v8 + 1)))] [(1000000,61,qc11 b1000000)] (kt [0,3,4,7,8] [1000000] [(0,.own 1000000 0),(3,vi o2.1),(4,vi o2.2),(7,.arr (α:=List UInt8) [] E_string v7),(8,vi (IntKind.wrap .i64 (v8 + 1)))] [(1000000,61,qc11 b1000000)] (To.again ?_)))))
   exact ih o2.1 o2.2 (IntKind.wrap .i64 (v8 + 1)) _ h hQ
  ·refine Wp.exit (To.thenX (To.thenX (kt [0,3,4] [1000000] [(0,.own 1000000 0),(3,vi v3),(4,vi v4)] [(1000000,61,qc11 b1000000)] ?_)))
   cases h
   exact hQ
def tmpl_reader_mark__o0 (n:Nat) (h0:S_tmpl_reader):Option (Int × S_tmpl_reader) :=
 (tmpl_marks n).bind fun r1 =>
 (tmpl_reader_mark__o0_l1 n r1 h0 n 1 0 0).bind fun o2 =>
 some (o2.1,(S_tmpl_reader.mk h0.f_s (IntKind.wrap .i64 (h0.f_at + o2.2)) h0.f_e))
theorem ok_tmpl_reader_mark__o0 (n:Nat) (h0:S_tmpl_reader) (r:Int × S_tmpl_reader) (h:tmpl_reader_mark__o0 n h0 = some r):CallsB Tryd.prog 82 [.own 1000000 0] [(1000000,61,qc11 h0)] (vi r.1) [(1000000,61,qc11 r.2)]:=by
 unfold tmpl_reader_mark__o0 at h
 refine bo Tryd.f82 rfl fun F0 w0=>?_
 refine Wp.seq (rg [0] [1000000] [(0,.own 1000000 0)] [(1000000,61,qc11 h0)] (To.thenN (Wp.seq (rg [0,3,4] [1000000] [(0,.own 1000000 0),(3,vi 1),(4,vi 0)] [(1000000,61,qc11 h0)] (To.thenN (Wp.seq (Wp.seq ?_)))))))
 obtain ⟨r1,hr1,h⟩:=bind_of h
 refine rc [] 0 [0,3,4,7,8] [1000000] [(0,.own 1000000 0),(3,vi 1),(4,vi 0),(7,.arr (α:=List UInt8) [] E_string r1),(8,vi 0)] [(1000000,61,qc11 h0)] (ok_tmpl_marks n  _ hr1) (To.thenN (Wp.block ?_))
 obtain ⟨o2,ho2,h⟩:=bind_of h
 refine kw [0,3,4,7,8] [1000000] [(0,.own 1000000 0),(3,vi 1),(4,vi 0),(7,.arr (α:=List UInt8) [] E_string r1),(8,vi 0)] [(1000000,61,qc11 h0)] (Wp.loopL (ok_tmpl_reader_mark__o0_l1 n r1 h0 n 1 0 0 o2 ho2 (To.blockX (To.thenN (Wp.seq (rg [3] [1000000] [(3,vi o2.1)] [(1000000,61,[.str h0.f_s,vi (IntKind.wrap .i64 (h0.f_at + o2.2)),vi h0.f_e])] (To.thenN (Wp.seq (rg [2] [1000000] [(2,vi o2.1)] [(1000000,61,[.str h0.f_s,vi (IntKind.wrap .i64 (h0.f_at + o2.2)),vi h0.f_e])] (To.thenN (Wp.ret ?_)))))))))))
 cases h
 exact To.doneB hΓ [1000000] (by kernel_rfl) (by kernel_rfl)
def tmpl_reader_end__o0_j1 (n:Nat) (v30:Bool) (b1000000:S_tmpl_reader):Option (S_tmpl_reader) :=
 if v30 = true then (some (S_tmpl_reader.mk b1000000.f_s b1000000.f_at 3))
 else some b1000000
theorem ok_tmpl_reader_end__o0_j1 (n:Nat) (v30:Bool) (b1000000:S_tmpl_reader) (o:S_tmpl_reader) (h:tmpl_reader_end__o0_j1 n v30 b1000000 = some o) {F0:Fz} {w0:Pt Tryd.prog} {Q:Exit → Act → World → Prop} (hQ:To 41 F0 w0 [(0,.own 1000000 0)] [(1000000,61,qc11 o)] .normal Q):Wp Tryd.prog 41 F0 w0 [(0,.own 1000000 0),(30,vb v30)] [(1000000,61,qc11 b1000000)] (cB (cA (cF Tryd.f83))) Q:=by
 unfold tmpl_reader_end__o0_j1 at h
 refine cn h (fun h=>?_) (fun h=>?_)
 ·refine rg [0] [1000000] [(0,.own 1000000 0)] [(1000000,61,[.str b1000000.f_s,vi b1000000.f_at,vi 3])] (kt [0] [1000000] [(0,.own 1000000 0)] [(1000000,61,[.str b1000000.f_s,vi b1000000.f_at,vi 3])] ?_)
  cases h
  exact hQ
 ·refine Wp.skip (kt [0] [1000000] [(0,.own 1000000 0)] [(1000000,61,qc11 b1000000)] ?_)
  cases h
  exact hQ
def tmpl_reader_end__o0 (n:Nat) (h0:S_tmpl_reader):Option (S_tmpl_reader) :=
 if ((!(((h0.f_at == (List.length h0.f_s:Int)) == false) && ((h0.f_e == 0) == true)) || decide (0 ≤ h0.f_at ∧ h0.f_at < (List.length h0.f_s:Int)))) = true then (lett ((bif (h0.f_e == 0) then (bif (h0.f_at == (List.length h0.f_s:Int)) then true else ((((h0.f_s)[Int.toNat h0.f_at]?.getD 0).toNat:Int) != 125)) else false):Bool) fun x1 =>
 (tmpl_reader_end__o0_j1 n x1 h0).bind fun o2 =>
 some (S_tmpl_reader.mk o2.f_s (IntKind.wrap .i64 (o2.f_at + 1)) o2.f_e)) else none
theorem ok_tmpl_reader_end__o0 (n:Nat) (h0:S_tmpl_reader) (r:S_tmpl_reader) (h:tmpl_reader_end__o0 n h0 = some r):CallsB Tryd.prog 83 [.own 1000000 0] [(1000000,61,qc11 h0)] (.tup []) [(1000000,61,qc11 r)]:=by
 unfold tmpl_reader_end__o0 at h
 refine bo Tryd.f83 rfl fun F0 w0=>?_
 refine kw [0] [1000000] [(0,.own 1000000 0)] [(1000000,61,qc11 h0)] (Wp.seq (Wp.seq ?_))
 obtain ⟨hc3,h⟩:=chk_of h
 obtain ⟨x1,hx1,h⟩:=lett_of h
 refine Wp.regionD hm hΓ [] [0,30] [1000000] (K':=[(0,.own 1000000 0),(30,vb (bif (h0.f_e == 0) then (bif (h0.f_at == (List.length h0.f_s:Int)) then true else ((((h0.f_s)[Int.toNat h0.f_at]?.getD 0).toNat:Int) != 125)) else false))]) (L':=[(1000000,61,qc11 h0)]) (ob:=[(!(((h0.f_at == (List.length h0.f_s:Int)) == false) && ((h0.f_e == 0) == true)) || decide (0 ≤ h0.f_at ∧ h0.f_at < (List.length h0.f_s:Int))) = true]) (by kernel_rfl) (AllP.cons hc3 AllP.nil) (To.eq (K':=[(0,.own 1000000 0),(30,vb x1)]) (L':=[(1000000,61,qc11 h0)]) (by cases hx1; rfl) (by cases hx1; rfl) (To.thenN ?_))
 obtain ⟨o2,ho2,h⟩:=bind_of h
 refine kw [0,30] [1000000] [(0,.own 1000000 0),(30,vb x1)] [(1000000,61,qc11 h0)] (ok_tmpl_reader_end__o0_j1 n x1 h0 o2 ho2 (To.thenN (rg [] [1000000] [] [(1000000,61,[.str o2.f_s,vi (IntKind.wrap .i64 (o2.f_at + 1)),vi o2.f_e])] (To.fin ?_))))
 cases h
 exact To.doneB hΓ [1000000] (by kernel_rfl) (by kernel_rfl)
def tmpl_reader_reference__o0_j1 (R_tmpl_reader_parts__o0:Int → S_tmpl_reader → Option ((List (S_tmpl_Part)) × S_tmpl_reader)) (n:Nat) (v1:Int) (v24:Bool) (b4:S_tmpl_Part) (b5:S_tmpl_Part) (b1000000:S_tmpl_reader):Option (S_tmpl_Part × S_tmpl_reader) :=
 if v24 = true then ((R_tmpl_reader_parts__o0 (IntKind.wrap .i64 (v1 + 1)) b1000000).bind fun r4 =>
 some ((S_tmpl_Part.mk b5.f_Name b5.f_Text b5.f_Op r4.1),r4.2))
 else (some (b5,b1000000))
abbrev hR12 (R_tmpl_reader_parts__o0:Int → S_tmpl_reader → Option ((List (S_tmpl_Part)) × S_tmpl_reader)):Prop:=∀ (a1:Int) (h0:S_tmpl_reader) (r:(List (S_tmpl_Part)) × S_tmpl_reader),R_tmpl_reader_parts__o0 a1 h0 = some r → CallsB Tryd.prog 29 [.own 1000000 0,vi a1] [(1000000,61,[.str h0.f_s,vi h0.f_at,vi h0.f_e])] (rs3 r.1) [(1000000,61,[.str r.2.f_s,vi r.2.f_at,vi r.2.f_e])]
theorem ok_tmpl_reader_reference__o0_j1 (R_tmpl_reader_parts__o0:Int → S_tmpl_reader → Option ((List (S_tmpl_Part)) × S_tmpl_reader)) (hR_tmpl_reader_parts__o0:hR12 R_tmpl_reader_parts__o0) (n:Nat) (v1:Int) (v24:Bool) (b4:S_tmpl_Part) (b5:S_tmpl_Part) (b1000000:S_tmpl_reader) (o:S_tmpl_Part × S_tmpl_reader) (h:tmpl_reader_reference__o0_j1 R_tmpl_reader_parts__o0 n v1 v24 b4 b5 b1000000 = some o) {F0:Fz} {w0:Pt Tryd.prog} {Q:Exit → Act → World → Prop} (hQ:To 33 F0 w0 [(0,.own 1000000 0),(4,.own 4 0),(5,.own 5 0)] [(4,68,qc7 b4),(5,68,qc7 o.1),(1000000,61,qc11 o.2)] .normal Q):Wp Tryd.prog 33 F0 w0 [(0,.own 1000000 0),(1,vi v1),(4,.own 4 0),(5,.own 5 0),(24,vb v24)] [(4,68,qc7 b4),(5,68,qc7 b5),(1000000,61,qc11 b1000000)] (cB (cB (cA (cB (cB (cB (cB (cF Tryd.f50)))))))) Q:=by
 unfold tmpl_reader_reference__o0_j1 at h
 refine cn h (fun h=>?_) (fun h=>?_)
 ·obtain ⟨r4,hr4,h⟩:=bind_of h
  refine rb [] 3 ⟨[(1000000,1000000)],[(1000000,1000000)],[.own 1000000 0,vi (IntKind.wrap .i64 (v1 + 1))],[(1000000,61,qc11 b1000000)],rs3 r4.1,[(1000000,61,qc11 r4.2)]⟩ [0,4,5] [4,5,1000000] [(0,.own 1000000 0),(4,.own 4 0),(5,.own 5 0)] [(4,68,qc7 b4),(5,68,[.str b5.f_Name,.str b5.f_Text,vi b5.f_Op,rs3 r4.1]),(1000000,61,qc11 r4.2)] ((hR_tmpl_reader_parts__o0 (IntKind.wrap .i64 (v1 + 1)) b1000000 _ hr4)) (kt [0,4,5] [4,5,1000000] [(0,.own 1000000 0),(4,.own 4 0),(5,.own 5 0)] [(4,68,qc7 b4),(5,68,[.str b5.f_Name,.str b5.f_Text,vi b5.f_Op,rs3 r4.1]),(1000000,61,qc11 r4.2)] (To.weak (K':=[(0,.own 1000000 0),(4,.own 4 0),(5,.own 5 0)]) (L':=[(4,68,qc7 b4),(5,68,[.str b5.f_Name,.str b5.f_Text,vi b5.f_Op,tn5 r4.1]),(1000000,61,qc11 r4.2)]) (.cons (.refl _) (.cons (.refl _) (.cons (.refl _) .nil))) (.cons (.cons (.refl _) (.cons (.refl _) (.cons (.refl _) (.cons (.refl _) .nil)))) (.cons (.cons (.refl _) (.cons (.refl _) (.cons (.refl _) (.cons (.close _ _ _ _) .nil)))) (.cons (.cons (.refl _) (.cons (.refl _) (.cons (.refl _) .nil))) .nil))) ?_))
  cases h
  exact hQ
 ·refine Wp.skip (kt [0,4,5] [4,5,1000000] [(0,.own 1000000 0),(4,.own 4 0),(5,.own 5 0)] [(4,68,qc7 b4),(5,68,qc7 b5),(1000000,61,qc11 b1000000)] ?_)
  cases h
  exact hQ
def tmpl_reader_reference__o0 (R_tmpl_reader_parts__o0:Int → S_tmpl_reader → Option ((List (S_tmpl_Part)) × S_tmpl_reader)) (n:Nat) (a1:Int) (h0:S_tmpl_reader):Option (S_tmpl_Part × S_tmpl_reader) :=
 lett (tmpl_reader_deeper__o0 a1 h0) fun r1 =>
 if r1.1 = true then (some ((S_tmpl_Part.mk [] [] 0 []),r1.2))
 else ((tmpl_reader_name__o0 n r1.2).bind fun r2 =>
 if (r2.2.f_e != 0) = true then (some ((S_tmpl_Part.mk r2.1 [] 0 []),r2.2))
 else ((tmpl_reader_mark__o0 n r2.2).bind fun r3 =>
 (tmpl_reader_reference__o0_j1 R_tmpl_reader_parts__o0 n a1 (r3.1 != 1) (S_tmpl_Part.mk [] [] 0 []) (S_tmpl_Part.mk r2.1 [] r3.1 []) r3.2).bind fun o4 =>
 (tmpl_reader_end__o0 n o4.2).bind fun r5 =>
 some (o4.1,r5)))
theorem ok_tmpl_reader_reference__o0 (R_tmpl_reader_parts__o0:Int → S_tmpl_reader → Option ((List (S_tmpl_Part)) × S_tmpl_reader)) (hR_tmpl_reader_parts__o0:hR12 R_tmpl_reader_parts__o0) (n:Nat) (a1:Int) (h0:S_tmpl_reader) (r:S_tmpl_Part × S_tmpl_reader) (h:tmpl_reader_reference__o0 R_tmpl_reader_parts__o0 n a1 h0 = some r):CallsB Tryd.prog 50 [.own 1000000 0,vi a1] [(1000000,61,qc11 h0)] (.agg (qc7 r.1)) [(1000000,61,qc11 r.2)]:=by
 unfold tmpl_reader_reference__o0 at h
 refine bo Tryd.f50 rfl fun F0 w0=>?_
 refine Wp.seq (rg [0,1,4] [4,1000000] [(0,.own 1000000 0),(1,vi a1),(4,.own 4 0)] [(4,68,[.str [],.str [],vi 0,.val (.slice none 0 0)]),(1000000,61,qc11 h0)] (To.thenN (Wp.seq (Wp.seq ?_))))
 obtain ⟨r1,hr1,h⟩:=lett_of h
 refine rb [] 2 ⟨[(1000000,1000000)],[(1000000,1000000)],[.own 1000000 0,vi a1],[(1000000,61,qc11 h0)],vb r1.1,[(1000000,61,qc11 r1.2)]⟩ [0,1,4,8] [4,1000000] [(0,.own 1000000 0),(1,vi a1),(4,.own 4 0),(8,vb r1.1)] [(4,68,[.str [],.str [],vi 0,.val (.slice none 0 0)]),(1000000,61,qc11 r1.2)] ((ok_tmpl_reader_deeper__o0 a1 h0 _ hr1)) (To.thenN (cn h (fun h=>?_) (fun h=>?_)))
 ·refine Wp.seq (rg [4] [4,1000000] [(4,.own 4 0)] [(4,68,[.str [],.str [],vi 0,.val (.slice none 0 0)]),(1000000,61,qc11 r1.2)] (To.thenN (Wp.ret (To.thenR (To.weak (K':=[(4,.own 4 0)]) (L':=[(4,68,[.str [],.str [],vi 0,tn5 []]),(1000000,61,qc11 r1.2)]) (.cons (.refl _) .nil) (.cons (.cons (.refl _) (.cons (.refl _) (.cons (.refl _) (.cons (.zeroT _ _ _) .nil)))) (.cons (.cons (.refl _) (.cons (.refl _) (.cons (.refl _) .nil))) .nil)) ?_)))))
  cases h
  exact To.doneB hΓ [1000000] (by kernel_rfl) (by kernel_rfl)
 ·refine Wp.skip (To.thenN (Wp.seq ?_))
  obtain ⟨r2,hr2,h⟩:=bind_of h
  refine rb [] 1 ⟨[(1000000,1000000)],[(1000000,1000000)],[.own 1000000 0],[(1000000,61,qc11 r1.2)],.str r2.1,[(1000000,61,qc11 r2.2)]⟩ [0,1,4,5] [4,5,1000000] [(0,.own 1000000 0),(1,vi a1),(4,.own 4 0),(5,.own 5 0)] [(4,68,[.str [],.str [],vi 0,.val (.slice none 0 0)]),(5,68,[.str r2.1,.str [],vi 0,.val (.slice none 0 0)]),(1000000,61,qc11 r2.2)] ((ok_tmpl_reader_name__o0 n r1.2 _ hr2)) (To.thenN (Wp.seq (Wp.seq (rg [0,1,4,5,17] [4,5,1000000] [(0,.own 1000000 0),(1,vi a1),(4,.own 4 0),(5,.own 5 0),(17,vb (r2.2.f_e != 0))] [(4,68,[.str [],.str [],vi 0,.val (.slice none 0 0)]),(5,68,[.str r2.1,.str [],vi 0,.val (.slice none 0 0)]),(1000000,61,qc11 r2.2)] (To.thenN (cn h (fun h=>?_) (fun h=>?_)))))))
  ·refine Wp.seq (rg [4] [4,1000000] [(4,.own 4 0)] [(4,68,[.str r2.1,.str [],vi 0,.val (.slice none 0 0)]),(1000000,61,qc11 r2.2)] (To.thenN (Wp.ret (To.thenR (To.weak (K':=[(4,.own 4 0)]) (L':=[(4,68,[.str r2.1,.str [],vi 0,tn5 []]),(1000000,61,qc11 r2.2)]) (.cons (.refl _) .nil) (.cons (.cons (.refl _) (.cons (.refl _) (.cons (.refl _) (.cons (.zeroT _ _ _) .nil)))) (.cons (.cons (.refl _) (.cons (.refl _) (.cons (.refl _) .nil))) .nil)) ?_)))))
   cases h
   exact To.doneB hΓ [1000000] (by kernel_rfl) (by kernel_rfl)
  ·refine Wp.skip (To.thenN (Wp.seq (Wp.seq ?_)))
   obtain ⟨r3,hr3,h⟩:=bind_of h
   refine rb [] 1 ⟨[(1000000,1000000)],[(1000000,1000000)],[.own 1000000 0],[(1000000,61,qc11 r2.2)],vi r3.1,[(1000000,61,qc11 r3.2)]⟩ [0,1,4,5] [4,5,1000000] [(0,.own 1000000 0),(1,vi a1),(4,.own 4 0),(5,.own 5 0)] [(4,68,[.str [],.str [],vi 0,.val (.slice none 0 0)]),(5,68,[.str r2.1,.str [],vi r3.1,.val (.slice none 0 0)]),(1000000,61,qc11 r3.2)] ((ok_tmpl_reader_mark__o0 n r2.2 _ hr3)) (To.thenN (Wp.seq (rg [0,1,4,5,24] [4,5,1000000] [(0,.own 1000000 0),(1,vi a1),(4,.own 4 0),(5,.own 5 0),(24,vb (r3.1 != 1))] [(4,68,[.str [],.str [],vi 0,.val (.slice none 0 0)]),(5,68,[.str r2.1,.str [],vi r3.1,.val (.slice none 0 0)]),(1000000,61,qc11 r3.2)] (To.thenN ?_))))
   obtain ⟨o4,ho4,h⟩:=bind_of h
   refine kw [0,1,4,5,24] [4,5,1000000] [(0,.own 1000000 0),(1,vi a1),(4,.own 4 0),(5,.own 5 0),(24,vb (r3.1 != 1))] [(4,68,[.str [],.str [],vi 0,.val (.slice none 0 0)]),(5,68,[.str r2.1,.str [],vi r3.1,.val (.slice none 0 0)]),(1000000,61,qc11 r3.2)] (Wp.weak (K':=[(0,.own 1000000 0),(1,vi a1),(4,.own 4 0),(5,.own 5 0),(24,vb (r3.1 != 1))]) (L':=[(4,68,[.str [],.str [],vi 0,tn5 []]),(5,68,[.str r2.1,.str [],vi r3.1,tn5 []]),(1000000,61,qc11 r3.2)]) (.cons (.refl _) (.cons (.refl _) (.cons (.refl _) (.cons (.refl _) (.cons (.refl _) .nil))))) (.cons (.cons (.refl _) (.cons (.refl _) (.cons (.refl _) (.cons (.zeroT _ _ _) .nil)))) (.cons (.cons (.refl _) (.cons (.refl _) (.cons (.refl _) (.cons (.zeroT _ _ _) .nil)))) (.cons (.cons (.refl _) (.cons (.refl _) (.cons (.refl _) .nil))) .nil))) (ok_tmpl_reader_reference__o0_j1 R_tmpl_reader_parts__o0 hR_tmpl_reader_parts__o0 n a1 (r3.1 != 1) zx2 (S_tmpl_Part.mk r2.1 [] r3.1 []) r3.2 o4 ho4 (To.thenN (Wp.seq ?_))))
   obtain ⟨r5,hr5,h⟩:=bind_of h
   refine rb [] 1 ⟨[(1000000,1000000)],[(1000000,1000000)],[.own 1000000 0],[(1000000,61,qc11 o4.2)],.tup [],[(1000000,61,qc11 r5)]⟩ [4,5] [4,5,1000000] [(4,.own 4 0),(5,.own 5 0)] [(4,68,[.str [],.str [],vi 0,tn5 []]),(5,68,qc7 o4.1),(1000000,61,qc11 r5)] ((ok_tmpl_reader_end__o0 n o4.2 _ hr5)) (To.thenN (Wp.seq (rg [4] [4,1000000] [(4,.own 4 0)] [(4,68,qc7 o4.1),(1000000,61,qc11 r5)] (To.thenN (Wp.ret ?_)))))
   cases h
   exact To.doneB hΓ [1000000] (by kernel_rfl) (by kernel_rfl)
def tmpl_reader_plain__o0 (n:Nat) (a1:Int) (h0:S_tmpl_reader):Option (S_tmpl_Part × S_tmpl_reader) :=
 lett (tmpl_reader_deeper__o0 a1 h0) fun r1 =>
 if r1.1 = true then (some ((S_tmpl_Part.mk [] [] 0 []),r1.2))
 else ((tmpl_reader_name__o0 n r1.2).bind fun r2 =>
 some ((S_tmpl_Part.mk r2.1 [] 1 []),r2.2))
theorem ok_tmpl_reader_plain__o0 (n:Nat) (a1:Int) (h0:S_tmpl_reader) (r:S_tmpl_Part × S_tmpl_reader) (h:tmpl_reader_plain__o0 n a1 h0 = some r):CallsB Tryd.prog 51 [.own 1000000 0,vi a1] [(1000000,61,qc11 h0)] (.agg (qc7 r.1)) [(1000000,61,qc11 r.2)]:=by
 unfold tmpl_reader_plain__o0 at h
 refine bo Tryd.f51 rfl fun F0 w0=>?_
 refine Wp.seq (rg [0,1,4] [4,1000000] [(0,.own 1000000 0),(1,vi a1),(4,.own 4 0)] [(4,68,[.str [],.str [],vi 0,.val (.slice none 0 0)]),(1000000,61,qc11 h0)] (To.thenN (Wp.seq (Wp.seq ?_))))
 obtain ⟨r1,hr1,h⟩:=lett_of h
 refine rb [] 2 ⟨[(1000000,1000000)],[(1000000,1000000)],[.own 1000000 0,vi a1],[(1000000,61,qc11 h0)],vb r1.1,[(1000000,61,qc11 r1.2)]⟩ [0,4,7] [4,1000000] [(0,.own 1000000 0),(4,.own 4 0),(7,vb r1.1)] [(4,68,[.str [],.str [],vi 0,.val (.slice none 0 0)]),(1000000,61,qc11 r1.2)] ((ok_tmpl_reader_deeper__o0 a1 h0 _ hr1)) (To.thenN (cn h (fun h=>?_) (fun h=>?_)))
 ·refine Wp.seq (rg [4] [4,1000000] [(4,.own 4 0)] [(4,68,[.str [],.str [],vi 0,.val (.slice none 0 0)]),(1000000,61,qc11 r1.2)] (To.thenN (Wp.ret (To.thenR (To.weak (K':=[(4,.own 4 0)]) (L':=[(4,68,[.str [],.str [],vi 0,tn5 []]),(1000000,61,qc11 r1.2)]) (.cons (.refl _) .nil) (.cons (.cons (.refl _) (.cons (.refl _) (.cons (.refl _) (.cons (.zeroT _ _ _) .nil)))) (.cons (.cons (.refl _) (.cons (.refl _) (.cons (.refl _) .nil))) .nil)) ?_)))))
  cases h
  exact To.doneB hΓ [1000000] (by kernel_rfl) (by kernel_rfl)
 ·refine Wp.skip (To.thenN (Wp.seq ?_))
  obtain ⟨r2,hr2,h⟩:=bind_of h
  refine rb [] 1 ⟨[(1000000,1000000)],[(1000000,1000000)],[.own 1000000 0],[(1000000,61,qc11 r1.2)],.str r2.1,[(1000000,61,qc11 r2.2)]⟩ [4] [4,1000000] [(4,.own 4 0)] [(4,68,[.str r2.1,.str [],vi 1,.val (.slice none 0 0)]),(1000000,61,qc11 r2.2)] ((ok_tmpl_reader_name__o0 n r1.2 _ hr2)) (To.thenN (Wp.ret (To.weak (K':=[(4,.own 4 0)]) (L':=[(4,68,[.str r2.1,.str [],vi 1,tn5 []]),(1000000,61,qc11 r2.2)]) (.cons (.refl _) .nil) (.cons (.cons (.refl _) (.cons (.refl _) (.cons (.refl _) (.cons (.zeroT _ _ _) .nil)))) (.cons (.cons (.refl _) (.cons (.refl _) (.cons (.refl _) .nil))) .nil)) ?_)))
  cases h
  exact To.doneB hΓ [1000000] (by kernel_rfl) (by kernel_rfl)
def tmpl_reader_parts__o0_j2 (R_tmpl_reader_parts__o0:Int → S_tmpl_reader → Option ((List (S_tmpl_Part)) × S_tmpl_reader)) (n:Nat) (v1:Int) (v8:Int) (b5:List (S_tmpl_Part)) (b6:List (UInt8)) (b1000000:S_tmpl_reader):Option ((List (S_tmpl_Part)) × (List (UInt8)) × S_tmpl_reader) :=
 if (decide (0 ≤ b1000000.f_at ∧ b1000000.f_at ≤ (List.length b1000000.f_s:Int))) = true then (if (Lib.hasPrefix (List.drop (Int.toNat b1000000.f_at) b1000000.f_s) ([36]:List UInt8)) = true then (if (decide (0 ≤ v8 ∧ v8 < 256)) = true then (if (decide ((List.length b6 + List.length ([(UInt8.ofNat (Int.toNat v8))]:List (UInt8))) * (1 + 1) ≤ limit)) = true then (some (b5,(b6 ++ ([(UInt8.ofNat (Int.toNat v8))]:List (UInt8))),(S_tmpl_reader.mk b1000000.f_s (IntKind.wrap .i64 (b1000000.f_at + 1)) b1000000.f_e))) else none) else none)
 else (if (decide (0 ≤ b1000000.f_at ∧ b1000000.f_at ≤ (List.length b1000000.f_s:Int))) = true then (if (Lib.hasPrefix (List.drop (Int.toNat b1000000.f_at) b1000000.f_s) ([123]:List UInt8)) = true then ((tmpl_reader_parts_1__o0__o1 n b6 b5).bind fun r6 =>
 (tmpl_reader_reference__o0 R_tmpl_reader_parts__o0 n v1 (S_tmpl_reader.mk b1000000.f_s (IntKind.wrap .i64 (b1000000.f_at + 1)) b1000000.f_e)).bind fun r7 =>
 if (decide ((List.length r6.2 + List.length ([(S_tmpl_Part.mk [] [] 0 [])]:List (S_tmpl_Part))) * (64 + 1) ≤ limit)) = true then (if (decide (0 ≤ (List.length r6.2:Int) ∧ (List.length r6.2:Int) < (List.length (r6.2 ++ ([(S_tmpl_Part.mk [] [] 0 [])]:List (S_tmpl_Part))):Int))) = true then (some ((List.set (r6.2 ++ ([(S_tmpl_Part.mk [] [] 0 [])]:List (S_tmpl_Part))) (Int.toNat (List.length r6.2:Int)) r7.1),r6.1,r7.2)) else none) else none)
 else ((tmpl_reader_parts_1__o0__o1 n b6 b5).bind fun r10 =>
 (tmpl_reader_plain__o0 n v1 b1000000).bind fun r11 =>
 if (decide ((List.length r10.2 + List.length ([(S_tmpl_Part.mk [] [] 0 [])]:List (S_tmpl_Part))) * (64 + 1) ≤ limit)) = true then (if (decide (0 ≤ (List.length r10.2:Int) ∧ (List.length r10.2:Int) < (List.length (r10.2 ++ ([(S_tmpl_Part.mk [] [] 0 [])]:List (S_tmpl_Part))):Int))) = true then (some ((List.set (r10.2 ++ ([(S_tmpl_Part.mk [] [] 0 [])]:List (S_tmpl_Part))) (Int.toNat (List.length r10.2:Int)) r11.1),r10.1,r11.2)) else none) else none)) else none)) else none
abbrev rs13 (l:List (UInt8)):D:=.recs (α:=UInt8) 0 e8 l
abbrev ex16 (x0:Int):=([(UInt8.ofNat (Int.toNat x0))]:List (UInt8))
abbrev ex17 (x0:Int):=(MkOb 1 [.val (.int .u8 x0)] 1 (rs13 [(UInt8.ofNat (Int.toNat x0))]) ∧ GoodR (rs13 [(UInt8.ofNat (Int.toNat x0))]))
abbrev ex35 (x0:S_tmpl_reader):=(Lib.hasPrefix (ex15 x0) ([123]:List UInt8))
abbrev ex36 (x0:S_tmpl_reader):=(Lib.hasPrefix (ex15 x0) ([36]:List UInt8))
theorem ok_tmpl_reader_parts__o0_j2 (R_tmpl_reader_parts__o0:Int → S_tmpl_reader → Option ((List (S_tmpl_Part)) × S_tmpl_reader)) (hR_tmpl_reader_parts__o0:hR12 R_tmpl_reader_parts__o0) (n:Nat) (v1:Int) (v8:Int) (b5:List (S_tmpl_Part)) (b6:List (UInt8)) (b1000000:S_tmpl_reader) (o:(List (S_tmpl_Part)) × (List (UInt8)) × S_tmpl_reader) (h:tmpl_reader_parts__o0_j2 R_tmpl_reader_parts__o0 n v1 v8 b5 b6 b1000000 = some o) {F0:Fz} {w0:Pt Tryd.prog} {Q:Exit → Act → World → Prop} (hQ:To 128 F0 w0 [(0,.own 1000000 0),(1,vi v1),(5,.own 5 0),(6,.own 6 0),(7,.fn 48 [.own 6 0,.own 5 0])] [(5,32,[.row 4300]),(6,71,[.row 4360]),(4300,68,[rc10 o.1]),(4360,5,[rc4 o.2.1]),(1000000,61,qc11 o.2.2)] .normal Q):Wp Tryd.prog 128 F0 w0 [(0,.own 1000000 0),(1,vi v1),(5,.own 5 0),(6,.own 6 0),(7,.fn 48 [.own 6 0,.own 5 0]),(8,.val (.int .u8 v8))] [(5,32,[.row 4300]),(6,71,[.row 4360]),(4300,68,[rc10 b5]),(4360,5,[rc4 b6]),(1000000,61,qc11 b1000000)] (cA (cB (cB (cB (cB (cB (cB (cB (cB (cI (cB (cF Tryd.f29)))))))))))) Q:=by
 unfold tmpl_reader_parts__o0_j2 at h
 refine Wp.block (Wp.seq ?_)
 obtain ⟨hc15,h⟩:=chk_of h
 refine Wp.regionD hm hΓ [(9,vb (ex36 b1000000))] [0,1,5,6,7,8,78] [5,6,4300,4360,1000000] (K':=[(0,.own 1000000 0),(1,vi v1),(5,.own 5 0),(6,.own 6 0),(7,.fn 48 [.own 6 0,.own 5 0]),(8,.val (.int .u8 v8)),(78,vb (ex36 b1000000))]) (L':=[(5,32,[.row 4300]),(6,71,[.row 4360]),(4300,68,[rc10 b5]),(4360,5,[rc4 b6]),(1000000,61,qc11 b1000000)]) (ob:=[(decide (0 ≤ b1000000.f_at ∧ b1000000.f_at ≤ (ex14 b1000000))) = true,(true = true → CX Tryd.prog 49 [.str (ex15 b1000000),.str [36]] (vb (ex36 b1000000)))]) (by kernel_rfl) (AllP.cons hc15 (AllP.cons (fun _=>cx (Sh.hasPrefix49)) AllP.nil)) (To.thenN (cn h (fun h=>?_) (fun h=>?_)))
 ·refine Wp.seq ?_
  obtain ⟨u4,h⟩:=chk_of h
  obtain ⟨hc5,h⟩:=chk_of h
  refine rr [] [(2,rs13 [(UInt8.ofNat (Int.toNat v8))]),(3,rs13 (b6 ++ (ex16 v8)))] [] [0,1,5,6,7] [5,6,92,4300,1000000] [(0,.own 1000000 0),(1,vi v1),(5,.own 5 0),(6,.own 6 0),(7,.fn 48 [.own 6 0,.own 5 0])] [(5,32,[.row 4300]),(6,71,[.row 92]),(92,5,[rc4 (b6 ++ (ex16 v8))]),(4300,68,[rc10 b5]),(1000000,61,qc11 b1000000)] [(ex17 v8),_,(AppOb 0 e8 b6 (List.flatMap e8 (ex16 v8)) (List.length (ex16 v8)) (rs13 (b6 ++ (ex16 v8))) ∧ GoodR (rs13 (b6 ++ (ex16 v8))))] (AllP.cons (mkOb (All8.cells (ns:=[v8]) (.cons (u8_of u4) .nil)) rfl rfl (good8 _)) (AllP.cons hc5 (AllP.cons (appOb rfl rfl (good8 _)) AllP.nil))) (To.thenN (rg [0,1,5,6,7] [5,6,92,4300,1000000] [(0,.own 1000000 0),(1,vi v1),(5,.own 5 0),(6,.own 6 0),(7,.fn 48 [.own 6 0,.own 5 0])] [(5,32,[.row 4300]),(6,71,[.row 92]),(92,5,[rc4 (b6 ++ (ex16 v8))]),(4300,68,[rc10 b5]),(ex11 b1000000)] (To.blockN (nt [0,1,5,6,7] [5,6,92,4300,1000000] [(92,4360)] [0,1,5,6,7] [5,6,4300,4360,1000000] [(0,.own 1000000 0),(1,vi v1),(5,.own 5 0),(6,.own 6 0),(7,.fn 48 [.own 6 0,.own 5 0])] [(5,32,[.row 4300]),(6,71,[.row 4360]),(4300,68,[rc10 b5]),(4360,5,[rc4 (b6 ++ (ex16 v8))]),(ex11 b1000000)] ?_))))
  cases h
  exact hQ
 ·refine Wp.seq ?_
  obtain ⟨hc14,h⟩:=chk_of h
  refine Wp.regionD hm hΓ [(9,vb (ex35 b1000000))] [0,1,5,6,7,100] [5,6,4300,4360,1000000] (K':=[(0,.own 1000000 0),(1,vi v1),(5,.own 5 0),(6,.own 6 0),(7,.fn 48 [.own 6 0,.own 5 0]),(100,vb (ex35 b1000000))]) (L':=[(5,32,[.row 4300]),(6,71,[.row 4360]),(4300,68,[rc10 b5]),(4360,5,[rc4 b6]),(1000000,61,qc11 b1000000)]) (ob:=[(decide (0 ≤ b1000000.f_at ∧ b1000000.f_at ≤ (ex14 b1000000))) = true,(true = true → CX Tryd.prog 49 [.str (ex15 b1000000),.str [123]] (vb (ex35 b1000000)))]) (by kernel_rfl) (AllP.cons hc14 (AllP.cons (fun _=>cx (Sh.hasPrefix49)) AllP.nil)) (To.thenN (cn h (fun h=>?_) (fun h=>?_)))
  ·refine Wp.seq (rg [0,1,5,6,7] [5,6,4300,4360,1000000] [(0,.own 1000000 0),(1,vi v1),(5,.own 5 0),(6,.own 6 0),(7,.fn 48 [.own 6 0,.own 5 0])] [(5,32,[.row 4300]),(6,71,[.row 4360]),(4300,68,[rc10 b5]),(4360,5,[rc4 b6]),(ex11 b1000000)] (To.thenN (Wp.seq ?_)))
   obtain ⟨r6,hr6,h⟩:=bind_of h
   refine rb [] 1 ⟨[(1000000,6),(1000001,5),(1010000,4360),(1010100,4300)],[(200,4360),(300,4300),(1000000,6),(1000001,5)],[.own 1000000 0,.own 1000001 0],[(1000000,71,[.row 1010000]),(1000001,32,[.row 1010100]),(1010000,5,[rc4 b6]),(1010100,68,[rc10 b5])],.tup [],[(200,5,[rc4 r6.1]),(300,68,[rc10 r6.2]),(1000000,71,[.row 200]),(1000001,32,[.row 300])]⟩ [0,1,5,6,7] [5,6,4300,4360,1000000] [(0,.own 1000000 0),(1,vi v1),(5,.own 5 0),(6,.own 6 0),(7,.fn 48 [.own 6 0,.own 5 0])] [(5,32,[.row 4300]),(6,71,[.row 4360]),(4300,68,[rc10 r6.2]),(4360,5,[rc4 r6.1]),(ex11 b1000000)] ((ok_tmpl_reader_parts_1__o0__o1 n b6 b5 _ hr6)) (To.thenN ?_)
   obtain ⟨r7,hr7,h⟩:=bind_of h
   obtain ⟨hc8,h⟩:=chk_of h
   obtain ⟨hc9,h⟩:=chk_of h
   refine Wp.regionO hm hΓ [] [(5,rs3 ([zx2])),(6,rs3 (r6.2 ++ ([zx2]:List (S_tmpl_Part)))),(8,rs3 (List.set (r6.2 ++ ([zx2]:List (S_tmpl_Part))) (Int.toNat (List.length r6.2:Int)) r7.1))] [(3,⟨[(1000000,1000000)],[(1000000,1000000)],[.own 1000000 0,vi v1],[(ex11 b1000000)],.agg (qc7 r7.1),[(1000000,61,qc11 r7.2)]⟩)] [0,1,5,6,7,120,121,122,123,124,125,126,127] [5,6,125,126,4300,4360,1000000] [0,1,5,6,7] [5,6,126,4360,1000000] (K':=[(0,.own 1000000 0),(1,vi v1),(5,.own 5 0),(6,.own 6 0),(7,.fn 48 [.own 6 0,.own 5 0])]) (L':=[(5,32,[.row 126]),(6,71,[.row 4360]),(126,68,[rc10 (List.set (r6.2 ++ ([zx2]:List (S_tmpl_Part))) (Int.toNat (List.length r6.2:Int)) r7.1)]),(4360,5,[rc4 r6.1]),(1000000,61,qc11 r7.2)]) (ob:=[CbOb (CallsB Tryd.prog) 50 [.own 1000000 0,vi v1] [some (61,[.str b1000000.f_s,vi (IntKind.wrap .i64 (b1000000.f_at + 1)),vi b1000000.f_e])] ⟨[(1000000,1000000)],[(1000000,1000000)],[.own 1000000 0,vi v1],[(ex11 b1000000)],.agg (qc7 r7.1),[(1000000,61,qc11 r7.2)]⟩,(MkOb 4 [.str [],.str [],vi 0,.val (.slice none 0 0)] 1 (rs3 ([zx2])) ∧ GoodR (rs3 ([zx2]))),(decide ((List.length r6.2 + List.length ([zx2]:List (S_tmpl_Part))) * (64 + 1) ≤ limit)) = true,(AppOb zx2 E_tmpl_Part r6.2 (List.flatMap E_tmpl_Part ([zx2]:List (S_tmpl_Part))) (List.length ([zx2]:List (S_tmpl_Part))) (rs3 (r6.2 ++ ([zx2]:List (S_tmpl_Part)))) ∧ GoodR (rs3 (r6.2 ++ ([zx2]:List (S_tmpl_Part))))),(decide (0 ≤ (List.length r6.2:Int) ∧ (List.length r6.2:Int) < (List.length (r6.2 ++ ([zx2]:List (S_tmpl_Part))):Int))) = true,(decide (0 ≤ (List.length r6.2:Int) ∧ (List.length r6.2:Int) < (List.length (r6.2 ++ ([zx2]:List (S_tmpl_Part))):Int))) = true,UpdOb zx2 E_tmpl_Part (r6.2 ++ ([zx2]:List (S_tmpl_Part))) (List.length r6.2:Int) 0 (qc7 r7.1) (rs3 (List.set (r6.2 ++ ([zx2]:List (S_tmpl_Part))) (Int.toNat (List.length r6.2:Int)) r7.1))]) (by kernel_rfl) (by kernel_rfl) (AllP.cons (⟨(ok_tmpl_reader_reference__o0 R_tmpl_reader_parts__o0 hR_tmpl_reader_parts__o0 n v1 (ex13 b1000000) _ hr7),by kernel_rfl,by kernel_rfl⟩) (AllP.cons (mkObW (weaks_eq (ds:=[.str [],.str [],vi 0,.val (.slice none 0 0)]) (es:=[.str [],.str [],vi 0,tn5 []]) (by kernel_rfl) (.cons (.refl _) (.cons (.refl _) (.cons (.refl _) (.cons (.zeroT _ _ _) .nil)))) (by kernel_rfl)) rfl (by kernel_rfl) (good_E_tmpl_Part _)) (AllP.cons hc8 (AllP.cons (appOb rfl rfl (good_E_tmpl_Part _)) (AllP.cons hc9 (AllP.cons hc9 (AllP.cons (updOb (by kernel_rfl)) AllP.nil))))))) ?_
   refine To.blockN (nt [0,1,5,6,7] [5,6,126,4360,1000000] [(126,4300)] [0,1,5,6,7] [5,6,4300,4360,1000000] [(0,.own 1000000 0),(1,vi v1),(5,.own 5 0),(6,.own 6 0),(7,.fn 48 [.own 6 0,.own 5 0])] [(5,32,[.row 4300]),(6,71,[.row 4360]),(4300,68,[rc10 (List.set (r6.2 ++ ([zx2]:List (S_tmpl_Part))) (Int.toNat (List.length r6.2:Int)) r7.1)]),(4360,5,[rc4 r6.1]),(1000000,61,qc11 r7.2)] ?_)
   cases h
   exact hQ
  ·refine Wp.seq ?_
   obtain ⟨r10,hr10,h⟩:=bind_of h
   refine rb [] 1 ⟨[(1000000,6),(1000001,5),(1010000,4360),(1010100,4300)],[(200,4360),(300,4300),(1000000,6),(1000001,5)],[.own 1000000 0,.own 1000001 0],[(1000000,71,[.row 1010000]),(1000001,32,[.row 1010100]),(1010000,5,[rc4 b6]),(1010100,68,[rc10 b5])],.tup [],[(200,5,[rc4 r10.1]),(300,68,[rc10 r10.2]),(1000000,71,[.row 200]),(1000001,32,[.row 300])]⟩ [0,1,5,6,7] [5,6,4300,4360,1000000] [(0,.own 1000000 0),(1,vi v1),(5,.own 5 0),(6,.own 6 0),(7,.fn 48 [.own 6 0,.own 5 0])] [(5,32,[.row 4300]),(6,71,[.row 4360]),(4300,68,[rc10 r10.2]),(4360,5,[rc4 r10.1]),(1000000,61,qc11 b1000000)] ((ok_tmpl_reader_parts_1__o0__o1 n b6 b5 _ hr10)) (To.thenN ?_)
   obtain ⟨r11,hr11,h⟩:=bind_of h
   obtain ⟨hc12,h⟩:=chk_of h
   obtain ⟨hc13,h⟩:=chk_of h
   refine Wp.regionO hm hΓ [] [(5,rs3 ([zx2])),(6,rs3 (r10.2 ++ ([zx2]:List (S_tmpl_Part)))),(8,rs3 (List.set (r10.2 ++ ([zx2]:List (S_tmpl_Part))) (Int.toNat (List.length r10.2:Int)) r11.1))] [(3,⟨[(1000000,1000000)],[(1000000,1000000)],[.own 1000000 0,vi v1],[(1000000,61,qc11 b1000000)],.agg (qc7 r11.1),[(1000000,61,qc11 r11.2)]⟩)] [0,1,5,6,7,70,71,72,73,74,75,76,77] [5,6,75,76,4300,4360,1000000] [0,1,5,6,7] [5,6,76,4360,1000000] (K':=[(0,.own 1000000 0),(1,vi v1),(5,.own 5 0),(6,.own 6 0),(7,.fn 48 [.own 6 0,.own 5 0])]) (L':=[(5,32,[.row 76]),(6,71,[.row 4360]),(76,68,[rc10 (List.set (r10.2 ++ ([zx2]:List (S_tmpl_Part))) (Int.toNat (List.length r10.2:Int)) r11.1)]),(4360,5,[rc4 r10.1]),(1000000,61,qc11 r11.2)]) (ob:=[CbOb (CallsB Tryd.prog) 51 [.own 1000000 0,vi v1] [some (61,qc11 b1000000)] ⟨[(1000000,1000000)],[(1000000,1000000)],[.own 1000000 0,vi v1],[(1000000,61,qc11 b1000000)],.agg (qc7 r11.1),[(1000000,61,qc11 r11.2)]⟩,(MkOb 4 [.str [],.str [],vi 0,.val (.slice none 0 0)] 1 (rs3 ([zx2])) ∧ GoodR (rs3 ([zx2]))),(decide ((List.length r10.2 + List.length ([zx2]:List (S_tmpl_Part))) * (64 + 1) ≤ limit)) = true,(AppOb zx2 E_tmpl_Part r10.2 (List.flatMap E_tmpl_Part ([zx2]:List (S_tmpl_Part))) (List.length ([zx2]:List (S_tmpl_Part))) (rs3 (r10.2 ++ ([zx2]:List (S_tmpl_Part)))) ∧ GoodR (rs3 (r10.2 ++ ([zx2]:List (S_tmpl_Part))))),(decide (0 ≤ (List.length r10.2:Int) ∧ (List.length r10.2:Int) < (List.length (r10.2 ++ ([zx2]:List (S_tmpl_Part))):Int))) = true,(decide (0 ≤ (List.length r10.2:Int) ∧ (List.length r10.2:Int) < (List.length (r10.2 ++ ([zx2]:List (S_tmpl_Part))):Int))) = true,UpdOb zx2 E_tmpl_Part (r10.2 ++ ([zx2]:List (S_tmpl_Part))) (List.length r10.2:Int) 0 (qc7 r11.1) (rs3 (List.set (r10.2 ++ ([zx2]:List (S_tmpl_Part))) (Int.toNat (List.length r10.2:Int)) r11.1))]) (by kernel_rfl) (by kernel_rfl) (AllP.cons (⟨(ok_tmpl_reader_plain__o0 n v1 b1000000 _ hr11),by kernel_rfl,by kernel_rfl⟩) (AllP.cons (mkObW (weaks_eq (ds:=[.str [],.str [],vi 0,.val (.slice none 0 0)]) (es:=[.str [],.str [],vi 0,tn5 []]) (by kernel_rfl) (.cons (.refl _) (.cons (.refl _) (.cons (.refl _) (.cons (.zeroT _ _ _) .nil)))) (by kernel_rfl)) rfl (by kernel_rfl) (good_E_tmpl_Part _)) (AllP.cons hc12 (AllP.cons (appOb rfl rfl (good_E_tmpl_Part _)) (AllP.cons hc13 (AllP.cons hc13 (AllP.cons (updOb (by kernel_rfl)) AllP.nil))))))) ?_
   refine To.blockN (nt [0,1,5,6,7] [5,6,76,4360,1000000] [(76,4300)] [0,1,5,6,7] [5,6,4300,4360,1000000] [(0,.own 1000000 0),(1,vi v1),(5,.own 5 0),(6,.own 6 0),(7,.fn 48 [.own 6 0,.own 5 0])] [(5,32,[.row 4300]),(6,71,[.row 4360]),(4300,68,[rc10 (List.set (r10.2 ++ ([zx2]:List (S_tmpl_Part))) (Int.toNat (List.length r10.2:Int)) r11.1)]),(4360,5,[rc4 r10.1]),(1000000,61,qc11 r11.2)] ?_)
   cases h
   exact hQ
def tmpl_reader_parts__o0_j3 (R_tmpl_reader_parts__o0:Int → S_tmpl_reader → Option ((List (S_tmpl_Part)) × S_tmpl_reader)) (n:Nat) (v1:Int) (v8:Int) (b5:List (S_tmpl_Part)) (b6:List (UInt8)) (b1000000:S_tmpl_reader):Option ((List (S_tmpl_Part)) × (List (UInt8)) × S_tmpl_reader) :=
 if (decide (0 ≤ b1000000.f_at ∧ b1000000.f_at ≤ (List.length b1000000.f_s:Int))) = true then (if (Lib.hasPrefix (List.drop (Int.toNat b1000000.f_at) b1000000.f_s) ([36]:List UInt8)) = true then (if (decide (0 ≤ v8 ∧ v8 < 256)) = true then (if (decide ((List.length b6 + List.length ([(UInt8.ofNat (Int.toNat v8))]:List (UInt8))) * (1 + 1) ≤ limit)) = true then (some (b5,(b6 ++ ([(UInt8.ofNat (Int.toNat v8))]:List (UInt8))),(S_tmpl_reader.mk b1000000.f_s (IntKind.wrap .i64 (b1000000.f_at + 1)) b1000000.f_e))) else none) else none)
 else (if (decide (0 ≤ b1000000.f_at ∧ b1000000.f_at ≤ (List.length b1000000.f_s:Int))) = true then (if (Lib.hasPrefix (List.drop (Int.toNat b1000000.f_at) b1000000.f_s) ([123]:List UInt8)) = true then ((tmpl_reader_parts_1__o0__o1 n b6 b5).bind fun r6 =>
 (tmpl_reader_reference__o0 R_tmpl_reader_parts__o0 n v1 (S_tmpl_reader.mk b1000000.f_s (IntKind.wrap .i64 (b1000000.f_at + 1)) b1000000.f_e)).bind fun r7 =>
 if (decide ((List.length r6.2 + List.length ([(S_tmpl_Part.mk [] [] 0 [])]:List (S_tmpl_Part))) * (64 + 1) ≤ limit)) = true then (if (decide (0 ≤ (List.length r6.2:Int) ∧ (List.length r6.2:Int) < (List.length (r6.2 ++ ([(S_tmpl_Part.mk [] [] 0 [])]:List (S_tmpl_Part))):Int))) = true then (some ((List.set (r6.2 ++ ([(S_tmpl_Part.mk [] [] 0 [])]:List (S_tmpl_Part))) (Int.toNat (List.length r6.2:Int)) r7.1),r6.1,r7.2)) else none) else none)
 else ((tmpl_reader_parts_1__o0__o1 n b6 b5).bind fun r10 =>
 (tmpl_reader_plain__o0 n v1 b1000000).bind fun r11 =>
 if (decide ((List.length r10.2 + List.length ([(S_tmpl_Part.mk [] [] 0 [])]:List (S_tmpl_Part))) * (64 + 1) ≤ limit)) = true then (if (decide (0 ≤ (List.length r10.2:Int) ∧ (List.length r10.2:Int) < (List.length (r10.2 ++ ([(S_tmpl_Part.mk [] [] 0 [])]:List (S_tmpl_Part))):Int))) = true then (some ((List.set (r10.2 ++ ([(S_tmpl_Part.mk [] [] 0 [])]:List (S_tmpl_Part))) (Int.toNat (List.length r10.2:Int)) r11.1),r10.1,r11.2)) else none) else none)) else none)) else none
theorem ok_tmpl_reader_parts__o0_j3 (R_tmpl_reader_parts__o0:Int → S_tmpl_reader → Option ((List (S_tmpl_Part)) × S_tmpl_reader)) (hR_tmpl_reader_parts__o0:hR12 R_tmpl_reader_parts__o0) (n:Nat) (v1:Int) (v8:Int) (b5:List (S_tmpl_Part)) (b6:List (UInt8)) (b1000000:S_tmpl_reader) (o:(List (S_tmpl_Part)) × (List (UInt8)) × S_tmpl_reader) (h:tmpl_reader_parts__o0_j3 R_tmpl_reader_parts__o0 n v1 v8 b5 b6 b1000000 = some o) {F0:Fz} {w0:Pt Tryd.prog} {Q:Exit → Act → World → Prop} (hQ:To 128 F0 w0 [(0,.own 1000000 0),(1,vi v1),(5,.own 5 0),(6,.own 6 0),(7,.fn 48 [.own 6 0,.own 5 0])] [(5,32,[.row 4300]),(6,71,[.row 4360]),(4300,68,[rc10 o.1]),(4360,5,[rc4 o.2.1]),(1000000,61,qc11 o.2.2)] .normal Q):Wp Tryd.prog 128 F0 w0 [(0,.own 1000000 0),(1,vi v1),(5,.own 5 0),(6,.own 6 0),(7,.fn 48 [.own 6 0,.own 5 0]),(8,.val (.int .u8 v8))] [(5,32,[.row 4300]),(6,71,[.row 4360]),(4300,68,[rc10 b5]),(4360,5,[rc4 b6]),(1000000,61,qc11 b1000000)] (cA (cB (cB (cB (cB (cB (cB (cB (cB (cI (cB (cF Tryd.f29)))))))))))) Q:=by
 unfold tmpl_reader_parts__o0_j3 at h
 refine Wp.block (Wp.seq ?_)
 obtain ⟨hc15,h⟩:=chk_of h
 refine Wp.regionD hm hΓ [(9,vb (ex36 b1000000))] [0,1,5,6,7,8,78] [5,6,4300,4360,1000000] (K':=[(0,.own 1000000 0),(1,vi v1),(5,.own 5 0),(6,.own 6 0),(7,.fn 48 [.own 6 0,.own 5 0]),(8,.val (.int .u8 v8)),(78,vb (ex36 b1000000))]) (L':=[(5,32,[.row 4300]),(6,71,[.row 4360]),(4300,68,[rc10 b5]),(4360,5,[rc4 b6]),(1000000,61,qc11 b1000000)]) (ob:=[(decide (0 ≤ b1000000.f_at ∧ b1000000.f_at ≤ (ex14 b1000000))) = true,(true = true → CX Tryd.prog 49 [.str (ex15 b1000000),.str [36]] (vb (ex36 b1000000)))]) (by kernel_rfl) (AllP.cons hc15 (AllP.cons (fun _=>cx (Sh.hasPrefix49)) AllP.nil)) (To.thenN (cn h (fun h=>?_) (fun h=>?_)))
 ·refine Wp.seq ?_
  obtain ⟨u4,h⟩:=chk_of h
  obtain ⟨hc5,h⟩:=chk_of h
  refine rr [] [(2,rs13 [(UInt8.ofNat (Int.toNat v8))]),(3,rs13 (b6 ++ (ex16 v8)))] [] [0,1,5,6,7] [5,6,92,4300,1000000] [(0,.own 1000000 0),(1,vi v1),(5,.own 5 0),(6,.own 6 0),(7,.fn 48 [.own 6 0,.own 5 0])] [(5,32,[.row 4300]),(6,71,[.row 92]),(92,5,[rc4 (b6 ++ (ex16 v8))]),(4300,68,[rc10 b5]),(1000000,61,qc11 b1000000)] [(ex17 v8),_,(AppOb 0 e8 b6 (List.flatMap e8 (ex16 v8)) (List.length (ex16 v8)) (rs13 (b6 ++ (ex16 v8))) ∧ GoodR (rs13 (b6 ++ (ex16 v8))))] (AllP.cons (mkOb (All8.cells (ns:=[v8]) (.cons (u8_of u4) .nil)) rfl rfl (good8 _)) (AllP.cons hc5 (AllP.cons (appOb rfl rfl (good8 _)) AllP.nil))) (To.thenN (rg [0,1,5,6,7] [5,6,92,4300,1000000] [(0,.own 1000000 0),(1,vi v1),(5,.own 5 0),(6,.own 6 0),(7,.fn 48 [.own 6 0,.own 5 0])] [(5,32,[.row 4300]),(6,71,[.row 92]),(92,5,[rc4 (b6 ++ (ex16 v8))]),(4300,68,[rc10 b5]),(ex11 b1000000)] (To.blockN (nt [0,1,5,6,7] [5,6,92,4300,1000000] [(92,4360)] [0,1,5,6,7] [5,6,4300,4360,1000000] [(0,.own 1000000 0),(1,vi v1),(5,.own 5 0),(6,.own 6 0),(7,.fn 48 [.own 6 0,.own 5 0])] [(5,32,[.row 4300]),(6,71,[.row 4360]),(4300,68,[rc10 b5]),(4360,5,[rc4 (b6 ++ (ex16 v8))]),(ex11 b1000000)] ?_))))
  cases h
  exact hQ
 ·refine Wp.seq ?_
  obtain ⟨hc14,h⟩:=chk_of h
  refine Wp.regionD hm hΓ [(9,vb (ex35 b1000000))] [0,1,5,6,7,100] [5,6,4300,4360,1000000] (K':=[(0,.own 1000000 0),(1,vi v1),(5,.own 5 0),(6,.own 6 0),(7,.fn 48 [.own 6 0,.own 5 0]),(100,vb (ex35 b1000000))]) (L':=[(5,32,[.row 4300]),(6,71,[.row 4360]),(4300,68,[rc10 b5]),(4360,5,[rc4 b6]),(1000000,61,qc11 b1000000)]) (ob:=[(decide (0 ≤ b1000000.f_at ∧ b1000000.f_at ≤ (ex14 b1000000))) = true,(true = true → CX Tryd.prog 49 [.str (ex15 b1000000),.str [123]] (vb (ex35 b1000000)))]) (by kernel_rfl) (AllP.cons hc14 (AllP.cons (fun _=>cx (Sh.hasPrefix49)) AllP.nil)) (To.thenN (cn h (fun h=>?_) (fun h=>?_)))
  ·refine Wp.seq (rg [0,1,5,6,7] [5,6,4300,4360,1000000] [(0,.own 1000000 0),(1,vi v1),(5,.own 5 0),(6,.own 6 0),(7,.fn 48 [.own 6 0,.own 5 0])] [(5,32,[.row 4300]),(6,71,[.row 4360]),(4300,68,[rc10 b5]),(4360,5,[rc4 b6]),(ex11 b1000000)] (To.thenN (Wp.seq ?_)))
   obtain ⟨r6,hr6,h⟩:=bind_of h
   refine rb [] 1 ⟨[(1000000,6),(1000001,5),(1010000,4360),(1010100,4300)],[(200,4360),(300,4300),(1000000,6),(1000001,5)],[.own 1000000 0,.own 1000001 0],[(1000000,71,[.row 1010000]),(1000001,32,[.row 1010100]),(1010000,5,[rc4 b6]),(1010100,68,[rc10 b5])],.tup [],[(200,5,[rc4 r6.1]),(300,68,[rc10 r6.2]),(1000000,71,[.row 200]),(1000001,32,[.row 300])]⟩ [0,1,5,6,7] [5,6,4300,4360,1000000] [(0,.own 1000000 0),(1,vi v1),(5,.own 5 0),(6,.own 6 0),(7,.fn 48 [.own 6 0,.own 5 0])] [(5,32,[.row 4300]),(6,71,[.row 4360]),(4300,68,[rc10 r6.2]),(4360,5,[rc4 r6.1]),(ex11 b1000000)] ((ok_tmpl_reader_parts_1__o0__o1 n b6 b5 _ hr6)) (To.thenN ?_)
   obtain ⟨r7,hr7,h⟩:=bind_of h
   obtain ⟨hc8,h⟩:=chk_of h
   obtain ⟨hc9,h⟩:=chk_of h
   refine Wp.regionO hm hΓ [] [(5,rs3 ([zx2])),(6,rs3 (r6.2 ++ ([zx2]:List (S_tmpl_Part)))),(8,rs3 (List.set (r6.2 ++ ([zx2]:List (S_tmpl_Part))) (Int.toNat (List.length r6.2:Int)) r7.1))] [(3,⟨[(1000000,1000000)],[(1000000,1000000)],[.own 1000000 0,vi v1],[(ex11 b1000000)],.agg (qc7 r7.1),[(1000000,61,qc11 r7.2)]⟩)] [0,1,5,6,7,120,121,122,123,124,125,126,127] [5,6,125,126,4300,4360,1000000] [0,1,5,6,7] [5,6,126,4360,1000000] (K':=[(0,.own 1000000 0),(1,vi v1),(5,.own 5 0),(6,.own 6 0),(7,.fn 48 [.own 6 0,.own 5 0])]) (L':=[(5,32,[.row 126]),(6,71,[.row 4360]),(126,68,[rc10 (List.set (r6.2 ++ ([zx2]:List (S_tmpl_Part))) (Int.toNat (List.length r6.2:Int)) r7.1)]),(4360,5,[rc4 r6.1]),(1000000,61,qc11 r7.2)]) (ob:=[CbOb (CallsB Tryd.prog) 50 [.own 1000000 0,vi v1] [some (61,[.str b1000000.f_s,vi (IntKind.wrap .i64 (b1000000.f_at + 1)),vi b1000000.f_e])] ⟨[(1000000,1000000)],[(1000000,1000000)],[.own 1000000 0,vi v1],[(ex11 b1000000)],.agg (qc7 r7.1),[(1000000,61,qc11 r7.2)]⟩,(MkOb 4 [.str [],.str [],vi 0,.val (.slice none 0 0)] 1 (rs3 ([zx2])) ∧ GoodR (rs3 ([zx2]))),(decide ((List.length r6.2 + List.length ([zx2]:List (S_tmpl_Part))) * (64 + 1) ≤ limit)) = true,(AppOb zx2 E_tmpl_Part r6.2 (List.flatMap E_tmpl_Part ([zx2]:List (S_tmpl_Part))) (List.length ([zx2]:List (S_tmpl_Part))) (rs3 (r6.2 ++ ([zx2]:List (S_tmpl_Part)))) ∧ GoodR (rs3 (r6.2 ++ ([zx2]:List (S_tmpl_Part))))),(decide (0 ≤ (List.length r6.2:Int) ∧ (List.length r6.2:Int) < (List.length (r6.2 ++ ([zx2]:List (S_tmpl_Part))):Int))) = true,(decide (0 ≤ (List.length r6.2:Int) ∧ (List.length r6.2:Int) < (List.length (r6.2 ++ ([zx2]:List (S_tmpl_Part))):Int))) = true,UpdOb zx2 E_tmpl_Part (r6.2 ++ ([zx2]:List (S_tmpl_Part))) (List.length r6.2:Int) 0 (qc7 r7.1) (rs3 (List.set (r6.2 ++ ([zx2]:List (S_tmpl_Part))) (Int.toNat (List.length r6.2:Int)) r7.1))]) (by kernel_rfl) (by kernel_rfl) (AllP.cons (⟨(ok_tmpl_reader_reference__o0 R_tmpl_reader_parts__o0 hR_tmpl_reader_parts__o0 n v1 (ex13 b1000000) _ hr7),by kernel_rfl,by kernel_rfl⟩) (AllP.cons (mkObW (weaks_eq (ds:=[.str [],.str [],vi 0,.val (.slice none 0 0)]) (es:=[.str [],.str [],vi 0,tn5 []]) (by kernel_rfl) (.cons (.refl _) (.cons (.refl _) (.cons (.refl _) (.cons (.zeroT _ _ _) .nil)))) (by kernel_rfl)) rfl (by kernel_rfl) (good_E_tmpl_Part _)) (AllP.cons hc8 (AllP.cons (appOb rfl rfl (good_E_tmpl_Part _)) (AllP.cons hc9 (AllP.cons hc9 (AllP.cons (updOb (by kernel_rfl)) AllP.nil))))))) ?_
   refine To.blockN (nt [0,1,5,6,7] [5,6,126,4360,1000000] [(126,4300)] [0,1,5,6,7] [5,6,4300,4360,1000000] [(0,.own 1000000 0),(1,vi v1),(5,.own 5 0),(6,.own 6 0),(7,.fn 48 [.own 6 0,.own 5 0])] [(5,32,[.row 4300]),(6,71,[.row 4360]),(4300,68,[rc10 (List.set (r6.2 ++ ([zx2]:List (S_tmpl_Part))) (Int.toNat (List.length r6.2:Int)) r7.1)]),(4360,5,[rc4 r6.1]),(1000000,61,qc11 r7.2)] ?_)
   cases h
   exact hQ
  ·refine Wp.seq ?_
   obtain ⟨r10,hr10,h⟩:=bind_of h
   refine rb [] 1 ⟨[(1000000,6),(1000001,5),(1010000,4360),(1010100,4300)],[(200,4360),(300,4300),(1000000,6),(1000001,5)],[.own 1000000 0,.own 1000001 0],[(1000000,71,[.row 1010000]),(1000001,32,[.row 1010100]),(1010000,5,[rc4 b6]),(1010100,68,[rc10 b5])],.tup [],[(200,5,[rc4 r10.1]),(300,68,[rc10 r10.2]),(1000000,71,[.row 200]),(1000001,32,[.row 300])]⟩ [0,1,5,6,7] [5,6,4300,4360,1000000] [(0,.own 1000000 0),(1,vi v1),(5,.own 5 0),(6,.own 6 0),(7,.fn 48 [.own 6 0,.own 5 0])] [(5,32,[.row 4300]),(6,71,[.row 4360]),(4300,68,[rc10 r10.2]),(4360,5,[rc4 r10.1]),(1000000,61,qc11 b1000000)] ((ok_tmpl_reader_parts_1__o0__o1 n b6 b5 _ hr10)) (To.thenN ?_)
   obtain ⟨r11,hr11,h⟩:=bind_of h
   obtain ⟨hc12,h⟩:=chk_of h
   obtain ⟨hc13,h⟩:=chk_of h
   refine Wp.regionO hm hΓ [] [(5,rs3 ([zx2])),(6,rs3 (r10.2 ++ ([zx2]:List (S_tmpl_Part)))),(8,rs3 (List.set (r10.2 ++ ([zx2]:List (S_tmpl_Part))) (Int.toNat (List.length r10.2:Int)) r11.1))] [(3,⟨[(1000000,1000000)],[(1000000,1000000)],[.own 1000000 0,vi v1],[(1000000,61,qc11 b1000000)],.agg (qc7 r11.1),[(1000000,61,qc11 r11.2)]⟩)] [0,1,5,6,7,70,71,72,73,74,75,76,77] [5,6,75,76,4300,4360,1000000] [0,1,5,6,7] [5,6,76,4360,1000000] (K':=[(0,.own 1000000 0),(1,vi v1),(5,.own 5 0),(6,.own 6 0),(7,.fn 48 [.own 6 0,.own 5 0])]) (L':=[(5,32,[.row 76]),(6,71,[.row 4360]),(76,68,[rc10 (List.set (r10.2 ++ ([zx2]:List (S_tmpl_Part))) (Int.toNat (List.length r10.2:Int)) r11.1)]),(4360,5,[rc4 r10.1]),(1000000,61,qc11 r11.2)]) (ob:=[CbOb (CallsB Tryd.prog) 51 [.own 1000000 0,vi v1] [some (61,qc11 b1000000)] ⟨[(1000000,1000000)],[(1000000,1000000)],[.own 1000000 0,vi v1],[(1000000,61,qc11 b1000000)],.agg (qc7 r11.1),[(1000000,61,qc11 r11.2)]⟩,(MkOb 4 [.str [],.str [],vi 0,.val (.slice none 0 0)] 1 (rs3 ([zx2])) ∧ GoodR (rs3 ([zx2]))),(decide ((List.length r10.2 + List.length ([zx2]:List (S_tmpl_Part))) * (64 + 1) ≤ limit)) = true,(AppOb zx2 E_tmpl_Part r10.2 (List.flatMap E_tmpl_Part ([zx2]:List (S_tmpl_Part))) (List.length ([zx2]:List (S_tmpl_Part))) (rs3 (r10.2 ++ ([zx2]:List (S_tmpl_Part)))) ∧ GoodR (rs3 (r10.2 ++ ([zx2]:List (S_tmpl_Part))))),(decide (0 ≤ (List.length r10.2:Int) ∧ (List.length r10.2:Int) < (List.length (r10.2 ++ ([zx2]:List (S_tmpl_Part))):Int))) = true,(decide (0 ≤ (List.length r10.2:Int) ∧ (List.length r10.2:Int) < (List.length (r10.2 ++ ([zx2]:List (S_tmpl_Part))):Int))) = true,UpdOb zx2 E_tmpl_Part (r10.2 ++ ([zx2]:List (S_tmpl_Part))) (List.length r10.2:Int) 0 (qc7 r11.1) (rs3 (List.set (r10.2 ++ ([zx2]:List (S_tmpl_Part))) (Int.toNat (List.length r10.2:Int)) r11.1))]) (by kernel_rfl) (by kernel_rfl) (AllP.cons (⟨(ok_tmpl_reader_plain__o0 n v1 b1000000 _ hr11),by kernel_rfl,by kernel_rfl⟩) (AllP.cons (mkObW (weaks_eq (ds:=[.str [],.str [],vi 0,.val (.slice none 0 0)]) (es:=[.str [],.str [],vi 0,tn5 []]) (by kernel_rfl) (.cons (.refl _) (.cons (.refl _) (.cons (.refl _) (.cons (.zeroT _ _ _) .nil)))) (by kernel_rfl)) rfl (by kernel_rfl) (good_E_tmpl_Part _)) (AllP.cons hc12 (AllP.cons (appOb rfl rfl (good_E_tmpl_Part _)) (AllP.cons hc13 (AllP.cons hc13 (AllP.cons (updOb (by kernel_rfl)) AllP.nil))))))) ?_
   refine To.blockN (nt [0,1,5,6,7] [5,6,76,4360,1000000] [(76,4300)] [0,1,5,6,7] [5,6,4300,4360,1000000] [(0,.own 1000000 0),(1,vi v1),(5,.own 5 0),(6,.own 6 0),(7,.fn 48 [.own 6 0,.own 5 0])] [(5,32,[.row 4300]),(6,71,[.row 4360]),(4300,68,[rc10 (List.set (r10.2 ++ ([zx2]:List (S_tmpl_Part))) (Int.toNat (List.length r10.2:Int)) r11.1)]),(4360,5,[rc4 r10.1]),(1000000,61,qc11 r11.2)] ?_)
   cases h
   exact hQ
mutual
def tmpl_reader_parts__o0_g1_e (R_tmpl_reader_parts__o0:Int → S_tmpl_reader → Option ((List (S_tmpl_Part)) × S_tmpl_reader)) (n:Nat):Nat → Int → S_tmpl_reader → Option ((List (S_tmpl_Part)) × S_tmpl_reader)
 | 0,_,_=>none
 | k + 1,v1,b1000000=>if ((!(((decide (v1 > 1)) == true) && ((bif (b1000000.f_e != 0) then true else (b1000000.f_at == (List.length b1000000.f_s:Int))) == false)) || decide (0 ≤ b1000000.f_at ∧ b1000000.f_at < (List.length b1000000.f_s:Int)))) = true then (lett ((bif (bif (b1000000.f_e != 0) then true else (b1000000.f_at == (List.length b1000000.f_s:Int))) then true else (bif (decide (v1 > 1)) then ((((b1000000.f_s)[Int.toNat b1000000.f_at]?.getD 0).toNat:Int) == 125) else false)):Bool) fun x1 =>
 if x1 = true then ((tmpl_reader_parts_1__o0__o1 n [] []).bind fun r2 =>
 some (r2.2,b1000000))
 else (if (decide (0 ≤ b1000000.f_at ∧ b1000000.f_at < (List.length b1000000.f_s:Int))) = true then (if ((((b1000000.f_s)[Int.toNat b1000000.f_at]?.getD 0).toNat:Int) != 36) = true then (if (decide ((List.length ([]:List (UInt8)) + List.length ([((b1000000.f_s)[Int.toNat b1000000.f_at]?.getD 0)]:List (UInt8))) * (1 + 1) ≤ limit)) = true then (tmpl_reader_parts__o0_g1_0 R_tmpl_reader_parts__o0 n k v1 [] (([]:List (UInt8)) ++ ([((b1000000.f_s)[Int.toNat b1000000.f_at]?.getD 0)]:List (UInt8))) (S_tmpl_reader.mk b1000000.f_s (IntKind.wrap .i64 (b1000000.f_at + 1)) b1000000.f_e)) else none)
 else ((tmpl_reader_parts__o0_j2 R_tmpl_reader_parts__o0 n v1 (((b1000000.f_s)[Int.toNat b1000000.f_at]?.getD 0).toNat:Int) [] [] (S_tmpl_reader.mk b1000000.f_s (IntKind.wrap .i64 (b1000000.f_at + 1)) b1000000.f_e)).bind fun o4 =>
 tmpl_reader_parts__o0_g1_0 R_tmpl_reader_parts__o0 n k v1 o4.1 o4.2.1 o4.2.2)) else none)) else none
def tmpl_reader_parts__o0_g1_0 (R_tmpl_reader_parts__o0:Int → S_tmpl_reader → Option ((List (S_tmpl_Part)) × S_tmpl_reader)) (n:Nat):Nat → Int → (List (S_tmpl_Part)) → (List (UInt8)) → S_tmpl_reader → Option ((List (S_tmpl_Part)) × S_tmpl_reader)
 | 0,_,_,_,_=>none
 | k + 1,v1,b5,b6,b1000000=>if ((!(((decide (v1 > 1)) == true) && ((bif (b1000000.f_e != 0) then true else (b1000000.f_at == (List.length b1000000.f_s:Int))) == false)) || decide (0 ≤ b1000000.f_at ∧ b1000000.f_at < (List.length b1000000.f_s:Int)))) = true then (lett ((bif (bif (b1000000.f_e != 0) then true else (b1000000.f_at == (List.length b1000000.f_s:Int))) then true else (bif (decide (v1 > 1)) then ((((b1000000.f_s)[Int.toNat b1000000.f_at]?.getD 0).toNat:Int) == 125) else false)):Bool) fun x1 =>
 if x1 = true then ((tmpl_reader_parts_1__o0__o1 n b6 b5).bind fun r2 =>
 some (r2.2,b1000000))
 else (if (decide (0 ≤ b1000000.f_at ∧ b1000000.f_at < (List.length b1000000.f_s:Int))) = true then (if ((((b1000000.f_s)[Int.toNat b1000000.f_at]?.getD 0).toNat:Int) != 36) = true then (if (decide ((List.length b6 + List.length ([((b1000000.f_s)[Int.toNat b1000000.f_at]?.getD 0)]:List (UInt8))) * (1 + 1) ≤ limit)) = true then (tmpl_reader_parts__o0_g1_0 R_tmpl_reader_parts__o0 n k v1 b5 (b6 ++ ([((b1000000.f_s)[Int.toNat b1000000.f_at]?.getD 0)]:List (UInt8))) (S_tmpl_reader.mk b1000000.f_s (IntKind.wrap .i64 (b1000000.f_at + 1)) b1000000.f_e)) else none)
 else ((tmpl_reader_parts__o0_j3 R_tmpl_reader_parts__o0 n v1 (((b1000000.f_s)[Int.toNat b1000000.f_at]?.getD 0).toNat:Int) b5 b6 (S_tmpl_reader.mk b1000000.f_s (IntKind.wrap .i64 (b1000000.f_at + 1)) b1000000.f_e)).bind fun o4 =>
 tmpl_reader_parts__o0_g1_0 R_tmpl_reader_parts__o0 n k v1 o4.1 o4.2.1 o4.2.2)) else none)) else none
end
end Go.Proofs.YtibgdilkodjojaaDoor.M
