import Derived.Test.YtaecmkldkljioaaGreatQRxAnyD
import Derived.Test.YtaecmkldkljioaaGreatQRxArgs
import Derived.Test.YtaecmkldkljioaaGreatQRxGoto
import Derived.Test.YtaecmkldkljioaaGreatQRxNil
import Derived.Test.YtaecmkldkljioaaGreatQRxOrd
import Derived.Test.YtaecmkldkljioaaGreatQRxEqArr
import Derived.Test.YtaecmkldkljioaaGreatQRxEnd
import Derived.Test.YtaecmkldkljioaaGreatQRxRange
import Derived.Test.YtaecmkldkljioaaGreatQRxKeysI
import Derived.Test.YtaecmkldkljioaaGreatQSh35
import Derived.Test.YtaecmkldkljioaaGreatProg
set_option linter.all false
namespace Go.Proofs.YtaecmkldkljioaaGreat.M
open Go.RowKit Go.Proofs.YtaecmkldkljioaaGreat.RX
set_option maxRecDepth 100000
def tab:List (Nat × TI):=[
 (3,{ agg:=false,size:=1,zero:=[.int .i64 0],kind:=.int .i64,eqs:=[] }),
 (4,{ agg:=false,size:=1,zero:=[.bool false],kind:=.bool,eqs:=[] }),
 (9,{ agg:=false,size:=1,zero:=[.string ⟨#[]⟩],kind:=.str,eqs:=[] }),
 (22,{ agg:=false,size:=1,zero:=[.slice none 0 0],kind:=.slice 16 true,elt:=40,eb:=208,ez:=[.int .i64 0,.string ⟨#[]⟩,.int .i64 0,.string ⟨#[]⟩,.string ⟨#[]⟩,.string ⟨#[]⟩,.int .i64 0,.string ⟨#[]⟩,.slice none 0 0,.slice none 0 0,.string ⟨#[]⟩,.int .i64 0,.int .i64 0,.int .i64 0,.int .i64 0,.int .i64 0],ek:=none,eqs:=[] }),
 (25,{ agg:=false,size:=1,zero:=[.pointer none],kind:=.ptr,eqs:=[] }),
 (27,{ agg:=false,size:=1,zero:=[.slice none 0 0],kind:=.slice 25 true,elt:=132,eb:=264,ez:=[.string ⟨#[]⟩,.string ⟨#[]⟩,.string ⟨#[]⟩,.int .i64 0,.string ⟨#[]⟩,.slice none 0 0,.slice none 0 0,.string ⟨#[]⟩,.int .i64 0,.int .i64 0,.int .i64 0,.int .i64 0,.int .i64 0,.int .i64 0,.int .i64 0,.int .i64 0,.int .i64 0,.int .i64 0,.int .i64 0,.bool false,.bool false,.int .i64 0,.int .i64 0,.int .i64 0,.int .i64 0],ek:=none,eqs:=[] }),
 (28,{ agg:=false,size:=1,zero:=[.slice none 0 0],kind:=.slice 2 true,elt:=134,eb:=32,ez:=[.string ⟨#[]⟩,.string ⟨#[]⟩],ek:=none,eqs:=[] }),
 (30,{ agg:=true,size:=4,zero:=[.slice none 0 0,.slice none 0 0,.slice none 0 0,.int .i64 0],kind:=.struct [(0,1,false),(1,1,false),(2,1,false),(3,1,false)],eqs:=[] }),
 (34,{ agg:=false,size:=1,zero:=[.slice none 0 0],kind:=.slice 1 false,elt:=9,eb:=16,ez:=[.string ⟨#[]⟩],ek:=none,eqs:=[] }),
 (36,{ agg:=true,size:=4,zero:=[.string ⟨#[]⟩,.int .i64 0,.int .i64 0,.int .i64 0],kind:=.struct [(0,1,false),(1,1,false),(2,1,false),(3,1,false)],eqs:=[2,0,0,0] }),
 (38,{ agg:=true,size:=13,zero:=[.string ⟨#[]⟩,.string ⟨#[]⟩,.string ⟨#[]⟩,.int .i64 0,.string ⟨#[]⟩,.slice none 0 0,.slice none 0 0,.string ⟨#[]⟩,.int .i64 0,.int .i64 0,.int .i64 0,.int .i64 0,.int .i64 0],kind:=.struct [(0,1,false),(1,1,false),(2,1,false),(3,1,false),(4,1,false),(5,1,false),(6,1,false),(7,4,true),(11,1,false),(12,1,false)],eqs:=[] }),
 (40,{ agg:=true,size:=16,zero:=[.int .i64 0,.string ⟨#[]⟩,.int .i64 0,.string ⟨#[]⟩,.string ⟨#[]⟩,.string ⟨#[]⟩,.int .i64 0,.string ⟨#[]⟩,.slice none 0 0,.slice none 0 0,.string ⟨#[]⟩,.int .i64 0,.int .i64 0,.int .i64 0,.int .i64 0,.int .i64 0],kind:=.struct [(0,1,false),(1,1,false),(2,1,false),(3,13,true)],eqs:=[] }),
 (44,{ agg:=false,size:=1,zero:=[.slice none 0 0],kind:=.slice 18 true,elt:=120,eb:=216,ez:=[.int .i64 0,.string ⟨#[]⟩,.string ⟨#[]⟩,.string ⟨#[]⟩,.int .i64 0,.string ⟨#[]⟩,.slice none 0 0,.slice none 0 0,.string ⟨#[]⟩,.int .i64 0,.int .i64 0,.int .i64 0,.int .i64 0,.int .i64 0,.int .i64 0,.int .i64 0,.int .i64 0,.int .i64 0],ek:=none,eqs:=[] }),
 (51,{ agg:=true,size:=4,zero:=[.int .i64 0,.int .i64 0,.int .i64 0,.int .i64 0],kind:=.struct [(0,1,false),(1,1,false),(2,1,false),(3,1,false)],eqs:=[] }),
 (53,{ agg:=true,size:=25,zero:=[.string ⟨#[]⟩,.string ⟨#[]⟩,.string ⟨#[]⟩,.int .i64 0,.string ⟨#[]⟩,.slice none 0 0,.slice none 0 0,.string ⟨#[]⟩,.int .i64 0,.int .i64 0,.int .i64 0,.int .i64 0,.int .i64 0,.int .i64 0,.int .i64 0,.int .i64 0,.int .i64 0,.int .i64 0,.int .i64 0,.bool false,.bool false,.int .i64 0,.int .i64 0,.int .i64 0,.int .i64 0],kind:=.struct [(0,13,true),(13,1,false),(14,1,false),(15,1,false),(16,1,false),(17,1,false),(18,1,false),(19,1,false),(20,1,false),(21,4,true)],eqs:=[] }),
 (59,{ agg:=false,size:=1,zero:=[.slice none 0 0],kind:=.slice 2 true,elt:=136,eb:=16,ez:=[.int .i64 0,.int .i64 0],ek:=none,eqs:=[] }),
 (61,{ agg:=false,size:=1,zero:=[.pointer none],kind:=.ptr,eqs:=[] }),
 (63,{ agg:=false,size:=1,zero:=[.slice none 0 0],kind:=.slice 2 true,elt:=97,eb:=16,ez:=[.int .i64 0,.int .i64 0],ek:=none,eqs:=[] }),
 (65,{ agg:=false,size:=1,zero:=[.slice none 0 0],kind:=.slice 1 false,elt:=4,eb:=1,ez:=[.bool false],ek:=none,eqs:=[] }),
 (68,{ agg:=true,size:=2,zero:=[.slice none 0 0,.int .i64 0],kind:=.struct [(0,1,false),(1,1,false)],eqs:=[] }),
 (72,{ agg:=false,size:=1,zero:=[.slice none 0 0],kind:=.slice 19 true,elt:=75,eb:=232,ez:=[.int .i64 0,.int .i64 0,.int .i64 0,.int .i64 0,.string ⟨#[]⟩,.int .i64 0,.string ⟨#[]⟩,.string ⟨#[]⟩,.string ⟨#[]⟩,.int .i64 0,.string ⟨#[]⟩,.slice none 0 0,.slice none 0 0,.string ⟨#[]⟩,.int .i64 0,.int .i64 0,.int .i64 0,.int .i64 0,.int .i64 0],ek:=none,eqs:=[] }),
 (75,{ agg:=true,size:=19,zero:=[.int .i64 0,.int .i64 0,.int .i64 0,.int .i64 0,.string ⟨#[]⟩,.int .i64 0,.string ⟨#[]⟩,.string ⟨#[]⟩,.string ⟨#[]⟩,.int .i64 0,.string ⟨#[]⟩,.slice none 0 0,.slice none 0 0,.string ⟨#[]⟩,.int .i64 0,.int .i64 0,.int .i64 0,.int .i64 0,.int .i64 0],kind:=.struct [(0,1,false),(1,1,false),(2,1,false),(3,16,true)],eqs:=[] }),
 (77,{ agg:=false,size:=1,zero:=[.slice none 0 0],kind:=.slice 4 true,elt:=84,eb:=32,ez:=[.int .i64 0,.int .i64 0,.int .i64 0,.int .i64 0],ek:=none,eqs:=[] }),
 (79,{ agg:=false,size:=1,zero:=[.slice none 0 0],kind:=.slice 4 true,elt:=137,eb:=32,ez:=[.int .i64 0,.int .i64 0,.int .i64 0,.int .i64 0],ek:=none,eqs:=[] }),
 (84,{ agg:=true,size:=4,zero:=[.int .i64 0,.int .i64 0,.int .i64 0,.int .i64 0],kind:=.struct [(0,1,false),(1,1,false),(2,1,false),(3,1,false)],eqs:=[0,0,0,0] }),
 (87,{ agg:=true,size:=2,zero:=[.slice none 0 0,.int .i64 0],kind:=.struct [(0,1,false),(1,1,false)],eqs:=[] }),
 (89,{ agg:=true,size:=7,zero:=[.slice none 0 0,.slice none 0 0,.slice none 0 0,.int .i64 0,.slice none 0 0,.int .i64 0,.int .i64 0],kind:=.struct [(0,4,true),(4,2,true),(6,1,false)],eqs:=[] }),
 (97,{ agg:=true,size:=2,zero:=[.int .i64 0,.int .i64 0],kind:=.struct [(0,1,false),(1,1,false)],eqs:=[] }),
 (102,{ agg:=true,size:=3,zero:=[.slice none 0 0,.slice none 0 0,.slice none 0 0],kind:=.struct [(0,1,false),(1,1,false),(2,1,false)],eqs:=[] }),
 (105,{ agg:=false,size:=1,zero:=[.map none],kind:=.map (some .i64) 25 true,elt:=53,eb:=0,ez:=[.string ⟨#[]⟩,.string ⟨#[]⟩,.string ⟨#[]⟩,.int .i64 0,.string ⟨#[]⟩,.slice none 0 0,.slice none 0 0,.string ⟨#[]⟩,.int .i64 0,.int .i64 0,.int .i64 0,.int .i64 0,.int .i64 0,.int .i64 0,.int .i64 0,.int .i64 0,.int .i64 0,.int .i64 0,.int .i64 0,.bool false,.bool false,.int .i64 0,.int .i64 0,.int .i64 0,.int .i64 0],ek:=none,eqs:=[] }),
 (107,{ agg:=false,size:=1,zero:=[.map none],kind:=.map none 2 true,elt:=134,eb:=0,ez:=[.string ⟨#[]⟩,.string ⟨#[]⟩],ek:=none,eqs:=[] }),
 (109,{ agg:=true,size:=4,zero:=[.map none,.map none,.map none,.int .i64 0],kind:=.struct [(0,1,false),(1,1,false),(2,1,false),(3,1,false)],eqs:=[] }),
 (120,{ agg:=true,size:=18,zero:=[.int .i64 0,.string ⟨#[]⟩,.string ⟨#[]⟩,.string ⟨#[]⟩,.int .i64 0,.string ⟨#[]⟩,.slice none 0 0,.slice none 0 0,.string ⟨#[]⟩,.int .i64 0,.int .i64 0,.int .i64 0,.int .i64 0,.int .i64 0,.int .i64 0,.int .i64 0,.int .i64 0,.int .i64 0],kind:=.struct [(0,1,false),(1,13,true),(14,1,false),(15,1,false),(16,1,false),(17,1,false)],eqs:=[] }),
 (122,{ agg:=false,size:=1,zero:=[.slice none 0 0],kind:=.slice 1 false,elt:=3,eb:=8,ez:=[.int .i64 0],ek:=some .i64,eqs:=[] }),
 (130,{ agg:=true,size:=4,zero:=[.int .i64 0,.int .i64 0,.int .i64 0,.int .i64 0],kind:=.struct [(0,1,false),(1,1,false),(2,1,false),(3,1,false)],eqs:=[] }),
 (132,{ agg:=true,size:=25,zero:=[.string ⟨#[]⟩,.string ⟨#[]⟩,.string ⟨#[]⟩,.int .i64 0,.string ⟨#[]⟩,.slice none 0 0,.slice none 0 0,.string ⟨#[]⟩,.int .i64 0,.int .i64 0,.int .i64 0,.int .i64 0,.int .i64 0,.int .i64 0,.int .i64 0,.int .i64 0,.int .i64 0,.int .i64 0,.int .i64 0,.bool false,.bool false,.int .i64 0,.int .i64 0,.int .i64 0,.int .i64 0],kind:=.struct [(0,13,true),(13,1,false),(14,1,false),(15,1,false),(16,1,false),(17,1,false),(18,1,false),(19,1,false),(20,1,false),(21,4,true)],eqs:=[] }),
 (134,{ agg:=true,size:=2,zero:=[.string ⟨#[]⟩,.string ⟨#[]⟩],kind:=.struct [(0,1,false),(1,1,false)],eqs:=[2,2] }),
 (136,{ agg:=true,size:=2,zero:=[.int .i64 0,.int .i64 0],kind:=.struct [(0,1,false),(1,1,false)],eqs:=[] }),
 (137,{ agg:=true,size:=4,zero:=[.int .i64 0,.int .i64 0,.int .i64 0,.int .i64 0],kind:=.struct [(0,1,false),(1,1,false),(2,1,false),(3,1,false)],eqs:=[0,0,0,0] }),
 (139,{ agg:=true,size:=4,zero:=[.pointer none,.slice none 0 0,.int .i64 0,.int .i64 0],kind:=.struct [(0,1,false),(1,2,true),(3,1,false)],eqs:=[] }),
 (161,{ agg:=true,size:=18,zero:=[.string ⟨#[]⟩,.string ⟨#[]⟩,.slice none 0 0,.slice none 0 0,.slice none 0 0,.slice none 0 0,.slice none 0 0,.slice none 0 0,.slice none 0 0,.int .i64 0,.string ⟨#[]⟩,.int .i64 0,.int .i64 0,.int .i64 0,.int .i64 0,.int .i64 0,.int .i64 0,.int .i64 0],kind:=.struct [(0,1,false),(1,1,false),(2,1,false),(3,1,false),(4,1,false),(5,1,false),(6,1,false),(7,1,false),(8,1,false),(9,1,false),(10,4,true),(14,1,false),(15,1,false),(16,1,false),(17,1,false)],eqs:=[] }),
 (162,{ agg:=false,size:=1,zero:=[.slice none 0 0],kind:=.slice 18 true,elt:=161,eb:=280,ez:=[.string ⟨#[]⟩,.string ⟨#[]⟩,.slice none 0 0,.slice none 0 0,.slice none 0 0,.slice none 0 0,.slice none 0 0,.slice none 0 0,.slice none 0 0,.int .i64 0,.string ⟨#[]⟩,.int .i64 0,.int .i64 0,.int .i64 0,.int .i64 0,.int .i64 0,.int .i64 0,.int .i64 0],ek:=none,eqs:=[] }),
 (164,{ agg:=true,size:=4,zero:=[.string ⟨#[]⟩,.slice none 0 0,.slice none 0 0,.slice none 0 0],kind:=.struct [(0,1,false),(1,1,false),(2,1,false),(3,1,false)],eqs:=[] }),
 (212,{ agg:=false,size:=1,zero:=[.int .u64 0],kind:=.int .u64,eqs:=[] })]
theorem tabOK:TabOK Tryz.prog tab:=⟨⟨by kernel_rfl,fun h=>absurd rfl h⟩,⟨by kernel_rfl,fun h=>absurd rfl h⟩,⟨by kernel_rfl,fun h=>absurd rfl h⟩,⟨by kernel_rfl,fun h=>absurd rfl h⟩,⟨by kernel_rfl,fun h=>absurd rfl h⟩,⟨by kernel_rfl,fun h=>absurd rfl h⟩,⟨by kernel_rfl,fun h=>absurd rfl h⟩,⟨by kernel_rfl,fun h=>absurd rfl h⟩,⟨by kernel_rfl,fun h=>absurd rfl h⟩,⟨by kernel_rfl,fun _=>eqCells_of (by kernel_rfl)⟩,⟨by kernel_rfl,fun h=>absurd rfl h⟩,⟨by kernel_rfl,fun h=>absurd rfl h⟩,⟨by kernel_rfl,fun h=>absurd rfl h⟩,⟨by kernel_rfl,fun h=>absurd rfl h⟩,⟨by kernel_rfl,fun h=>absurd rfl h⟩,⟨by kernel_rfl,fun h=>absurd rfl h⟩,⟨by kernel_rfl,fun h=>absurd rfl h⟩,⟨by kernel_rfl,fun h=>absurd rfl h⟩,⟨by kernel_rfl,fun h=>absurd rfl h⟩,⟨by kernel_rfl,fun h=>absurd rfl h⟩,⟨by kernel_rfl,fun h=>absurd rfl h⟩,⟨by kernel_rfl,fun h=>absurd rfl h⟩,⟨by kernel_rfl,fun h=>absurd rfl h⟩,⟨by kernel_rfl,fun h=>absurd rfl h⟩,⟨by kernel_rfl,fun _=>eqCells_of (by kernel_rfl)⟩,⟨by kernel_rfl,fun h=>absurd rfl h⟩,⟨by kernel_rfl,fun h=>absurd rfl h⟩,⟨by kernel_rfl,fun h=>absurd rfl h⟩,⟨by kernel_rfl,fun h=>absurd rfl h⟩,⟨by kernel_rfl,fun h=>absurd rfl h⟩,⟨by kernel_rfl,fun h=>absurd rfl h⟩,⟨by kernel_rfl,fun h=>absurd rfl h⟩,⟨by kernel_rfl,fun h=>absurd rfl h⟩,⟨by kernel_rfl,fun h=>absurd rfl h⟩,⟨by kernel_rfl,fun h=>absurd rfl h⟩,⟨by kernel_rfl,fun h=>absurd rfl h⟩,⟨by kernel_rfl,fun _=>eqCells_of (by kernel_rfl)⟩,⟨by kernel_rfl,fun h=>absurd rfl h⟩,⟨by kernel_rfl,fun _=>eqCells_of (by kernel_rfl)⟩,⟨by kernel_rfl,fun h=>absurd rfl h⟩,⟨by kernel_rfl,fun h=>absurd rfl h⟩,⟨by kernel_rfl,fun h=>absurd rfl h⟩,⟨by kernel_rfl,fun h=>absurd rfl h⟩,⟨by kernel_rfl,fun h=>absurd rfl h⟩,trivial⟩
theorem hΓ:ΓOK Tryz.prog (tabΓ tab):=ΓOK.of tabOK
theorem hm:Tryz.prog.follows .mixedOrders = true:=by kernel_rfl
structure S_api_Check where
 f_Test:List UInt8
 f_Every:Int
 f_Start:Int
 f_Retries:Int
structure S_api_Spec where
 f_Name:List UInt8
 f_Project:List UInt8
 f_Service:List UInt8
 f_Number:Int
 f_Hash:List UInt8
 f_Nets:List (List UInt8)
 f_Vols:List (List UInt8)
 f_Health:S_api_Check
 f_Restart:Int
 f_Tries:Int
structure S_api_Call where
 f_Kind:Int
 f_Name:List UInt8
 f_Id:Int
 f_Spec:S_api_Spec
abbrev Z_api_Spec:S_api_Spec:=(S_api_Spec.mk [] [] [] 0 [] [] [] (S_api_Check.mk [] 0 0 0) 0 0)
def E_string:List UInt8 → List D:=fun x=>[.str x]
abbrev vi (x:Int):D:=.val (.int .i64 x)
abbrev vb (x:Bool):D:=.val (.bool x)
abbrev ls (l:List (List UInt8)):D:=.recs (α:=List UInt8) [] E_string l
theorem rg {nt:Nat} {F0:Fz} {w0:Pt Tryz.prog} {K:List (Nat × D)} {L:Boxes} {Q:Exit → Act → World → Prop} {id:Nat} {l:List Oper} (kk kl:List Nat) (K':List (Nat × D)) (L':Boxes) (hn:To nt F0 w0 K' L' .normal Q) (h:evRegion (CX Tryz.prog) (CallsB Tryz.prog) (tabΓ tab) nt [] [] l [] K L kk kl = some (K',L',[]):=by kernel_rfl):Wp Tryz.prog nt F0 w0 K L (.region id l.toArray false) Q:=Wp.region hΓ [] [] [] kk kl h AllP.nil hn
theorem rr {nt:Nat} {F0:Fz} {w0:Pt Tryz.prog} {K:List (Nat × D)} {L:Boxes} {Q:Exit → Act → World → Prop} {id:Nat} {l:List Oper} (fz:List (Nat × List Nat)) (orc:List (Nat × D)) (orb:List (Nat × CBd)) (kk kl:List Nat) (K':List (Nat × D)) (L':Boxes) (ob:List Prop) (hob:AllP ob) (hn:To nt F0 w0 K' L' .normal Q) (h:evRegion (CX Tryz.prog) (CallsB Tryz.prog) (tabΓ tab) nt orc orb l fz K L kk kl = some (K',L',ob):=by kernel_rfl):Wp Tryz.prog nt F0 w0 K L (.region id l.toArray false) Q:=Wp.region hΓ fz orc orb kk kl h hob hn
theorem kw {nt:Nat} {F0:Fz} {w0:Pt Tryz.prog} {K:List (Nat × D)} {L:Boxes} {Q:Exit → Act → World → Prop} {c:Code} (kk kl:List Nat) (K':List (Nat × D)) (L':Boxes) (hn:Wp Tryz.prog nt F0 w0 K' L' c Q) (h1:keepS K kk = some K':=by kernel_rfl) (h2:keepL L kl = some L':=by kernel_rfl):Wp Tryz.prog nt F0 w0 K L c Q:=Wp.keep h1 h2 hn
theorem kt {nt:Nat} {F0:Fz} {w0:Pt Tryz.prog} {K:List (Nat × D)} {L:Boxes} {Q:Exit → Act → World → Prop} {e:Exit} (kk kl:List Nat) (K':List (Nat × D)) (L':Boxes) (hn:To nt F0 w0 K' L' e Q) (h1:keepS K kk = some K':=by kernel_rfl) (h2:keepL L kl = some L':=by kernel_rfl):To nt F0 w0 K L e Q:=To.keep h1 h2 hn
theorem r0 {nt:Nat} {F0:Fz} {w0:Pt Tryz.prog} {K:List (Nat × D)} {L:Boxes} {Q:Exit → Act → World → Prop} {id:Nat} {l:List Oper} {ob:List Prop} (kk kl:List Nat) (K':List (Nat × D)) (L':Boxes) (hob:AllP ob) (hn:To nt F0 w0 K' L' .normal Q) (h:evRegion (CX Tryz.prog) (CallsB Tryz.prog) (tabΓ tab) nt [] [] l [] K L kk kl = some (K',L',ob):=by kernel_rfl):Wp Tryz.prog nt F0 w0 K L (.region id l.toArray false) Q:=Wp.region hΓ [] [] [] kk kl h hob hn
theorem rc {nt:Nat} {F0:Fz} {w0:Pt Tryz.prog} {K:List (Nat × D)} {L:Boxes} {Q:Exit → Act → World → Prop} {id:Nat} {l:List Oper} {f:Nat} {ds:List D} {r:D} (fz:List (Nat × List Nat)) (i:Nat) (kk kl:List Nat) (K':List (Nat × D)) (L':Boxes) (hc:CallsX Tryz.prog f ds r) (hn:To nt F0 w0 K' L' .normal Q) (h:evRegion (CX Tryz.prog) (CallsB Tryz.prog) (tabΓ tab) nt [(i,r)] [] l fz K L kk kl = some (K',L',[(true = true → CX Tryz.prog f ds r)]):=by kernel_rfl):Wp Tryz.prog nt F0 w0 K L (.region id l.toArray false) Q:=Wp.region hΓ fz [(i,r)] [] kk kl h (AllP.cons (fun _=>cx hc) AllP.nil) hn
theorem rb {nt:Nat} {F0:Fz} {w0:Pt Tryz.prog} {K:List (Nat × D)} {L:Boxes} {Q:Exit → Act → World → Prop} {id:Nat} {l:List Oper} {f:Nat} (fz:List (Nat × List Nat)) (i:Nat) (c:CBd) (kk kl:List Nat) (K':List (Nat × D)) (L':Boxes) (hc:CallsB Tryz.prog f c.ds c.Lin c.r c.Lout) (hn:To nt F0 w0 K' L' .normal Q) (h:evRegion (CX Tryz.prog) (CallsB Tryz.prog) (tabΓ tab) nt [] [(i,c)] l fz K L kk kl = some (K',L',[CbOb (CallsB Tryz.prog) f (D.subs (renF never c.ren) c.ds) (c.Lin.map fun x=>some (x.2.1,D.subs (renF never c.ren) x.2.2)) c]):=by kernel_rfl):Wp Tryz.prog nt F0 w0 K L (.region id l.toArray false) Q:=Wp.region hΓ fz [] [(i,c)] kk kl h (AllP.cons ⟨hc,rfl,rfl⟩ AllP.nil) hn
theorem c1 {f:Nat} {ds:List D} {r:D} (h:CallsX Tryz.prog f ds r):true = true → CX Tryz.prog f ds r:=fun _=>cx h
theorem cn {nt:Nat} {F0:Fz} {w0:Pt Tryz.prog} {K:List (Nat × D)} {L:Boxes} {Q:Exit → Act → World → Prop} {t:Nat} {x y:Code} {b:Bool} {α:Type _} {p q r:α} (h:(if b = true then p else q) = r) (h1:p = r → Wp Tryz.prog nt F0 w0 K L x Q) (h2:q = r → Wp Tryz.prog nt F0 w0 K L y Q) (hc:K.lookup t = some (.val (.bool b)):=by kernel_rfl):Wp Tryz.prog nt F0 w0 K L (.cond (.tmp t) x y) Q:=Wp.cond hc (fun hb=>h1 (if_t hb h)) (fun hb=>h2 (if_f hb h))
theorem xo {f : Nat} (fn : Func) {c : Code} {ds : List D} {r : D} (hbody : fn.body = some c) (h : ∀ (F0 : Fz) (w0 : World) (hsh : Shp Tryz.prog w0), Wp Tryz.prog fn.ntmps F0 (.top w0 hsh) (ds.zipIdx.map fun x => (x.2, x.1)) [] c (bodyPost Tryz.prog fn (PostX F0 w0 r))) (hf : Tryz.prog.funcs[f]? = some fn := by kernel_rfl) (hname : (fn.name == "runtime.NumGoroutine") = false := by kernel_rfl) (hn : ds.length.ble fn.ntmps = true := by kernel_rfl) : CallsX Tryz.prog f ds r := callsX_of hf hbody hname (Nat.le_of_ble_eq_true hn) h
theorem bo {f : Nat} (fn : Func) {c : Code} {ds : List D} {Lin : Boxes} {r : D} {Lout : Boxes} (hbody : fn.body = some c) (h : ∀ (F0 : Fz) (w0 : Pt Tryz.prog), Wp Tryz.prog fn.ntmps F0 w0 (ds.zipIdx.map fun x => (x.2, x.1)) Lin c (bodyPost Tryz.prog fn (PostB F0 w0 r Lout))) (hf : Tryz.prog.funcs[f]? = some fn := by kernel_rfl) (hname : (fn.name == "runtime.NumGoroutine") = false := by kernel_rfl) (hn : ds.length.ble fn.ntmps = true := by kernel_rfl) : CallsB Tryz.prog f ds Lin r Lout := callsB_of hf hbody hname (Nat.le_of_ble_eq_true hn) h
def rnA:List (Nat × Nat) → List (Nat × D) → Boxes → Option (List (Nat × D) × Boxes)
 | [],K,L=>some (K,L)
 | x :: rs,K,L=>if (Nat.blt x.2 1000000 && freshKey x.2 K L) = true then rnA rs (renK x.1 x.2 K) (renL x.1 x.2 L) else none
theorem rnA_st {nt:Nat} {F0:Fz} {w0:Pt Tryz.prog}:∀ (rs:List (Nat × Nat)) {K K':List (Nat × D)} {L L':Boxes},rnA rs K L = some (K',L') → ∀ a w,St nt F0 w0 K L a w → St nt F0 w0 K' L' a w
 | [],_,_,_,_,h,_,_,hs=>by cases h; exact hs
 | x :: rs,K,K',L,L',h,a,w,hs=>by
  unfold rnA at h
  split at h
  ·rename_i hc
   rw [Bool.and_eq_true] at hc
   exact rnA_st rs h a w (St.rename x.1 x.2 (by simpa using hc.1) hc.2 rfl rfl a w hs)
  ·cases h
def knA (rs:List (Nat × Nat)) (k0 l0 kk kl:List Nat) (K:List (Nat × D)) (L:Boxes):Option (List (Nat × D) × Boxes) :=
 match keepS K k0,keepL L l0 with
 | some K0,some L0=>(match rnA rs K0 L0 with
  | some (K1,L1)=>(match keepS K1 kk,keepL L1 kl with | some K2,some L2=>some (K2,L2) | _,_=>none)
  | none=>none)
 | _,_=>none
theorem knA_st {nt:Nat} {F0:Fz} {w0:Pt Tryz.prog} {rs:List (Nat × Nat)} {k0 l0 kk kl:List Nat} {K K':List (Nat × D)} {L L':Boxes} (h:knA rs k0 l0 kk kl K L = some (K',L')):∃ K0 L0 K1 L1,keepS K k0 = some K0 ∧ keepL L l0 = some L0 ∧ rnA rs K0 L0 = some (K1,L1) ∧ keepS K1 kk = some K' ∧ keepL L1 kl = some L':=by
 unfold knA at h
 split at h
 ·rename_i K0 L0 e1 e2
  split at h
  ·rename_i K1 L1 e3
   split at h
   ·rename_i K2 L2 e4 e5
    cases h
    exact ⟨K0,L0,K1,L1,e1,e2,e3,e4,e5⟩
   ·cases h
  ·cases h
 ·cases h
theorem nw {nt:Nat} {F0:Fz} {w0:Pt Tryz.prog} {K:List (Nat × D)} {L:Boxes} {Q:Exit → Act → World → Prop} {c:Code} (k0 l0:List Nat) (rs:List (Nat × Nat)) (kk kl:List Nat) (K':List (Nat × D)) (L':Boxes) (hn:Wp Tryz.prog nt F0 w0 K' L' c Q) (h:knA rs k0 l0 kk kl K L = some (K',L'):=by kernel_rfl):Wp Tryz.prog nt F0 w0 K L c Q :=
 let ⟨_,_,_,_,e1,e2,e3,e4,e5⟩:=knA_st (w0:=w0) (F0:=F0) (nt:=nt) h
 Wp.keep e1 e2 (Wp.pre (rnA_st rs e3) (Wp.keep e4 e5 hn))
theorem nt {nt:Nat} {F0:Fz} {w0:Pt Tryz.prog} {K:List (Nat × D)} {L:Boxes} {Q:Exit → Act → World → Prop} {e:Exit} (k0 l0:List Nat) (rs:List (Nat × Nat)) (kk kl:List Nat) (K':List (Nat × D)) (L':Boxes) (hn:To nt F0 w0 K' L' e Q) (h:knA rs k0 l0 kk kl K L = some (K',L'):=by kernel_rfl):To nt F0 w0 K L e Q :=
 let ⟨_,_,_,_,e1,e2,e3,e4,e5⟩:=knA_st (w0:=w0) (F0:=F0) (nt:=nt) h
 To.keep e1 e2 (To.pre (rnA_st rs e3) (To.keep e4 e5 hn))
def E_api_Call:S_api_Call → List D:=fun x=>[.val (.int .i64 x.f_Kind),.str x.f_Name,.val (.int .i64 x.f_Id),.str x.f_Spec.f_Name,.str x.f_Spec.f_Project,.str x.f_Spec.f_Service,.val (.int .i64 x.f_Spec.f_Number),.str x.f_Spec.f_Hash,.recs (α:=List UInt8) [] E_string x.f_Spec.f_Nets,.recs (α:=List UInt8) [] E_string x.f_Spec.f_Vols,.str x.f_Spec.f_Health.f_Test,.val (.int .i64 x.f_Spec.f_Health.f_Every),.val (.int .i64 x.f_Spec.f_Health.f_Start),.val (.int .i64 x.f_Spec.f_Health.f_Retries),.val (.int .i64 x.f_Spec.f_Restart),.val (.int .i64 x.f_Spec.f_Tries)]
def law33_Few_l1 (n:Nat) (v0:List (S_api_Call)):Nat → Int → Option (Sum (Unit) (Bool))
 | 0,_=>none
 | k + 1,v5=>if (decide (v5 < (List.length v0:Int))) = true then (if (decide (0 ≤ v5 ∧ v5 < (List.length v0:Int))) = true then (if ((!((decide ((List.length (((v0)[Int.toNat v5]?.getD (S_api_Call.mk 0 [] 0 Z_api_Spec)).f_Spec.f_Nets):Int) > 10)) == false) || decide (0 ≤ v5 ∧ v5 < (List.length v0:Int)))) = true then (if ((!((bif (decide ((List.length (((v0)[Int.toNat v5]?.getD (S_api_Call.mk 0 [] 0 Z_api_Spec)).f_Spec.f_Nets):Int) > 10)) then true else (decide ((List.length (((v0)[Int.toNat v5]?.getD (S_api_Call.mk 0 [] 0 Z_api_Spec)).f_Spec.f_Vols):Int) > 10))) == false) || decide (0 ≤ v5 ∧ v5 < (List.length v0:Int)))) = true then (if ((!((bif (bif (decide ((List.length (((v0)[Int.toNat v5]?.getD (S_api_Call.mk 0 [] 0 Z_api_Spec)).f_Spec.f_Nets):Int) > 10)) then true else (decide ((List.length (((v0)[Int.toNat v5]?.getD (S_api_Call.mk 0 [] 0 Z_api_Spec)).f_Spec.f_Vols):Int) > 10))) then true else (decide ((List.length (((v0)[Int.toNat v5]?.getD (S_api_Call.mk 0 [] 0 Z_api_Spec)).f_Spec.f_Name):Int) > 200))) == false) || decide (0 ≤ v5 ∧ v5 < (List.length v0:Int)))) = true then (lett ((bif (bif (bif (decide ((List.length (((v0)[Int.toNat v5]?.getD (S_api_Call.mk 0 [] 0 Z_api_Spec)).f_Spec.f_Nets):Int) > 10)) then true else (decide ((List.length (((v0)[Int.toNat v5]?.getD (S_api_Call.mk 0 [] 0 Z_api_Spec)).f_Spec.f_Vols):Int) > 10))) then true else (decide ((List.length (((v0)[Int.toNat v5]?.getD (S_api_Call.mk 0 [] 0 Z_api_Spec)).f_Spec.f_Name):Int) > 200))) then true else (decide ((List.length (((v0)[Int.toNat v5]?.getD (S_api_Call.mk 0 [] 0 Z_api_Spec)).f_Name):Int) > 200))):Bool) fun x1 =>
 if x1 = true then (some (.inr false))
 else (law33_Few_l1 n v0 k (IntKind.wrap .i64 (v5 + 1)))) else none) else none) else none) else none)
 else (some (.inl ()))
abbrev rs1 (l:List (S_api_Call)):D:=.recs (α:=S_api_Call) (S_api_Call.mk 0 [] 0 Z_api_Spec) E_api_Call l
abbrev ex1 (x0:List (S_api_Call)) (x1:Int):=((x0)[Int.toNat x1]?.getD (S_api_Call.mk 0 [] 0 Z_api_Spec))
abbrev ex2 (x0:Int):Nat × D:=(5,vi (IntKind.wrap .i64 (x0 + 1)))
abbrev ex37 (x0:List (S_api_Call)) (x1:Int):=(bif (decide ((List.length ((ex1 x0 x1).f_Spec.f_Nets):Int) > 10)) then true else (decide ((List.length ((ex1 x0 x1).f_Spec.f_Vols):Int) > 10)))
theorem ok_law33_Few_l1 (n:Nat) (v0:List (S_api_Call)) {F0:Fz} {w0:Pt Tryz.prog} {Q:Exit → Act → World → Prop} (k:Nat):∀ (v5:Int) (o:Sum (Unit) (Bool)),law33_Few_l1 n v0 k v5 = some o → (Sum.elim (fun s=>To 53 F0 w0 [] [] (.exit 0) Q) (fun s=>To 53 F0 w0 [(4,vb s)] [] .ret Q)) o → WL Tryz.prog 53 F0 w0 [(0,rs1 v0),(5,vi v5)] [] (cI (cI (cB (cA (cB (cB (cF Tryz.f9))))))) Q:=by
 induction k with
 | zero=>intro v5 o h; cases h
 | succ k ih =>
  intro v5 o h hQ
  rw [law33_Few_l1] at h
  refine WL.round (Wp.seq (Wp.seq (rg [0,5,13] [] [(0,rs1 v0),(5,vi v5),(13,vb (decide (v5 < (List.length v0:Int))))] [] (To.thenN (cn h (fun h=>?_) (fun h=>?_))))))
  ·refine Wp.skip (To.thenN (Wp.seq (Wp.block (Wp.seq ?_))))
   obtain ⟨hc2,h⟩:=chk_of h
   obtain ⟨hc3,h⟩:=chk_of h
   obtain ⟨hc4,h⟩:=chk_of h
   obtain ⟨hc5,h⟩:=chk_of h
   obtain ⟨x1,hx1,h⟩:=lett_of h
   refine r0 [0,5,52] [] [(0,rs1 v0),(5,vi v5),(52,vb (bif (bif (ex37 v0 v5) then true else (decide ((List.length ((ex1 v0 v5).f_Spec.f_Name):Int) > 200))) then true else (decide ((List.length ((ex1 v0 v5).f_Name):Int) > 200))))] [] (AllP.cons hc2 (AllP.cons hc3 (AllP.cons hc4 (AllP.cons hc5 AllP.nil)))) (To.eq (K':=[(0,rs1 v0),(5,vi v5),(52,vb x1)]) (L':=[]) (by cases hx1; rfl) (by cases hx1; rfl) (To.thenN (cn h (fun h=>?_) (fun h=>?_))))
   ·refine Wp.seq (rg [4] [] [(4,vb false)] [] (To.thenN (Wp.ret (To.blockR (To.thenR (To.thenR ?_))))))
    cases h
    exact hQ
   ·refine Wp.skip (To.blockN (To.thenN (rg [0,5] [] [(0,rs1 v0),(ex2 v5)] [] (kt [0,5] [] [(0,rs1 v0),(ex2 v5)] [] (To.again ?_)))))
    exact ih (IntKind.wrap .i64 (v5 + 1)) _ h hQ
  ·refine Wp.exit (To.thenX (To.thenX (kt [] [] [] [] ?_)))
   cases h
   exact hQ
def law33_Few (n:Nat) (a0:List (S_api_Call)) (a1:Int):Option (Bool) :=
 if (decide ((List.length a0:Int) > a1)) = true then some false
 else ((law33_Few_l1 n a0 n 0).bind fun o1 =>
 (Sum.elim (fun o1=>some true) (fun o1=>some o1)) o1)
theorem ok_law33_Few (n:Nat) (a0:List (S_api_Call)) (a1:Int) (r:Bool) (h:law33_Few n a0 a1 = some r):CallsX Tryz.prog 9 [rs1 a0,vi a1] (vb r):=by
 unfold law33_Few at h
 refine xo Tryz.f9 rfl fun F0 w0 _=>?_
 refine Wp.seq (rg [0,1] [] [(0,rs1 a0),(1,vi a1)] [] (To.thenN (Wp.seq (Wp.seq (rg [0,9] [] [(0,rs1 a0),(9,vb (decide ((List.length a0:Int) > a1)))] [] (To.thenN (cn h (fun h=>?_) (fun h=>?_))))))))
 ·refine Wp.seq (rg [4] [] [(4,vb false)] [] (To.thenN (Wp.ret (To.thenR ?_))))
  cases h
  exact To.done hΓ (by kernel_rfl)
 ·refine Wp.skip (To.thenN (Wp.seq (Wp.seq (rg [0,5] [] [(0,rs1 a0),(5,vi 0)] [] (To.thenN (Wp.block ?_))))))
  obtain ⟨o1,ho1,h⟩:=bind_of h
  refine kw [0,5] [] [(0,rs1 a0),(5,vi 0)] [] (Wp.loopL (ok_law33_Few_l1 n a0 n 0 o1 ho1 ?_))
  rcases o1 with o1 | o1
  ·replace h:=sum_l h
   refine To.blockX (To.thenN (Wp.seq (rg [4] [] [(4,vb true)] [] (To.thenN (Wp.ret ?_)))))
   cases h
   exact To.done hΓ (by kernel_rfl)
  ·replace h:=sum_r h
   refine To.blockR (To.thenR ?_)
   cases h
   exact To.done hΓ (by kernel_rfl)
structure S_probe_State where
 f_Health:Int
 f_Fails:Int
 f_Began:Int
 f_Next:Int
structure S_life_Box where
 f_Spec:S_api_Spec
 f_Id:Int
 f_State:Int
 f_Code:Int
 f_Runs:Int
 f_Done:Int
 f_At:Int
 f_ByHand:Bool
 f_Sick:Bool
 f_Probe:S_probe_State
structure S_api_Kept where
 f_Name:List UInt8
 f_Project:List UInt8
structure S_store_Store where
 f_boxes:List (MK × S_life_Box)
 f_nets:List (MK × S_api_Kept)
 f_vols:List (MK × S_api_Kept)
 f_last:Int
abbrev Z_life_Box:S_life_Box:=(S_life_Box.mk Z_api_Spec 0 0 0 0 0 0 false false (S_probe_State.mk 0 0 0 0))
def E_life_Box:S_life_Box → List D:=fun x=>[.str x.f_Spec.f_Name,.str x.f_Spec.f_Project,.str x.f_Spec.f_Service,.val (.int .i64 x.f_Spec.f_Number),.str x.f_Spec.f_Hash,.recs (α:=List UInt8) [] E_string x.f_Spec.f_Nets,.recs (α:=List UInt8) [] E_string x.f_Spec.f_Vols,.str x.f_Spec.f_Health.f_Test,.val (.int .i64 x.f_Spec.f_Health.f_Every),.val (.int .i64 x.f_Spec.f_Health.f_Start),.val (.int .i64 x.f_Spec.f_Health.f_Retries),.val (.int .i64 x.f_Spec.f_Restart),.val (.int .i64 x.f_Spec.f_Tries),.val (.int .i64 x.f_Id),.val (.int .i64 x.f_State),.val (.int .i64 x.f_Code),.val (.int .i64 x.f_Runs),.val (.int .i64 x.f_Done),.val (.int .i64 x.f_At),.val (.bool x.f_ByHand),.val (.bool x.f_Sick),.val (.int .i64 x.f_Probe.f_Health),.val (.int .i64 x.f_Probe.f_Fails),.val (.int .i64 x.f_Probe.f_Began),.val (.int .i64 x.f_Probe.f_Next)]
def E_api_Kept:S_api_Kept → List D:=fun x=>[.str x.f_Name,.str x.f_Project]
def store_New_o:S_store_Store :=
 (S_store_Store.mk ([]:List (MK × S_life_Box)) ([]:List (MK × S_api_Kept)) ([]:List (MK × S_api_Kept)) 0)
abbrev zx2:S_api_Kept:=S_api_Kept.mk [] []
abbrev mc3 (l:List (MK × S_life_Box)):D:=.mapc (some .i64) true (α:=S_life_Box) Z_life_Box E_life_Box l
abbrev mc4 (l:List (MK × S_api_Kept)):D:=.mapc none true (α:=S_api_Kept) zx2 E_api_Kept l
abbrev qf5 (a b c d:Nat) (x:S_store_Store):List (Nat × Nat × List D):=[(a,109,[.mp b,.mp c,.mp d,vi x.f_last]),(b,105,[mc3 x.f_boxes]),(c,107,[mc4 x.f_nets]),(d,107,[mc4 x.f_vols])]
theorem ok_store_New_o (r:S_store_Store) (h:store_New_o = r):CallsB Tryz.prog 11 [] [] (.own 1 0) (qf5 1 2 3 4 r):=by
 unfold store_New_o at h
 refine bo Tryz.f11 rfl fun F0 w0=>?_
 refine Wp.seq (rg [] [] [] [] (To.thenN (Wp.seq (rr [] [(0,mc3 []),(1,mc4 []),(2,mc4 [])] [] [0] [1,2,3,5] [(0,.own 5 0)] [(1,105,[mc3 []]),(2,107,[mc4 []]),(3,107,[mc4 []]),(5,109,[.mp 1,.mp 2,.mp 3,vi 0])] [(GoodM true E_life_Box),(GoodM true E_api_Kept),(GoodM true E_api_Kept)] (AllP.cons (⟨fun _=>rfl,fun h=>by cases h⟩) (AllP.cons (⟨fun _=>rfl,fun h=>by cases h⟩) (AllP.cons (⟨fun _=>rfl,fun h=>by cases h⟩) AllP.nil))) ?_))))
 refine To.thenN (Wp.ret (nt [0] [1,2,3,5] [(1,3000),(5,1),(2,3001),(3000,2),(3,3000),(3001,3),(3000,4)] [0] [1,2,3,4] [(0,.own 1 0)] [(1,109,[.mp 2,.mp 3,.mp 4,vi 0]),(2,105,[mc3 []]),(3,107,[mc4 []]),(4,107,[mc4 []])] ?_))
 cases h
 exact To.doneB hΓ [1,2,3,4] (by kernel_rfl) (by kernel_rfl)
def store_put__m0 (a1:S_api_Call) (h0:List (MK × S_api_Kept)):Int × (List (MK × S_api_Kept)) :=
 if (bif (a1.f_Name == []) then true else (decide ((List.length a1.f_Name:Int) > 64))) = true then ((2,h0))
 else (if (mlook h0 (.inl a1.f_Name)).isSome = true then ((11,h0))
 else (if (decide ((List.length h0:Int) ≥ 32)) = true then ((14,h0))
 else ((0,(mput h0 (.inl a1.f_Name) (S_api_Kept.mk a1.f_Name a1.f_Spec.f_Project))))))
abbrev qc6 (x:S_api_Call):List D:=[vi x.f_Kind,.str x.f_Name,vi x.f_Id,.str x.f_Spec.f_Name,.str x.f_Spec.f_Project,.str x.f_Spec.f_Service,vi x.f_Spec.f_Number,.str x.f_Spec.f_Hash,ls x.f_Spec.f_Nets,ls x.f_Spec.f_Vols,.str x.f_Spec.f_Health.f_Test,vi x.f_Spec.f_Health.f_Every,vi x.f_Spec.f_Health.f_Start,vi x.f_Spec.f_Health.f_Retries,vi x.f_Spec.f_Restart,vi x.f_Spec.f_Tries]
abbrev ex3 (x0:S_api_Call):=(S_api_Kept.mk x0.f_Name x0.f_Spec.f_Project)
theorem ok_store_put__m0 (a1:S_api_Call) (h0:List (MK × S_api_Kept)) (r:Int × (List (MK × S_api_Kept))) (h:store_put__m0 a1 h0 = r):CallsB Tryz.prog 50 [.mp 1000000,.agg (qc6 a1)] [(1000000,107,[mc4 h0])] (vi r.1) [(1000000,107,[mc4 r.2])]:=by
 unfold store_put__m0 at h
 refine bo Tryz.f50 rfl fun F0 w0=>?_
 refine Wp.seq (rg [0,3] [3,1000000] [(0,.mp 1000000),(3,.own 3 0)] [(3,40,(E_api_Call a1)),(1000000,107,[mc4 h0])] (To.thenN (Wp.seq (rr [] [(3,.tup [.agg [.str (((mlook h0 (.inl a1.f_Name)).getD zx2).f_Name),.str (((mlook h0 (.inl a1.f_Name)).getD zx2).f_Project)],vb ((mlook h0 (.inl a1.f_Name)).isSome)])] [] [0,3,6] [3,1000000] [(0,.mp 1000000),(3,.own 3 0),(6,vb ((mlook h0 (.inl a1.f_Name)).isSome))] [(3,40,(E_api_Call a1)),(1000000,107,[mc4 h0])] [(true = true → LookOkOb true E_api_Kept h0 (.inl a1.f_Name) [.str [],.str []] (.tup [.agg [.str (((mlook h0 (.inl a1.f_Name)).getD zx2).f_Name),.str (((mlook h0 (.inl a1.f_Name)).getD zx2).f_Project)],vb ((mlook h0 (.inl a1.f_Name)).isSome)]))] (AllP.cons (fun _=>⟨zx2,.agg [.str (((mlook h0 (.inl a1.f_Name)).getD zx2).f_Name),.str (((mlook h0 (.inl a1.f_Name)).getD zx2).f_Project)],Weaks.of_eq (by kernel_rfl),by kernel_rfl,by kernel_rfl⟩) AllP.nil) ?_))))
 refine To.thenN (Wp.seq (Wp.block (Wp.seq (rg [0,3,6,14] [3,1000000] [(0,.mp 1000000),(3,.own 3 0),(6,vb ((mlook h0 (.inl a1.f_Name)).isSome)),(14,vb (bif (a1.f_Name == []) then true else (decide ((List.length a1.f_Name:Int) > 64))))] [(3,40,(E_api_Call a1)),(1000000,107,[mc4 h0])] (To.thenN (cn h (fun h=>?_) (fun h=>?_)))))))
 ·refine Wp.seq (rg [4] [1000000] [(4,vi 2)] [(1000000,107,[mc4 h0])] (To.thenN (Wp.ret (To.blockR (To.thenR ?_)))))
  cases h
  exact To.doneB hΓ [1000000] (by kernel_rfl) (by kernel_rfl)
 ·refine Wp.seq (rg [0,3,24] [3,1000000] [(0,.mp 1000000),(3,.own 3 0),(24,vb ((mlook h0 (.inl a1.f_Name)).isSome))] [(3,40,(E_api_Call a1)),(1000000,107,[mc4 h0])] (To.thenN (cn h (fun h=>?_) (fun h=>?_))))
  ·refine Wp.seq (rg [4] [1000000] [(4,vi 11)] [(1000000,107,[mc4 h0])] (To.thenN (Wp.ret (To.blockR (To.thenR ?_)))))
   cases h
   exact To.doneB hΓ [1000000] (by kernel_rfl) (by kernel_rfl)
  ·refine Wp.seq (rg [0,3,26] [3,1000000] [(0,.mp 1000000),(3,.own 3 0),(26,vb (decide ((List.length h0:Int) ≥ 32)))] [(3,40,(E_api_Call a1)),(1000000,107,[mc4 h0])] (To.thenN (cn h (fun h=>?_) (fun h=>?_))))
   ·refine Wp.seq (rg [4] [1000000] [(4,vi 14)] [(1000000,107,[mc4 h0])] (To.thenN (Wp.ret (To.blockR (To.thenR ?_)))))
    cases h
    exact To.doneB hΓ [1000000] (by kernel_rfl) (by kernel_rfl)
   ·refine Wp.skip (To.blockN (To.thenN (Wp.seq (rr [] [(9,mc4 (mput h0 (.inl a1.f_Name) (ex3 a1)))] [] [] [1000000] [] [(1000000,107,[mc4 (mput h0 (.inl a1.f_Name) (ex3 a1))])] [(∃ l':List (MK × S_api_Kept),(mc4 (mput h0 (.inl a1.f_Name) (ex3 a1)):D) = mc4 l' ∧ MsetOb E_api_Kept h0 (.inl a1.f_Name) [.str a1.f_Name,.str a1.f_Spec.f_Project] l')] (AllP.cons (⟨_,rfl,(ex3 a1),Weaks.of_eq (by kernel_rfl),rfl⟩) AllP.nil) (To.thenN (Wp.seq (rg [4] [1000000] [(4,vi 0)] [(1000000,107,[mc4 (mput h0 (.inl a1.f_Name) (ex3 a1))])] (To.thenN (Wp.ret ?_)))))))))
    cases h
    exact To.doneB hΓ [1000000] (by kernel_rfl) (by kernel_rfl)
def E_api_Spec:S_api_Spec → List D:=fun x=>[.str x.f_Name,.str x.f_Project,.str x.f_Service,.val (.int .i64 x.f_Number),.str x.f_Hash,.recs (α:=List UInt8) [] E_string x.f_Nets,.recs (α:=List UInt8) [] E_string x.f_Vols,.str x.f_Health.f_Test,.val (.int .i64 x.f_Health.f_Every),.val (.int .i64 x.f_Health.f_Start),.val (.int .i64 x.f_Health.f_Retries),.val (.int .i64 x.f_Restart),.val (.int .i64 x.f_Tries)]
def store_Store_Do_1 (a0:S_api_Spec):(List (List UInt8)) :=
 a0.f_Nets
abbrev qc7 (x:S_api_Spec):List D:=[.str x.f_Name,.str x.f_Project,.str x.f_Service,vi x.f_Number,.str x.f_Hash,ls x.f_Nets,ls x.f_Vols,.str x.f_Health.f_Test,vi x.f_Health.f_Every,vi x.f_Health.f_Start,vi x.f_Health.f_Retries,vi x.f_Restart,vi x.f_Tries]
theorem ok_store_Store_Do_1 (a0:S_api_Spec) (r:(List (List UInt8))) (h:store_Store_Do_1 a0 = r):CallsX Tryz.prog 52 [.agg (qc7 a0)] (ls r):=by
 unfold store_Store_Do_1 at h
 refine xo Tryz.f52 rfl fun F0 w0 _=>?_
 refine Wp.seq (rg [1] [1] [(1,.own 1 0)] [(1,38,(E_api_Spec a0))] (To.thenN (Wp.seq (rg [2] [] [(2,ls a0.f_Nets)] [] (To.thenN (Wp.ret ?_))))))
 cases h
 exact To.done hΓ (by kernel_rfl)
def slices_Index_string_string_l1 (n:Nat) (v0:List (List UInt8)) (v1:List UInt8) (v7:Int):Nat → Int → Option (Sum (Unit) (Int))
 | 0,_=>none
 | k + 1,v8=>if (decide (v8 < v7)) = true then (if (decide (0 ≤ v8 ∧ v8 < (List.length v0:Int))) = true then (if (v1 == ((v0)[Int.toNat v8]?.getD [])) = true then (some (.inr v8))
 else (slices_Index_string_string_l1 n v0 v1 v7 k (IntKind.wrap .i64 (v8 + 1)))) else none)
 else (some (.inl ()))
abbrev ex4 (x0:Int):Nat × D:=(8,vi (IntKind.wrap .i64 (x0 + 1)))
theorem ok_slices_Index_string_string_l1 (n:Nat) (v0:List (List UInt8)) (v1:List UInt8) (v7:Int) {F0:Fz} {w0:Pt Tryz.prog} {Q:Exit → Act → World → Prop} (k:Nat):∀ (v8:Int) (o:Sum (Unit) (Int)),slices_Index_string_string_l1 n v0 v1 v7 k v8 = some o → (Sum.elim (fun s=>To 19 F0 w0 [] [] (.exit 0) Q) (fun s=>To 19 F0 w0 [(4,vi s)] [] .ret Q)) o → WL Tryz.prog 19 F0 w0 [(0,ls v0),(1,.str v1),(7,vi v7),(8,vi v8)] [] (cI (cI (cB (cA (cB (cF Tryz.f141)))))) Q:=by
 induction k with
 | zero=>intro v8 o h; cases h
 | succ k ih =>
  intro v8 o h hQ
  rw [slices_Index_string_string_l1] at h
  refine WL.round (Wp.seq (rg [0,1,7,8,9] [] [(0,ls v0),(1,.str v1),(7,vi v7),(8,vi v8),(9,vb (decide (v8 < v7)))] [] (To.thenN (Wp.seq (cn h (fun h=>?_) (fun h=>?_))))))
  ·refine Wp.skip (To.thenN (Wp.seq (Wp.block (Wp.seq (rg [0,1,5,7,8] [] [(0,ls v0),(1,.str v1),(5,vi v8),(7,vi v7),(8,vi v8)] [] (To.thenN (Wp.seq ?_)))))))
   obtain ⟨hc1,h⟩:=chk_of h
   refine r0 [0,1,5,7,8,16] [] [(0,ls v0),(1,.str v1),(5,vi v8),(7,vi v7),(8,vi v8),(16,vb (v1 == ((v0)[Int.toNat v8]?.getD [])))] [] (AllP.cons hc1 AllP.nil) (To.thenN (cn h (fun h=>?_) (fun h=>?_)))
   ·refine Wp.seq (rg [4] [] [(4,vi v8)] [] (To.thenN (Wp.ret (To.blockR (To.thenR (To.thenR ?_))))))
    cases h
    exact hQ
   ·refine Wp.skip (To.blockN (To.thenN (rg [0,1,7,8] [] [(0,ls v0),(1,.str v1),(7,vi v7),(ex4 v8)] [] (kt [0,1,7,8] [] [(0,ls v0),(1,.str v1),(7,vi v7),(ex4 v8)] [] (To.again ?_)))))
    exact ih (IntKind.wrap .i64 (v8 + 1)) _ h hQ
  ·refine Wp.exit (To.thenX (To.thenX (kt [] [] [] [] ?_)))
   cases h
   exact hQ
def slices_Index_string_string (n:Nat) (a0:List (List UInt8)) (a1:List UInt8):Option (Int) :=
 (slices_Index_string_string_l1 n a0 a1 (List.length a0:Int) n 0).bind fun o1 =>
 (Sum.elim (fun o1=>some (-1)) (fun o1=>some o1)) o1
theorem ok_slices_Index_string_string (n:Nat) (a0:List (List UInt8)) (a1:List UInt8) (r:Int) (h:slices_Index_string_string n a0 a1 = some r):CallsX Tryz.prog 141 [ls a0,.str a1] (vi r):=by
 unfold slices_Index_string_string at h
 refine xo Tryz.f141 rfl fun F0 w0 _=>?_
 refine Wp.seq (rg [0,1] [] [(0,ls a0),(1,.str a1)] [] (To.thenN (Wp.seq (Wp.seq (rg [0,1,7,8] [] [(0,ls a0),(1,.str a1),(7,vi (List.length a0:Int)),(8,vi 0)] [] (To.thenN (Wp.block ?_)))))))
 obtain ⟨o1,ho1,h⟩:=bind_of h
 refine kw [0,1,7,8] [] [(0,ls a0),(1,.str a1),(7,vi (List.length a0:Int)),(8,vi 0)] [] (Wp.loopL (ok_slices_Index_string_string_l1 n a0 a1 (List.length a0:Int) n 0 o1 ho1 ?_))
 rcases o1 with o1 | o1
 ·replace h:=sum_l h
  refine To.blockX (To.thenN (Wp.seq (rg [4] [] [(4,vi (-1))] [] (To.thenN (Wp.ret ?_)))))
  cases h
  exact To.done hΓ (by kernel_rfl)
 ·replace h:=sum_r h
  refine To.blockR (To.thenR ?_)
  cases h
  exact To.done hΓ (by kernel_rfl)
def slices_Contains_string_string (n:Nat) (a0:List (List UInt8)) (a1:List UInt8):Option (Bool) :=
 (slices_Index_string_string n a0 a1).bind fun r1 =>
 some (decide (r1 ≥ 0))
theorem ok_slices_Contains_string_string (n:Nat) (a0:List (List UInt8)) (a1:List UInt8) (r:Bool) (h:slices_Contains_string_string n a0 a1 = some r):CallsX Tryz.prog 119 [ls a0,.str a1] (vb r):=by
 unfold slices_Contains_string_string at h
 refine xo Tryz.f119 rfl fun F0 w0 _=>?_
 refine Wp.seq (rg [0,1] [] [(0,ls a0),(1,.str a1)] [] (To.thenN (Wp.seq ?_)))
 obtain ⟨r1,hr1,h⟩:=bind_of h
 refine rc [] 2 [4] [] [(4,vb (decide (r1 ≥ 0)))] [] (ok_slices_Index_string_string n a0 a1 _ hr1) (To.thenN (Wp.ret ?_))
 cases h
 exact To.done hΓ (by kernel_rfl)
def name_In (n:Nat) (a0:List (List UInt8)) (a1:List UInt8):Option (Bool) :=
 (slices_Contains_string_string n a0 a1).bind fun r1 =>
 some r1
theorem ok_name_In (n:Nat) (a0:List (List UInt8)) (a1:List UInt8) (r:Bool) (h:name_In n a0 a1 = some r):CallsX Tryz.prog 84 [ls a0,.str a1] (vb r):=by
 unfold name_In at h
 refine xo Tryz.f84 rfl fun F0 w0 _=>?_
 refine Wp.seq (rg [0,1] [] [(0,ls a0),(1,.str a1)] [] (To.thenN (Wp.seq ?_)))
 obtain ⟨r1,hr1,h⟩:=bind_of h
 refine rc [] 2 [4] [] [(4,vb r1)] [] (ok_slices_Contains_string_string n a0 a1 _ hr1) (To.thenN (Wp.ret ?_))
 cases h
 exact To.done hΓ (by kernel_rfl)
def store_Store_drop__o0__m0n61__store_Store_Do_1_m1 (n:Nat) (v2:List UInt8) (b1000000:S_store_Store) (x:MK × S_life_Box):Option (Sum (Unit) (Int)) :=
 (name_In n (store_Store_Do_1 x.2.f_Spec) v2).bind fun r2 =>
 if r2 = true then (some (.inr 17))
 else (some (.inl ()))
abbrev qc8 (x:S_life_Box):List D:=[.str x.f_Spec.f_Name,.str x.f_Spec.f_Project,.str x.f_Spec.f_Service,vi x.f_Spec.f_Number,.str x.f_Spec.f_Hash,ls x.f_Spec.f_Nets,ls x.f_Spec.f_Vols,.str x.f_Spec.f_Health.f_Test,vi x.f_Spec.f_Health.f_Every,vi x.f_Spec.f_Health.f_Start,vi x.f_Spec.f_Health.f_Retries,vi x.f_Spec.f_Restart,vi x.f_Spec.f_Tries,vi x.f_Id,vi x.f_State,vi x.f_Code,vi x.f_Runs,vi x.f_Done,vi x.f_At,vb x.f_ByHand,vb x.f_Sick,vi x.f_Probe.f_Health,vi x.f_Probe.f_Fails,vi x.f_Probe.f_Began,vi x.f_Probe.f_Next]
abbrev ex5 (x0:S_store_Store):Nat × Nat × List D:=(1000000,109,[.mp 1010060,.mp 1010061,.mp 1010062,vi x0.f_last])
abbrev ex6 (x0:S_store_Store):Nat × Nat × List D:=(1010061,107,[mc4 x0.f_nets])
abbrev ex7 (x0:S_store_Store):Nat × Nat × List D:=(1010062,107,[mc4 x0.f_vols])
theorem ok_store_Store_drop__o0__m0n61__store_Store_Do_1_m1 (n:Nat) (v2:List UInt8) (b1000000:S_store_Store) (x:MK × S_life_Box) (o:Sum (Unit) (Int)) (h:store_Store_drop__o0__m0n61__store_Store_Do_1_m1 n v2 b1000000 x = some o) {F0:Fz} {w0:Pt Tryz.prog} {Q:Exit → Act → World → Prop} {b0 clock0 r0 j:Nat} {seen:Array Nat} {es0:Array MapEntry} {em:MapEntry} (hj:es0[j]? = some em) (hx:(b1000000.f_boxes)[j]? = some x) (hQ:(Sum.elim (fun s=>To 38 F0 w0 [(1,.mp 1010061),(2,.str v2),(3,.fn 52 []),(25,.val (.pointer (some ⟨r0,0,none⟩)))] [(25,0,[iterD r0 b0 clock0 (seen.push em.born)]),(ex5 b1000000),(1010060,105,[lockD b0 es0 clock0 (some .i64) true (α:=S_life_Box) E_life_Box b1000000.f_boxes]),(ex6 b1000000),(ex7 b1000000)] .normal Q) (fun s=>To 38 F0 w0 [(8,vi s)] [(25,0,[iterD r0 b0 clock0 (seen.push em.born)]),(ex5 b1000000),(1010060,105,[lockD b0 es0 clock0 (some .i64) true (α:=S_life_Box) E_life_Box b1000000.f_boxes]),(ex6 b1000000),(ex7 b1000000)] .ret Q)) o):Wp Tryz.prog 38 F0 w0 [(1,.mp 1010061),(2,.str v2),(3,.fn 52 []),(25,.val (.pointer (some ⟨r0,0,none⟩)))] [(25,0,[iterD r0 b0 clock0 (seen.push em.born)]),(ex5 b1000000),(1010060,105,[lockD b0 es0 clock0 (some .i64) true (α:=S_life_Box) E_life_Box b1000000.f_boxes]),(ex6 b1000000),(ex7 b1000000)] (cB (cB (cI (cI (cB (cA (cB (cB (cF Tryz.f51))))))))) Q:=by
 unfold store_Store_drop__o0__m0n61__store_Store_Do_1_m1 at h
 refine Wp.block (Wp.seq (Wp.rangeEntry hΓ (u:=25) (te:=28) (k:=1010060) (ki:=25) (tt:=105) (t2:=0) (r:=r0) (b:=b0) (clock:=clock0) (seen:=seen) (es:=es0) (em:=em) (kd:=(some .i64)) (ag:=true) (enc:=E_life_Box) (m:=b1000000.f_boxes) (x:=x) (dv:=.agg (qc8 x.2)) [] [] [] [1,2,3,12,25] [12,25,1000000,1010060,1010061,1010062] hj hx rfl rfl rfl (Nat.le_of_ble_eq_true (by kernel_rfl)) (by kernel_rfl) (by kernel_rfl) (by kernel_rfl) (by kernel_rfl) (by kernel_rfl) (K':=[(1,.mp 1010061),(2,.str v2),(3,.fn 52 []),(12,.own 12 0),(25,.val (.pointer (some ⟨r0,0,none⟩)))]) (L':=[(12,53,(E_life_Box x.2)),(25,0,[iterD r0 b0 clock0 (seen.push em.born)]),(ex5 b1000000),(1010060,105,[lockD b0 es0 clock0 (some .i64) true (α:=S_life_Box) E_life_Box b1000000.f_boxes]),(ex6 b1000000),(ex7 b1000000)]) (ob:=[]) (by kernel_rfl) AllP.nil (To.thenN (Wp.seq ?_))))
 obtain ⟨r2,hr2,h⟩:=bind_of h
 refine rr [] [(3,ls (store_Store_Do_1 x.2.f_Spec)),(5,vb r2)] [] [1,2,3,25,35] [25,1000000,1010060,1010061,1010062] [(1,.mp 1010061),(2,.str v2),(3,.fn 52 []),(25,.val (.pointer (some ⟨r0,0,none⟩))),(35,vb r2)] [(25,0,[iterD r0 b0 clock0 (seen.push em.born)]),(ex5 b1000000),(1010060,105,[lockD b0 es0 clock0 (some .i64) true (α:=S_life_Box) E_life_Box b1000000.f_boxes]),(ex6 b1000000),(ex7 b1000000)] [_,_] (AllP.cons (c1 (ok_store_Store_Do_1 x.2.f_Spec _ rfl)) (AllP.cons (c1 (ok_name_In n (store_Store_Do_1 x.2.f_Spec) v2 _ hr2)) AllP.nil)) (To.thenN (cn h (fun h=>?_) (fun h=>?_)))
 ·refine Wp.seq (rg [8] [25,1000000,1010060,1010061,1010062] [(8,vi 17)] [(25,0,[iterD r0 b0 clock0 (seen.push em.born)]),(ex5 b1000000),(1010060,105,[lockD b0 es0 clock0 (some .i64) true (α:=S_life_Box) E_life_Box b1000000.f_boxes]),(ex6 b1000000),(ex7 b1000000)] (To.thenN (Wp.ret (To.blockR ?_))))
  cases h
  exact hQ
 ·refine Wp.skip (To.blockN (kt [1,2,3,25] [25,1000000,1010060,1010061,1010062] [(1,.mp 1010061),(2,.str v2),(3,.fn 52 []),(25,.val (.pointer (some ⟨r0,0,none⟩)))] [(25,0,[iterD r0 b0 clock0 (seen.push em.born)]),(ex5 b1000000),(1010060,105,[lockD b0 es0 clock0 (some .i64) true (α:=S_life_Box) E_life_Box b1000000.f_boxes]),(ex6 b1000000),(ex7 b1000000)] ?_))
  cases h
  exact hQ
def store_Store_drop__o0__m0n61__store_Store_Do_1 (n:Nat) (a2:List UInt8) (h0:S_store_Store):Option (Int × S_store_Store) :=
 if (!((mlook h0.f_nets (.inl a2)).isSome)) = true then (some (12,h0))
 else ((roundAll (store_Store_drop__o0__m0n61__store_Store_Do_1_m1 n a2 h0) h0.f_boxes).bind fun o2 =>
 Sum.elim (fun _=>some (0,(S_store_Store.mk h0.f_boxes (mdel h0.f_nets (.inl a2)) h0.f_vols h0.f_last))) (fun y=>some (y,h0)) o2)
theorem ok_store_Store_drop__o0__m0n61__store_Store_Do_1 (n:Nat) (a2:List UInt8) (h0:S_store_Store) (r:Int × S_store_Store) (h:store_Store_drop__o0__m0n61__store_Store_Do_1 n a2 h0 = some r):CallsB Tryz.prog 51 [.own 1000000 0,.mp 1010061,.str a2,.fn 52 []] (qf5 1000000 1010060 1010061 1010062 h0) (vi r.1) (qf5 1000000 1010060 1010061 1010062 r.2):=by
 unfold store_Store_drop__o0__m0n61__store_Store_Do_1 at h
 refine bo Tryz.f51 rfl fun F0 w0=>?_
 refine Wp.seq (rg [0,1,2,3] [1000000,1010060,1010061,1010062] [(0,.own 1000000 0),(1,.mp 1010061),(2,.str a2),(3,.fn 52 [])] (qf5 1000000 1010060 1010061 1010062 h0) (To.thenN (Wp.seq (Wp.seq (rr [] [(2,.tup [.agg [.str (((mlook h0.f_nets (.inl a2)).getD zx2).f_Name),.str (((mlook h0.f_nets (.inl a2)).getD zx2).f_Project)],vb ((mlook h0.f_nets (.inl a2)).isSome)])] [] [0,1,2,3,10] [1000000,1010060,1010061,1010062] [(0,.own 1000000 0),(1,.mp 1010061),(2,.str a2),(3,.fn 52 []),(10,vb ((mlook h0.f_nets (.inl a2)).isSome))] (qf5 1000000 1010060 1010061 1010062 h0) [(true = true → LookOkOb true E_api_Kept h0.f_nets (.inl a2) [.str [],.str []] (.tup [.agg [.str (((mlook h0.f_nets (.inl a2)).getD zx2).f_Name),.str (((mlook h0.f_nets (.inl a2)).getD zx2).f_Project)],vb ((mlook h0.f_nets (.inl a2)).isSome)]))] (AllP.cons (fun _=>⟨zx2,.agg [.str (((mlook h0.f_nets (.inl a2)).getD zx2).f_Name),.str (((mlook h0.f_nets (.inl a2)).getD zx2).f_Project)],Weaks.of_eq (by kernel_rfl),by kernel_rfl,by kernel_rfl⟩) AllP.nil) ?_)))))
 refine To.thenN (Wp.seq (rg [0,1,2,3,20] [1000000,1010060,1010061,1010062] [(0,.own 1000000 0),(1,.mp 1010061),(2,.str a2),(3,.fn 52 []),(20,vb (!((mlook h0.f_nets (.inl a2)).isSome)))] (qf5 1000000 1010060 1010061 1010062 h0) (To.thenN (cn h (fun h=>?_) (fun h=>?_)))))
 ·refine Wp.seq (rg [8] [1000000,1010060,1010061,1010062] [(8,vi 12)] (qf5 1000000 1010060 1010061 1010062 h0) (To.thenN (Wp.ret (To.thenR ?_))))
  cases h
  exact To.doneB hΓ [1000000,1010060,1010061,1010062] (by kernel_rfl) (by kernel_rfl)
 ·refine Wp.skip (To.thenN (Wp.seq (Wp.seq (Wp.rangeStart hΓ (t:=105) (s:=24) (u:=25) (k:=1010060) (ki:=25) (tt:=105) [] [] [] [1,2,3,24] [1000000,1010060,1010061,1010062] (K':=[(1,.mp 1010061),(2,.str a2),(3,.fn 52 []),(24,.mp 1010060)]) (L':=(qf5 1000000 1010060 1010061 1010062 h0)) (ob:=[]) (by kernel_rfl) (Nat.le_of_ble_eq_true (by kernel_rfl)) (by kernel_rfl) AllP.nil (kd:=(some .i64)) (sz:=25) (ag:=true) (by kernel_rfl) (α:=S_life_Box) (d:=Z_life_Box) (enc:=E_life_Box) (m:=h0.f_boxes) (by kernel_rfl) (by kernel_rfl) (Nat.le_of_ble_eq_true (by kernel_rfl)) (by kernel_rfl) (by kernel_rfl) ?_))))
  intro b1 es1 clock1 r01
  refine kt [1,2,3,25] [25,1000000,1010060,1010061,1010062] [(1,.mp 1010061),(2,.str a2),(3,.fn 52 []),(25,.val (.pointer (some ⟨r01,0,none⟩)))] [(25,0,[iterD r01 b1 clock1 #[]]),(1000000,109,[.mp 1010060,.mp 1010061,.mp 1010062,vi h0.f_last]),(1010060,105,[lockD b1 es1 clock1 (some .i64) true (α:=S_life_Box) E_life_Box h0.f_boxes]),(1010061,107,[mc4 h0.f_nets]),(1010062,107,[mc4 h0.f_vols])] (To.thenN (Wp.block ?_))
  obtain ⟨o2,ho2,h⟩:=bind_of h
  refine kw [1,2,3,25] [25,1000000,1010060,1010061,1010062] [(1,.mp 1010061),(2,.str a2),(3,.fn 52 []),(25,.val (.pointer (some ⟨r01,0,none⟩)))] [(25,0,[iterD r01 b1 clock1 #[]]),(1000000,109,[.mp 1010060,.mp 1010061,.mp 1010062,vi h0.f_last]),(1010060,105,[lockD b1 es1 clock1 (some .i64) true (α:=S_life_Box) E_life_Box h0.f_boxes]),(1010061,107,[mc4 h0.f_nets]),(1010062,107,[mc4 h0.f_vols])] (Wp.loopL (WL.mapRangeL (u:=25) (tn:=26) (tk:=27) (ki:=25) (t2:=0) (k:=1010060) (tt:=105) (b:=b1) (clock:=clock1) (r:=r01) (es:=es1) (kd:=(some .i64)) (ag:=true) (α:=S_life_Box) (enc:=E_life_Box) (m:=h0.f_boxes) (Lr:=[(1000000,109,[.mp 1010060,.mp 1010061,.mp 1010062,vi h0.f_last]),(1010061,107,[mc4 h0.f_nets]),(1010062,107,[mc4 h0.f_vols])]) (fun seen=>[(25,0,[iterD r01 b1 clock1 seen]),(1000000,109,[.mp 1010060,.mp 1010061,.mp 1010062,vi h0.f_last]),(1010060,105,[lockD b1 es1 clock1 (some .i64) true (α:=S_life_Box) E_life_Box h0.f_boxes]),(1010061,107,[mc4 h0.f_nets]),(1010062,107,[mc4 h0.f_vols])]) (store_Store_drop__o0__m0n61__store_Store_Do_1_m1 n a2 h0) o2 (fun seen y Q'=>To 38 F0 w0 [(8,vi y)] [(25,0,[iterD r01 b1 clock1 seen]),(1000000,109,[.mp 1010060,.mp 1010061,.mp 1010062,vi h0.f_last]),(1010060,105,[lockD b1 es1 clock1 (some .i64) true (α:=S_life_Box) E_life_Box h0.f_boxes]),(1010061,107,[mc4 h0.f_nets]),(1010062,107,[mc4 h0.f_vols])] .ret Q') [25,1010060,1000000,1010061,1010062] [25,1000000,1010060,1010061,1010062] (fun seen=>by kernel_rfl) (fun seen=>by kernel_rfl) ⟨_,rfl,rfl⟩ rfl rfl rfl rfl rfl ⟨Nat.le_of_ble_eq_true (by kernel_rfl),Nat.le_of_ble_eq_true (by kernel_rfl)⟩ (by kernel_rfl) (by kernel_rfl) (by decide) (by kernel_rfl) ho2 (fun seen em j x s hj hx hs Q' hQ=>ok_store_Store_drop__o0__m0n61__store_Store_Do_1_m1 n a2 h0 x s hs hj hx hQ) (fun he seen=>?_) (fun seen y he=>?_)))
  ·cases he
   replace h:=sum_l h
   refine To.pre (St.unlock (t:=105) (b:=b1) (es:=es1) (clock:=clock1) (kk:=(some .i64)) (ag:=true) (α:=S_life_Box) (enc:=E_life_Box) (l:=h0.f_boxes) 1010060 Z_life_Box (by kernel_rfl) (L':=[(1010060,105,[mc3 h0.f_boxes]),(25,0,[iterD r01 b1 clock1 seen]),(1000000,109,[.mp 1010060,.mp 1010061,.mp 1010062,vi h0.f_last]),(1010061,107,[mc4 h0.f_nets]),(1010062,107,[mc4 h0.f_vols])]) (by kernel_rfl)) (kt [1,2,3] [1000000,1010060,1010061,1010062] [(1,.mp 1010061),(2,.str a2),(3,.fn 52 [])] (qf5 1000000 1010060 1010061 1010062 h0) (To.blockX (To.thenN (Wp.seq (rg [] [1000000,1010060,1010061,1010062] [] [(1000000,109,[.mp 1010060,.mp 1010061,.mp 1010062,vi h0.f_last]),(1010060,105,[mc3 h0.f_boxes]),(1010061,107,[mc4 (mdel h0.f_nets (.inl a2))]),(1010062,107,[mc4 h0.f_vols])] (To.thenN (Wp.seq (rg [8] [1000000,1010060,1010061,1010062] [(8,vi 0)] [(1000000,109,[.mp 1010060,.mp 1010061,.mp 1010062,vi h0.f_last]),(1010060,105,[mc3 h0.f_boxes]),(1010061,107,[mc4 (mdel h0.f_nets (.inl a2))]),(1010062,107,[mc4 h0.f_vols])] (To.thenN (Wp.ret ?_))))))))))
   cases h
   exact To.doneB hΓ [1000000,1010060,1010061,1010062] (by kernel_rfl) (by kernel_rfl)
  ·cases he
   replace h:=sum_r h
   refine To.thenR (To.pre (St.unlock (t:=105) (b:=b1) (es:=es1) (clock:=clock1) (kk:=(some .i64)) (ag:=true) (α:=S_life_Box) (enc:=E_life_Box) (l:=h0.f_boxes) 1010060 Z_life_Box (by kernel_rfl) (L':=[(1010060,105,[mc3 h0.f_boxes]),(25,0,[iterD r01 b1 clock1 seen]),(1000000,109,[.mp 1010060,.mp 1010061,.mp 1010062,vi h0.f_last]),(1010061,107,[mc4 h0.f_nets]),(1010062,107,[mc4 h0.f_vols])]) (by kernel_rfl)) (kt [8] [1000000,1010060,1010061,1010062] [(8,vi y)] (qf5 1000000 1010060 1010061 1010062 h0) (To.blockR (To.thenR ?_))))
   cases h
   exact To.doneB hΓ [1000000,1010060,1010061,1010062] (by kernel_rfl) (by kernel_rfl)
def store_Store_Do_2 (a0:S_api_Spec):(List (List UInt8)) :=
 a0.f_Vols
theorem ok_store_Store_Do_2 (a0:S_api_Spec) (r:(List (List UInt8))) (h:store_Store_Do_2 a0 = r):CallsX Tryz.prog 53 [.agg (qc7 a0)] (ls r):=by
 unfold store_Store_Do_2 at h
 refine xo Tryz.f53 rfl fun F0 w0 _=>?_
 refine Wp.seq (rg [1] [1] [(1,.own 1 0)] [(1,38,(E_api_Spec a0))] (To.thenN (Wp.seq (rg [2] [] [(2,ls a0.f_Vols)] [] (To.thenN (Wp.ret ?_))))))
 cases h
 exact To.done hΓ (by kernel_rfl)
def store_Store_drop__o0__m0n62__store_Store_Do_2_m1 (n:Nat) (v2:List UInt8) (b1000000:S_store_Store) (x:MK × S_life_Box):Option (Sum (Unit) (Int)) :=
 (name_In n (store_Store_Do_2 x.2.f_Spec) v2).bind fun r2 =>
 if r2 = true then (some (.inr 17))
 else (some (.inl ()))
theorem ok_store_Store_drop__o0__m0n62__store_Store_Do_2_m1 (n:Nat) (v2:List UInt8) (b1000000:S_store_Store) (x:MK × S_life_Box) (o:Sum (Unit) (Int)) (h:store_Store_drop__o0__m0n62__store_Store_Do_2_m1 n v2 b1000000 x = some o) {F0:Fz} {w0:Pt Tryz.prog} {Q:Exit → Act → World → Prop} {b0 clock0 r0 j:Nat} {seen:Array Nat} {es0:Array MapEntry} {em:MapEntry} (hj:es0[j]? = some em) (hx:(b1000000.f_boxes)[j]? = some x) (hQ:(Sum.elim (fun s=>To 38 F0 w0 [(1,.mp 1010062),(2,.str v2),(3,.fn 53 []),(25,.val (.pointer (some ⟨r0,0,none⟩)))] [(25,0,[iterD r0 b0 clock0 (seen.push em.born)]),(ex5 b1000000),(1010060,105,[lockD b0 es0 clock0 (some .i64) true (α:=S_life_Box) E_life_Box b1000000.f_boxes]),(ex6 b1000000),(ex7 b1000000)] .normal Q) (fun s=>To 38 F0 w0 [(8,vi s)] [(25,0,[iterD r0 b0 clock0 (seen.push em.born)]),(ex5 b1000000),(1010060,105,[lockD b0 es0 clock0 (some .i64) true (α:=S_life_Box) E_life_Box b1000000.f_boxes]),(ex6 b1000000),(ex7 b1000000)] .ret Q)) o):Wp Tryz.prog 38 F0 w0 [(1,.mp 1010062),(2,.str v2),(3,.fn 53 []),(25,.val (.pointer (some ⟨r0,0,none⟩)))] [(25,0,[iterD r0 b0 clock0 (seen.push em.born)]),(ex5 b1000000),(1010060,105,[lockD b0 es0 clock0 (some .i64) true (α:=S_life_Box) E_life_Box b1000000.f_boxes]),(ex6 b1000000),(ex7 b1000000)] (cB (cB (cI (cI (cB (cA (cB (cB (cF Tryz.f51))))))))) Q:=by
 unfold store_Store_drop__o0__m0n62__store_Store_Do_2_m1 at h
 refine Wp.block (Wp.seq (Wp.rangeEntry hΓ (u:=25) (te:=28) (k:=1010060) (ki:=25) (tt:=105) (t2:=0) (r:=r0) (b:=b0) (clock:=clock0) (seen:=seen) (es:=es0) (em:=em) (kd:=(some .i64)) (ag:=true) (enc:=E_life_Box) (m:=b1000000.f_boxes) (x:=x) (dv:=.agg (qc8 x.2)) [] [] [] [1,2,3,12,25] [12,25,1000000,1010060,1010061,1010062] hj hx rfl rfl rfl (Nat.le_of_ble_eq_true (by kernel_rfl)) (by kernel_rfl) (by kernel_rfl) (by kernel_rfl) (by kernel_rfl) (by kernel_rfl) (K':=[(1,.mp 1010062),(2,.str v2),(3,.fn 53 []),(12,.own 12 0),(25,.val (.pointer (some ⟨r0,0,none⟩)))]) (L':=[(12,53,(E_life_Box x.2)),(25,0,[iterD r0 b0 clock0 (seen.push em.born)]),(ex5 b1000000),(1010060,105,[lockD b0 es0 clock0 (some .i64) true (α:=S_life_Box) E_life_Box b1000000.f_boxes]),(ex6 b1000000),(ex7 b1000000)]) (ob:=[]) (by kernel_rfl) AllP.nil (To.thenN (Wp.seq ?_))))
 obtain ⟨r2,hr2,h⟩:=bind_of h
 refine rr [] [(3,ls (store_Store_Do_2 x.2.f_Spec)),(5,vb r2)] [] [1,2,3,25,35] [25,1000000,1010060,1010061,1010062] [(1,.mp 1010062),(2,.str v2),(3,.fn 53 []),(25,.val (.pointer (some ⟨r0,0,none⟩))),(35,vb r2)] [(25,0,[iterD r0 b0 clock0 (seen.push em.born)]),(ex5 b1000000),(1010060,105,[lockD b0 es0 clock0 (some .i64) true (α:=S_life_Box) E_life_Box b1000000.f_boxes]),(ex6 b1000000),(ex7 b1000000)] [_,_] (AllP.cons (c1 (ok_store_Store_Do_2 x.2.f_Spec _ rfl)) (AllP.cons (c1 (ok_name_In n (store_Store_Do_2 x.2.f_Spec) v2 _ hr2)) AllP.nil)) (To.thenN (cn h (fun h=>?_) (fun h=>?_)))
 ·refine Wp.seq (rg [8] [25,1000000,1010060,1010061,1010062] [(8,vi 17)] [(25,0,[iterD r0 b0 clock0 (seen.push em.born)]),(ex5 b1000000),(1010060,105,[lockD b0 es0 clock0 (some .i64) true (α:=S_life_Box) E_life_Box b1000000.f_boxes]),(ex6 b1000000),(ex7 b1000000)] (To.thenN (Wp.ret (To.blockR ?_))))
  cases h
  exact hQ
 ·refine Wp.skip (To.blockN (kt [1,2,3,25] [25,1000000,1010060,1010061,1010062] [(1,.mp 1010062),(2,.str v2),(3,.fn 53 []),(25,.val (.pointer (some ⟨r0,0,none⟩)))] [(25,0,[iterD r0 b0 clock0 (seen.push em.born)]),(ex5 b1000000),(1010060,105,[lockD b0 es0 clock0 (some .i64) true (α:=S_life_Box) E_life_Box b1000000.f_boxes]),(ex6 b1000000),(ex7 b1000000)] ?_))
  cases h
  exact hQ
def store_Store_drop__o0__m0n62__store_Store_Do_2 (n:Nat) (a2:List UInt8) (h0:S_store_Store):Option (Int × S_store_Store) :=
 if (!((mlook h0.f_vols (.inl a2)).isSome)) = true then (some (12,h0))
 else ((roundAll (store_Store_drop__o0__m0n62__store_Store_Do_2_m1 n a2 h0) h0.f_boxes).bind fun o2 =>
 Sum.elim (fun _=>some (0,(S_store_Store.mk h0.f_boxes h0.f_nets (mdel h0.f_vols (.inl a2)) h0.f_last))) (fun y=>some (y,h0)) o2)
theorem ok_store_Store_drop__o0__m0n62__store_Store_Do_2 (n:Nat) (a2:List UInt8) (h0:S_store_Store) (r:Int × S_store_Store) (h:store_Store_drop__o0__m0n62__store_Store_Do_2 n a2 h0 = some r):CallsB Tryz.prog 51 [.own 1000000 0,.mp 1010062,.str a2,.fn 53 []] (qf5 1000000 1010060 1010061 1010062 h0) (vi r.1) (qf5 1000000 1010060 1010061 1010062 r.2):=by
 unfold store_Store_drop__o0__m0n62__store_Store_Do_2 at h
 refine bo Tryz.f51 rfl fun F0 w0=>?_
 refine Wp.seq (rg [0,1,2,3] [1000000,1010060,1010061,1010062] [(0,.own 1000000 0),(1,.mp 1010062),(2,.str a2),(3,.fn 53 [])] (qf5 1000000 1010060 1010061 1010062 h0) (To.thenN (Wp.seq (Wp.seq (rr [] [(2,.tup [.agg [.str (((mlook h0.f_vols (.inl a2)).getD zx2).f_Name),.str (((mlook h0.f_vols (.inl a2)).getD zx2).f_Project)],vb ((mlook h0.f_vols (.inl a2)).isSome)])] [] [0,1,2,3,10] [1000000,1010060,1010061,1010062] [(0,.own 1000000 0),(1,.mp 1010062),(2,.str a2),(3,.fn 53 []),(10,vb ((mlook h0.f_vols (.inl a2)).isSome))] (qf5 1000000 1010060 1010061 1010062 h0) [(true = true → LookOkOb true E_api_Kept h0.f_vols (.inl a2) [.str [],.str []] (.tup [.agg [.str (((mlook h0.f_vols (.inl a2)).getD zx2).f_Name),.str (((mlook h0.f_vols (.inl a2)).getD zx2).f_Project)],vb ((mlook h0.f_vols (.inl a2)).isSome)]))] (AllP.cons (fun _=>⟨zx2,.agg [.str (((mlook h0.f_vols (.inl a2)).getD zx2).f_Name),.str (((mlook h0.f_vols (.inl a2)).getD zx2).f_Project)],Weaks.of_eq (by kernel_rfl),by kernel_rfl,by kernel_rfl⟩) AllP.nil) ?_)))))
 refine To.thenN (Wp.seq (rg [0,1,2,3,20] [1000000,1010060,1010061,1010062] [(0,.own 1000000 0),(1,.mp 1010062),(2,.str a2),(3,.fn 53 []),(20,vb (!((mlook h0.f_vols (.inl a2)).isSome)))] (qf5 1000000 1010060 1010061 1010062 h0) (To.thenN (cn h (fun h=>?_) (fun h=>?_)))))
 ·refine Wp.seq (rg [8] [1000000,1010060,1010061,1010062] [(8,vi 12)] (qf5 1000000 1010060 1010061 1010062 h0) (To.thenN (Wp.ret (To.thenR ?_))))
  cases h
  exact To.doneB hΓ [1000000,1010060,1010061,1010062] (by kernel_rfl) (by kernel_rfl)
 ·refine Wp.skip (To.thenN (Wp.seq (Wp.seq (Wp.rangeStart hΓ (t:=105) (s:=24) (u:=25) (k:=1010060) (ki:=25) (tt:=105) [] [] [] [1,2,3,24] [1000000,1010060,1010061,1010062] (K':=[(1,.mp 1010062),(2,.str a2),(3,.fn 53 []),(24,.mp 1010060)]) (L':=(qf5 1000000 1010060 1010061 1010062 h0)) (ob:=[]) (by kernel_rfl) (Nat.le_of_ble_eq_true (by kernel_rfl)) (by kernel_rfl) AllP.nil (kd:=(some .i64)) (sz:=25) (ag:=true) (by kernel_rfl) (α:=S_life_Box) (d:=Z_life_Box) (enc:=E_life_Box) (m:=h0.f_boxes) (by kernel_rfl) (by kernel_rfl) (Nat.le_of_ble_eq_true (by kernel_rfl)) (by kernel_rfl) (by kernel_rfl) ?_))))
  intro b1 es1 clock1 r01
  refine kt [1,2,3,25] [25,1000000,1010060,1010061,1010062] [(1,.mp 1010062),(2,.str a2),(3,.fn 53 []),(25,.val (.pointer (some ⟨r01,0,none⟩)))] [(25,0,[iterD r01 b1 clock1 #[]]),(1000000,109,[.mp 1010060,.mp 1010061,.mp 1010062,vi h0.f_last]),(1010060,105,[lockD b1 es1 clock1 (some .i64) true (α:=S_life_Box) E_life_Box h0.f_boxes]),(1010061,107,[mc4 h0.f_nets]),(1010062,107,[mc4 h0.f_vols])] (To.thenN (Wp.block ?_))
  obtain ⟨o2,ho2,h⟩:=bind_of h
  refine kw [1,2,3,25] [25,1000000,1010060,1010061,1010062] [(1,.mp 1010062),(2,.str a2),(3,.fn 53 []),(25,.val (.pointer (some ⟨r01,0,none⟩)))] [(25,0,[iterD r01 b1 clock1 #[]]),(1000000,109,[.mp 1010060,.mp 1010061,.mp 1010062,vi h0.f_last]),(1010060,105,[lockD b1 es1 clock1 (some .i64) true (α:=S_life_Box) E_life_Box h0.f_boxes]),(1010061,107,[mc4 h0.f_nets]),(1010062,107,[mc4 h0.f_vols])] (Wp.loopL (WL.mapRangeL (u:=25) (tn:=26) (tk:=27) (ki:=25) (t2:=0) (k:=1010060) (tt:=105) (b:=b1) (clock:=clock1) (r:=r01) (es:=es1) (kd:=(some .i64)) (ag:=true) (α:=S_life_Box) (enc:=E_life_Box) (m:=h0.f_boxes) (Lr:=[(1000000,109,[.mp 1010060,.mp 1010061,.mp 1010062,vi h0.f_last]),(1010061,107,[mc4 h0.f_nets]),(1010062,107,[mc4 h0.f_vols])]) (fun seen=>[(25,0,[iterD r01 b1 clock1 seen]),(1000000,109,[.mp 1010060,.mp 1010061,.mp 1010062,vi h0.f_last]),(1010060,105,[lockD b1 es1 clock1 (some .i64) true (α:=S_life_Box) E_life_Box h0.f_boxes]),(1010061,107,[mc4 h0.f_nets]),(1010062,107,[mc4 h0.f_vols])]) (store_Store_drop__o0__m0n62__store_Store_Do_2_m1 n a2 h0) o2 (fun seen y Q'=>To 38 F0 w0 [(8,vi y)] [(25,0,[iterD r01 b1 clock1 seen]),(1000000,109,[.mp 1010060,.mp 1010061,.mp 1010062,vi h0.f_last]),(1010060,105,[lockD b1 es1 clock1 (some .i64) true (α:=S_life_Box) E_life_Box h0.f_boxes]),(1010061,107,[mc4 h0.f_nets]),(1010062,107,[mc4 h0.f_vols])] .ret Q') [25,1010060,1000000,1010061,1010062] [25,1000000,1010060,1010061,1010062] (fun seen=>by kernel_rfl) (fun seen=>by kernel_rfl) ⟨_,rfl,rfl⟩ rfl rfl rfl rfl rfl ⟨Nat.le_of_ble_eq_true (by kernel_rfl),Nat.le_of_ble_eq_true (by kernel_rfl)⟩ (by kernel_rfl) (by kernel_rfl) (by decide) (by kernel_rfl) ho2 (fun seen em j x s hj hx hs Q' hQ=>ok_store_Store_drop__o0__m0n62__store_Store_Do_2_m1 n a2 h0 x s hs hj hx hQ) (fun he seen=>?_) (fun seen y he=>?_)))
  ·cases he
   replace h:=sum_l h
   refine To.pre (St.unlock (t:=105) (b:=b1) (es:=es1) (clock:=clock1) (kk:=(some .i64)) (ag:=true) (α:=S_life_Box) (enc:=E_life_Box) (l:=h0.f_boxes) 1010060 Z_life_Box (by kernel_rfl) (L':=[(1010060,105,[mc3 h0.f_boxes]),(25,0,[iterD r01 b1 clock1 seen]),(1000000,109,[.mp 1010060,.mp 1010061,.mp 1010062,vi h0.f_last]),(1010061,107,[mc4 h0.f_nets]),(1010062,107,[mc4 h0.f_vols])]) (by kernel_rfl)) (kt [1,2,3] [1000000,1010060,1010061,1010062] [(1,.mp 1010062),(2,.str a2),(3,.fn 53 [])] (qf5 1000000 1010060 1010061 1010062 h0) (To.blockX (To.thenN (Wp.seq (rg [] [1000000,1010060,1010061,1010062] [] [(1000000,109,[.mp 1010060,.mp 1010061,.mp 1010062,vi h0.f_last]),(1010060,105,[mc3 h0.f_boxes]),(1010061,107,[mc4 h0.f_nets]),(1010062,107,[mc4 (mdel h0.f_vols (.inl a2))])] (To.thenN (Wp.seq (rg [8] [1000000,1010060,1010061,1010062] [(8,vi 0)] [(1000000,109,[.mp 1010060,.mp 1010061,.mp 1010062,vi h0.f_last]),(1010060,105,[mc3 h0.f_boxes]),(1010061,107,[mc4 h0.f_nets]),(1010062,107,[mc4 (mdel h0.f_vols (.inl a2))])] (To.thenN (Wp.ret ?_))))))))))
   cases h
   exact To.doneB hΓ [1000000,1010060,1010061,1010062] (by kernel_rfl) (by kernel_rfl)
  ·cases he
   replace h:=sum_r h
   refine To.thenR (To.pre (St.unlock (t:=105) (b:=b1) (es:=es1) (clock:=clock1) (kk:=(some .i64)) (ag:=true) (α:=S_life_Box) (enc:=E_life_Box) (l:=h0.f_boxes) 1010060 Z_life_Box (by kernel_rfl) (L':=[(1010060,105,[mc3 h0.f_boxes]),(25,0,[iterD r01 b1 clock1 seen]),(1000000,109,[.mp 1010060,.mp 1010061,.mp 1010062,vi h0.f_last]),(1010061,107,[mc4 h0.f_nets]),(1010062,107,[mc4 h0.f_vols])]) (by kernel_rfl)) (kt [8] [1000000,1010060,1010061,1010062] [(8,vi y)] (qf5 1000000 1010060 1010061 1010062 h0) (To.blockR (To.thenR ?_))))
   cases h
   exact To.doneB hΓ [1000000,1010060,1010061,1010062] (by kernel_rfl) (by kernel_rfl)
def store_shelf_has_1__o0 (a0:List UInt8) (h0:List (MK × S_api_Kept)):Bool × (List (MK × S_api_Kept)) :=
 ((!((mlook h0 (.inl a0)).isSome)),h0)
theorem ok_store_shelf_has_1__o0 (a0:List UInt8) (h0:List (MK × S_api_Kept)) (r:Bool × (List (MK × S_api_Kept))) (h:store_shelf_has_1__o0 a0 h0 = r):CallsB Tryz.prog 121 [.str a0,.own 1000000 0] [(1000000,107,[.mp 1010060]),(1010060,107,[mc4 h0])] (vb r.1) [(1000000,107,[.mp 1010060]),(1010060,107,[mc4 r.2])]:=by
 unfold store_shelf_has_1__o0 at h
 refine bo Tryz.f121 rfl fun F0 w0=>?_
 refine Wp.seq (rg [0,1] [1000000,1010060] [(0,.str a0),(1,.own 1000000 0)] [(1000000,107,[.mp 1010060]),(1010060,107,[mc4 h0])] (To.thenN (Wp.seq (rr [] [(2,.tup [.agg [.str (((mlook h0 (.inl a0)).getD zx2).f_Name),.str (((mlook h0 (.inl a0)).getD zx2).f_Project)],vb ((mlook h0 (.inl a0)).isSome)])] [] [5] [1000000,1010060] [(5,vb ((mlook h0 (.inl a0)).isSome))] [(1000000,107,[.mp 1010060]),(1010060,107,[mc4 h0])] [(true = true → LookOkOb true E_api_Kept h0 (.inl a0) [.str [],.str []] (.tup [.agg [.str (((mlook h0 (.inl a0)).getD zx2).f_Name),.str (((mlook h0 (.inl a0)).getD zx2).f_Project)],vb ((mlook h0 (.inl a0)).isSome)]))] (AllP.cons (fun _=>⟨zx2,.agg [.str (((mlook h0 (.inl a0)).getD zx2).f_Name),.str (((mlook h0 (.inl a0)).getD zx2).f_Project)],Weaks.of_eq (by kernel_rfl),by kernel_rfl,by kernel_rfl⟩) AllP.nil) ?_))))
 refine To.thenN (Wp.seq (rg [3] [1000000,1010060] [(3,vb (!((mlook h0 (.inl a0)).isSome)))] [(1000000,107,[.mp 1010060]),(1010060,107,[mc4 h0])] (To.thenN (Wp.ret ?_))))
 cases h
 exact To.doneB hΓ [1000000,1010060] (by kernel_rfl) (by kernel_rfl)
def slices_IndexFunc_string_string__store_shelf_has_1_o0_l1 (n:Nat) (v0:List (List UInt8)) (v7:Int):Nat → Int → (List (MK × S_api_Kept)) → Option (Sum ((List (MK × S_api_Kept))) (Int × (List (MK × S_api_Kept))))
 | 0,_,_=>none
 | k + 1,v8,b1000000=>if (decide (v8 < v7)) = true then (if (decide (0 ≤ v8 ∧ v8 < (List.length v0:Int))) = true then (lett (store_shelf_has_1__o0 ((v0)[Int.toNat v8]?.getD []) b1000000) fun r1 =>
 if r1.1 = true then (some (.inr (v8,r1.2)))
 else (slices_IndexFunc_string_string__store_shelf_has_1_o0_l1 n v0 v7 k (IntKind.wrap .i64 (v8 + 1)) r1.2)) else none)
 else (some (.inl b1000000))
theorem ok_slices_IndexFunc_string_string__store_shelf_has_1_o0_l1 (n:Nat) (v0:List (List UInt8)) (v7:Int) {F0:Fz} {w0:Pt Tryz.prog} {Q:Exit → Act → World → Prop} (k:Nat):∀ (v8:Int) (b1000000:List (MK × S_api_Kept)) (o:Sum ((List (MK × S_api_Kept))) (Int × (List (MK × S_api_Kept)))),slices_IndexFunc_string_string__store_shelf_has_1_o0_l1 n v0 v7 k v8 b1000000 = some o → (Sum.elim (fun s=>To 19 F0 w0 [] [(1000000,107,[.mp 1010060]),(1010060,107,[mc4 s])] (.exit 0) Q) (fun s=>To 19 F0 w0 [(4,vi s.1)] [(1000000,107,[.mp 1010060]),(1010060,107,[mc4 s.2])] .ret Q)) o → WL Tryz.prog 19 F0 w0 [(0,ls v0),(1,.fn 121 [.own 1000000 0]),(7,vi v7),(8,vi v8)] [(1000000,107,[.mp 1010060]),(1010060,107,[mc4 b1000000])] (cI (cI (cB (cA (cB (cF Tryz.f142)))))) Q:=by
 induction k with
 | zero=>intro v8 b1000000 o h; cases h
 | succ k ih =>
  intro v8 b1000000 o h hQ
  rw [slices_IndexFunc_string_string__store_shelf_has_1_o0_l1] at h
  refine WL.round (Wp.seq (rg [0,1,7,8,9] [1000000,1010060] [(0,ls v0),(1,.fn 121 [.own 1000000 0]),(7,vi v7),(8,vi v8),(9,vb (decide (v8 < v7)))] [(1000000,107,[.mp 1010060]),(1010060,107,[mc4 b1000000])] (To.thenN (Wp.seq (cn h (fun h=>?_) (fun h=>?_))))))
  ·refine Wp.skip (To.thenN (Wp.seq (Wp.block (Wp.seq (rg [0,1,5,7,8] [1000000,1010060] [(0,ls v0),(1,.fn 121 [.own 1000000 0]),(5,vi v8),(7,vi v7),(8,vi v8)] [(1000000,107,[.mp 1010060]),(1010060,107,[mc4 b1000000])] (To.thenN (Wp.seq ?_)))))))
   obtain ⟨hc2,h⟩:=chk_of h
   obtain ⟨r1,hr1,h⟩:=lett_of h
   refine rr [] [] [(5,⟨[(1000000,1000000),(1010060,1010060)],[(1000000,1000000),(1010060,1010060)],[.str ((v0)[Int.toNat v8]?.getD []),.own 1000000 0],[(1000000,107,[.mp 1010060]),(1010060,107,[mc4 b1000000])],vb r1.1,[(1000000,107,[.mp 1010060]),(1010060,107,[mc4 r1.2])]⟩)] [0,1,5,7,8,16] [1000000,1010060] [(0,ls v0),(1,.fn 121 [.own 1000000 0]),(5,vi v8),(7,vi v7),(8,vi v8),(16,vb r1.1)] [(1000000,107,[.mp 1010060]),(1010060,107,[mc4 r1.2])] [_,CbOb (CallsB Tryz.prog) 121 [.str ((v0)[Int.toNat v8]?.getD []),.own 1000000 0] [some (107,[.mp 1010060]),some (107,[mc4 b1000000])] ⟨[(1000000,1000000),(1010060,1010060)],[(1000000,1000000),(1010060,1010060)],[.str ((v0)[Int.toNat v8]?.getD []),.own 1000000 0],[(1000000,107,[.mp 1010060]),(1010060,107,[mc4 b1000000])],vb r1.1,[(1000000,107,[.mp 1010060]),(1010060,107,[mc4 r1.2])]⟩] (AllP.cons hc2 (AllP.cons (⟨(ok_store_shelf_has_1__o0 ((v0)[Int.toNat v8]?.getD []) b1000000 _ hr1),by kernel_rfl,by kernel_rfl⟩) AllP.nil)) ?_
   refine To.thenN (cn h (fun h=>?_) (fun h=>?_))
   ·refine Wp.seq (rg [4] [1000000,1010060] [(4,vi v8)] [(1000000,107,[.mp 1010060]),(1010060,107,[mc4 r1.2])] (To.thenN (Wp.ret (To.blockR (To.thenR (To.thenR ?_))))))
    cases h
    exact hQ
   ·refine Wp.skip (To.blockN (To.thenN (rg [0,1,7,8] [1000000,1010060] [(0,ls v0),(1,.fn 121 [.own 1000000 0]),(7,vi v7),(ex4 v8)] [(1000000,107,[.mp 1010060]),(1010060,107,[mc4 r1.2])] (kt [0,1,7,8] [1000000,1010060] [(0,ls v0),(1,.fn 121 [.own 1000000 0]),(7,vi v7),(ex4 v8)] [(1000000,107,[.mp 1010060]),(1010060,107,[mc4 r1.2])] (To.again ?_)))))
    exact ih (IntKind.wrap .i64 (v8 + 1)) r1.2 _ h hQ
  ·refine Wp.exit (To.thenX (To.thenX (kt [] [1000000,1010060] [] [(1000000,107,[.mp 1010060]),(1010060,107,[mc4 b1000000])] ?_)))
   cases h
   exact hQ
def slices_IndexFunc_string_string__store_shelf_has_1_o0 (n:Nat) (a0:List (List UInt8)) (h0:List (MK × S_api_Kept)):Option (Int × (List (MK × S_api_Kept))) :=
 (slices_IndexFunc_string_string__store_shelf_has_1_o0_l1 n a0 (List.length a0:Int) n 0 h0).bind fun o1 =>
 (Sum.elim (fun o1=>some ((-1),o1)) (fun o1=>some (o1.1,o1.2))) o1
theorem ok_slices_IndexFunc_string_string__store_shelf_has_1_o0 (n:Nat) (a0:List (List UInt8)) (h0:List (MK × S_api_Kept)) (r:Int × (List (MK × S_api_Kept))) (h:slices_IndexFunc_string_string__store_shelf_has_1_o0 n a0 h0 = some r):CallsB Tryz.prog 142 [ls a0,.fn 121 [.own 1000000 0]] [(1000000,107,[.mp 1010060]),(1010060,107,[mc4 h0])] (vi r.1) [(1000000,107,[.mp 1010060]),(1010060,107,[mc4 r.2])]:=by
 unfold slices_IndexFunc_string_string__store_shelf_has_1_o0 at h
 refine bo Tryz.f142 rfl fun F0 w0=>?_
 refine Wp.seq (rg [0,1] [1000000,1010060] [(0,ls a0),(1,.fn 121 [.own 1000000 0])] [(1000000,107,[.mp 1010060]),(1010060,107,[mc4 h0])] (To.thenN (Wp.seq (Wp.seq (rg [0,1,7,8] [1000000,1010060] [(0,ls a0),(1,.fn 121 [.own 1000000 0]),(7,vi (List.length a0:Int)),(8,vi 0)] [(1000000,107,[.mp 1010060]),(1010060,107,[mc4 h0])] (To.thenN (Wp.block ?_)))))))
 obtain ⟨o1,ho1,h⟩:=bind_of h
 refine kw [0,1,7,8] [1000000,1010060] [(0,ls a0),(1,.fn 121 [.own 1000000 0]),(7,vi (List.length a0:Int)),(8,vi 0)] [(1000000,107,[.mp 1010060]),(1010060,107,[mc4 h0])] (Wp.loopL (ok_slices_IndexFunc_string_string__store_shelf_has_1_o0_l1 n a0 (List.length a0:Int) n 0 h0 o1 ho1 ?_))
 rcases o1 with o1 | o1
 ·replace h:=sum_l h
  refine To.blockX (To.thenN (Wp.seq (rg [4] [1000000,1010060] [(4,vi (-1))] [(1000000,107,[.mp 1010060]),(1010060,107,[mc4 o1])] (To.thenN (Wp.ret ?_)))))
  cases h
  exact To.doneB hΓ [1000000,1010060] (by kernel_rfl) (by kernel_rfl)
 ·replace h:=sum_r h
  refine To.blockR (To.thenR ?_)
  cases h
  exact To.doneB hΓ [1000000,1010060] (by kernel_rfl) (by kernel_rfl)
def slices_ContainsFunc_string_string__store_shelf_has_1_o0 (n:Nat) (a0:List (List UInt8)) (h0:List (MK × S_api_Kept)):Option (Bool × (List (MK × S_api_Kept))) :=
 (slices_IndexFunc_string_string__store_shelf_has_1_o0 n a0 h0).bind fun r1 =>
 some ((decide (r1.1 ≥ 0)),r1.2)
theorem ok_slices_ContainsFunc_string_string__store_shelf_has_1_o0 (n:Nat) (a0:List (List UInt8)) (h0:List (MK × S_api_Kept)) (r:Bool × (List (MK × S_api_Kept))) (h:slices_ContainsFunc_string_string__store_shelf_has_1_o0 n a0 h0 = some r):CallsB Tryz.prog 120 [ls a0,.fn 121 [.own 1000000 0]] [(1000000,107,[.mp 1010060]),(1010060,107,[mc4 h0])] (vb r.1) [(1000000,107,[.mp 1010060]),(1010060,107,[mc4 r.2])]:=by
 unfold slices_ContainsFunc_string_string__store_shelf_has_1_o0 at h
 refine bo Tryz.f120 rfl fun F0 w0=>?_
 refine Wp.seq (rg [0,1] [1000000,1010060] [(0,ls a0),(1,.fn 121 [.own 1000000 0])] [(1000000,107,[.mp 1010060]),(1010060,107,[mc4 h0])] (To.thenN (Wp.seq ?_)))
 obtain ⟨r1,hr1,h⟩:=bind_of h
 refine rb [] 2 ⟨[(1000000,1000000),(1010060,1010060)],[(1000000,1000000),(1010060,1010060)],[ls a0,.fn 121 [.own 1000000 0]],[(1000000,107,[.mp 1010060]),(1010060,107,[mc4 h0])],vi r1.1,[(1000000,107,[.mp 1010060]),(1010060,107,[mc4 r1.2])]⟩ [4] [1000000,1010060] [(4,vb (decide (r1.1 ≥ 0)))] [(1000000,107,[.mp 1010060]),(1010060,107,[mc4 r1.2])] ((ok_slices_IndexFunc_string_string__store_shelf_has_1_o0 n a0 h0 _ hr1)) (To.thenN (Wp.ret ?_))
 cases h
 exact To.doneB hΓ [1000000,1010060] (by kernel_rfl) (by kernel_rfl)
def store_shelf_has__m0 (n:Nat) (a1:List (List UInt8)) (h0:List (MK × S_api_Kept)):Option (Bool × (List (MK × S_api_Kept))) :=
 (slices_ContainsFunc_string_string__store_shelf_has_1_o0 n a1 h0).bind fun r1 =>
 some ((!r1.1),r1.2)
theorem ok_store_shelf_has__m0 (n:Nat) (a1:List (List UInt8)) (h0:List (MK × S_api_Kept)) (r:Bool × (List (MK × S_api_Kept))) (h:store_shelf_has__m0 n a1 h0 = some r):CallsB Tryz.prog 85 [.mp 1000000,ls a1] [(1000000,107,[mc4 h0])] (vb r.1) [(1000000,107,[mc4 r.2])]:=by
 unfold store_shelf_has__m0 at h
 refine bo Tryz.f85 rfl fun F0 w0=>?_
 refine Wp.seq (rg [1,2] [2,1000000] [(1,ls a1),(2,.own 2 0)] [(2,107,[.mp 1000000]),(1000000,107,[mc4 h0])] (To.thenN (Wp.seq ?_)))
 obtain ⟨r1,hr1,h⟩:=bind_of h
 refine rb [] 2 ⟨[(1000000,2),(1010060,1000000)],[(1000000,2),(1010060,1000000)],[ls a1,.fn 121 [.own 1000000 0]],[(1000000,107,[.mp 1010060]),(1010060,107,[mc4 h0])],vb r1.1,[(1000000,107,[.mp 1010060]),(1010060,107,[mc4 r1.2])]⟩ [4] [1000000] [(4,vb (!r1.1))] [(1000000,107,[mc4 r1.2])] ((ok_slices_ContainsFunc_string_string__store_shelf_has_1_o0 n a1 h0 _ hr1)) (To.thenN (Wp.ret ?_))
 cases h
 exact To.doneB hΓ [1000000] (by kernel_rfl) (by kernel_rfl)
theorem good_E_string (l:List (List UInt8)):GoodR (.recs [] E_string l):=⟨Nat.le_of_ble_eq_true (by kernel_rfl),fun _=>⟨rfl,rfl⟩⟩
def slices_Clone_string_string (n:Nat) (a0:List (List UInt8)):Option ((List (List UInt8))) :=
 if (decide ((List.length ([]:List (List UInt8)) + List.length a0) * (16 + 1) ≤ limit)) = true then (some (([]:List (List UInt8)) ++ a0)) else none
abbrev rc9 (l:List (List UInt8)):D:=.rowc false (α:=List UInt8) [] E_string l
abbrev rc10 (l:List (List UInt8)):D:=.rowc true (α:=List UInt8) [] E_string l
abbrev ex8 (x0:List (List UInt8)):=(([]:List (List UInt8)) ++ x0)
theorem ok_slices_Clone_string_string (n:Nat) (a0:List (List UInt8)) (r:(List (List UInt8))) (h:slices_Clone_string_string n a0 = some r):CallsX Tryz.prog 64 [ls a0] (ls r):=by
 unfold slices_Clone_string_string at h
 refine xo Tryz.f64 rfl fun F0 w0 _=>?_
 refine Wp.seq (rg [0] [] [(0,ls a0)] [] (To.thenN (Wp.seq (Wp.seq (Wp.nilR (e:=9) (neg:=false) (t0:=0) (t3:=3) (t4:=4) (α:=List UInt8) (d:=[]) (enc:=E_string) (l:=a0) Tryz.underlying34 rfl rfl rfl rfl rfl rfl ⟨Nat.le_of_ble_eq_true (by kernel_rfl),Nat.le_of_ble_eq_true (by kernel_rfl),by decide⟩ (by kernel_rfl) (fun hl=>?_) ?_)))))
 ·subst hl
  have h:(some []) = some r:=by simpa using h
  refine To.thenN (Wp.cond (b:=true) (by kernel_rfl) (fun _=>?_) (fun hb=>by cases hb))
  refine Wp.seq (rg [2] [] [(2,.val (.slice none 0 0))] [] (To.thenN (Wp.ret (To.thenR (To.weak (K':=[(2,ls [])]) (L':=[]) (.cons (.zero _ _) .nil) .nil ?_)))))
  cases h
  exact To.done hΓ (by kernel_rfl)
 ·refine To.thenN (Wp.cond (b:=false) (by kernel_rfl) (fun hb=>by cases hb) (fun _=>(Wp.skip (To.thenN (Wp.seq ?_)))))
  obtain ⟨hc1,h⟩:=chk_of h
  refine rr [] [(0,ls []),(2,ls (ex8 a0))] [] [2] [7] [(2,.row 7)] [(7,9,[rc9 (ex8 a0)])] [(MkOb 1 [] 0 (ls []) ∧ GoodR (ls [])),_,(AppOb [] E_string ([]:List (List UInt8)) (List.flatMap E_string a0) (List.length a0) (ls (ex8 a0)) ∧ GoodR (ls (ex8 a0)))] (AllP.cons (mkOb (by kernel_rfl) rfl (by kernel_rfl) (good_E_string _)) (AllP.cons hc1 (AllP.cons (appOb rfl rfl (good_E_string _)) AllP.nil))) (To.thenN (Wp.ret (To.pre (St.settle (ks:=[7]) (kk:=[2]) (kl:=[7]) (K':=[(2,.row 7)]) (L':=[(7,9,[rc10 (ex8 a0)])]) (by kernel_rfl)) (To.pre (St.sealK [2] (K':=[(2,ls (ex8 a0))]) (by kernel_rfl)) ?_))))
  cases h
  exact To.done hΓ (by kernel_rfl)
def life_New (a0:Int) (a1:S_api_Spec):S_life_Box :=
 (S_life_Box.mk a1 a0 1 0 0 0 (-1) false false (S_probe_State.mk 0 0 0 0))
theorem ok_life_New (a0:Int) (a1:S_api_Spec) (r:S_life_Box) (h:life_New a0 a1 = r):CallsX Tryz.prog 86 [vi a0,.agg (qc7 a1)] (.agg (qc8 r)):=by
 unfold life_New at h
 refine xo Tryz.f86 rfl fun F0 w0 _=>?_
 refine Wp.seq (rg [0,3,4] [3,4] [(0,vi a0),(3,.own 3 0),(4,.own 4 0)] [(3,38,(E_api_Spec a1)),(4,53,[.str [],.str [],.str [],vi 0,.str [],.val (.slice none 0 0),.val (.slice none 0 0),.str [],vi 0,vi 0,vi 0,vi 0,vi 0,vi 0,vi 0,vi 0,vi 0,vi 0,vi 0,vb false,vb false,vi 0,vi 0,vi 0,vi 0])] (To.thenN (Wp.seq (rg [4] [4] [(4,.own 4 0)] [(4,53,[.str a1.f_Name,.str a1.f_Project,.str a1.f_Service,vi a1.f_Number,.str a1.f_Hash,ls a1.f_Nets,ls a1.f_Vols,.str a1.f_Health.f_Test,vi a1.f_Health.f_Every,vi a1.f_Health.f_Start,vi a1.f_Health.f_Retries,vi a1.f_Restart,vi a1.f_Tries,vi a0,vi 1,vi 0,vi 0,vi 0,vi (-1),vb false,vb false,vi 0,vi 0,vi 0,vi 0])] (To.thenN (Wp.ret ?_))))))
 cases h
 exact To.done hΓ (by kernel_rfl)
def store_Store_make__o0_m1 (n:Nat) (b3:S_api_Spec) (b1000000:S_store_Store) (x:MK × S_life_Box):Option (Sum (Unit) (Int × Int)) :=
 if (x.2.f_Spec.f_Name == b3.f_Name) = true then (some (.inr (0,11)))
 else (some (.inl ()))
theorem ok_store_Store_make__o0_m1 (n:Nat) (b3:S_api_Spec) (b1000000:S_store_Store) (x:MK × S_life_Box) (o:Sum (Unit) (Int × Int)) (h:store_Store_make__o0_m1 n b3 b1000000 x = some o) {F0:Fz} {w0:Pt Tryz.prog} {Q:Exit → Act → World → Prop} {b0 clock0 r0 j:Nat} {seen:Array Nat} {es0:Array MapEntry} {em:MapEntry} (hj:es0[j]? = some em) (hx:(b1000000.f_boxes)[j]? = some x) (hQ:(Sum.elim (fun s=>To 91 F0 w0 [(0,.own 1000000 0),(3,.own 3 0),(21,.val (.pointer (some ⟨r0,0,none⟩)))] [(3,38,(E_api_Spec b3)),(21,0,[iterD r0 b0 clock0 (seen.push em.born)]),(ex5 b1000000),(1010060,105,[lockD b0 es0 clock0 (some .i64) true (α:=S_life_Box) E_life_Box b1000000.f_boxes]),(ex6 b1000000),(ex7 b1000000)] .normal Q) (fun s=>To 91 F0 w0 [(4,vi s.1),(5,vi s.2)] [(21,0,[iterD r0 b0 clock0 (seen.push em.born)]),(ex5 b1000000),(1010060,105,[lockD b0 es0 clock0 (some .i64) true (α:=S_life_Box) E_life_Box b1000000.f_boxes]),(ex6 b1000000),(ex7 b1000000)] .ret Q)) o):Wp Tryz.prog 91 F0 w0 [(0,.own 1000000 0),(3,.own 3 0),(21,.val (.pointer (some ⟨r0,0,none⟩)))] [(3,38,(E_api_Spec b3)),(21,0,[iterD r0 b0 clock0 (seen.push em.born)]),(ex5 b1000000),(1010060,105,[lockD b0 es0 clock0 (some .i64) true (α:=S_life_Box) E_life_Box b1000000.f_boxes]),(ex6 b1000000),(ex7 b1000000)] (cB (cB (cI (cI (cB (cA (cB (cB (cF Tryz.f54))))))))) Q:=by
 unfold store_Store_make__o0_m1 at h
 refine Wp.block (Wp.seq (Wp.rangeEntry hΓ (u:=21) (te:=24) (k:=1010060) (ki:=21) (tt:=105) (t2:=0) (r:=r0) (b:=b0) (clock:=clock0) (seen:=seen) (es:=es0) (em:=em) (kd:=(some .i64)) (ag:=true) (enc:=E_life_Box) (m:=b1000000.f_boxes) (x:=x) (dv:=.agg (qc8 x.2)) [] [] [] [0,3,7,21] [3,7,21,1000000,1010060,1010061,1010062] hj hx rfl rfl rfl (Nat.le_of_ble_eq_true (by kernel_rfl)) (by kernel_rfl) (by kernel_rfl) (by kernel_rfl) (by kernel_rfl) (by kernel_rfl) (K':=[(0,.own 1000000 0),(3,.own 3 0),(7,.own 7 0),(21,.val (.pointer (some ⟨r0,0,none⟩)))]) (L':=[(3,38,(E_api_Spec b3)),(7,53,(E_life_Box x.2)),(21,0,[iterD r0 b0 clock0 (seen.push em.born)]),(ex5 b1000000),(1010060,105,[lockD b0 es0 clock0 (some .i64) true (α:=S_life_Box) E_life_Box b1000000.f_boxes]),(ex6 b1000000),(ex7 b1000000)]) (ob:=[]) (by kernel_rfl) AllP.nil (To.thenN (Wp.seq (rg [0,3,21,31] [3,21,1000000,1010060,1010061,1010062] [(0,.own 1000000 0),(3,.own 3 0),(21,.val (.pointer (some ⟨r0,0,none⟩))),(31,vb (x.2.f_Spec.f_Name == b3.f_Name))] [(3,38,(E_api_Spec b3)),(21,0,[iterD r0 b0 clock0 (seen.push em.born)]),(ex5 b1000000),(1010060,105,[lockD b0 es0 clock0 (some .i64) true (α:=S_life_Box) E_life_Box b1000000.f_boxes]),(ex6 b1000000),(ex7 b1000000)] (To.thenN (cn h (fun h=>?_) (fun h=>?_))))))))
 ·refine Wp.seq (rg [4,5] [21,1000000,1010060,1010061,1010062] [(4,vi 0),(5,vi 11)] [(21,0,[iterD r0 b0 clock0 (seen.push em.born)]),(ex5 b1000000),(1010060,105,[lockD b0 es0 clock0 (some .i64) true (α:=S_life_Box) E_life_Box b1000000.f_boxes]),(ex6 b1000000),(ex7 b1000000)] (To.thenN (Wp.ret (To.blockR ?_))))
  cases h
  exact hQ
 ·refine Wp.skip (To.blockN (kt [0,3,21] [3,21,1000000,1010060,1010061,1010062] [(0,.own 1000000 0),(3,.own 3 0),(21,.val (.pointer (some ⟨r0,0,none⟩)))] [(3,38,(E_api_Spec b3)),(21,0,[iterD r0 b0 clock0 (seen.push em.born)]),(ex5 b1000000),(1010060,105,[lockD b0 es0 clock0 (some .i64) true (α:=S_life_Box) E_life_Box b1000000.f_boxes]),(ex6 b1000000),(ex7 b1000000)] ?_))
  cases h
  exact hQ
def store_Store_make__o0 (n:Nat) (a1:S_api_Spec) (h0:S_store_Store):Option (Int × Int × S_store_Store) :=
 if (bif (a1.f_Name == []) then true else (decide ((List.length a1.f_Name:Int) > 128))) = true then (some (0,2,h0))
 else ((roundAll (store_Store_make__o0_m1 n a1 h0) h0.f_boxes).bind fun o2 =>
 Sum.elim (fun _=>(store_shelf_has__m0 n a1.f_Nets h0.f_nets).bind fun r3 =>
 ((if ((!r3.1) == false) = true then store_shelf_has__m0 n a1.f_Vols h0.f_vols else some (false,h0.f_vols))).bind fun r4 =>
 if (bif (!r3.1) then true else (!r4.1)) = true then (some (0,12,(S_store_Store.mk h0.f_boxes r3.2 r4.2 h0.f_last)))
 else (if (decide ((List.length h0.f_boxes:Int) ≥ 64)) = true then (some (0,14,(S_store_Store.mk h0.f_boxes r3.2 r4.2 h0.f_last)))
 else ((slices_Clone_string_string n a1.f_Nets).bind fun r5 =>
 (slices_Clone_string_string n a1.f_Vols).bind fun r6 =>
 lett (life_New (IntKind.wrap .i64 (h0.f_last + 1)) (S_api_Spec.mk a1.f_Name a1.f_Project a1.f_Service a1.f_Number a1.f_Hash r5 r6 a1.f_Health a1.f_Restart a1.f_Tries)) fun r7 =>
 some ((IntKind.wrap .i64 (h0.f_last + 1)),0,(S_store_Store.mk (mput h0.f_boxes (.inr (IntKind.wrap .i64 (h0.f_last + 1))) r7) r3.2 r4.2 (IntKind.wrap .i64 (h0.f_last + 1))))))) (fun y=>some (y.1,y.2,h0)) o2)
theorem ok_store_Store_make__o0 (n:Nat) (a1:S_api_Spec) (h0:S_store_Store) (r:Int × Int × S_store_Store) (h:store_Store_make__o0 n a1 h0 = some r):CallsB Tryz.prog 54 [.own 1000000 0,.agg (qc7 a1)] (qf5 1000000 1010060 1010061 1010062 h0) (.tup [vi r.1,vi r.2.1]) (qf5 1000000 1010060 1010061 1010062 r.2.2):=by
 unfold store_Store_make__o0 at h
 refine bo Tryz.f54 rfl fun F0 w0=>?_
 refine Wp.seq (rg [0,3] [3,1000000,1010060,1010061,1010062] [(0,.own 1000000 0),(3,.own 3 0)] ((3,38,(E_api_Spec a1))::qf5 1000000 1010060 1010061 1010062 h0) (To.thenN (Wp.seq (Wp.seq (rg [0,3,16] [3,1000000,1010060,1010061,1010062] [(0,.own 1000000 0),(3,.own 3 0),(16,vb (bif (a1.f_Name == []) then true else (decide ((List.length a1.f_Name:Int) > 128))))] ((3,38,(E_api_Spec a1))::qf5 1000000 1010060 1010061 1010062 h0) (To.thenN (cn h (fun h=>?_) (fun h=>?_))))))))
 ·refine Wp.seq (rg [4,5] [1000000,1010060,1010061,1010062] [(4,vi 0),(5,vi 2)] (qf5 1000000 1010060 1010061 1010062 h0) (To.thenN (Wp.ret (To.thenR ?_))))
  cases h
  exact To.doneB hΓ [1000000,1010060,1010061,1010062] (by kernel_rfl) (by kernel_rfl)
 ·refine Wp.skip (To.thenN (Wp.seq (Wp.seq (Wp.rangeStart hΓ (t:=105) (s:=20) (u:=21) (k:=1010060) (ki:=21) (tt:=105) [] [] [] [0,3,20] [3,1000000,1010060,1010061,1010062] (K':=[(0,.own 1000000 0),(3,.own 3 0),(20,.mp 1010060)]) (L':=((3,38,(E_api_Spec a1))::qf5 1000000 1010060 1010061 1010062 h0)) (ob:=[]) (by kernel_rfl) (Nat.le_of_ble_eq_true (by kernel_rfl)) (by kernel_rfl) AllP.nil (kd:=(some .i64)) (sz:=25) (ag:=true) (by kernel_rfl) (α:=S_life_Box) (d:=Z_life_Box) (enc:=E_life_Box) (m:=h0.f_boxes) (by kernel_rfl) (by kernel_rfl) (Nat.le_of_ble_eq_true (by kernel_rfl)) (by kernel_rfl) (by kernel_rfl) ?_))))
  intro b1 es1 clock1 r01
  refine kt [0,3,21] [3,21,1000000,1010060,1010061,1010062] [(0,.own 1000000 0),(3,.own 3 0),(21,.val (.pointer (some ⟨r01,0,none⟩)))] [(3,38,(E_api_Spec a1)),(21,0,[iterD r01 b1 clock1 #[]]),(1000000,109,[.mp 1010060,.mp 1010061,.mp 1010062,vi h0.f_last]),(1010060,105,[lockD b1 es1 clock1 (some .i64) true (α:=S_life_Box) E_life_Box h0.f_boxes]),(1010061,107,[mc4 h0.f_nets]),(1010062,107,[mc4 h0.f_vols])] (To.thenN (Wp.block ?_))
  obtain ⟨o2,ho2,h⟩:=bind_of h
  refine kw [0,3,21] [3,21,1000000,1010060,1010061,1010062] [(0,.own 1000000 0),(3,.own 3 0),(21,.val (.pointer (some ⟨r01,0,none⟩)))] [(3,38,(E_api_Spec a1)),(21,0,[iterD r01 b1 clock1 #[]]),(1000000,109,[.mp 1010060,.mp 1010061,.mp 1010062,vi h0.f_last]),(1010060,105,[lockD b1 es1 clock1 (some .i64) true (α:=S_life_Box) E_life_Box h0.f_boxes]),(1010061,107,[mc4 h0.f_nets]),(1010062,107,[mc4 h0.f_vols])] (Wp.loopL (WL.mapRangeL (u:=21) (tn:=22) (tk:=23) (ki:=21) (t2:=0) (k:=1010060) (tt:=105) (b:=b1) (clock:=clock1) (r:=r01) (es:=es1) (kd:=(some .i64)) (ag:=true) (α:=S_life_Box) (enc:=E_life_Box) (m:=h0.f_boxes) (Lr:=[(3,38,(E_api_Spec a1)),(1000000,109,[.mp 1010060,.mp 1010061,.mp 1010062,vi h0.f_last]),(1010061,107,[mc4 h0.f_nets]),(1010062,107,[mc4 h0.f_vols])]) (fun seen=>[(3,38,(E_api_Spec a1)),(21,0,[iterD r01 b1 clock1 seen]),(1000000,109,[.mp 1010060,.mp 1010061,.mp 1010062,vi h0.f_last]),(1010060,105,[lockD b1 es1 clock1 (some .i64) true (α:=S_life_Box) E_life_Box h0.f_boxes]),(1010061,107,[mc4 h0.f_nets]),(1010062,107,[mc4 h0.f_vols])]) (store_Store_make__o0_m1 n a1 h0) o2 (fun seen y Q'=>To 91 F0 w0 [(4,vi y.1),(5,vi y.2)] [(21,0,[iterD r01 b1 clock1 seen]),(1000000,109,[.mp 1010060,.mp 1010061,.mp 1010062,vi h0.f_last]),(1010060,105,[lockD b1 es1 clock1 (some .i64) true (α:=S_life_Box) E_life_Box h0.f_boxes]),(1010061,107,[mc4 h0.f_nets]),(1010062,107,[mc4 h0.f_vols])] .ret Q') [21,1010060,3,1000000,1010061,1010062] [3,21,1000000,1010060,1010061,1010062] (fun seen=>by kernel_rfl) (fun seen=>by kernel_rfl) ⟨_,rfl,rfl⟩ rfl rfl rfl rfl rfl ⟨Nat.le_of_ble_eq_true (by kernel_rfl),Nat.le_of_ble_eq_true (by kernel_rfl)⟩ (by kernel_rfl) (by kernel_rfl) (by decide) (by kernel_rfl) ho2 (fun seen em j x s hj hx hs Q' hQ=>ok_store_Store_make__o0_m1 n a1 h0 x s hs hj hx hQ) (fun he seen=>?_) (fun seen y he=>?_)))
  ·cases he
   replace h:=sum_l h
   refine To.pre (St.unlock (t:=105) (b:=b1) (es:=es1) (clock:=clock1) (kk:=(some .i64)) (ag:=true) (α:=S_life_Box) (enc:=E_life_Box) (l:=h0.f_boxes) 1010060 Z_life_Box (by kernel_rfl) (L':=[(1010060,105,[mc3 h0.f_boxes]),(3,38,(E_api_Spec a1)),(21,0,[iterD r01 b1 clock1 seen]),(1000000,109,[.mp 1010060,.mp 1010061,.mp 1010062,vi h0.f_last]),(1010061,107,[mc4 h0.f_nets]),(1010062,107,[mc4 h0.f_vols])]) (by kernel_rfl)) (kt [0,3] [3,1000000,1010060,1010061,1010062] [(0,.own 1000000 0),(3,.own 3 0)] ((3,38,(E_api_Spec a1))::qf5 1000000 1010060 1010061 1010062 h0) (To.blockX (To.thenN (Wp.seq (Wp.block (Wp.seq ?_))))))
   obtain ⟨r3,hr3,h⟩:=bind_of h
   obtain ⟨r4,hr4,h⟩:=bind_of h
   refine Wp.regionO hm hΓ [] [] [(6,⟨[(1000000,1010061)],[(1000000,1010061)],[.mp 1000000,ls a1.f_Nets],[(1000000,107,[mc4 h0.f_nets])],vb r3.1,[(1000000,107,[mc4 r3.2])]⟩),(15,⟨[(1000000,1010062)],[(1000000,1010062)],[.mp 1000000,ls a1.f_Vols],[(1000000,107,[mc4 h0.f_vols])],vb r4.1,[(1000000,107,[mc4 r4.2])]⟩)] [0,3,32,33,34,35,36,37,38,39,40,41,42,43,44,45,46,47,48,49,50] [3,1000000,1010060,1010061,1010062] [0,3,32] [3,1000000,1010060,1010061,1010062] (K':=[(0,.own 1000000 0),(3,.own 3 0),(32,vb (bif (!r3.1) then true else (!r4.1)))]) (L':=[(3,38,(E_api_Spec a1)),(1000000,109,[.mp 1010060,.mp 1010061,.mp 1010062,vi h0.f_last]),(1010060,105,[mc3 h0.f_boxes]),(1010061,107,[mc4 r3.2]),(1010062,107,[mc4 r4.2])]) (ob:=[CbOb (CallsB Tryz.prog) 85 [.mp 1010061,ls a1.f_Nets] [some (107,[mc4 h0.f_nets])] ⟨[(1000000,1010061)],[(1000000,1010061)],[.mp 1000000,ls a1.f_Nets],[(1000000,107,[mc4 h0.f_nets])],vb r3.1,[(1000000,107,[mc4 r3.2])]⟩,(((!r3.1) == false) = true → CbOb (CallsB Tryz.prog) 85 [.mp 1010062,ls a1.f_Vols] [some (107,[mc4 h0.f_vols])] ⟨[(1000000,1010062)],[(1000000,1010062)],[.mp 1000000,ls a1.f_Vols],[(1000000,107,[mc4 h0.f_vols])],vb r4.1,[(1000000,107,[mc4 r4.2])]⟩),(((!r3.1) == false) = false → KeepOb [(1010062,107,[mc4 h0.f_vols])] ⟨[(1000000,1010062)],[(1000000,1010062)],[.mp 1000000,ls a1.f_Vols],[(1000000,107,[mc4 h0.f_vols])],vb r4.1,[(1000000,107,[mc4 r4.2])]⟩)]) (by kernel_rfl) (by kernel_rfl) (AllP.cons (⟨(ok_store_shelf_has__m0 n a1.f_Nets h0.f_nets _ hr3),by kernel_rfl,by kernel_rfl⟩) (AllP.cons (fun hg=>⟨(ok_store_shelf_has__m0 n a1.f_Vols h0.f_vols _ (if_t hg hr4)),by kernel_rfl,by kernel_rfl⟩) (AllP.cons (fun hg=>by cases if_f hg hr4; exact keepOb (by kernel_rfl)) AllP.nil))) ?_
   refine To.thenN (cn h (fun h=>?_) (fun h=>?_))
   ·refine Wp.seq (rg [4,5] [1000000,1010060,1010061,1010062] [(4,vi 0),(5,vi 12)] [(1000000,109,[.mp 1010060,.mp 1010061,.mp 1010062,vi h0.f_last]),(1010060,105,[mc3 h0.f_boxes]),(1010061,107,[mc4 r3.2]),(1010062,107,[mc4 r4.2])] (To.thenN (Wp.ret (To.blockR (To.thenR ?_)))))
    cases h
    exact To.doneB hΓ [1000000,1010060,1010061,1010062] (by kernel_rfl) (by kernel_rfl)
   ·refine Wp.seq (rg [0,3,51] [3,1000000,1010060,1010061,1010062] [(0,.own 1000000 0),(3,.own 3 0),(51,vb (decide ((List.length h0.f_boxes:Int) ≥ 64)))] [(3,38,(E_api_Spec a1)),(1000000,109,[.mp 1010060,.mp 1010061,.mp 1010062,vi h0.f_last]),(1010060,105,[mc3 h0.f_boxes]),(1010061,107,[mc4 r3.2]),(1010062,107,[mc4 r4.2])] (To.thenN (cn h (fun h=>?_) (fun h=>?_))))
    ·refine Wp.seq (rg [4,5] [1000000,1010060,1010061,1010062] [(4,vi 0),(5,vi 14)] [(1000000,109,[.mp 1010060,.mp 1010061,.mp 1010062,vi h0.f_last]),(1010060,105,[mc3 h0.f_boxes]),(1010061,107,[mc4 r3.2]),(1010062,107,[mc4 r4.2])] (To.thenN (Wp.ret (To.blockR (To.thenR ?_)))))
     cases h
     exact To.doneB hΓ [1000000,1010060,1010061,1010062] (by kernel_rfl) (by kernel_rfl)
    ·refine Wp.skip (To.blockN (To.thenN (Wp.seq ?_)))
     obtain ⟨r5,hr5,h⟩:=bind_of h
     obtain ⟨r6,hr6,h⟩:=bind_of h
     refine Wp.regionO hm hΓ [] [(2,ls r5),(5,ls r6)] [] [0,3,51,58,59,60,61,62,63,64,65] [3,1000000,1010060,1010061,1010062] [0,3] [3,1000000,1010060,1010061,1010062] (K':=[(0,.own 1000000 0),(3,.own 3 0)]) (L':=[(3,38,(List.set (List.set (E_api_Spec a1) 5 (ls r5)) 6 (ls r6))),(1000000,109,[.mp 1010060,.mp 1010061,.mp 1010062,vi h0.f_last]),(1010060,105,[mc3 h0.f_boxes]),(1010061,107,[mc4 r3.2]),(1010062,107,[mc4 r4.2])]) (ob:=[(true = true → CX Tryz.prog 64 [ls a1.f_Nets] (ls r5)),(true = true → CX Tryz.prog 64 [ls a1.f_Vols] (ls r6))]) (by kernel_rfl) (by kernel_rfl) (AllP.cons (fun _=>cx (ok_slices_Clone_string_string n a1.f_Nets _ hr5)) (AllP.cons (fun _=>cx (ok_slices_Clone_string_string n a1.f_Vols _ hr6)) AllP.nil)) (To.thenN (Wp.seq (rg [0,3] [3,1000000,1010060,1010061,1010062] [(0,.own 1000000 0),(3,.own 3 0)] [(3,38,(List.set (List.set (E_api_Spec a1) 5 (ls r5)) 6 (ls r6))),(1000000,109,[.mp 1010060,.mp 1010061,.mp 1010062,vi (IntKind.wrap .i64 (h0.f_last + 1))]),(1010060,105,[mc3 h0.f_boxes]),(1010061,107,[mc4 r3.2]),(1010062,107,[mc4 r4.2])] (To.thenN (Wp.seq ?_)))))
     obtain ⟨r7,hr7,h⟩:=lett_of h
     refine Wp.regionO hm hΓ [] [(13,.agg (qc8 r7)),(14,mc3 (mput h0.f_boxes (.inr (IntKind.wrap .i64 (h0.f_last + 1))) r7))] [] [0,3,73,74,75,76,77,78,79,80,81,82,83,84,85,86] [3,1000000,1010060,1010061,1010062] [0] [1000000,1010060,1010061,1010062] (K':=[(0,.own 1000000 0)]) (L':=[(1000000,109,[.mp 1010060,.mp 1010061,.mp 1010062,vi (IntKind.wrap .i64 (h0.f_last + 1))]),(1010060,105,[mc3 (mput h0.f_boxes (.inr (IntKind.wrap .i64 (h0.f_last + 1))) r7)]),(1010061,107,[mc4 r3.2]),(1010062,107,[mc4 r4.2])]) (ob:=[(true = true → CX Tryz.prog 86 [vi (IntKind.wrap .i64 (h0.f_last + 1)),.agg [.str a1.f_Name,.str a1.f_Project,.str a1.f_Service,vi a1.f_Number,.str a1.f_Hash,ls r5,ls r6,.str a1.f_Health.f_Test,vi a1.f_Health.f_Every,vi a1.f_Health.f_Start,vi a1.f_Health.f_Retries,vi a1.f_Restart,vi a1.f_Tries]] (.agg (qc8 r7))),(∃ l':List (MK × S_life_Box),(mc3 (mput h0.f_boxes (.inr (IntKind.wrap .i64 (h0.f_last + 1))) r7):D) = mc3 l' ∧ MsetOb E_life_Box h0.f_boxes (.inr (IntKind.wrap .i64 (h0.f_last + 1))) (qc8 r7) l')]) (by kernel_rfl) (by kernel_rfl) (AllP.cons (fun _=>cx (ok_life_New (IntKind.wrap .i64 (h0.f_last + 1)) (S_api_Spec.mk a1.f_Name a1.f_Project a1.f_Service a1.f_Number a1.f_Hash r5 r6 a1.f_Health a1.f_Restart a1.f_Tries) _ hr7)) (AllP.cons (⟨_,rfl,r7,Weaks.of_eq (by kernel_rfl),rfl⟩) AllP.nil)) (To.thenN (Wp.seq (rg [4,5] [1000000,1010060,1010061,1010062] [(4,vi (IntKind.wrap .i64 (h0.f_last + 1))),(5,vi 0)] [(1000000,109,[.mp 1010060,.mp 1010061,.mp 1010062,vi (IntKind.wrap .i64 (h0.f_last + 1))]),(1010060,105,[mc3 (mput h0.f_boxes (.inr (IntKind.wrap .i64 (h0.f_last + 1))) r7)]),(1010061,107,[mc4 r3.2]),(1010062,107,[mc4 r4.2])] (To.thenN (Wp.ret ?_)))))
     cases h
     exact To.doneB hΓ [1000000,1010060,1010061,1010062] (by kernel_rfl) (by kernel_rfl)
  ·cases he
   replace h:=sum_r h
   refine To.thenR (To.pre (St.unlock (t:=105) (b:=b1) (es:=es1) (clock:=clock1) (kk:=(some .i64)) (ag:=true) (α:=S_life_Box) (enc:=E_life_Box) (l:=h0.f_boxes) 1010060 Z_life_Box (by kernel_rfl) (L':=[(1010060,105,[mc3 h0.f_boxes]),(21,0,[iterD r01 b1 clock1 seen]),(1000000,109,[.mp 1010060,.mp 1010061,.mp 1010062,vi h0.f_last]),(1010061,107,[mc4 h0.f_nets]),(1010062,107,[mc4 h0.f_vols])]) (by kernel_rfl)) (kt [4,5] [1000000,1010060,1010061,1010062] [(4,vi y.1),(5,vi y.2)] (qf5 1000000 1010060 1010061 1010062 h0) (To.blockR (To.thenR ?_))))
   cases h
   exact To.doneB hΓ [1000000,1010060,1010061,1010062] (by kernel_rfl) (by kernel_rfl)
def probe_Right (a0:S_api_Check):Bool :=
 lett ((bif (bif (bif (bif (bif (bif (!(a0.f_Test == [])) then (decide (a0.f_Every ≥ 1)) else false) then (decide (a0.f_Every ≤ 1099511627776)) else false) then (decide (a0.f_Start ≥ 0)) else false) then (decide (a0.f_Start ≤ 1099511627776)) else false) then (decide (a0.f_Retries ≥ 1)) else false) then (decide (a0.f_Retries ≤ 10)) else false):Bool) fun x1 =>
 x1
abbrev qc11 (x:S_api_Check):List D:=[.str x.f_Test,vi x.f_Every,vi x.f_Start,vi x.f_Retries]
theorem ok_probe_Right (a0:S_api_Check) (r:Bool) (h:probe_Right a0 = r):CallsX Tryz.prog 157 [.agg (qc11 a0)] (vb r):=by
 unfold probe_Right at h
 refine xo Tryz.f157 rfl fun F0 w0 _=>?_
 refine Wp.seq (rg [1] [1] [(1,.own 1 0)] [(1,36,qc11 a0)] (To.thenN (Wp.seq ?_)))
 obtain ⟨x1,hx1,h⟩:=lett_of h
 refine rg [2] [] [(2,vb (bif (bif (bif (bif (bif (bif (!(a0.f_Test == [])) then (decide (a0.f_Every ≥ 1)) else false) then (decide (a0.f_Every ≤ 1099511627776)) else false) then (decide (a0.f_Start ≥ 0)) else false) then (decide (a0.f_Start ≤ 1099511627776)) else false) then (decide (a0.f_Retries ≥ 1)) else false) then (decide (a0.f_Retries ≤ 10)) else false))] [] (To.eq (K':=[(2,vb x1)]) (L':=[]) (by cases hx1; rfl) (by cases hx1; rfl) (To.thenN (Wp.ret ?_)))
 cases h
 exact To.done hΓ (by kernel_rfl)
def probe_Begin (a0:S_api_Check) (a1:Int):S_probe_State :=
 if (!(probe_Right a0)) = true then ((S_probe_State.mk 0 0 0 0))
 else ((S_probe_State.mk 1 0 a1 (IntKind.wrap .i64 (a1 + a0.f_Every))))
abbrev qc12 (x:S_probe_State):List D:=[vi x.f_Health,vi x.f_Fails,vi x.f_Began,vi x.f_Next]
theorem ok_probe_Begin (a0:S_api_Check) (a1:Int) (r:S_probe_State) (h:probe_Begin a0 a1 = r):CallsX Tryz.prog 130 [.agg (qc11 a0),vi a1] (.agg (qc12 r)):=by
 unfold probe_Begin at h
 refine xo Tryz.f130 rfl fun F0 w0 _=>?_
 refine Wp.seq (rg [1,2,4] [2,4] [(1,vi a1),(2,.own 2 0),(4,.own 4 0)] [(2,36,qc11 a0),(4,51,[vi 0,vi 0,vi 0,vi 0])] (To.thenN (Wp.seq (Wp.seq (rc [] 1 [1,2,4,7] [2,4] [(1,vi a1),(2,.own 2 0),(4,.own 4 0),(7,vb (!(probe_Right a0)))] [(2,36,qc11 a0),(4,51,[vi 0,vi 0,vi 0,vi 0])] (ok_probe_Right a0 _ rfl) (To.thenN (cn h (fun h=>?_) (fun h=>?_))))))))
 ·refine Wp.seq (rg [4] [4] [(4,.own 4 0)] [(4,51,[vi 0,vi 0,vi 0,vi 0])] (To.thenN (Wp.ret (To.thenR ?_))))
  cases h
  exact To.done hΓ (by kernel_rfl)
 ·refine Wp.skip (To.thenN (Wp.seq (rg [4] [4] [(4,.own 4 0)] [(4,51,[vi 1,vi 0,vi a1,vi (IntKind.wrap .i64 (a1 + a0.f_Every))])] (To.thenN (Wp.ret ?_)))))
  cases h
  exact To.done hΓ (by kernel_rfl)
def life_run (a0:S_life_Box) (a1:Int):S_life_Box :=
 lett (probe_Begin a0.f_Spec.f_Health a1) fun r1 =>
 (S_life_Box.mk a0.f_Spec a0.f_Id 2 0 (IntKind.wrap .i64 (a0.f_Runs + 1)) a0.f_Done (-1) a0.f_ByHand a0.f_Sick r1)
abbrev ex9 (x0:S_life_Box):=(List.set (List.set (List.set (List.set (E_life_Box x0) 14 (vi 2)) 15 (vi 0)) 16 (vi (IntKind.wrap .i64 (x0.f_Runs + 1)))) 18 (vi (-1)))
theorem ok_life_run (a0:S_life_Box) (a1:Int) (r:S_life_Box) (h:life_run a0 a1 = r):CallsX Tryz.prog 104 [.agg (qc8 a0),vi a1] (.agg (qc8 r)):=by
 unfold life_run at h
 refine xo Tryz.f104 rfl fun F0 w0 _=>?_
 refine Wp.seq (rg [1,2,4] [2,4] [(1,vi a1),(2,.own 2 0),(4,.own 4 0)] [(2,53,(E_life_Box a0)),(4,53,[.str [],.str [],.str [],vi 0,.str [],.val (.slice none 0 0),.val (.slice none 0 0),.str [],vi 0,vi 0,vi 0,vi 0,vi 0,vi 0,vi 0,vi 0,vi 0,vi 0,vi 0,vb false,vb false,vi 0,vi 0,vi 0,vi 0])] (To.thenN (Wp.seq (rg [1,2,4] [2,4] [(1,vi a1),(2,.own 2 0),(4,.own 4 0)] [(2,53,(List.set (List.set (List.set (E_life_Box a0) 14 (vi 2)) 15 (vi 0)) 18 (vi (-1)))),(4,53,[.str [],.str [],.str [],vi 0,.str [],.val (.slice none 0 0),.val (.slice none 0 0),.str [],vi 0,vi 0,vi 0,vi 0,vi 0,vi 0,vi 0,vi 0,vi 0,vi 0,vi 0,vb false,vb false,vi 0,vi 0,vi 0,vi 0])] (To.thenN (Wp.seq (rg [1,2,4] [2,4] [(1,vi a1),(2,.own 2 0),(4,.own 4 0)] [(2,53,(ex9 a0)),(4,53,[.str [],.str [],.str [],vi 0,.str [],.val (.slice none 0 0),.val (.slice none 0 0),.str [],vi 0,vi 0,vi 0,vi 0,vi 0,vi 0,vi 0,vi 0,vi 0,vi 0,vi 0,vb false,vb false,vi 0,vi 0,vi 0,vi 0])] (To.thenN (Wp.seq ?_)))))))))
 obtain ⟨r1,hr1,h⟩:=lett_of h
 refine rc [] 4 [2,4] [2,4] [(2,.own 2 0),(4,.own 4 0)] [(2,53,(List.set (List.set (List.set (List.set (ex9 a0) 21 (vi r1.f_Health)) 22 (vi r1.f_Fails)) 23 (vi r1.f_Began)) 24 (vi r1.f_Next))),(4,53,[.str [],.str [],.str [],vi 0,.str [],.val (.slice none 0 0),.val (.slice none 0 0),.str [],vi 0,vi 0,vi 0,vi 0,vi 0,vi 0,vi 0,vi 0,vi 0,vi 0,vi 0,vb false,vb false,vi 0,vi 0,vi 0,vi 0])] (ok_probe_Begin a0.f_Spec.f_Health a1 _ hr1) (To.thenN (Wp.seq (rg [4] [4] [(4,.own 4 0)] [(4,53,(List.set (List.set (List.set (List.set (ex9 a0) 21 (vi r1.f_Health)) 22 (vi r1.f_Fails)) 23 (vi r1.f_Began)) 24 (vi r1.f_Next)))] (To.thenN (Wp.ret ?_)))))
 cases h
 exact To.done hΓ (by kernel_rfl)
def life_Start (a0:S_life_Box) (a1:Int):S_life_Box × Int :=
 if (a0.f_State == 2) = true then ((a0,13))
 else (lett (life_run (S_life_Box.mk a0.f_Spec a0.f_Id a0.f_State a0.f_Code a0.f_Runs 0 a0.f_At false a0.f_Sick a0.f_Probe) a1) fun r1 =>
 (r1,0))
theorem ok_life_Start (a0:S_life_Box) (a1:Int) (r:S_life_Box × Int) (h:life_Start a0 a1 = r):CallsX Tryz.prog 87 [.agg (qc8 a0),vi a1] (.tup [.agg (qc8 r.1),vi r.2]):=by
 unfold life_Start at h
 refine xo Tryz.f87 rfl fun F0 w0 _=>?_
 refine Wp.seq (rg [1,2,4] [2,4] [(1,vi a1),(2,.own 2 0),(4,.own 4 0)] [(2,53,(E_life_Box a0)),(4,53,[.str [],.str [],.str [],vi 0,.str [],.val (.slice none 0 0),.val (.slice none 0 0),.str [],vi 0,vi 0,vi 0,vi 0,vi 0,vi 0,vi 0,vi 0,vi 0,vi 0,vi 0,vb false,vb false,vi 0,vi 0,vi 0,vi 0])] (To.thenN (Wp.seq (Wp.seq (rg [1,2,4,8] [2,4] [(1,vi a1),(2,.own 2 0),(4,.own 4 0),(8,vb (a0.f_State == 2))] [(2,53,(E_life_Box a0)),(4,53,[.str [],.str [],.str [],vi 0,.str [],.val (.slice none 0 0),.val (.slice none 0 0),.str [],vi 0,vi 0,vi 0,vi 0,vi 0,vi 0,vi 0,vi 0,vi 0,vi 0,vi 0,vb false,vb false,vi 0,vi 0,vi 0,vi 0])] (To.thenN (cn h (fun h=>?_) (fun h=>?_))))))))
 ·refine Wp.seq (rg [4,5] [4] [(4,.own 4 0),(5,vi 13)] [(4,53,(E_life_Box a0))] (To.thenN (Wp.ret (To.thenR ?_))))
  cases h
  exact To.done hΓ (by kernel_rfl)
 ·refine Wp.skip (To.thenN (Wp.seq (rg [1,2,4] [2,4] [(1,vi a1),(2,.own 2 0),(4,.own 4 0)] [(2,53,(List.set (List.set (E_life_Box a0) 17 (vi 0)) 19 (vb false))),(4,53,[.str [],.str [],.str [],vi 0,.str [],.val (.slice none 0 0),.val (.slice none 0 0),.str [],vi 0,vi 0,vi 0,vi 0,vi 0,vi 0,vi 0,vi 0,vi 0,vi 0,vi 0,vb false,vb false,vi 0,vi 0,vi 0,vi 0])] (To.thenN (Wp.seq ?_)))))
  obtain ⟨r1,hr1,h⟩:=lett_of h
  refine rc [] 2 [4,5] [4] [(4,.own 4 0),(5,vi 0)] [(4,53,(E_life_Box r1))] (ok_life_run (S_life_Box.mk a0.f_Spec a0.f_Id a0.f_State a0.f_Code a0.f_Runs 0 a0.f_At false a0.f_Sick a0.f_Probe) a1 _ hr1) (To.thenN (Wp.ret ?_))
  cases h
  exact To.done hΓ (by kernel_rfl)
def life_Stop_j1 (b1:S_life_Box) (b2:S_life_Box):Sum (S_life_Box × S_life_Box) (Int × S_life_Box) :=
 if (b1.f_State == 2) = true then ((.inl ((S_life_Box.mk b1.f_Spec b1.f_Id 3 143 b1.f_Runs b1.f_Done b1.f_At b1.f_ByHand b1.f_Sick b1.f_Probe),b2)))
 else (if (b1.f_At == (-1)) = true then ((.inr (13,b1)))
 else ((.inl (b1,b2))))
theorem ok_life_Stop_j1 (b1:S_life_Box) (b2:S_life_Box) (o:Sum (S_life_Box × S_life_Box) (Int × S_life_Box)) (h:life_Stop_j1 b1 b2 = o) {F0:Fz} {w0:Pt Tryz.prog} {Q:Exit → Act → World → Prop} (hQ:(Sum.elim (fun s=>To 18 F0 w0 [(1,.own 1 0),(2,.own 2 0)] [(1,53,qc8 s.1),(2,53,qc8 s.2)] .normal Q) (fun s=>To 18 F0 w0 [(2,.own 2 0),(3,vi s.1)] [(2,53,qc8 s.2)] .ret Q)) o):Wp Tryz.prog 18 F0 w0 [(1,.own 1 0),(2,.own 2 0)] [(1,53,(E_life_Box b1)),(2,53,(E_life_Box b2))] (cA (cB (cF Tryz.f88))) Q:=by
 unfold life_Stop_j1 at h
 refine Wp.block (Wp.seq (rg [1,2,4] [1,2] [(1,.own 1 0),(2,.own 2 0),(4,vb (b1.f_State == 2))] [(1,53,(E_life_Box b1)),(2,53,(E_life_Box b2))] (To.thenN (cn h (fun h=>?_) (fun h=>?_)))))
 ·refine rg [1,2] [1,2] [(1,.own 1 0),(2,.own 2 0)] [(1,53,(List.set (List.set (E_life_Box b1) 14 (vi 3)) 15 (vi 143))),(2,53,(E_life_Box b2))] (To.blockN ?_)
  cases h
  exact hQ
 ·refine Wp.seq (rg [1,2,10] [1,2] [(1,.own 1 0),(2,.own 2 0),(10,vb (b1.f_At == (-1)))] [(1,53,(E_life_Box b1)),(2,53,(E_life_Box b2))] (To.thenN (cn h (fun h=>?_) (fun h=>?_))))
  ·refine Wp.seq (rg [2,3] [2] [(2,.own 2 0),(3,vi 13)] [(2,53,(E_life_Box b1))] (To.thenN (Wp.ret (To.blockR ?_))))
   cases h
   exact hQ
  ·refine Wp.skip (To.blockN (kt [1,2] [1,2] [(1,.own 1 0),(2,.own 2 0)] [(1,53,(E_life_Box b1)),(2,53,(E_life_Box b2))] ?_))
   cases h
   exact hQ
def life_Stop (a0:S_life_Box):S_life_Box × Int :=
 lett (life_Stop_j1 a0 (S_life_Box.mk (S_api_Spec.mk [] [] [] 0 [] [] [] (S_api_Check.mk [] 0 0 0) 0 0) 0 0 0 0 0 0 false false (S_probe_State.mk 0 0 0 0))) fun o1 =>
 (Sum.elim (fun o1=>((S_life_Box.mk o1.1.f_Spec o1.1.f_Id o1.1.f_State o1.1.f_Code o1.1.f_Runs o1.1.f_Done (-1) true o1.1.f_Sick o1.1.f_Probe),0)) (fun o1=>(o1.2,o1.1))) o1
abbrev zx13:S_api_Check:=S_api_Check.mk [] 0 0 0
abbrev zx14:S_probe_State:=S_probe_State.mk 0 0 0 0
theorem ok_life_Stop (a0:S_life_Box) (r:S_life_Box × Int) (h:life_Stop a0 = r):CallsX Tryz.prog 88 [.agg (qc8 a0)] (.tup [.agg (qc8 r.1),vi r.2]):=by
 unfold life_Stop at h
 refine xo Tryz.f88 rfl fun F0 w0 _=>?_
 refine Wp.seq (rg [1,2] [1,2] [(1,.own 1 0),(2,.own 2 0)] [(1,53,(E_life_Box a0)),(2,53,[.str [],.str [],.str [],vi 0,.str [],.val (.slice none 0 0),.val (.slice none 0 0),.str [],vi 0,vi 0,vi 0,vi 0,vi 0,vi 0,vi 0,vi 0,vi 0,vi 0,vi 0,vb false,vb false,vi 0,vi 0,vi 0,vi 0])] (To.thenN (Wp.seq ?_)))
 obtain ⟨o1,ho1,h⟩:=lett_of h
 refine kw [1,2] [1,2] [(1,.own 1 0),(2,.own 2 0)] [(1,53,(E_life_Box a0)),(2,53,[.str [],.str [],.str [],vi 0,.str [],.val (.slice none 0 0),.val (.slice none 0 0),.str [],vi 0,vi 0,vi 0,vi 0,vi 0,vi 0,vi 0,vi 0,vi 0,vi 0,vi 0,vb false,vb false,vi 0,vi 0,vi 0,vi 0])] (Wp.weak (K':=[(1,.own 1 0),(2,.own 2 0)]) (L':=[(1,53,(E_life_Box a0)),(2,53,[.str [],.str [],.str [],vi 0,.str [],ls [],ls [],.str [],vi 0,vi 0,vi 0,vi 0,vi 0,vi 0,vi 0,vi 0,vi 0,vi 0,vi 0,vb false,vb false,vi 0,vi 0,vi 0,vi 0])]) (.cons (.refl _) (.cons (.refl _) .nil)) (.cons (.cons (.refl _) (.cons (.refl _) (.cons (.refl _) (.cons (.refl _) (.cons (.refl _) (.cons (.refl _) (.cons (.refl _) (.cons (.refl _) (.cons (.refl _) (.cons (.refl _) (.cons (.refl _) (.cons (.refl _) (.cons (.refl _) (.cons (.refl _) (.cons (.refl _) (.cons (.refl _) (.cons (.refl _) (.cons (.refl _) (.cons (.refl _) (.cons (.refl _) (.cons (.refl _) (.cons (.refl _) (.cons (.refl _) (.cons (.refl _) (.cons (.refl _) .nil))))))))))))))))))))))))) (.cons (.cons (.refl _) (.cons (.refl _) (.cons (.refl _) (.cons (.refl _) (.cons (.refl _) (.cons (.zero _ _) (.cons (.zero _ _) (.cons (.refl _) (.cons (.refl _) (.cons (.refl _) (.cons (.refl _) (.cons (.refl _) (.cons (.refl _) (.cons (.refl _) (.cons (.refl _) (.cons (.refl _) (.cons (.refl _) (.cons (.refl _) (.cons (.refl _) (.cons (.refl _) (.cons (.refl _) (.cons (.refl _) (.cons (.refl _) (.cons (.refl _) (.cons (.refl _) .nil))))))))))))))))))))))))) .nil)) (ok_life_Stop_j1 a0 (S_life_Box.mk (S_api_Spec.mk [] [] [] 0 [] [] [] zx13 0 0) 0 0 0 0 0 0 false false zx14) o1 ho1 ?_))
 rcases o1 with o1 | o1
 ·replace h:=sum_l h
  refine To.thenN (Wp.seq (rg [1,2] [1,2] [(1,.own 1 0),(2,.own 2 0)] [(1,53,(List.set (List.set (E_life_Box o1.1) 18 (vi (-1))) 19 (vb true))),(2,53,(E_life_Box o1.2))] (To.thenN (Wp.seq (rg [2,3] [2] [(2,.own 2 0),(3,vi 0)] [(2,53,(List.set (List.set (E_life_Box o1.1) 18 (vi (-1))) 19 (vb true)))] (To.thenN (Wp.ret ?_)))))))
  cases h
  exact To.done hΓ (by kernel_rfl)
 ·replace h:=sum_r h
  refine To.thenR ?_
  cases h
  exact To.done hΓ (by kernel_rfl)
def store_Store_change__o0_j1 (v2:Int) (v24:Int) (b4:S_api_Call) (b8:S_life_Box) (b1000000:S_store_Store):Sum (Int × S_life_Box × S_store_Store) (Int × Int × S_store_Store) :=
 if (v24 == 6) = true then (lett (life_Start b8 v2) fun r1 =>
 (.inl (r1.2,r1.1,b1000000)))
 else (if (v24 == 7) = true then (lett (life_Stop b8) fun r2 =>
 (.inl (r2.2,r2.1,b1000000)))
 else (if (b8.f_State == 2) = true then ((.inr (0,13,b1000000)))
 else ((.inr (b4.f_Id,0,(S_store_Store.mk (mdel b1000000.f_boxes (.inr b4.f_Id)) b1000000.f_nets b1000000.f_vols b1000000.f_last))))))
end Go.Proofs.YtaecmkldkljioaaGreat.M
