import Derived.Test.YtaecmkldkljioaaQRxGen
import Derived.Lib.LazyBuf
set_option linter.all false
namespace Go.Proofs.Ytaecmkldkljioaa.RX
open Go.RowKit
section
variable {P:Program} {nt:Nat} {F0:Fz} {w0:Pt P} {K:List (Nat × D)} {L:Boxes} {Q:Exit → Act → World → Prop}
mutual
def D.plain:D → Bool
 | .val _=>true
 | .str _=>true
 | .agg ds=>D.plains ds
 | .tup ds=>D.plains ds
 | _=>false
def D.plains:List D → Bool
 | []=>true
 | d :: ds=>D.plain d && D.plains ds
end
mutual
theorem Rep.plain {F F':Fz} {w w':World} {B B':Env}:∀ {d:D} {v:Value},D.plain d = true → Rep F w B d v → Rep F' w' B' d v
 | .val _,_,_,hr=>by cases hr; exact .val _ (by assumption)
 | .str _,_,_,hr=>by cases hr; exact .str _
 | .agg ds,_,h,hr=>by cases hr with | agg _ vs hr=>exact .agg ds vs (RepL.plain (ds:=ds) h hr)
 | .tup ds,_,h,hr=>by cases hr with | tup _ vs hr=>exact .tup ds vs (RepL.plain (ds:=ds) h hr)
theorem RepL.plain {F F':Fz} {w w':World} {B B':Env}:∀ {ds:List D} {vs:List Value},D.plains ds = true → RepL F w B ds vs → RepL F' w' B' ds vs
 | [],_,_,.nil=>.nil
 | d :: ds,_,h,.cons _ v _ vs hr hrs=>by
  simp only [D.plains,Bool.and_eq_true] at h
  exact .cons d v ds vs (Rep.plain h.1 hr) (RepL.plain h.2 hrs)
end
end
end Go.Proofs.Ytaecmkldkljioaa.RX
