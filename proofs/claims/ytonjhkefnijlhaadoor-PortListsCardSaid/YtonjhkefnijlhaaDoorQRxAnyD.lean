/-
  Part of the proof of PortLists: RxAnyD.
-/
import Derived.Test.YtonjhkefnijlhaaDoorQRxAnyC
set_option linter.all false
namespace Go.Proofs.YtonjhkefnijlhaaDoor.RX
open Go.RowKit
section
variable (C : Nat → List D → D → Prop) (CB : Nat → List D → Boxes → D → Boxes → Prop) (Γ : Nat → Option TI) (nt : Nat) (orc : List (Nat × D)) (orb : List (Nat × CBd)) (ops : List Oper)
end
section
variable {P : Program} {F0 : Fz} {w0 : Pt P} {B : Env} {F : Fz} {w : World} {a : Act} {Q : Exit → Act → World → Prop} {Γ : Nat → Option TI} {nt : Nat} {L0 : Boxes} {orc : List (Nat × D)} {K : List (Nat × D)} {st : Nat → DS}
end
end Go.Proofs.YtonjhkefnijlhaaDoor.RX
