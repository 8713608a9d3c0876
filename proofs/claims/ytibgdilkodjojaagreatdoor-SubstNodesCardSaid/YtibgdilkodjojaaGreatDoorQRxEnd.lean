import Derived.Test.YtibgdilkodjojaaGreatDoorQRxGen
set_option linter.all false
namespace Go.Proofs.YtibgdilkodjojaaGreatDoor.RX
open Go Go.Proofs Go.RowKit
variable {P:Program} {nt:Nat} {F0:Fz} {w0:Pt P} {K:List (Nat × D)} {L:Boxes}
theorem To.fin {fn:Func} {R:Ending → World → Prop} (h:To nt F0 w0 K L .ret (bodyPost P fn R)):To nt F0 w0 K L .normal (bodyPost P fn R):=fun a w hs=>h a w hs
end Go.Proofs.YtibgdilkodjojaaGreatDoor.RX
