/-
  Part of the proof of PortLists: RxEnd.
-/
import Derived.Test.YtonjhkefnijlhaaDoorQRxGen
set_option linter.all false
namespace Go.Proofs.YtonjhkefnijlhaaDoor.RX
open Go Go.Proofs Go.RowKit
variable {P : Program} {nt : Nat} {F0 : Fz} {w0 : Pt P} {K : List (Nat × D)} {L : Boxes}
end Go.Proofs.YtonjhkefnijlhaaDoor.RX
