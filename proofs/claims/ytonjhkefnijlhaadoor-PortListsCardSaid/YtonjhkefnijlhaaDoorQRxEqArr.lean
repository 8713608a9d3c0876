/-
  Part of the proof of PortLists: RxEqArr.
-/
import Derived.Test.YtonjhkefnijlhaaDoorQRxGen
import Derived.ChangeKeysEq
set_option linter.all false
namespace Go.Proofs.YtonjhkefnijlhaaDoor.RX
open Go.RowKit
section
variable {P : Program}
end
end Go.Proofs.YtonjhkefnijlhaaDoor.RX
