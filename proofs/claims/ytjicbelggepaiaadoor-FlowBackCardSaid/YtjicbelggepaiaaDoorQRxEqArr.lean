/-
  Part of the proof of FlowBack: RxEqArr.
-/
import Derived.Test.YtjicbelggepaiaaDoorQRxGen
import Derived.ChangeKeysEq
set_option linter.all false
namespace Go.Proofs.YtjicbelggepaiaaDoor.RX
open Go.RowKit
section
variable {P : Program}
end
end Go.Proofs.YtjicbelggepaiaaDoor.RX
