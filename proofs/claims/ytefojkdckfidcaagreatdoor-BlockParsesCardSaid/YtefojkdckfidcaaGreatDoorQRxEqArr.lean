import Derived.Test.YtefojkdckfidcaaGreatDoorQRxGen
import Derived.ChangeKeysEq
set_option linter.all false
namespace Go.Proofs.YtefojkdckfidcaaGreatDoor.RX
open Go.RowKit
section
variable {P:Program}
end
end Go.Proofs.YtefojkdckfidcaaGreatDoor.RX
