import Derived.Test.YtibgdilkodjojaaGreatDoorQRxGen
import Derived.ChangeKeysEq
set_option linter.all false
namespace Go.Proofs.YtibgdilkodjojaaGreatDoor.RX
open Go.RowKit
section
variable {P:Program}
end
end Go.Proofs.YtibgdilkodjojaaGreatDoor.RX
