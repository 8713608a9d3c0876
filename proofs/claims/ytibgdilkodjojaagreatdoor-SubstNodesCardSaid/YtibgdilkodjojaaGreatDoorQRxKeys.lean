import Derived.Test.YtibgdilkodjojaaGreatDoorQRxShelf
import Derived.Sort.KeysCollected
import Derived.CallsIn
set_option linter.all false
namespace Go.Proofs.YtibgdilkodjojaaGreatDoor.RX
open Go.RowKit Go.Sort Go.Maps
open Go.WideElems (Fit rd rg)
open Go.ChangeShapes Go.WideShapes
section
variable {P:Program}
end
end Go.Proofs.YtibgdilkodjojaaGreatDoor.RX
