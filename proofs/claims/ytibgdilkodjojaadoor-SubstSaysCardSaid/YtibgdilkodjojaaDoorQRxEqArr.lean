import Derived.Test.YtibgdilkodjojaaDoorQRxGen
import Derived.ChangeKeysEq
set_option linter.all false
namespace Go.Proofs.YtibgdilkodjojaaDoor.RX
open Go.RowKit
section
variable {P:Program}
end
end Go.Proofs.YtibgdilkodjojaaDoor.RX
