import Derived.Test.YtibgdilkodjojaaDoorQRxBld
import Derived.Test.YtibgdilkodjojaaDoorProg
set_option linter.all false
namespace Go.Proofs.YtibgdilkodjojaaDoor.M
open Go Go.Shelf Go.Proofs Go.RowKit Go.Proofs.YtibgdilkodjojaaDoor.RX
set_option maxHeartbeats 1000000
set_option maxRecDepth 100000
end Go.Proofs.YtibgdilkodjojaaDoor.M
