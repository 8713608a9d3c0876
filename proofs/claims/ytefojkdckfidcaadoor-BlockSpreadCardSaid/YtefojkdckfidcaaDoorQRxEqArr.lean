import Derived.Test.YtefojkdckfidcaaDoorQRxGen
import Derived.ChangeKeysEq
set_option linter.all false
namespace Go.Proofs.YtefojkdckfidcaaDoor.RX
open Go.RowKit
section
variable {P : Program}
end
end Go.Proofs.YtefojkdckfidcaaDoor.RX
