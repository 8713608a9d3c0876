import Derived.Test.YtaecmkldkljioaaQRxGen
import Derived.ChangeKeysEq
set_option linter.all false
namespace Go.Proofs.Ytaecmkldkljioaa.RX
open Go.RowKit
section
variable {P:Program}
end
end Go.Proofs.Ytaecmkldkljioaa.RX
