import Derived.Test.YtaecmkldkljioaaGreatQRxGen
import Derived.ChangeKeysEq
set_option linter.all false
namespace Go.Proofs.YtaecmkldkljioaaGreat.RX
open Go.RowKit
section
variable {P:Program}
end
end Go.Proofs.YtaecmkldkljioaaGreat.RX
