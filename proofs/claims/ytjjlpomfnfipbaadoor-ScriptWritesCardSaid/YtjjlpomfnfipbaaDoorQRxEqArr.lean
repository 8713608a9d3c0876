import Derived.Test.YtjjlpomfnfipbaaDoorQRxGen
import Derived.ChangeKeysEq
set_option linter.all false
namespace Go.Proofs.YtjjlpomfnfipbaaDoor.RX
open Go.RowKit
section
variable {P : Program}
end
end Go.Proofs.YtjjlpomfnfipbaaDoor.RX
