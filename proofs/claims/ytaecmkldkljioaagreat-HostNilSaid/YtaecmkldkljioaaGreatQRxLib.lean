import Derived.Test.YtaecmkldkljioaaGreatQRxGen
import Derived.WalkSmall
import Derived.Lib.Bytealg
import Derived.Lib.IndexMore
import Derived.Lib.SplitLaws
import Derived.Lib.Join
import Derived.Lib.Repeat
import Derived.Lib.Replace
import Derived.Lib.TrimByte
set_option linter.all false
namespace Go.Proofs.YtaecmkldkljioaaGreat.RX
open Go.RowKit
section
variable {P:Program} {F:Fz} {w:World} {B:Env}
variable {f:Nat} {a b c:List UInt8}
end
end Go.Proofs.YtaecmkldkljioaaGreat.RX
