import Derived.Test.YtaecmkldkljioaaGreatQRxGen
import Derived.Sort.OwnSorted
import Derived.Shelf.Vars
import Derived.Shelf.Slices.CompactS
import Derived.Shelf.Spec.SlicesGrow
set_option linter.all false
namespace Go.Proofs.YtaecmkldkljioaaGreat.RX
open Go.RowKit Go.Sort
section
variable {P:Program} {F:Fz} {w1:Pt P} {B:Env}
end
end Go.Proofs.YtaecmkldkljioaaGreat.RX
