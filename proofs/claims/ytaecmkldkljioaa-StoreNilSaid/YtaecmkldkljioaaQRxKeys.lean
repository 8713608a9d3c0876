/-
  Part of the proof of StoreNil: RxKeys.
-/
import Derived.Test.YtaecmkldkljioaaQRxShelf
import Derived.Sort.KeysCollected
import Derived.CallsIn
set_option linter.all false
namespace Go.Proofs.Ytaecmkldkljioaa.RX
open Go.RowKit Go.Sort Go.Maps
open Go.WideElems (Fit rd rg)
open Go.ChangeShapes Go.WideShapes
section
variable {P : Program}
end
end Go.Proofs.Ytaecmkldkljioaa.RX
