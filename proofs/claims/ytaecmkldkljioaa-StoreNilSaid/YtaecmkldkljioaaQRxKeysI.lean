/-
  Part of the proof of StoreNil: RxKeysI.
-/
import Derived.Test.YtaecmkldkljioaaQRxKeys
import Derived.Shelf.SlIterI.Sorted
set_option linter.all false
namespace Go.Proofs.Ytaecmkldkljioaa.RX
open Go.RowKit Go.Sort Go.Maps
open Go.WideElems (Fit rd rg)
open Go.ChangeShapes Go.WideShapes
section
variable {P : Program}
end
end Go.Proofs.Ytaecmkldkljioaa.RX
