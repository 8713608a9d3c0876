/-
  Part of the proof of StoreNil: Sh33.
-/
import Derived.Test.YtaecmkldkljioaaQRxShelf
import Derived.Test.YtaecmkldkljioaaQRxLib
import Derived.Lib.RowBridge
import Derived.Test.YtaecmkldkljioaaQRxKeysI
import Derived.Shelf.Small.Bits
import Derived.Shelf.Small.Wraps
import Derived.Shelf.Strconv.Itoa0
import Derived.Shelf.Sort.Plain
import Derived.Shelf.Slices.Turned
import Derived.Ground.Names2Prog
import Derived.Shelf.Slices.Clone
import Derived.Shelf.Slices.SearchI
import Derived.Shelf.Slices.In.SortNone
import Derived.Ground.SlgnProg
import Derived.Shelf.SlicesE.Clone
import Derived.Shelf.SlGeneric
import Derived.Shelf.SlIter.Nil
import Derived.Shelf.SortM.Plain
import Derived.Shelf.SortM.SortNone
import Derived.Ground.GgzProg
import Derived.Ground.SlgmProg
import Derived.Shelf.SlIterI.Sorted
import Derived.Test.YtaecmkldkljioaaProg
set_option linter.all false
namespace Go.Proofs
open Go.Shelf
end Go.Proofs
namespace Go.Proofs.Ytaecmkldkljioaa.M.Sh
open Go.RowKit Go.Proofs.Ytaecmkldkljioaa.RX
end Go.Proofs.Ytaecmkldkljioaa.M.Sh
