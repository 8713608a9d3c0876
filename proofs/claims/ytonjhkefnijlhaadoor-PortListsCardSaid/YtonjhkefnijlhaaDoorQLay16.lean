/-
  Part of the proof of PortLists: Lay16.
-/
import Derived.Test.YtonjhkefnijlhaaDoorQSh16L
import Derived.Shelf.SlSortCmp.WholeK
import Derived.Shelf.Lay
import Derived.Ground.SlsfProg
set_option linter.all false
namespace Go.Proofs
shelf_lay_g SlLaysF0.n6 Slsf 6 at Tryd 50 as Tryd.sortPort
end Go.Proofs
