/-
  Part of the proof of StoreNil: RxEnd.
-/
import Derived.Test.YtaecmkldkljioaaQRxGen
set_option linter.all false
namespace Go.Proofs.Ytaecmkldkljioaa.RX
open Go Go.Proofs Go.RowKit
variable {P : Program} {nt : Nat} {F0 : Fz} {w0 : Pt P} {K : List (Nat × D)} {L : Boxes}
end Go.Proofs.Ytaecmkldkljioaa.RX
