/-
  Part of the proof of StoreHolds: P33N.
-/
import Derived.Test.YtaecmkldkljioaaQM33
set_option linter.all false
namespace Go.Proofs.Ytaecmkldkljioaa.M
open Go Go.Proofs.Ytaecmkldkljioaa.RX
set_option maxRecDepth 100000
theorem awake33 : law33_awake 600000 = some true := by kernel_rfl
end Go.Proofs.Ytaecmkldkljioaa.M
