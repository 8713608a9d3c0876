/-
  Part of the proof of ScriptReads: Bld45.
-/
import Derived.Test.YtjjlpomfnfipbaaDoorQRxBld
import Derived.Test.YtjjlpomfnfipbaaDoorProg
set_option linter.all false
namespace Go.Proofs.YtjjlpomfnfipbaaDoor.M
open Go Go.Shelf Go.Proofs Go.RowKit Go.Proofs.YtjjlpomfnfipbaaDoor.RX
set_option maxHeartbeats 1000000
set_option maxRecDepth 100000
end Go.Proofs.YtjjlpomfnfipbaaDoor.M
