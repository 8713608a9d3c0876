import Derived.Test.YtaecmkldkljioaaGreatQM35g
set_option linter.all false
namespace Go.Proofs.YtaecmkldkljioaaGreat.M
open Go.RowKit Go.Proofs.YtaecmkldkljioaaGreat.RX
set_option maxRecDepth 100000
end Go.Proofs.YtaecmkldkljioaaGreat.M
