import Derived.Test.YtaecmkldkljioaaGreatQM35f
set_option linter.all false
namespace Go.Proofs.YtaecmkldkljioaaGreat.M
open Go.RowKit Go.Proofs.YtaecmkldkljioaaGreat.RX
set_option maxRecDepth 100000
structure S_law35_Deed where
 f_Kind:Int
 f_N:Int
 f_M:Int
 f_Call:S_api_Call
end Go.Proofs.YtaecmkldkljioaaGreat.M
