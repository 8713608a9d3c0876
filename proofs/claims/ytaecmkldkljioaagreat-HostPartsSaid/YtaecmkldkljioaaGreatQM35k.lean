import Derived.Test.YtaecmkldkljioaaGreatQM35j
set_option linter.all false
namespace Go.Proofs.YtaecmkldkljioaaGreat.M
open Go.RowKit Go.Proofs.YtaecmkldkljioaaGreat.RX
set_option maxRecDepth 100000
structure S_api_Project where
 f_Name:List UInt8
 f_Services:List (S_api_Service)
 f_Nets:List (List UInt8)
 f_Vols:List (List UInt8)
end Go.Proofs.YtaecmkldkljioaaGreat.M
