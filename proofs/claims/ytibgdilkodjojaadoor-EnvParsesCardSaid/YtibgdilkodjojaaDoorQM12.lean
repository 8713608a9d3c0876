import Derived.Test.YtibgdilkodjojaaDoorQM12b
set_option linter.all false
namespace Go.Proofs.YtibgdilkodjojaaDoor.M
open Go.RowKit Go.Proofs.YtibgdilkodjojaaDoor.RX
set_option maxRecDepth 100000
theorem opens_string:Opens Tryd.prog 9 (fun l:List UInt8=>l.length ≤ maxLen) (fun l=>[.str l]):=opens_str (by kernel_rfl)
end Go.Proofs.YtibgdilkodjojaaDoor.M
