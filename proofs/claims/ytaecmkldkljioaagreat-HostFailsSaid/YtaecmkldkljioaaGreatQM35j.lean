import Derived.Test.YtaecmkldkljioaaGreatQM35i
set_option linter.all false
namespace Go.Proofs.YtaecmkldkljioaaGreat.M
open Go.RowKit Go.Proofs.YtaecmkldkljioaaGreat.RX
set_option maxRecDepth 100000
structure S_api_Var where
 f_Key:List UInt8
 f_Val:List UInt8
structure S_api_Port where
 f_Host:List UInt8
 f_Out:Int
 f_In:Int
 f_Proto:List UInt8
structure S_api_Mount where
 f_Source:List UInt8
 f_Target:List UInt8
 f_ReadOnly:Bool
structure S_api_Dep where
 f_Service:List UInt8
 f_Cond:Int
 f_Restart:Bool
 f_Required:Bool
structure S_api_Service where
 f_Name:List UInt8
 f_Image:List UInt8
 f_Command:List (List UInt8)
 f_Env:List (S_api_Var)
 f_Labels:List (S_api_Var)
 f_Ports:List (S_api_Port)
 f_Mounts:List (S_api_Mount)
 f_Nets:List (List UInt8)
 f_Deps:List (S_api_Dep)
 f_Replicas:Int
 f_Health:S_api_Check
 f_Restart:Int
 f_Tries:Int
 f_Cpus:Int
 f_Mem:Int
structure S_view_Seen where
 f_Boxes:List (S_api_Container)
 f_Nets:List (S_api_Kept)
 f_Vols:List (S_api_Kept)
end Go.Proofs.YtaecmkldkljioaaGreat.M
