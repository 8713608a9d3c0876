/-
  Part of the proof of ScriptReads: M45.
-/
import Derived.Test.YtjjlpomfnfipbaaDoorQM45d
set_option linter.all false
namespace Go.Proofs.YtjjlpomfnfipbaaDoor.M
open Go.RowKit Go.Proofs.YtjjlpomfnfipbaaDoor.RX
set_option maxRecDepth 100000
theorem opens_string : Opens Tryd.prog 9 (fun l : List UInt8 => l.length ≤ maxLen) (fun l => [.str l]) := opens_str (by kernel_rfl)
end Go.Proofs.YtjjlpomfnfipbaaDoor.M
