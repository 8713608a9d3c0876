/-
  Part of the proof of ScriptBack: P45D.
-/
import Derived.Test.YtjjlpomfnfipbaaDoorQP45C
set_option linter.all false
namespace Go.Proofs.YtjjlpomfnfipbaaDoor.M
open Go Go.Proofs.YtjjlpomfnfipbaaDoor.RX Go.Proofs.YtjjlpomfnfipbaaDoor.PL
end Go.Proofs.YtjjlpomfnfipbaaDoor.M
