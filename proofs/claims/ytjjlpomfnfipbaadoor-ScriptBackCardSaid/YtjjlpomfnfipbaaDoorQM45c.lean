/-
  Part of the proof of ScriptBack: M45c.
-/
import Derived.Test.YtjjlpomfnfipbaaDoorQM45b
set_option linter.all false
namespace Go.Proofs.YtjjlpomfnfipbaaDoor.M
open Go.RowKit Go.Proofs.YtjjlpomfnfipbaaDoor.RX
set_option maxRecDepth 100000
def ref02_Kind (a0 : Int) : Int :=
  if (bif (decide (a0 ≥ 97)) then (decide (a0 ≤ 122)) else false) = true then 1
  else (if (bif (decide (a0 ≥ 65)) then (decide (a0 ≤ 90)) else false) = true then 2
  else (if (bif (decide (a0 ≥ 48)) then (decide (a0 ≤ 57)) else false) = true then 3
  else (if (a0 == 95) = true then 4
  else (if (a0 == 45) = true then 5
  else (if (a0 == 46) = true then 6
  else 0)))))
end Go.Proofs.YtjjlpomfnfipbaaDoor.M
