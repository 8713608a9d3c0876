/-
  Part of the proof of FlowWrites: Str.
-/
import Derived.Test.YtjicbelggepaiaaDoorQLoop
import Derived.Test.YtjicbelggepaiaaDoorQRxLib
import Derived.Lib.CountLaws
set_option linter.all false
namespace Go.Proofs.YtjicbelggepaiaaDoor.PL
open Go Go.Proofs.YtjicbelggepaiaaDoor.RX
def sub (c : UInt8) (new : BS) (b : UInt8) : BS := if b = c then new else [b]
def parts (c : UInt8) : BS → List BS
  | [] => [[]]
  | b :: t => if b = c then [] :: parts c t else match parts c t with | [] => [[b]] | x :: r => (b :: x) :: r
end Go.Proofs.YtjicbelggepaiaaDoor.PL
