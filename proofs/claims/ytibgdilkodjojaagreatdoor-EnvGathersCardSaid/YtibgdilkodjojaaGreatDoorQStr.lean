import Derived.Test.YtibgdilkodjojaaGreatDoorQLoop
import Derived.Test.YtibgdilkodjojaaGreatDoorQRxLib
import Derived.Lib.CountLaws
set_option linter.all false
namespace Go.Proofs.YtibgdilkodjojaaGreatDoor.PL
open Go Go.Proofs.YtibgdilkodjojaaGreatDoor.RX
theorem le_i {i n:Nat} (h:i ≤ n):decide (0 ≤ (i:Int) ∧ (i:Int) ≤ (n:Int)) = true:=decide_eq_true (by omega)
theorem str_fits {a b:Nat} (h:a + b ≤ 1000000000):decide (((a + b:Nat):Int) ≤ 9223372036854775807) = true:=decide_eq_true (by omega)
theorem tn (i:Nat):Int.toNat (i:Int) = i:=Int.toNat_natCast i
def sub (c:UInt8) (new:BS) (b:UInt8):BS:=if b = c then new else [b]
def parts (c:UInt8):BS → List BS
 | []=>[[]]
 | b :: t=>if b = c then [] :: parts c t else match parts c t with | []=>[[b]] | x :: r=>(b :: x) :: r
end Go.Proofs.YtibgdilkodjojaaGreatDoor.PL
