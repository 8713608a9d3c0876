import Derived.Test.YtefojkdckfidcaaGreatDoorQLoop
import Derived.Test.YtefojkdckfidcaaGreatDoorQRxLib
import Derived.Lib.CountLaws
set_option linter.all false
namespace Go.Proofs.YtefojkdckfidcaaGreatDoor.PL
open Go Go.Proofs.YtefojkdckfidcaaGreatDoor.RX
theorem le_i {i n : Nat} (h : i ≤ n) : decide (0 ≤ (i : Int) ∧ (i : Int) ≤ (n : Int)) = true := decide_eq_true (by omega)
theorem tn (i : Nat) : Int.toNat (i : Int) = i := Int.toNat_natCast i
theorem eq_i {i j : Nat} : ((i : Int) == (j : Int)) = decide (i = j) := by
  rw [Bool.eq_iff_iff, beq_iff_eq, decide_eq_true_eq]; omega
def upto (c : UInt8) : BS → Option (BS × BS)
  | [] => none
  | b :: l => if b = c then some ([], l) else (upto c l).map fun p => (b :: p.1, p.2)
def sub (c : UInt8) (new : BS) (b : UInt8) : BS := if b = c then new else [b]
def parts (c : UInt8) : BS → List BS
  | [] => [[]]
  | b :: t => if b = c then [] :: parts c t else match parts c t with | [] => [[b]] | x :: r => (b :: x) :: r
end Go.Proofs.YtefojkdckfidcaaGreatDoor.PL
