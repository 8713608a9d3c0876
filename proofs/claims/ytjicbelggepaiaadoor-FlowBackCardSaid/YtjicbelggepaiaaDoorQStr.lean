/-
  Part of the proof of FlowBack: Str.
-/
import Derived.Test.YtjicbelggepaiaaDoorQLoop
import Derived.Test.YtjicbelggepaiaaDoorQRxLib
import Derived.Lib.CountLaws
set_option linter.all false
namespace Go.Proofs.YtjicbelggepaiaaDoor.PL
open Go Go.Proofs.YtjicbelggepaiaaDoor.RX
theorem le_i {i n : Nat} (h : i ≤ n) : decide (0 ≤ (i : Int) ∧ (i : Int) ≤ (n : Int)) = true := decide_eq_true (by omega)
theorem le_ij {i j : Nat} (h : i ≤ j) : decide (0 ≤ (i : Int) ∧ (i : Int) ≤ (j : Int)) = true := decide_eq_true (by omega)
theorem tn (i : Nat) : Int.toNat (i : Int) = i := Int.toNat_natCast i
theorem eq_i {i j : Nat} : ((i : Int) == (j : Int)) = decide (i = j) := by
  rw [Bool.eq_iff_iff, beq_iff_eq, decide_eq_true_eq]; omega
def sub (c : UInt8) (new : BS) (b : UInt8) : BS := if b = c then new else [b]
def parts (c : UInt8) : BS → List BS
  | [] => [[]]
  | b :: t => if b = c then [] :: parts c t else match parts c t with | [] => [[b]] | x :: r => (b :: x) :: r
end Go.Proofs.YtjicbelggepaiaaDoor.PL
