import Derived.Test.YtefojkdckfidcaaGreatDoorQMG10e
set_option linter.all false
namespace Go.Proofs.YtefojkdckfidcaaGreatDoor.M
open Go.RowKit Go.Proofs.YtefojkdckfidcaaGreatDoor.RX
set_option maxRecDepth 100000
def ref02_Sorted_j3 (n : Nat) (v0 : List (List UInt8)) (v3 : List (List UInt8)) (v4 : Int) (v5 : Int) : Option (Int) :=
  if ((!(((List.length v3 : Int) == 0) == false) || decide (0 ≤ v5 ∧ v5 < (List.length v0 : Int)))) = true then (if ((!(((List.length v3 : Int) == 0) == false) || decide (0 ≤ (IntKind.wrap .i64 ((List.length v3 : Int) - 1)) ∧ (IntKind.wrap .i64 ((List.length v3 : Int) - 1)) < (List.length v3 : Int)))) = true then (if ((!(((decide (v4 < 0)) == false) && ((bif ((List.length v3 : Int) == 0) then true else (!(Op.bytesLess ((v0)[Int.toNat v5]?.getD []) ((v3)[Int.toNat (IntKind.wrap .i64 ((List.length v3 : Int) - 1))]?.getD []) || ((v0)[Int.toNat v5]?.getD []) == ((v3)[Int.toNat (IntKind.wrap .i64 ((List.length v3 : Int) - 1))]?.getD [])))) == true)) || decide (0 ≤ v5 ∧ v5 < (List.length v0 : Int)))) = true then (if ((!(((decide (v4 < 0)) == false) && ((bif ((List.length v3 : Int) == 0) then true else (!(Op.bytesLess ((v0)[Int.toNat v5]?.getD []) ((v3)[Int.toNat (IntKind.wrap .i64 ((List.length v3 : Int) - 1))]?.getD []) || ((v0)[Int.toNat v5]?.getD []) == ((v3)[Int.toNat (IntKind.wrap .i64 ((List.length v3 : Int) - 1))]?.getD [])))) == true)) || decide (0 ≤ v4 ∧ v4 < (List.length v0 : Int)))) = true then (lett ((bif (bif ((List.length v3 : Int) == 0) then true else (!(Op.bytesLess ((v0)[Int.toNat v5]?.getD []) ((v3)[Int.toNat (IntKind.wrap .i64 ((List.length v3 : Int) - 1))]?.getD []) || ((v0)[Int.toNat v5]?.getD []) == ((v3)[Int.toNat (IntKind.wrap .i64 ((List.length v3 : Int) - 1))]?.getD [])))) then (bif (decide (v4 < 0)) then true else (Op.bytesLess ((v0)[Int.toNat v5]?.getD []) ((v0)[Int.toNat v4]?.getD []))) else false) : Bool) fun x1 =>
  if x1 = true then some v5
  else some v4) else none) else none) else none) else none
def ref02_Sorted_l2 (n : Nat) (v0 : List (List UInt8)) (v3 : List (List UInt8)) : Nat → Int → Int → Option (Int)
  | 0, _, _ => none
  | k + 1, v4, v5 => if (decide (v5 < (List.length v0 : Int))) = true then ((ref02_Sorted_j3 n v0 v3 v4 v5).bind fun o1 =>
  ref02_Sorted_l2 n v0 v3 k o1 (IntKind.wrap .i64 (v5 + 1)))
  else some v4
def ref02_Sorted_l1 (n : Nat) (v0 : List (List UInt8)) : Nat → (List (List UInt8)) → Option ((List (List UInt8)))
  | 0, _ => none
  | k + 1, v3 => (ref02_Sorted_l2 n v0 v3 n (-1) 0).bind fun o1 =>
  if (decide (o1 < 0)) = true then some v3
  else (if (decide (0 ≤ o1 ∧ o1 < (List.length v0 : Int))) = true then (if (decide ((List.length v3 + List.length ([((v0)[Int.toNat o1]?.getD [])] : List (List UInt8))) * (16 + 1) ≤ limit)) = true then (ref02_Sorted_l1 n v0 k (v3 ++ ([((v0)[Int.toNat o1]?.getD [])] : List (List UInt8)))) else none) else none)
def ref02_Sorted (n : Nat) (a0 : List (List UInt8)) : Option ((List (List UInt8))) :=
  (ref02_Sorted_l1 n a0 n ([] : List (List UInt8))).bind fun o1 =>
  some o1
def ref08_Left_l1 (R_ref08_Left : S_api_Node → Int → Int → Option (Int)) (n : Nat) (v1 : Int) (b3 : S_api_Node) : Nat → Int → Int → Option (Sum (Int) (Int))
  | 0, _, _ => none
  | k + 1, v2, v7 => if (decide (v7 < (List.length b3.f_Kids : Int))) = true then (if (decide (0 ≤ v7 ∧ v7 < (List.length b3.f_Kids : Int))) = true then ((R_ref08_Left ((b3.f_Kids)[Int.toNat v7]?.getD (S_api_Node.mk 0 [] [] [])) (IntKind.wrap .i64 (v1 + 1)) v2).bind fun r5 =>
  if (decide (r5 < 0)) = true then (some (.inr (-1)))
  else (ref08_Left_l1 R_ref08_Left n v1 b3 k r5 (IntKind.wrap .i64 (v7 + 1)))) else none)
  else (some (.inl v2))
def ref08_Left_b (R_ref08_Left : S_api_Node → Int → Int → Option (Int)) (n : Nat) (a0 : S_api_Node) (a1 : Int) (a2 : Int) : Option (Int) :=
  lett ((bif (bif (bif (decide ((IntKind.wrap .i64 (a2 - 1)) < 0)) then true else (decide (a1 > 12))) then true else (decide (a0.f_Kind < 0))) then true else (decide (a0.f_Kind > 3))) : Bool) fun x1 =>
  if x1 = true then (some (-1))
  else (lett ((bif (bif (bif (a0.f_Kind != 1) then (decide ((List.length a0.f_Text : Int) > 0)) else false) then true else (bif (a0.f_Kind != 3) then (decide ((List.length a0.f_Keys : Int) > 0)) else false)) then true else (bif (decide (a0.f_Kind < 2)) then (decide ((List.length a0.f_Kids : Int) > 0)) else false)) : Bool) fun x2 =>
  if x2 = true then (some (-1))
  else (((if (((bif ((List.length a0.f_Keys : Int) != (List.length a0.f_Kids : Int)) then true else (decide ((List.length a0.f_Kids : Int) > (IntKind.wrap .i64 (a2 - 1))))) == false) && ((a0.f_Kind == 3) == true)) = true then ref02_Sorted n a0.f_Keys else some [])).bind fun r3 =>
  lett ((bif (a0.f_Kind == 3) then (bif (bif ((List.length a0.f_Keys : Int) != (List.length a0.f_Kids : Int)) then true else (decide ((List.length a0.f_Kids : Int) > (IntKind.wrap .i64 (a2 - 1))))) then true else ((List.length r3 : Int) != (List.length a0.f_Keys : Int))) else false) : Bool) fun x4 =>
  if x4 = true then (some (-1))
  else ((ref08_Left_l1 R_ref08_Left n a1 a0 n (IntKind.wrap .i64 (a2 - 1)) 0).bind fun o5 =>
  (Sum.elim (fun o5 => some o5) (fun o5 => some o5)) o5)))
def ref08_Left : Nat → S_api_Node → Int → Int → Option (Int)
  | 0 => fun _ _ _ => none
  | n + 1 => ref08_Left_b (ref08_Left n) n
end Go.Proofs.YtefojkdckfidcaaGreatDoor.M
