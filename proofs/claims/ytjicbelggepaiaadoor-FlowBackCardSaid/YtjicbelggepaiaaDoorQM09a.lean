/-
  Part of the proof of FlowBack: M09a.
-/
import Derived.Test.YtjicbelggepaiaaDoorQRxAnyD
import Derived.Test.YtjicbelggepaiaaDoorQRxArgs
import Derived.Test.YtjicbelggepaiaaDoorQRxGoto
import Derived.Test.YtjicbelggepaiaaDoorQRxNil
import Derived.Test.YtjicbelggepaiaaDoorQRxOrd
import Derived.Test.YtjicbelggepaiaaDoorQRxEqArr
import Derived.Test.YtjicbelggepaiaaDoorQRxEnd
import Derived.Test.YtjicbelggepaiaaDoorQSh09
import Derived.Test.YtjicbelggepaiaaDoorProg
set_option linter.all false
namespace Go.Proofs.YtjicbelggepaiaaDoor.M
open Go.RowKit Go.Proofs.YtjicbelggepaiaaDoor.RX
set_option maxRecDepth 100000
def tab : List (Nat × TI) := [
  (3, { agg := false, size := 1, zero := [.int .i64 0], kind := .int .i64, eqs := [] }),
  (4, { agg := false, size := 1, zero := [.bool false], kind := .bool, eqs := [] }),
  (9, { agg := false, size := 1, zero := [.string ⟨#[]⟩], kind := .str, eqs := [] }),
  (22, { agg := false, size := 1, zero := [.slice none 0 0], kind := .slice 1 false, elt := 9, eb := 16, ez := [.string ⟨#[]⟩], ek := none, eqs := [] }),
  (23, { agg := false, size := 1, zero := [.slice none 0 0], kind := .slice 4 true, elt := 25, eb := 72, ez := [.int .i64 0, .string ⟨#[]⟩, .slice none 0 0, .slice none 0 0], ek := none, eqs := [] }),
  (25, { agg := true, size := 4, zero := [.int .i64 0, .string ⟨#[]⟩, .slice none 0 0, .slice none 0 0], kind := .struct [(0, 1, false), (1, 1, false), (2, 1, false), (3, 1, false)], eqs := [] }),
  (40, { agg := true, size := 3, zero := [.string ⟨#[]⟩, .int .i64 0, .bool false], kind := .struct [(0, 1, false), (1, 1, false), (2, 1, false)], eqs := [] }),
  (48, { agg := false, size := 1, zero := [.slice none 0 0], kind := .slice 1 false, elt := 5, eb := 1, ez := [.int .u8 0], ek := some .u8, eqs := [] }),
  (62, { agg := true, size := 1, zero := [.int .i64 0], kind := .struct [(0, 1, false)], eqs := [] }),
  (70, { agg := false, size := 1, zero := [.map none], kind := .map none 1 false, elt := 3, eb := 0, ez := [.int .i64 0], ek := none, eqs := [] })]
theorem tabOK : TabOK Tryd.prog tab := ⟨⟨by kernel_rfl, fun h => absurd rfl h⟩, ⟨by kernel_rfl, fun h => absurd rfl h⟩, ⟨by kernel_rfl, fun h => absurd rfl h⟩, ⟨by kernel_rfl, fun h => absurd rfl h⟩, ⟨by kernel_rfl, fun h => absurd rfl h⟩, ⟨by kernel_rfl, fun h => absurd rfl h⟩, ⟨by kernel_rfl, fun h => absurd rfl h⟩, ⟨by kernel_rfl, fun h => absurd rfl h⟩, ⟨by kernel_rfl, fun h => absurd rfl h⟩, ⟨by kernel_rfl, fun h => absurd rfl h⟩, trivial⟩
theorem hΓ : ΓOK Tryd.prog (tabΓ tab) := ΓOK.of tabOK
theorem hm : Tryd.prog.follows .mixedOrders = true := by kernel_rfl
structure S_api_Node where
  f_Kind : Int
  f_Text : List UInt8
  f_Keys : List (List UInt8)
  f_Kids : List (S_api_Node)
def E_string : List UInt8 → List D := fun x => [.str x]
def pre_S_api_Node : S_api_Node → List D := fun x => [.val (.int .i64 x.f_Kind), .str x.f_Text, .recs (α := List UInt8) [] E_string x.f_Keys]
def kids_S_api_Node : S_api_Node → List (S_api_Node) := fun x => x.f_Kids
def tr_S_api_Node : S_api_Node → List D := treeEnc (S_api_Node.mk 0 [] [] []) pre_S_api_Node kids_S_api_Node
def E_api_Node : S_api_Node → List D := tr_S_api_Node
theorem good_E_string (l : List (List UInt8)) : GoodR (.recs [] E_string l) := ⟨Nat.le_of_ble_eq_true (by kernel_rfl), fun _ => ⟨rfl, rfl⟩⟩
def ref02_Sorted_j3 (n : Nat) (v0 : List (List UInt8)) (v3 : List (List UInt8)) (v4 : Int) (v5 : Int) : Option (Int) :=
  if ((!(((List.length v3 : Int) == 0) == false) || decide (0 ≤ v5 ∧ v5 < (List.length v0 : Int)))) = true then (if ((!(((List.length v3 : Int) == 0) == false) || decide (0 ≤ (IntKind.wrap .i64 ((List.length v3 : Int) - 1)) ∧ (IntKind.wrap .i64 ((List.length v3 : Int) - 1)) < (List.length v3 : Int)))) = true then (if ((!(((decide (v4 < 0)) == false) && ((bif ((List.length v3 : Int) == 0) then true else (!(Op.bytesLess ((v0)[Int.toNat v5]?.getD []) ((v3)[Int.toNat (IntKind.wrap .i64 ((List.length v3 : Int) - 1))]?.getD []) || ((v0)[Int.toNat v5]?.getD []) == ((v3)[Int.toNat (IntKind.wrap .i64 ((List.length v3 : Int) - 1))]?.getD [])))) == true)) || decide (0 ≤ v5 ∧ v5 < (List.length v0 : Int)))) = true then (if ((!(((decide (v4 < 0)) == false) && ((bif ((List.length v3 : Int) == 0) then true else (!(Op.bytesLess ((v0)[Int.toNat v5]?.getD []) ((v3)[Int.toNat (IntKind.wrap .i64 ((List.length v3 : Int) - 1))]?.getD []) || ((v0)[Int.toNat v5]?.getD []) == ((v3)[Int.toNat (IntKind.wrap .i64 ((List.length v3 : Int) - 1))]?.getD [])))) == true)) || decide (0 ≤ v4 ∧ v4 < (List.length v0 : Int)))) = true then (lett ((bif (bif ((List.length v3 : Int) == 0) then true else (!(Op.bytesLess ((v0)[Int.toNat v5]?.getD []) ((v3)[Int.toNat (IntKind.wrap .i64 ((List.length v3 : Int) - 1))]?.getD []) || ((v0)[Int.toNat v5]?.getD []) == ((v3)[Int.toNat (IntKind.wrap .i64 ((List.length v3 : Int) - 1))]?.getD [])))) then (bif (decide (v4 < 0)) then true else (Op.bytesLess ((v0)[Int.toNat v5]?.getD []) ((v0)[Int.toNat v4]?.getD []))) else false) : Bool) fun x1 =>
  if x1 = true then some v5
  else some v4) else none) else none) else none) else none
theorem ok_ref02_Sorted_j3 (n : Nat) (v0 : List (List UInt8)) (v3 : List (List UInt8)) (v4 : Int) (v5 : Int) (o : Int) (h : ref02_Sorted_j3 n v0 v3 v4 v5 = some o) {F0 : Fz} {w0 : Pt Tryd.prog} {Q : Exit → Act → World → Prop} (hQ : To 55 F0 w0 [(0, .recs (α := List UInt8) [] E_string v0), (3, .row 1003), (4, .val (.int .i64 o)), (5, .val (.int .i64 v5))] [(1003, 9, [.rowc false (α := List UInt8) [] E_string v3])] .normal Q) : Wp Tryd.prog 55 F0 w0 [(0, .recs (α := List UInt8) [] E_string v0), (3, .row 1003), (4, .val (.int .i64 v4)), (5, .val (.int .i64 v5))] [(1003, 9, [.rowc false (α := List UInt8) [] E_string v3])] (cA (cB (cI (cI (cB (cA (cB (cI (cI (cI (cB (cB (cF Tryd.f21))))))))))))) Q := by
  unfold ref02_Sorted_j3 at h
  refine Wp.block ?_
  refine Wp.seq ?_
  obtain ⟨hc2, h⟩ := chk_of h
  obtain ⟨hc3, h⟩ := chk_of h
  obtain ⟨hc4, h⟩ := chk_of h
  obtain ⟨hc5, h⟩ := chk_of h
  obtain ⟨x1, hx1, h⟩ := lett_of h
  refine Wp.regionD hm hΓ [] [0, 3, 4, 5, 43] [1003] (K' := [(0, .recs (α := List UInt8) [] E_string v0), (3, .row 1003), (4, .val (.int .i64 v4)), (5, .val (.int .i64 v5)), (43, .val (.bool (bif (bif ((List.length v3 : Int) == 0) then true else (!(Op.bytesLess ((v0)[Int.toNat v5]?.getD []) ((v3)[Int.toNat (IntKind.wrap .i64 ((List.length v3 : Int) - 1))]?.getD []) || ((v0)[Int.toNat v5]?.getD []) == ((v3)[Int.toNat (IntKind.wrap .i64 ((List.length v3 : Int) - 1))]?.getD [])))) then (bif (decide (v4 < 0)) then true else (Op.bytesLess ((v0)[Int.toNat v5]?.getD []) ((v0)[Int.toNat v4]?.getD []))) else false)))]) (L' := [(1003, 9, [.rowc false (α := List UInt8) [] E_string v3])]) (ob := [(!(((List.length v3 : Int) == 0) == false) || decide (0 ≤ v5 ∧ v5 < (List.length v0 : Int))) = true, (!(((List.length v3 : Int) == 0) == false) || decide (0 ≤ (IntKind.wrap .i64 ((List.length v3 : Int) - 1)) ∧ (IntKind.wrap .i64 ((List.length v3 : Int) - 1)) < (List.length v3 : Int))) = true, (!(((List.length v3 : Int) == 0) == false) || decide (0 ≤ (IntKind.wrap .i64 ((List.length v3 : Int) - 1)) ∧ (IntKind.wrap .i64 ((List.length v3 : Int) - 1)) < (List.length v3 : Int))) = true, (!(((decide (v4 < 0)) == false) && ((bif ((List.length v3 : Int) == 0) then true else (!(Op.bytesLess ((v0)[Int.toNat v5]?.getD []) ((v3)[Int.toNat (IntKind.wrap .i64 ((List.length v3 : Int) - 1))]?.getD []) || ((v0)[Int.toNat v5]?.getD []) == ((v3)[Int.toNat (IntKind.wrap .i64 ((List.length v3 : Int) - 1))]?.getD [])))) == true)) || decide (0 ≤ v5 ∧ v5 < (List.length v0 : Int))) = true, (!(((decide (v4 < 0)) == false) && ((bif ((List.length v3 : Int) == 0) then true else (!(Op.bytesLess ((v0)[Int.toNat v5]?.getD []) ((v3)[Int.toNat (IntKind.wrap .i64 ((List.length v3 : Int) - 1))]?.getD []) || ((v0)[Int.toNat v5]?.getD []) == ((v3)[Int.toNat (IntKind.wrap .i64 ((List.length v3 : Int) - 1))]?.getD [])))) == true)) || decide (0 ≤ v4 ∧ v4 < (List.length v0 : Int))) = true]) (by kernel_rfl) (AllP.cons hc2 (AllP.cons hc3 (AllP.cons hc3 (AllP.cons hc4 (AllP.cons hc5 AllP.nil))))) ?_
  refine To.eq (K' := [(0, .recs (α := List UInt8) [] E_string v0), (3, .row 1003), (4, .val (.int .i64 v4)), (5, .val (.int .i64 v5)), (43, .val (.bool x1))]) (L' := [(1003, 9, [.rowc false (α := List UInt8) [] E_string v3])]) (by cases hx1; rfl) (by cases hx1; rfl) ?_
  refine To.thenN ?_
  refine Wp.cond (b := x1) (by kernel_rfl) (fun hb => ?_) (fun hb => ?_)
  · replace h := if_t hb h
    refine Wp.region hΓ [] [] [] [0, 3, 4, 5] [1003] (K' := [(0, .recs (α := List UInt8) [] E_string v0), (3, .row 1003), (4, .val (.int .i64 v5)), (5, .val (.int .i64 v5))]) (L' := [(1003, 9, [.rowc false (α := List UInt8) [] E_string v3])]) (ob := []) (by kernel_rfl) AllP.nil ?_
    refine To.blockN ?_
    refine To.keep (kk := [0, 3, 4, 5]) (kl := [1003]) (K' := [(0, .recs (α := List UInt8) [] E_string v0), (3, .row 1003), (4, .val (.int .i64 v5)), (5, .val (.int .i64 v5))]) (L' := [(1003, 9, [.rowc false (α := List UInt8) [] E_string v3])]) (by kernel_rfl) (by kernel_rfl) ?_
    cases h
    exact hQ
  · replace h := if_f hb h
    refine Wp.skip ?_
    refine To.blockN ?_
    refine To.keep (kk := [0, 3, 4, 5]) (kl := [1003]) (K' := [(0, .recs (α := List UInt8) [] E_string v0), (3, .row 1003), (4, .val (.int .i64 v4)), (5, .val (.int .i64 v5))]) (L' := [(1003, 9, [.rowc false (α := List UInt8) [] E_string v3])]) (by kernel_rfl) (by kernel_rfl) ?_
    cases h
    exact hQ
def ref02_Sorted_l2 (n : Nat) (v0 : List (List UInt8)) (v3 : List (List UInt8)) : Nat → Int → Int → Option (Int)
  | 0, _, _ => none
  | k + 1, v4, v5 => if (decide (v5 < (List.length v0 : Int))) = true then ((ref02_Sorted_j3 n v0 v3 v4 v5).bind fun o1 =>
  ref02_Sorted_l2 n v0 v3 k o1 (IntKind.wrap .i64 (v5 + 1)))
  else some v4
theorem ok_ref02_Sorted_l2 (n : Nat) (v0 : List (List UInt8)) (v3 : List (List UInt8)) {F0 : Fz} {w0 : Pt Tryd.prog} {Q : Exit → Act → World → Prop} (k : Nat) : ∀ (v4 : Int) (v5 : Int) (o : Int), ref02_Sorted_l2 n v0 v3 k v4 v5 = some o → To 55 F0 w0 [(0, .recs (α := List UInt8) [] E_string v0), (3, .row 1003), (4, .val (.int .i64 o))] [(1003, 9, [.rowc false (α := List UInt8) [] E_string v3])] (.exit 2) Q → WL Tryd.prog 55 F0 w0 [(0, .recs (α := List UInt8) [] E_string v0), (3, .row 1003), (4, .val (.int .i64 v4)), (5, .val (.int .i64 v5))] [(1003, 9, [.rowc false (α := List UInt8) [] E_string v3])] (cI (cI (cB (cA (cB (cI (cI (cI (cB (cB (cF Tryd.f21))))))))))) Q := by
  induction k with
  | zero => intro v4 v5 o h; cases h
  | succ k ih =>
    intro v4 v5 o h hQ
    rw [ref02_Sorted_l2] at h
    refine WL.round ?_
    refine Wp.seq ?_
    refine Wp.seq ?_
    refine Wp.region hΓ [] [] [] [0, 3, 4, 5, 10] [1003] (K' := [(0, .recs (α := List UInt8) [] E_string v0), (3, .row 1003), (4, .val (.int .i64 v4)), (5, .val (.int .i64 v5)), (10, .val (.bool (decide (v5 < (List.length v0 : Int)))))]) (L' := [(1003, 9, [.rowc false (α := List UInt8) [] E_string v3])]) (ob := []) (by kernel_rfl) AllP.nil ?_
    refine To.thenN ?_
    refine Wp.cond (b := (decide (v5 < (List.length v0 : Int)))) (by kernel_rfl) (fun hb => ?_) (fun hb => ?_)
    · replace h := if_t hb h
      refine Wp.skip ?_
      refine To.thenN ?_
      refine Wp.seq ?_
      obtain ⟨o1, ho1, h⟩ := bind_of h
      refine Wp.keep (kk := [0, 3, 4, 5]) (kl := [1003]) (K' := [(0, .recs (α := List UInt8) [] E_string v0), (3, .row 1003), (4, .val (.int .i64 v4)), (5, .val (.int .i64 v5))]) (L' := [(1003, 9, [.rowc false (α := List UInt8) [] E_string v3])]) (by kernel_rfl) (by kernel_rfl) ?_
      refine ok_ref02_Sorted_j3 n v0 v3 v4 v5 o1 ho1 ?_
      refine To.thenN ?_
      refine Wp.region hΓ [] [] [] [0, 3, 4, 5] [1003] (K' := [(0, .recs (α := List UInt8) [] E_string v0), (3, .row 1003), (4, .val (.int .i64 o1)), (5, .val (.int .i64 (IntKind.wrap .i64 (v5 + 1))))]) (L' := [(1003, 9, [.rowc false (α := List UInt8) [] E_string v3])]) (ob := []) (by kernel_rfl) AllP.nil ?_
      refine To.keep (kk := [0, 3, 4, 5]) (kl := [1003]) (K' := [(0, .recs (α := List UInt8) [] E_string v0), (3, .row 1003), (4, .val (.int .i64 o1)), (5, .val (.int .i64 (IntKind.wrap .i64 (v5 + 1))))]) (L' := [(1003, 9, [.rowc false (α := List UInt8) [] E_string v3])]) (by kernel_rfl) (by kernel_rfl) ?_
      refine To.again ?_
      exact ih o1 (IntKind.wrap .i64 (v5 + 1)) _ h hQ
    · replace h := if_f hb h
      refine Wp.exit ?_
      refine To.thenX ?_
      refine To.thenX ?_
      refine To.keep (kk := [0, 3, 4]) (kl := [1003]) (K' := [(0, .recs (α := List UInt8) [] E_string v0), (3, .row 1003), (4, .val (.int .i64 v4))]) (L' := [(1003, 9, [.rowc false (α := List UInt8) [] E_string v3])]) (by kernel_rfl) (by kernel_rfl) ?_
      cases h
      exact hQ
def ref02_Sorted_l1 (n : Nat) (v0 : List (List UInt8)) : Nat → (List (List UInt8)) → Option ((List (List UInt8)))
  | 0, _ => none
  | k + 1, v3 => (ref02_Sorted_l2 n v0 v3 n (-1) 0).bind fun o1 =>
  if (decide (o1 < 0)) = true then some v3
  else (if (decide (0 ≤ o1 ∧ o1 < (List.length v0 : Int))) = true then (if (decide ((List.length v3 + List.length ([((v0)[Int.toNat o1]?.getD [])] : List (List UInt8))) * (16 + 1) ≤ limit)) = true then (ref02_Sorted_l1 n v0 k (v3 ++ ([((v0)[Int.toNat o1]?.getD [])] : List (List UInt8)))) else none) else none)
theorem ok_ref02_Sorted_l1 (n : Nat) (v0 : List (List UInt8)) {F0 : Fz} {w0 : Pt Tryd.prog} {Q : Exit → Act → World → Prop} (k : Nat) : ∀ (v3 : List (List UInt8)) (o : (List (List UInt8))), ref02_Sorted_l1 n v0 k v3 = some o → To 55 F0 w0 [(2, .row 1002)] [(1002, 9, [.rowc false (α := List UInt8) [] E_string o])] .ret Q → WL Tryd.prog 55 F0 w0 [(0, .recs (α := List UInt8) [] E_string v0), (3, .row 1003)] [(1003, 9, [.rowc false (α := List UInt8) [] E_string v3])] (cI (cI (cB (cB (cF Tryd.f21))))) Q := by
  induction k with
  | zero => intro v3 o h; cases h
  | succ k ih =>
    intro v3 o h hQ
    rw [ref02_Sorted_l1] at h
    refine WL.round ?_
    refine Wp.block ?_
    refine Wp.seq ?_
    refine Wp.region hΓ [] [] [] [0, 3, 4] [1003] (K' := [(0, .recs (α := List UInt8) [] E_string v0), (3, .row 1003), (4, .val (.int .i64 (-1)))]) (L' := [(1003, 9, [.rowc false (α := List UInt8) [] E_string v3])]) (ob := []) (by kernel_rfl) AllP.nil ?_
    refine To.thenN ?_
    refine Wp.seq ?_
    refine Wp.seq ?_
    refine Wp.region hΓ [] [] [] [0, 3, 4, 5] [1003] (K' := [(0, .recs (α := List UInt8) [] E_string v0), (3, .row 1003), (4, .val (.int .i64 (-1))), (5, .val (.int .i64 0))]) (L' := [(1003, 9, [.rowc false (α := List UInt8) [] E_string v3])]) (ob := []) (by kernel_rfl) AllP.nil ?_
    refine To.thenN ?_
    refine Wp.block ?_
    obtain ⟨o1, ho1, h⟩ := bind_of h
    refine Wp.keep (kk := [0, 3, 4, 5]) (kl := [1003]) (K' := [(0, .recs (α := List UInt8) [] E_string v0), (3, .row 1003), (4, .val (.int .i64 (-1))), (5, .val (.int .i64 0))]) (L' := [(1003, 9, [.rowc false (α := List UInt8) [] E_string v3])]) (by kernel_rfl) (by kernel_rfl) ?_
    refine Wp.loopL ?_
    refine ok_ref02_Sorted_l2 n v0 v3 n (-1) 0 o1 ho1 ?_
    refine To.blockX ?_
    refine To.thenN ?_
    refine Wp.seq ?_
    refine Wp.seq ?_
    refine Wp.region hΓ [] [] [] [0, 3, 4, 46] [1003] (K' := [(0, .recs (α := List UInt8) [] E_string v0), (3, .row 1003), (4, .val (.int .i64 o1)), (46, .val (.bool (decide (o1 < 0))))]) (L' := [(1003, 9, [.rowc false (α := List UInt8) [] E_string v3])]) (ob := []) (by kernel_rfl) AllP.nil ?_
    refine To.thenN ?_
    refine Wp.cond (b := (decide (o1 < 0))) (by kernel_rfl) (fun hb => ?_) (fun hb => ?_)
    · replace h := if_t hb h
      refine Wp.seq ?_
      refine Wp.region hΓ [] [] [] [2] [1003] (K' := [(2, .row 1003)]) (L' := [(1003, 9, [.rowc false (α := List UInt8) [] E_string v3])]) (ob := []) (by kernel_rfl) AllP.nil ?_
      refine To.thenN ?_
      refine Wp.ret ?_
      refine To.thenR ?_
      refine To.blockR ?_
      refine To.thenR ?_
      refine To.keep (kk := [2]) (kl := [1003]) (K' := [(2, .row 1003)]) (L' := [(1003, 9, [.rowc false (α := List UInt8) [] E_string v3])]) (by kernel_rfl) (by kernel_rfl) ?_
      refine To.pre (St.rename 1003 1002 (by decide) (K' := [(2, .row 1002)]) (L' := [(1002, 9, [.rowc false (α := List UInt8) [] E_string v3])]) (by kernel_rfl) (by kernel_rfl) (by kernel_rfl)) ?_
      refine To.keep (kk := [2]) (kl := [1002]) (K' := [(2, .row 1002)]) (L' := [(1002, 9, [.rowc false (α := List UInt8) [] E_string v3])]) (by kernel_rfl) (by kernel_rfl) ?_
      cases h
      exact hQ
    · replace h := if_f hb h
      refine Wp.skip ?_
      refine To.thenN ?_
      obtain ⟨hc2, h⟩ := chk_of h
      obtain ⟨hc3, h⟩ := chk_of h
      refine Wp.region hΓ [] [(5, .recs (α := List UInt8) [] E_string ([((v0)[Int.toNat o1]?.getD [])])), (6, .recs (α := List UInt8) [] E_string (v3 ++ ([((v0)[Int.toNat o1]?.getD [])] : List (List UInt8))))] [] [0, 3] [54] (K' := [(0, .recs (α := List UInt8) [] E_string v0), (3, .row 54)]) (L' := [(54, 9, [.rowc false (α := List UInt8) [] E_string (v3 ++ ([((v0)[Int.toNat o1]?.getD [])] : List (List UInt8)))])]) (ob := [(decide (0 ≤ o1 ∧ o1 < (List.length v0 : Int))) = true, (MkOb 1 [.str ((v0)[Int.toNat o1]?.getD [])] 1 (.recs (α := List UInt8) [] E_string ([((v0)[Int.toNat o1]?.getD [])])) ∧ GoodR (.recs (α := List UInt8) [] E_string ([((v0)[Int.toNat o1]?.getD [])]))), (decide ((List.length v3 + List.length ([((v0)[Int.toNat o1]?.getD [])] : List (List UInt8))) * (16 + 1) ≤ limit)) = true, (AppOb [] E_string v3 (List.flatMap E_string ([((v0)[Int.toNat o1]?.getD [])] : List (List UInt8))) (List.length ([((v0)[Int.toNat o1]?.getD [])] : List (List UInt8))) (.recs (α := List UInt8) [] E_string (v3 ++ ([((v0)[Int.toNat o1]?.getD [])] : List (List UInt8)))) ∧ GoodR (.recs (α := List UInt8) [] E_string (v3 ++ ([((v0)[Int.toNat o1]?.getD [])] : List (List UInt8)))))]) (by kernel_rfl) (AllP.cons hc2 (AllP.cons (mkOb (by kernel_rfl) rfl (by kernel_rfl) (good_E_string _)) (AllP.cons hc3 (AllP.cons (appOb rfl rfl (good_E_string _)) AllP.nil)))) ?_
      refine To.blockN ?_
      refine To.keep (kk := [0, 3]) (kl := [54]) (K' := [(0, .recs (α := List UInt8) [] E_string v0), (3, .row 54)]) (L' := [(54, 9, [.rowc false (α := List UInt8) [] E_string (v3 ++ ([((v0)[Int.toNat o1]?.getD [])] : List (List UInt8)))])]) (by kernel_rfl) (by kernel_rfl) ?_
      refine To.pre (St.rename 54 1003 (by decide) (K' := [(0, .recs (α := List UInt8) [] E_string v0), (3, .row 1003)]) (L' := [(1003, 9, [.rowc false (α := List UInt8) [] E_string (v3 ++ ([((v0)[Int.toNat o1]?.getD [])] : List (List UInt8)))])]) (by kernel_rfl) (by kernel_rfl) (by kernel_rfl)) ?_
      refine To.keep (kk := [0, 3]) (kl := [1003]) (K' := [(0, .recs (α := List UInt8) [] E_string v0), (3, .row 1003)]) (L' := [(1003, 9, [.rowc false (α := List UInt8) [] E_string (v3 ++ ([((v0)[Int.toNat o1]?.getD [])] : List (List UInt8)))])]) (by kernel_rfl) (by kernel_rfl) ?_
      refine To.again ?_
      exact ih (v3 ++ ([((v0)[Int.toNat o1]?.getD [])] : List (List UInt8))) _ h hQ
def ref02_Sorted (n : Nat) (a0 : List (List UInt8)) : Option ((List (List UInt8))) :=
  (ref02_Sorted_l1 n a0 n ([] : List (List UInt8))).bind fun o1 =>
  some o1
theorem ok_ref02_Sorted (n : Nat) (a0 : List (List UInt8)) (r : (List (List UInt8))) (h : ref02_Sorted n a0 = some r) : CallsX Tryd.prog 21 [.recs (α := List UInt8) [] E_string a0] (.recs (α := List UInt8) [] E_string r) := by
  unfold ref02_Sorted at h
  refine callsX_of (fn := Tryd.f21) (by kernel_rfl) rfl (by kernel_rfl) (Nat.le_of_ble_eq_true (by kernel_rfl)) fun F0 w0 _ => ?_
  refine Wp.keep (kk := [0]) (kl := []) (K' := [(0, .recs (α := List UInt8) [] E_string a0)]) (L' := []) (by kernel_rfl) (by kernel_rfl) ?_
  refine Wp.seq ?_
  refine Wp.region hΓ [] [] [] [0] [] (K' := [(0, .recs (α := List UInt8) [] E_string a0)]) (L' := []) (ob := []) (by kernel_rfl) AllP.nil ?_
  refine To.thenN ?_
  refine Wp.seq ?_
  refine Wp.region hΓ [] [(0, .recs (α := List UInt8) [] E_string [])] [] [0, 3] [6] (K' := [(0, .recs (α := List UInt8) [] E_string a0), (3, .row 6)]) (L' := [(6, 9, [.rowc false (α := List UInt8) [] E_string []])]) (ob := [(MkOb 1 [] 0 (.recs (α := List UInt8) [] E_string []) ∧ GoodR (.recs (α := List UInt8) [] E_string []))]) (by kernel_rfl) (AllP.cons (mkOb (by kernel_rfl) rfl (by kernel_rfl) (good_E_string _)) AllP.nil) ?_
  refine To.thenN ?_
  refine Wp.block ?_
  obtain ⟨o1, ho1, h⟩ := bind_of h
  refine Wp.keep (kk := [0, 3]) (kl := [6]) (K' := [(0, .recs (α := List UInt8) [] E_string a0), (3, .row 6)]) (L' := [(6, 9, [.rowc false (α := List UInt8) [] E_string []])]) (by kernel_rfl) (by kernel_rfl) ?_
  refine Wp.pre (St.rename 6 1003 (by decide) (K' := [(0, .recs (α := List UInt8) [] E_string a0), (3, .row 1003)]) (L' := [(1003, 9, [.rowc false (α := List UInt8) [] E_string []])]) (by kernel_rfl) (by kernel_rfl) (by kernel_rfl)) ?_
  refine Wp.keep (kk := [0, 3]) (kl := [1003]) (K' := [(0, .recs (α := List UInt8) [] E_string a0), (3, .row 1003)]) (L' := [(1003, 9, [.rowc false (α := List UInt8) [] E_string []])]) (by kernel_rfl) (by kernel_rfl) ?_
  refine Wp.loopL ?_
  refine ok_ref02_Sorted_l1 n a0 n ([] : List (List UInt8)) o1 ho1 ?_
  refine To.blockR ?_
  refine To.keep (kk := [2]) (kl := [1002]) (K' := [(2, .row 1002)]) (L' := [(1002, 9, [.rowc false (α := List UInt8) [] E_string o1])]) (by kernel_rfl) (by kernel_rfl) ?_
  refine To.pre (St.settle (ks := [1002]) (kk := [2]) (kl := [1002]) (K' := [(2, .row 1002)]) (L' := [(1002, 9, [.rowc true (α := List UInt8) [] E_string o1])]) (by kernel_rfl)) ?_
  refine To.pre (St.sealK [2] (K' := [(2, .recs (α := List UInt8) [] E_string o1)]) (by kernel_rfl)) ?_
  refine To.keep (kk := [2]) (kl := []) (K' := [(2, .recs (α := List UInt8) [] E_string o1)]) (L' := []) (by kernel_rfl) (by kernel_rfl) ?_
  cases h
  exact To.done hΓ (by kernel_rfl)
def ref08_Left_l1 (R_ref08_Left : S_api_Node → Int → Int → Option (Int)) (n : Nat) (v1 : Int) (b3 : S_api_Node) : Nat → Int → Int → Option (Sum (Int) (Int))
  | 0, _, _ => none
  | k + 1, v2, v7 => if (decide (v7 < (List.length b3.f_Kids : Int))) = true then (if (decide (0 ≤ v7 ∧ v7 < (List.length b3.f_Kids : Int))) = true then ((R_ref08_Left ((b3.f_Kids)[Int.toNat v7]?.getD (S_api_Node.mk 0 [] [] [])) (IntKind.wrap .i64 (v1 + 1)) v2).bind fun r5 =>
  if (decide (r5 < 0)) = true then (some (.inr (-1)))
  else (ref08_Left_l1 R_ref08_Left n v1 b3 k r5 (IntKind.wrap .i64 (v7 + 1)))) else none)
  else (some (.inl v2))
theorem ok_ref08_Left_l1 (R_ref08_Left : S_api_Node → Int → Int → Option (Int)) (hR_ref08_Left : ∀ (a0 : S_api_Node) (a1 : Int) (a2 : Int) (r : Int), R_ref08_Left a0 a1 a2 = some r → CallsX Tryd.prog 12 [.agg [.val (.int .i64 a0.f_Kind), .str a0.f_Text, .recs (α := List UInt8) [] E_string a0.f_Keys, .tree (α := S_api_Node) (S_api_Node.mk 0 [] [] []) pre_S_api_Node kids_S_api_Node a0.f_Kids], .val (.int .i64 a1), .val (.int .i64 a2)] (.val (.int .i64 r))) (n : Nat) (v1 : Int) (b3 : S_api_Node) {F0 : Fz} {w0 : Pt Tryd.prog} {Q : Exit → Act → World → Prop} (k : Nat) : ∀ (v2 : Int) (v7 : Int) (o : Sum (Int) (Int)), ref08_Left_l1 R_ref08_Left n v1 b3 k v2 v7 = some o → (Sum.elim (fun s => To 105 F0 w0 [(2, .val (.int .i64 s))] [] (.exit 0) Q) (fun s => To 105 F0 w0 [(6, .val (.int .i64 s))] [] .ret Q)) o → WL Tryd.prog 105 F0 w0 [(1, .val (.int .i64 v1)), (2, .val (.int .i64 v2)), (3, .own 3 0), (7, .val (.int .i64 v7))] [(3, 25, [.val (.int .i64 b3.f_Kind), .str b3.f_Text, .recs (α := List UInt8) [] E_string b3.f_Keys, .tree (α := S_api_Node) (S_api_Node.mk 0 [] [] []) pre_S_api_Node kids_S_api_Node b3.f_Kids])] (cI (cI (cB (cA (cB (cB (cB (cB (cB (cF Tryd.f12)))))))))) Q := by
  induction k with
  | zero => intro v2 v7 o h; cases h
  | succ k ih =>
    intro v2 v7 o h hQ
    rw [ref08_Left_l1] at h
    refine WL.round ?_
    refine Wp.seq ?_
    refine Wp.seq ?_
    refine Wp.region hΓ [] [] [] [1, 2, 3, 7, 90] [3] (K' := [(1, .val (.int .i64 v1)), (2, .val (.int .i64 v2)), (3, .own 3 0), (7, .val (.int .i64 v7)), (90, .val (.bool (decide (v7 < (List.length b3.f_Kids : Int)))))]) (L' := [(3, 25, [.val (.int .i64 b3.f_Kind), .str b3.f_Text, .recs (α := List UInt8) [] E_string b3.f_Keys, .tree (α := S_api_Node) (S_api_Node.mk 0 [] [] []) pre_S_api_Node kids_S_api_Node b3.f_Kids])]) (ob := []) (by kernel_rfl) AllP.nil ?_
    refine To.thenN ?_
    refine Wp.cond (b := (decide (v7 < (List.length b3.f_Kids : Int)))) (by kernel_rfl) (fun hb => ?_) (fun hb => ?_)
    · replace h := if_t hb h
      refine Wp.skip ?_
      refine To.thenN ?_
      refine Wp.seq ?_
      refine Wp.block ?_
      refine Wp.seq ?_
      obtain ⟨hc6, h⟩ := chk_of h
      obtain ⟨r5, hr5, h⟩ := bind_of h
      refine Wp.region hΓ [] [(8, .val (.int .i64 r5))] [] [1, 2, 3, 7] [3] (K' := [(1, .val (.int .i64 v1)), (2, .val (.int .i64 r5)), (3, .own 3 0), (7, .val (.int .i64 v7))]) (L' := [(3, 25, [.val (.int .i64 b3.f_Kind), .str b3.f_Text, .recs (α := List UInt8) [] E_string b3.f_Keys, .tree (α := S_api_Node) (S_api_Node.mk 0 [] [] []) pre_S_api_Node kids_S_api_Node b3.f_Kids])]) (ob := [(decide (0 ≤ v7 ∧ v7 < (List.length b3.f_Kids : Int))) = true, (true = true → CX Tryd.prog 12 [.agg [.val (.int .i64 (((b3.f_Kids)[Int.toNat v7]?.getD (S_api_Node.mk 0 [] [] [])).f_Kind)), .str (((b3.f_Kids)[Int.toNat v7]?.getD (S_api_Node.mk 0 [] [] [])).f_Text), .recs (α := List UInt8) [] E_string (((b3.f_Kids)[Int.toNat v7]?.getD (S_api_Node.mk 0 [] [] [])).f_Keys), .tree (α := S_api_Node) (S_api_Node.mk 0 [] [] []) pre_S_api_Node kids_S_api_Node (((b3.f_Kids)[Int.toNat v7]?.getD (S_api_Node.mk 0 [] [] [])).f_Kids)], .val (.int .i64 (IntKind.wrap .i64 (v1 + 1))), .val (.int .i64 v2)] (.val (.int .i64 r5)))]) (by kernel_rfl) (AllP.cons hc6 (AllP.cons (fun _ => cx (hR_ref08_Left ((b3.f_Kids)[Int.toNat v7]?.getD (S_api_Node.mk 0 [] [] [])) (IntKind.wrap .i64 (v1 + 1)) v2 _ hr5)) AllP.nil)) ?_
      refine To.thenN ?_
      refine Wp.seq ?_
      refine Wp.region hΓ [] [] [] [1, 2, 3, 7, 103] [3] (K' := [(1, .val (.int .i64 v1)), (2, .val (.int .i64 r5)), (3, .own 3 0), (7, .val (.int .i64 v7)), (103, .val (.bool (decide (r5 < 0))))]) (L' := [(3, 25, [.val (.int .i64 b3.f_Kind), .str b3.f_Text, .recs (α := List UInt8) [] E_string b3.f_Keys, .tree (α := S_api_Node) (S_api_Node.mk 0 [] [] []) pre_S_api_Node kids_S_api_Node b3.f_Kids])]) (ob := []) (by kernel_rfl) AllP.nil ?_
      refine To.thenN ?_
      refine Wp.cond (b := (decide (r5 < 0))) (by kernel_rfl) (fun hb => ?_) (fun hb => ?_)
      · replace h := if_t hb h
        refine Wp.seq ?_
        refine Wp.region hΓ [] [] [] [6] [] (K' := [(6, .val (.int .i64 (-1)))]) (L' := []) (ob := []) (by kernel_rfl) AllP.nil ?_
        refine To.thenN ?_
        refine Wp.ret ?_
        refine To.blockR ?_
        refine To.thenR ?_
        refine To.thenR ?_
        refine To.keep (kk := [6]) (kl := []) (K' := [(6, .val (.int .i64 (-1)))]) (L' := []) (by kernel_rfl) (by kernel_rfl) ?_
        cases h
        exact hQ
      · replace h := if_f hb h
        refine Wp.skip ?_
        refine To.blockN ?_
        refine To.thenN ?_
        refine Wp.region hΓ [] [] [] [1, 2, 3, 7] [3] (K' := [(1, .val (.int .i64 v1)), (2, .val (.int .i64 r5)), (3, .own 3 0), (7, .val (.int .i64 (IntKind.wrap .i64 (v7 + 1))))]) (L' := [(3, 25, [.val (.int .i64 b3.f_Kind), .str b3.f_Text, .recs (α := List UInt8) [] E_string b3.f_Keys, .tree (α := S_api_Node) (S_api_Node.mk 0 [] [] []) pre_S_api_Node kids_S_api_Node b3.f_Kids])]) (ob := []) (by kernel_rfl) AllP.nil ?_
        refine To.keep (kk := [1, 2, 3, 7]) (kl := [3]) (K' := [(1, .val (.int .i64 v1)), (2, .val (.int .i64 r5)), (3, .own 3 0), (7, .val (.int .i64 (IntKind.wrap .i64 (v7 + 1))))]) (L' := [(3, 25, [.val (.int .i64 b3.f_Kind), .str b3.f_Text, .recs (α := List UInt8) [] E_string b3.f_Keys, .tree (α := S_api_Node) (S_api_Node.mk 0 [] [] []) pre_S_api_Node kids_S_api_Node b3.f_Kids])]) (by kernel_rfl) (by kernel_rfl) ?_
        refine To.again ?_
        exact ih r5 (IntKind.wrap .i64 (v7 + 1)) _ h hQ
    · replace h := if_f hb h
      refine Wp.exit ?_
      refine To.thenX ?_
      refine To.thenX ?_
      refine To.keep (kk := [2]) (kl := []) (K' := [(2, .val (.int .i64 v2))]) (L' := []) (by kernel_rfl) (by kernel_rfl) ?_
      cases h
      exact hQ
def ref08_Left_b (R_ref08_Left : S_api_Node → Int → Int → Option (Int)) (n : Nat) (a0 : S_api_Node) (a1 : Int) (a2 : Int) : Option (Int) :=
  lett ((bif (bif (bif (decide ((IntKind.wrap .i64 (a2 - 1)) < 0)) then true else (decide (a1 > 12))) then true else (decide (a0.f_Kind < 0))) then true else (decide (a0.f_Kind > 3))) : Bool) fun x1 =>
  if x1 = true then (some (-1))
  else (lett ((bif (bif (bif (a0.f_Kind != 1) then (decide ((List.length a0.f_Text : Int) > 0)) else false) then true else (bif (a0.f_Kind != 3) then (decide ((List.length a0.f_Keys : Int) > 0)) else false)) then true else (bif (decide (a0.f_Kind < 2)) then (decide ((List.length a0.f_Kids : Int) > 0)) else false)) : Bool) fun x2 =>
  if x2 = true then (some (-1))
  else (((if (((bif ((List.length a0.f_Keys : Int) != (List.length a0.f_Kids : Int)) then true else (decide ((List.length a0.f_Kids : Int) > (IntKind.wrap .i64 (a2 - 1))))) == false) && ((a0.f_Kind == 3) == true)) = true then ref02_Sorted n a0.f_Keys else some [])).bind fun r3 =>
  lett ((bif (a0.f_Kind == 3) then (bif (bif ((List.length a0.f_Keys : Int) != (List.length a0.f_Kids : Int)) then true else (decide ((List.length a0.f_Kids : Int) > (IntKind.wrap .i64 (a2 - 1))))) then true else ((List.length r3 : Int) != (List.length a0.f_Keys : Int))) else false) : Bool) fun x4 =>
  if x4 = true then (some (-1))
  else ((ref08_Left_l1 R_ref08_Left n a1 a0 n (IntKind.wrap .i64 (a2 - 1)) 0).bind fun o5 =>
  (Sum.elim (fun o5 => some o5) (fun o5 => some o5)) o5)))
theorem ok_ref08_Left_b (R_ref08_Left : S_api_Node → Int → Int → Option (Int)) (hR_ref08_Left : ∀ (a0 : S_api_Node) (a1 : Int) (a2 : Int) (r : Int), R_ref08_Left a0 a1 a2 = some r → CallsX Tryd.prog 12 [.agg [.val (.int .i64 a0.f_Kind), .str a0.f_Text, .recs (α := List UInt8) [] E_string a0.f_Keys, .tree (α := S_api_Node) (S_api_Node.mk 0 [] [] []) pre_S_api_Node kids_S_api_Node a0.f_Kids], .val (.int .i64 a1), .val (.int .i64 a2)] (.val (.int .i64 r))) (n : Nat) (a0 : S_api_Node) (a1 : Int) (a2 : Int) (r : Int) (h : ref08_Left_b R_ref08_Left n a0 a1 a2 = some r) : CallsX Tryd.prog 12 [.agg [.val (.int .i64 a0.f_Kind), .str a0.f_Text, .recs (α := List UInt8) [] E_string a0.f_Keys, .tree (α := S_api_Node) (S_api_Node.mk 0 [] [] []) pre_S_api_Node kids_S_api_Node a0.f_Kids], .val (.int .i64 a1), .val (.int .i64 a2)] (.val (.int .i64 r)) := by
  unfold ref08_Left_b at h
  refine callsX_of (fn := Tryd.f12) (by kernel_rfl) rfl (by kernel_rfl) (Nat.le_of_ble_eq_true (by kernel_rfl)) fun F0 w0 _ => ?_
  refine Wp.keep (kk := [0, 1, 2]) (kl := []) (K' := [(0, .agg [.val (.int .i64 a0.f_Kind), .str a0.f_Text, .recs (α := List UInt8) [] E_string a0.f_Keys, .tree (α := S_api_Node) (S_api_Node.mk 0 [] [] []) pre_S_api_Node kids_S_api_Node a0.f_Kids]), (1, .val (.int .i64 a1)), (2, .val (.int .i64 a2))]) (L' := []) (by kernel_rfl) (by kernel_rfl) ?_
  refine Wp.seq ?_
  refine Wp.region hΓ [] [] [] [1, 2, 3] [3] (K' := [(1, .val (.int .i64 a1)), (2, .val (.int .i64 a2)), (3, .own 3 0)]) (L' := [(3, 25, [.val (.int .i64 a0.f_Kind), .str a0.f_Text, .recs (α := List UInt8) [] E_string a0.f_Keys, .tree (α := S_api_Node) (S_api_Node.mk 0 [] [] []) pre_S_api_Node kids_S_api_Node a0.f_Kids])]) (ob := []) (by kernel_rfl) AllP.nil ?_
  refine To.thenN ?_
  refine Wp.seq ?_
  refine Wp.region hΓ [] [] [] [1, 2, 3] [3] (K' := [(1, .val (.int .i64 a1)), (2, .val (.int .i64 (IntKind.wrap .i64 (a2 - 1)))), (3, .own 3 0)]) (L' := [(3, 25, [.val (.int .i64 a0.f_Kind), .str a0.f_Text, .recs (α := List UInt8) [] E_string a0.f_Keys, .tree (α := S_api_Node) (S_api_Node.mk 0 [] [] []) pre_S_api_Node kids_S_api_Node a0.f_Kids])]) (ob := []) (by kernel_rfl) AllP.nil ?_
  refine To.thenN ?_
  refine Wp.seq ?_
  refine Wp.seq ?_
  obtain ⟨x1, hx1, h⟩ := lett_of h
  refine Wp.region hΓ [] [] [] [1, 2, 3, 25] [3] (K' := [(1, .val (.int .i64 a1)), (2, .val (.int .i64 (IntKind.wrap .i64 (a2 - 1)))), (3, .own 3 0), (25, .val (.bool (bif (bif (bif (decide ((IntKind.wrap .i64 (a2 - 1)) < 0)) then true else (decide (a1 > 12))) then true else (decide (a0.f_Kind < 0))) then true else (decide (a0.f_Kind > 3)))))]) (L' := [(3, 25, [.val (.int .i64 a0.f_Kind), .str a0.f_Text, .recs (α := List UInt8) [] E_string a0.f_Keys, .tree (α := S_api_Node) (S_api_Node.mk 0 [] [] []) pre_S_api_Node kids_S_api_Node a0.f_Kids])]) (ob := []) (by kernel_rfl) AllP.nil ?_
  refine To.eq (K' := [(1, .val (.int .i64 a1)), (2, .val (.int .i64 (IntKind.wrap .i64 (a2 - 1)))), (3, .own 3 0), (25, .val (.bool x1))]) (L' := [(3, 25, [.val (.int .i64 a0.f_Kind), .str a0.f_Text, .recs (α := List UInt8) [] E_string a0.f_Keys, .tree (α := S_api_Node) (S_api_Node.mk 0 [] [] []) pre_S_api_Node kids_S_api_Node a0.f_Kids])]) (by cases hx1; rfl) (by cases hx1; rfl) ?_
  refine To.thenN ?_
  refine Wp.cond (b := x1) (by kernel_rfl) (fun hb => ?_) (fun hb => ?_)
  · replace h := if_t hb h
    refine Wp.seq ?_
    refine Wp.region hΓ [] [] [] [6] [] (K' := [(6, .val (.int .i64 (-1)))]) (L' := []) (ob := []) (by kernel_rfl) AllP.nil ?_
    refine To.thenN ?_
    refine Wp.ret ?_
    refine To.thenR ?_
    refine To.keep (kk := [6]) (kl := []) (K' := [(6, .val (.int .i64 (-1)))]) (L' := []) (by kernel_rfl) (by kernel_rfl) ?_
    cases h
    exact To.done hΓ (by kernel_rfl)
  · replace h := if_f hb h
    refine Wp.skip ?_
    refine To.thenN ?_
    refine Wp.seq ?_
    refine Wp.seq ?_
    obtain ⟨x2, hx2, h⟩ := lett_of h
    refine Wp.region hΓ [] [] [] [1, 2, 3, 56] [3] (K' := [(1, .val (.int .i64 a1)), (2, .val (.int .i64 (IntKind.wrap .i64 (a2 - 1)))), (3, .own 3 0), (56, .val (.bool (bif (bif (bif (a0.f_Kind != 1) then (decide ((List.length a0.f_Text : Int) > 0)) else false) then true else (bif (a0.f_Kind != 3) then (decide ((List.length a0.f_Keys : Int) > 0)) else false)) then true else (bif (decide (a0.f_Kind < 2)) then (decide ((List.length a0.f_Kids : Int) > 0)) else false))))]) (L' := [(3, 25, [.val (.int .i64 a0.f_Kind), .str a0.f_Text, .recs (α := List UInt8) [] E_string a0.f_Keys, .tree (α := S_api_Node) (S_api_Node.mk 0 [] [] []) pre_S_api_Node kids_S_api_Node a0.f_Kids])]) (ob := []) (by kernel_rfl) AllP.nil ?_
    refine To.eq (K' := [(1, .val (.int .i64 a1)), (2, .val (.int .i64 (IntKind.wrap .i64 (a2 - 1)))), (3, .own 3 0), (56, .val (.bool x2))]) (L' := [(3, 25, [.val (.int .i64 a0.f_Kind), .str a0.f_Text, .recs (α := List UInt8) [] E_string a0.f_Keys, .tree (α := S_api_Node) (S_api_Node.mk 0 [] [] []) pre_S_api_Node kids_S_api_Node a0.f_Kids])]) (by cases hx2; rfl) (by cases hx2; rfl) ?_
    refine To.thenN ?_
    refine Wp.cond (b := x2) (by kernel_rfl) (fun hb => ?_) (fun hb => ?_)
    · replace h := if_t hb h
      refine Wp.seq ?_
      refine Wp.region hΓ [] [] [] [6] [] (K' := [(6, .val (.int .i64 (-1)))]) (L' := []) (ob := []) (by kernel_rfl) AllP.nil ?_
      refine To.thenN ?_
      refine Wp.ret ?_
      refine To.thenR ?_
      refine To.keep (kk := [6]) (kl := []) (K' := [(6, .val (.int .i64 (-1)))]) (L' := []) (by kernel_rfl) (by kernel_rfl) ?_
      cases h
      exact To.done hΓ (by kernel_rfl)
    · replace h := if_f hb h
      refine Wp.skip ?_
      refine To.thenN ?_
      refine Wp.seq ?_
      refine Wp.seq ?_
      obtain ⟨r3, hr3, h⟩ := bind_of h
      obtain ⟨x4, hx4, h⟩ := lett_of h
      refine Wp.regionD hm hΓ [(21, .recs (α := List UInt8) [] E_string r3)] [1, 2, 3, 85] [3] (K' := [(1, .val (.int .i64 a1)), (2, .val (.int .i64 (IntKind.wrap .i64 (a2 - 1)))), (3, .own 3 0), (85, .val (.bool (bif (a0.f_Kind == 3) then (bif (bif ((List.length a0.f_Keys : Int) != (List.length a0.f_Kids : Int)) then true else (decide ((List.length a0.f_Kids : Int) > (IntKind.wrap .i64 (a2 - 1))))) then true else ((List.length r3 : Int) != (List.length a0.f_Keys : Int))) else false)))]) (L' := [(3, 25, [.val (.int .i64 a0.f_Kind), .str a0.f_Text, .recs (α := List UInt8) [] E_string a0.f_Keys, .tree (α := S_api_Node) (S_api_Node.mk 0 [] [] []) pre_S_api_Node kids_S_api_Node a0.f_Kids])]) (ob := [((((bif ((List.length a0.f_Keys : Int) != (List.length a0.f_Kids : Int)) then true else (decide ((List.length a0.f_Kids : Int) > (IntKind.wrap .i64 (a2 - 1))))) == false) && ((a0.f_Kind == 3) == true)) = true → CX Tryd.prog 21 [.recs (α := List UInt8) [] E_string a0.f_Keys] (.recs (α := List UInt8) [] E_string r3))]) (by kernel_rfl) (AllP.cons (fun hg => cx (ok_ref02_Sorted n a0.f_Keys _ (if_t hg hr3))) AllP.nil) ?_
      refine To.eq (K' := [(1, .val (.int .i64 a1)), (2, .val (.int .i64 (IntKind.wrap .i64 (a2 - 1)))), (3, .own 3 0), (85, .val (.bool x4))]) (L' := [(3, 25, [.val (.int .i64 a0.f_Kind), .str a0.f_Text, .recs (α := List UInt8) [] E_string a0.f_Keys, .tree (α := S_api_Node) (S_api_Node.mk 0 [] [] []) pre_S_api_Node kids_S_api_Node a0.f_Kids])]) (by cases hx4; rfl) (by cases hx4; rfl) ?_
      refine To.thenN ?_
      refine Wp.cond (b := x4) (by kernel_rfl) (fun hb => ?_) (fun hb => ?_)
      · replace h := if_t hb h
        refine Wp.seq ?_
        refine Wp.region hΓ [] [] [] [6] [] (K' := [(6, .val (.int .i64 (-1)))]) (L' := []) (ob := []) (by kernel_rfl) AllP.nil ?_
        refine To.thenN ?_
        refine Wp.ret ?_
        refine To.thenR ?_
        refine To.keep (kk := [6]) (kl := []) (K' := [(6, .val (.int .i64 (-1)))]) (L' := []) (by kernel_rfl) (by kernel_rfl) ?_
        cases h
        exact To.done hΓ (by kernel_rfl)
      · replace h := if_f hb h
        refine Wp.skip ?_
        refine To.thenN ?_
        refine Wp.seq ?_
        refine Wp.seq ?_
        refine Wp.region hΓ [] [] [] [1, 2, 3, 7] [3] (K' := [(1, .val (.int .i64 a1)), (2, .val (.int .i64 (IntKind.wrap .i64 (a2 - 1)))), (3, .own 3 0), (7, .val (.int .i64 0))]) (L' := [(3, 25, [.val (.int .i64 a0.f_Kind), .str a0.f_Text, .recs (α := List UInt8) [] E_string a0.f_Keys, .tree (α := S_api_Node) (S_api_Node.mk 0 [] [] []) pre_S_api_Node kids_S_api_Node a0.f_Kids])]) (ob := []) (by kernel_rfl) AllP.nil ?_
        refine To.thenN ?_
        refine Wp.block ?_
        obtain ⟨o5, ho5, h⟩ := bind_of h
        refine Wp.keep (kk := [1, 2, 3, 7]) (kl := [3]) (K' := [(1, .val (.int .i64 a1)), (2, .val (.int .i64 (IntKind.wrap .i64 (a2 - 1)))), (3, .own 3 0), (7, .val (.int .i64 0))]) (L' := [(3, 25, [.val (.int .i64 a0.f_Kind), .str a0.f_Text, .recs (α := List UInt8) [] E_string a0.f_Keys, .tree (α := S_api_Node) (S_api_Node.mk 0 [] [] []) pre_S_api_Node kids_S_api_Node a0.f_Kids])]) (by kernel_rfl) (by kernel_rfl) ?_
        refine Wp.loopL ?_
        refine ok_ref08_Left_l1 R_ref08_Left hR_ref08_Left n a1 a0 n (IntKind.wrap .i64 (a2 - 1)) 0 o5 ho5 ?_
        rcases o5 with o5 | o5
        · replace h := sum_l h
          refine To.blockX ?_
          refine To.thenN ?_
          refine Wp.seq ?_
          refine Wp.region hΓ [] [] [] [6] [] (K' := [(6, .val (.int .i64 o5))]) (L' := []) (ob := []) (by kernel_rfl) AllP.nil ?_
          refine To.thenN ?_
          refine Wp.ret ?_
          refine To.keep (kk := [6]) (kl := []) (K' := [(6, .val (.int .i64 o5))]) (L' := []) (by kernel_rfl) (by kernel_rfl) ?_
          cases h
          exact To.done hΓ (by kernel_rfl)
        · replace h := sum_r h
          refine To.blockR ?_
          refine To.thenR ?_
          refine To.keep (kk := [6]) (kl := []) (K' := [(6, .val (.int .i64 o5))]) (L' := []) (by kernel_rfl) (by kernel_rfl) ?_
          cases h
          exact To.done hΓ (by kernel_rfl)
def ref08_Left : Nat → S_api_Node → Int → Int → Option (Int)
  | 0 => fun _ _ _ => none
  | n + 1 => ref08_Left_b (ref08_Left n) n
theorem ok_ref08_Left (n : Nat) : ∀ (a0 : S_api_Node) (a1 : Int) (a2 : Int) (r : Int), ref08_Left n a0 a1 a2 = some r → CallsX Tryd.prog 12 [.agg [.val (.int .i64 a0.f_Kind), .str a0.f_Text, .recs (α := List UInt8) [] E_string a0.f_Keys, .tree (α := S_api_Node) (S_api_Node.mk 0 [] [] []) pre_S_api_Node kids_S_api_Node a0.f_Kids], .val (.int .i64 a1), .val (.int .i64 a2)] (.val (.int .i64 r)) := by
  induction n with
  | zero => intro a0 a1 a2 r h; cases h
  | succ n ih => exact fun a0 a1 a2 r h => ok_ref08_Left_b (ref08_Left n) ih n a0 a1 a2 r h
def ref08_short_l1 (R_ref08_short : S_api_Node → Option (Bool)) (n : Nat) (b1 : S_api_Node) : Nat → Int → Option (Sum (Unit) (Bool))
  | 0, _ => none
  | k + 1, v3 => if (decide (v3 < (List.length b1.f_Keys : Int))) = true then (if (decide (0 ≤ v3 ∧ v3 < (List.length b1.f_Keys : Int))) = true then (if (decide ((List.length ((b1.f_Keys)[Int.toNat v3]?.getD []) : Int) > 200)) = true then (some (.inr false))
  else (ref08_short_l1 R_ref08_short n b1 k (IntKind.wrap .i64 (v3 + 1)))) else none)
  else (some (.inl ()))
theorem ok_ref08_short_l1 (R_ref08_short : S_api_Node → Option (Bool)) (hR_ref08_short : ∀ (a0 : S_api_Node) (r : Bool), R_ref08_short a0 = some r → CallsX Tryd.prog 13 [.agg [.val (.int .i64 a0.f_Kind), .str a0.f_Text, .recs (α := List UInt8) [] E_string a0.f_Keys, .tree (α := S_api_Node) (S_api_Node.mk 0 [] [] []) pre_S_api_Node kids_S_api_Node a0.f_Kids]] (.val (.bool r))) (n : Nat) (b1 : S_api_Node) {F0 : Fz} {w0 : Pt Tryd.prog} {Q : Exit → Act → World → Prop} (k : Nat) : ∀ (v3 : Int) (o : Sum (Unit) (Bool)), ref08_short_l1 R_ref08_short n b1 k v3 = some o → (Sum.elim (fun s => To 37 F0 w0 [(1, .own 1 0)] [(1, 25, [.val (.int .i64 b1.f_Kind), .str b1.f_Text, .recs (α := List UInt8) [] E_string b1.f_Keys, .tree (α := S_api_Node) (S_api_Node.mk 0 [] [] []) pre_S_api_Node kids_S_api_Node b1.f_Kids])] (.exit 0) Q) (fun s => To 37 F0 w0 [(2, .val (.bool s))] [] .ret Q)) o → WL Tryd.prog 37 F0 w0 [(1, .own 1 0), (3, .val (.int .i64 v3))] [(1, 25, [.val (.int .i64 b1.f_Kind), .str b1.f_Text, .recs (α := List UInt8) [] E_string b1.f_Keys, .tree (α := S_api_Node) (S_api_Node.mk 0 [] [] []) pre_S_api_Node kids_S_api_Node b1.f_Kids])] (cI (cI (cB (cA (cB (cB (cF Tryd.f13))))))) Q := by
  induction k with
  | zero => intro v3 o h; cases h
  | succ k ih =>
    intro v3 o h hQ
    rw [ref08_short_l1] at h
    refine WL.round ?_
    refine Wp.seq ?_
    refine Wp.seq ?_
    refine Wp.region hΓ [] [] [] [1, 3, 13] [1] (K' := [(1, .own 1 0), (3, .val (.int .i64 v3)), (13, .val (.bool (decide (v3 < (List.length b1.f_Keys : Int)))))]) (L' := [(1, 25, [.val (.int .i64 b1.f_Kind), .str b1.f_Text, .recs (α := List UInt8) [] E_string b1.f_Keys, .tree (α := S_api_Node) (S_api_Node.mk 0 [] [] []) pre_S_api_Node kids_S_api_Node b1.f_Kids])]) (ob := []) (by kernel_rfl) AllP.nil ?_
    refine To.thenN ?_
    refine Wp.cond (b := (decide (v3 < (List.length b1.f_Keys : Int)))) (by kernel_rfl) (fun hb => ?_) (fun hb => ?_)
    · replace h := if_t hb h
      refine Wp.skip ?_
      refine To.thenN ?_
      refine Wp.seq ?_
      refine Wp.block ?_
      refine Wp.seq ?_
      obtain ⟨hc1, h⟩ := chk_of h
      refine Wp.region hΓ [] [] [] [1, 3, 22] [1] (K' := [(1, .own 1 0), (3, .val (.int .i64 v3)), (22, .val (.bool (decide ((List.length ((b1.f_Keys)[Int.toNat v3]?.getD []) : Int) > 200))))]) (L' := [(1, 25, [.val (.int .i64 b1.f_Kind), .str b1.f_Text, .recs (α := List UInt8) [] E_string b1.f_Keys, .tree (α := S_api_Node) (S_api_Node.mk 0 [] [] []) pre_S_api_Node kids_S_api_Node b1.f_Kids])]) (ob := [(decide (0 ≤ v3 ∧ v3 < (List.length b1.f_Keys : Int))) = true]) (by kernel_rfl) (AllP.cons hc1 AllP.nil) ?_
      refine To.thenN ?_
      refine Wp.cond (b := (decide ((List.length ((b1.f_Keys)[Int.toNat v3]?.getD []) : Int) > 200))) (by kernel_rfl) (fun hb => ?_) (fun hb => ?_)
      · replace h := if_t hb h
        refine Wp.seq ?_
        refine Wp.region hΓ [] [] [] [2] [] (K' := [(2, .val (.bool false))]) (L' := []) (ob := []) (by kernel_rfl) AllP.nil ?_
        refine To.thenN ?_
        refine Wp.ret ?_
        refine To.blockR ?_
        refine To.thenR ?_
        refine To.thenR ?_
        refine To.keep (kk := [2]) (kl := []) (K' := [(2, .val (.bool false))]) (L' := []) (by kernel_rfl) (by kernel_rfl) ?_
        cases h
        exact hQ
      · replace h := if_f hb h
        refine Wp.skip ?_
        refine To.blockN ?_
        refine To.thenN ?_
        refine Wp.region hΓ [] [] [] [1, 3] [1] (K' := [(1, .own 1 0), (3, .val (.int .i64 (IntKind.wrap .i64 (v3 + 1))))]) (L' := [(1, 25, [.val (.int .i64 b1.f_Kind), .str b1.f_Text, .recs (α := List UInt8) [] E_string b1.f_Keys, .tree (α := S_api_Node) (S_api_Node.mk 0 [] [] []) pre_S_api_Node kids_S_api_Node b1.f_Kids])]) (ob := []) (by kernel_rfl) AllP.nil ?_
        refine To.keep (kk := [1, 3]) (kl := [1]) (K' := [(1, .own 1 0), (3, .val (.int .i64 (IntKind.wrap .i64 (v3 + 1))))]) (L' := [(1, 25, [.val (.int .i64 b1.f_Kind), .str b1.f_Text, .recs (α := List UInt8) [] E_string b1.f_Keys, .tree (α := S_api_Node) (S_api_Node.mk 0 [] [] []) pre_S_api_Node kids_S_api_Node b1.f_Kids])]) (by kernel_rfl) (by kernel_rfl) ?_
        refine To.again ?_
        exact ih (IntKind.wrap .i64 (v3 + 1)) _ h hQ
    · replace h := if_f hb h
      refine Wp.exit ?_
      refine To.thenX ?_
      refine To.thenX ?_
      refine To.keep (kk := [1]) (kl := [1]) (K' := [(1, .own 1 0)]) (L' := [(1, 25, [.val (.int .i64 b1.f_Kind), .str b1.f_Text, .recs (α := List UInt8) [] E_string b1.f_Keys, .tree (α := S_api_Node) (S_api_Node.mk 0 [] [] []) pre_S_api_Node kids_S_api_Node b1.f_Kids])]) (by kernel_rfl) (by kernel_rfl) ?_
      cases h
      exact hQ
def ref08_short_l2 (R_ref08_short : S_api_Node → Option (Bool)) (n : Nat) (b1 : S_api_Node) : Nat → Int → Option (Sum (Unit) (Bool))
  | 0, _ => none
  | k + 1, v4 => if (decide (v4 < (List.length b1.f_Kids : Int))) = true then (if (decide (0 ≤ v4 ∧ v4 < (List.length b1.f_Kids : Int))) = true then ((R_ref08_short ((b1.f_Kids)[Int.toNat v4]?.getD (S_api_Node.mk 0 [] [] []))).bind fun r2 =>
  if (!r2) = true then (some (.inr false))
  else (ref08_short_l2 R_ref08_short n b1 k (IntKind.wrap .i64 (v4 + 1)))) else none)
  else (some (.inl ()))
theorem ok_ref08_short_l2 (R_ref08_short : S_api_Node → Option (Bool)) (hR_ref08_short : ∀ (a0 : S_api_Node) (r : Bool), R_ref08_short a0 = some r → CallsX Tryd.prog 13 [.agg [.val (.int .i64 a0.f_Kind), .str a0.f_Text, .recs (α := List UInt8) [] E_string a0.f_Keys, .tree (α := S_api_Node) (S_api_Node.mk 0 [] [] []) pre_S_api_Node kids_S_api_Node a0.f_Kids]] (.val (.bool r))) (n : Nat) (b1 : S_api_Node) {F0 : Fz} {w0 : Pt Tryd.prog} {Q : Exit → Act → World → Prop} (k : Nat) : ∀ (v4 : Int) (o : Sum (Unit) (Bool)), ref08_short_l2 R_ref08_short n b1 k v4 = some o → (Sum.elim (fun s => To 37 F0 w0 [] [] (.exit 2) Q) (fun s => To 37 F0 w0 [(2, .val (.bool s))] [] .ret Q)) o → WL Tryd.prog 37 F0 w0 [(1, .own 1 0), (4, .val (.int .i64 v4))] [(1, 25, [.val (.int .i64 b1.f_Kind), .str b1.f_Text, .recs (α := List UInt8) [] E_string b1.f_Keys, .tree (α := S_api_Node) (S_api_Node.mk 0 [] [] []) pre_S_api_Node kids_S_api_Node b1.f_Kids])] (cI (cI (cB (cA (cB (cB (cB (cF Tryd.f13)))))))) Q := by
  induction k with
  | zero => intro v4 o h; cases h
  | succ k ih =>
    intro v4 o h hQ
    rw [ref08_short_l2] at h
    refine WL.round ?_
    refine Wp.seq ?_
    refine Wp.seq ?_
    refine Wp.region hΓ [] [] [] [1, 4, 27] [1] (K' := [(1, .own 1 0), (4, .val (.int .i64 v4)), (27, .val (.bool (decide (v4 < (List.length b1.f_Kids : Int)))))]) (L' := [(1, 25, [.val (.int .i64 b1.f_Kind), .str b1.f_Text, .recs (α := List UInt8) [] E_string b1.f_Keys, .tree (α := S_api_Node) (S_api_Node.mk 0 [] [] []) pre_S_api_Node kids_S_api_Node b1.f_Kids])]) (ob := []) (by kernel_rfl) AllP.nil ?_
    refine To.thenN ?_
    refine Wp.cond (b := (decide (v4 < (List.length b1.f_Kids : Int)))) (by kernel_rfl) (fun hb => ?_) (fun hb => ?_)
    · replace h := if_t hb h
      refine Wp.skip ?_
      refine To.thenN ?_
      refine Wp.seq ?_
      refine Wp.block ?_
      refine Wp.seq ?_
      obtain ⟨hc3, h⟩ := chk_of h
      obtain ⟨r2, hr2, h⟩ := bind_of h
      refine Wp.region hΓ [] [(5, .val (.bool r2))] [] [1, 4, 36] [1] (K' := [(1, .own 1 0), (4, .val (.int .i64 v4)), (36, .val (.bool (!r2)))]) (L' := [(1, 25, [.val (.int .i64 b1.f_Kind), .str b1.f_Text, .recs (α := List UInt8) [] E_string b1.f_Keys, .tree (α := S_api_Node) (S_api_Node.mk 0 [] [] []) pre_S_api_Node kids_S_api_Node b1.f_Kids])]) (ob := [(decide (0 ≤ v4 ∧ v4 < (List.length b1.f_Kids : Int))) = true, (true = true → CX Tryd.prog 13 [.agg [.val (.int .i64 (((b1.f_Kids)[Int.toNat v4]?.getD (S_api_Node.mk 0 [] [] [])).f_Kind)), .str (((b1.f_Kids)[Int.toNat v4]?.getD (S_api_Node.mk 0 [] [] [])).f_Text), .recs (α := List UInt8) [] E_string (((b1.f_Kids)[Int.toNat v4]?.getD (S_api_Node.mk 0 [] [] [])).f_Keys), .tree (α := S_api_Node) (S_api_Node.mk 0 [] [] []) pre_S_api_Node kids_S_api_Node (((b1.f_Kids)[Int.toNat v4]?.getD (S_api_Node.mk 0 [] [] [])).f_Kids)]] (.val (.bool r2)))]) (by kernel_rfl) (AllP.cons hc3 (AllP.cons (fun _ => cx (hR_ref08_short ((b1.f_Kids)[Int.toNat v4]?.getD (S_api_Node.mk 0 [] [] [])) _ hr2)) AllP.nil)) ?_
      refine To.thenN ?_
      refine Wp.cond (b := (!r2)) (by kernel_rfl) (fun hb => ?_) (fun hb => ?_)
      · replace h := if_t hb h
        refine Wp.seq ?_
        refine Wp.region hΓ [] [] [] [2] [] (K' := [(2, .val (.bool false))]) (L' := []) (ob := []) (by kernel_rfl) AllP.nil ?_
        refine To.thenN ?_
        refine Wp.ret ?_
        refine To.blockR ?_
        refine To.thenR ?_
        refine To.thenR ?_
        refine To.keep (kk := [2]) (kl := []) (K' := [(2, .val (.bool false))]) (L' := []) (by kernel_rfl) (by kernel_rfl) ?_
        cases h
        exact hQ
      · replace h := if_f hb h
        refine Wp.skip ?_
        refine To.blockN ?_
        refine To.thenN ?_
        refine Wp.region hΓ [] [] [] [1, 4] [1] (K' := [(1, .own 1 0), (4, .val (.int .i64 (IntKind.wrap .i64 (v4 + 1))))]) (L' := [(1, 25, [.val (.int .i64 b1.f_Kind), .str b1.f_Text, .recs (α := List UInt8) [] E_string b1.f_Keys, .tree (α := S_api_Node) (S_api_Node.mk 0 [] [] []) pre_S_api_Node kids_S_api_Node b1.f_Kids])]) (ob := []) (by kernel_rfl) AllP.nil ?_
        refine To.keep (kk := [1, 4]) (kl := [1]) (K' := [(1, .own 1 0), (4, .val (.int .i64 (IntKind.wrap .i64 (v4 + 1))))]) (L' := [(1, 25, [.val (.int .i64 b1.f_Kind), .str b1.f_Text, .recs (α := List UInt8) [] E_string b1.f_Keys, .tree (α := S_api_Node) (S_api_Node.mk 0 [] [] []) pre_S_api_Node kids_S_api_Node b1.f_Kids])]) (by kernel_rfl) (by kernel_rfl) ?_
        refine To.again ?_
        exact ih (IntKind.wrap .i64 (v4 + 1)) _ h hQ
    · replace h := if_f hb h
      refine Wp.exit ?_
      refine To.thenX ?_
      refine To.thenX ?_
      refine To.keep (kk := []) (kl := []) (K' := []) (L' := []) (by kernel_rfl) (by kernel_rfl) ?_
      cases h
      exact hQ
def ref08_short_b (R_ref08_short : S_api_Node → Option (Bool)) (n : Nat) (a0 : S_api_Node) : Option (Bool) :=
  if (decide ((List.length a0.f_Text : Int) > 200)) = true then some false
  else ((ref08_short_l1 R_ref08_short n a0 n 0).bind fun o1 =>
  (Sum.elim (fun o1 => (ref08_short_l2 R_ref08_short n a0 n 0).bind fun o2 =>
  (Sum.elim (fun o2 => some true) (fun o2 => some o2)) o2) (fun o1 => some o1)) o1)
theorem ok_ref08_short_b (R_ref08_short : S_api_Node → Option (Bool)) (hR_ref08_short : ∀ (a0 : S_api_Node) (r : Bool), R_ref08_short a0 = some r → CallsX Tryd.prog 13 [.agg [.val (.int .i64 a0.f_Kind), .str a0.f_Text, .recs (α := List UInt8) [] E_string a0.f_Keys, .tree (α := S_api_Node) (S_api_Node.mk 0 [] [] []) pre_S_api_Node kids_S_api_Node a0.f_Kids]] (.val (.bool r))) (n : Nat) (a0 : S_api_Node) (r : Bool) (h : ref08_short_b R_ref08_short n a0 = some r) : CallsX Tryd.prog 13 [.agg [.val (.int .i64 a0.f_Kind), .str a0.f_Text, .recs (α := List UInt8) [] E_string a0.f_Keys, .tree (α := S_api_Node) (S_api_Node.mk 0 [] [] []) pre_S_api_Node kids_S_api_Node a0.f_Kids]] (.val (.bool r)) := by
  unfold ref08_short_b at h
  refine callsX_of (fn := Tryd.f13) (by kernel_rfl) rfl (by kernel_rfl) (Nat.le_of_ble_eq_true (by kernel_rfl)) fun F0 w0 _ => ?_
  refine Wp.keep (kk := [0]) (kl := []) (K' := [(0, .agg [.val (.int .i64 a0.f_Kind), .str a0.f_Text, .recs (α := List UInt8) [] E_string a0.f_Keys, .tree (α := S_api_Node) (S_api_Node.mk 0 [] [] []) pre_S_api_Node kids_S_api_Node a0.f_Kids])]) (L' := []) (by kernel_rfl) (by kernel_rfl) ?_
  refine Wp.seq ?_
  refine Wp.region hΓ [] [] [] [1] [1] (K' := [(1, .own 1 0)]) (L' := [(1, 25, [.val (.int .i64 a0.f_Kind), .str a0.f_Text, .recs (α := List UInt8) [] E_string a0.f_Keys, .tree (α := S_api_Node) (S_api_Node.mk 0 [] [] []) pre_S_api_Node kids_S_api_Node a0.f_Kids])]) (ob := []) (by kernel_rfl) AllP.nil ?_
  refine To.thenN ?_
  refine Wp.seq ?_
  refine Wp.seq ?_
  refine Wp.region hΓ [] [] [] [1, 8] [1] (K' := [(1, .own 1 0), (8, .val (.bool (decide ((List.length a0.f_Text : Int) > 200))))]) (L' := [(1, 25, [.val (.int .i64 a0.f_Kind), .str a0.f_Text, .recs (α := List UInt8) [] E_string a0.f_Keys, .tree (α := S_api_Node) (S_api_Node.mk 0 [] [] []) pre_S_api_Node kids_S_api_Node a0.f_Kids])]) (ob := []) (by kernel_rfl) AllP.nil ?_
  refine To.thenN ?_
  refine Wp.cond (b := (decide ((List.length a0.f_Text : Int) > 200))) (by kernel_rfl) (fun hb => ?_) (fun hb => ?_)
  · replace h := if_t hb h
    refine Wp.seq ?_
    refine Wp.region hΓ [] [] [] [2] [] (K' := [(2, .val (.bool false))]) (L' := []) (ob := []) (by kernel_rfl) AllP.nil ?_
    refine To.thenN ?_
    refine Wp.ret ?_
    refine To.thenR ?_
    refine To.keep (kk := [2]) (kl := []) (K' := [(2, .val (.bool false))]) (L' := []) (by kernel_rfl) (by kernel_rfl) ?_
    cases h
    exact To.done hΓ (by kernel_rfl)
  · replace h := if_f hb h
    refine Wp.skip ?_
    refine To.thenN ?_
    refine Wp.seq ?_
    refine Wp.seq ?_
    refine Wp.region hΓ [] [] [] [1, 3] [1] (K' := [(1, .own 1 0), (3, .val (.int .i64 0))]) (L' := [(1, 25, [.val (.int .i64 a0.f_Kind), .str a0.f_Text, .recs (α := List UInt8) [] E_string a0.f_Keys, .tree (α := S_api_Node) (S_api_Node.mk 0 [] [] []) pre_S_api_Node kids_S_api_Node a0.f_Kids])]) (ob := []) (by kernel_rfl) AllP.nil ?_
    refine To.thenN ?_
    refine Wp.block ?_
    obtain ⟨o1, ho1, h⟩ := bind_of h
    refine Wp.keep (kk := [1, 3]) (kl := [1]) (K' := [(1, .own 1 0), (3, .val (.int .i64 0))]) (L' := [(1, 25, [.val (.int .i64 a0.f_Kind), .str a0.f_Text, .recs (α := List UInt8) [] E_string a0.f_Keys, .tree (α := S_api_Node) (S_api_Node.mk 0 [] [] []) pre_S_api_Node kids_S_api_Node a0.f_Kids])]) (by kernel_rfl) (by kernel_rfl) ?_
    refine Wp.loopL ?_
    refine ok_ref08_short_l1 R_ref08_short hR_ref08_short n a0 n 0 o1 ho1 ?_
    rcases o1 with o1 | o1
    · replace h := sum_l h
      refine To.blockX ?_
      refine To.thenN ?_
      refine Wp.seq ?_
      refine Wp.seq ?_
      refine Wp.region hΓ [] [] [] [1, 4] [1] (K' := [(1, .own 1 0), (4, .val (.int .i64 0))]) (L' := [(1, 25, [.val (.int .i64 a0.f_Kind), .str a0.f_Text, .recs (α := List UInt8) [] E_string a0.f_Keys, .tree (α := S_api_Node) (S_api_Node.mk 0 [] [] []) pre_S_api_Node kids_S_api_Node a0.f_Kids])]) (ob := []) (by kernel_rfl) AllP.nil ?_
      refine To.thenN ?_
      refine Wp.block ?_
      obtain ⟨o2, ho2, h⟩ := bind_of h
      refine Wp.keep (kk := [1, 4]) (kl := [1]) (K' := [(1, .own 1 0), (4, .val (.int .i64 0))]) (L' := [(1, 25, [.val (.int .i64 a0.f_Kind), .str a0.f_Text, .recs (α := List UInt8) [] E_string a0.f_Keys, .tree (α := S_api_Node) (S_api_Node.mk 0 [] [] []) pre_S_api_Node kids_S_api_Node a0.f_Kids])]) (by kernel_rfl) (by kernel_rfl) ?_
      refine Wp.loopL ?_
      refine ok_ref08_short_l2 R_ref08_short hR_ref08_short n a0 n 0 o2 ho2 ?_
      rcases o2 with o2 | o2
      · replace h := sum_l h
        refine To.blockX ?_
        refine To.thenN ?_
        refine Wp.seq ?_
        refine Wp.region hΓ [] [] [] [2] [] (K' := [(2, .val (.bool true))]) (L' := []) (ob := []) (by kernel_rfl) AllP.nil ?_
        refine To.thenN ?_
        refine Wp.ret ?_
        refine To.keep (kk := [2]) (kl := []) (K' := [(2, .val (.bool true))]) (L' := []) (by kernel_rfl) (by kernel_rfl) ?_
        cases h
        exact To.done hΓ (by kernel_rfl)
      · replace h := sum_r h
        refine To.blockR ?_
        refine To.thenR ?_
        refine To.keep (kk := [2]) (kl := []) (K' := [(2, .val (.bool o2))]) (L' := []) (by kernel_rfl) (by kernel_rfl) ?_
        cases h
        exact To.done hΓ (by kernel_rfl)
    · replace h := sum_r h
      refine To.blockR ?_
      refine To.thenR ?_
      refine To.keep (kk := [2]) (kl := []) (K' := [(2, .val (.bool o1))]) (L' := []) (by kernel_rfl) (by kernel_rfl) ?_
      cases h
      exact To.done hΓ (by kernel_rfl)
def ref08_short : Nat → S_api_Node → Option (Bool)
  | 0 => fun _ => none
  | n + 1 => ref08_short_b (ref08_short n) n
theorem ok_ref08_short (n : Nat) : ∀ (a0 : S_api_Node) (r : Bool), ref08_short n a0 = some r → CallsX Tryd.prog 13 [.agg [.val (.int .i64 a0.f_Kind), .str a0.f_Text, .recs (α := List UInt8) [] E_string a0.f_Keys, .tree (α := S_api_Node) (S_api_Node.mk 0 [] [] []) pre_S_api_Node kids_S_api_Node a0.f_Kids]] (.val (.bool r)) := by
  induction n with
  | zero => intro a0 r h; cases h
  | succ n ih => exact fun a0 r h => ok_ref08_short_b (ref08_short n) ih n a0 r h
def ref08_Small (n : Nat) (a0 : S_api_Node) (a1 : Int) : Option (Bool) :=
  (ref08_Left n a0 1 a1).bind fun r1 =>
  ((if ((decide (r1 ≥ 0)) == true) = true then ref08_short n a0 else some false)).bind fun r2 =>
  some (bif (decide (r1 ≥ 0)) then r2 else false)
theorem ok_ref08_Small (n : Nat) (a0 : S_api_Node) (a1 : Int) (r : Bool) (h : ref08_Small n a0 a1 = some r) : CallsX Tryd.prog 5 [.agg [.val (.int .i64 a0.f_Kind), .str a0.f_Text, .recs (α := List UInt8) [] E_string a0.f_Keys, .tree (α := S_api_Node) (S_api_Node.mk 0 [] [] []) pre_S_api_Node kids_S_api_Node a0.f_Kids], .val (.int .i64 a1)] (.val (.bool r)) := by
  unfold ref08_Small at h
  refine callsX_of (fn := Tryd.f5) (by kernel_rfl) rfl (by kernel_rfl) (Nat.le_of_ble_eq_true (by kernel_rfl)) fun F0 w0 _ => ?_
  refine Wp.keep (kk := [0, 1]) (kl := []) (K' := [(0, .agg [.val (.int .i64 a0.f_Kind), .str a0.f_Text, .recs (α := List UInt8) [] E_string a0.f_Keys, .tree (α := S_api_Node) (S_api_Node.mk 0 [] [] []) pre_S_api_Node kids_S_api_Node a0.f_Kids]), (1, .val (.int .i64 a1))]) (L' := []) (by kernel_rfl) (by kernel_rfl) ?_
  refine Wp.seq ?_
  refine Wp.region hΓ [] [] [] [1, 2] [2] (K' := [(1, .val (.int .i64 a1)), (2, .own 2 0)]) (L' := [(2, 25, [.val (.int .i64 a0.f_Kind), .str a0.f_Text, .recs (α := List UInt8) [] E_string a0.f_Keys, .tree (α := S_api_Node) (S_api_Node.mk 0 [] [] []) pre_S_api_Node kids_S_api_Node a0.f_Kids])]) (ob := []) (by kernel_rfl) AllP.nil ?_
  refine To.thenN ?_
  refine Wp.seq ?_
  obtain ⟨r1, hr1, h⟩ := bind_of h
  obtain ⟨r2, hr2, h⟩ := bind_of h
  refine Wp.region hΓ [] [(2, .val (.int .i64 r1)), (6, .val (.bool r2))] [] [4] [] (K' := [(4, .val (.bool (bif (decide (r1 ≥ 0)) then r2 else false)))]) (L' := []) (ob := [(true = true → CX Tryd.prog 12 [.agg [.val (.int .i64 a0.f_Kind), .str a0.f_Text, .recs (α := List UInt8) [] E_string a0.f_Keys, .tree (α := S_api_Node) (S_api_Node.mk 0 [] [] []) pre_S_api_Node kids_S_api_Node a0.f_Kids], .val (.int .i64 1), .val (.int .i64 a1)] (.val (.int .i64 r1))), (((decide (r1 ≥ 0)) == true) = true → CX Tryd.prog 13 [.agg [.val (.int .i64 a0.f_Kind), .str a0.f_Text, .recs (α := List UInt8) [] E_string a0.f_Keys, .tree (α := S_api_Node) (S_api_Node.mk 0 [] [] []) pre_S_api_Node kids_S_api_Node a0.f_Kids]] (.val (.bool r2)))]) (by kernel_rfl) (AllP.cons (fun _ => cx (ok_ref08_Left n a0 1 a1 _ hr1)) (AllP.cons (fun hg => cx (ok_ref08_short n a0 _ (if_t hg hr2))) AllP.nil)) ?_
  refine To.thenN ?_
  refine Wp.ret ?_
  refine To.keep (kk := [4]) (kl := []) (K' := [(4, .val (.bool (bif (decide (r1 ≥ 0)) then r2 else false)))]) (L' := []) (by kernel_rfl) (by kernel_rfl) ?_
  cases h
  exact To.done hΓ (by kernel_rfl)
structure S_flow_reader where
  f_s : List UInt8
  f_at : Int
  f_bad : Bool
def flow_reader_next__o0_l1 (n : Nat) : Nat → S_flow_reader → Option (S_flow_reader)
  | 0, _ => none
  | k + 1, b1000000 => if ((!((decide (b1000000.f_at < (List.length b1000000.f_s : Int))) == true) || decide (0 ≤ b1000000.f_at ∧ b1000000.f_at < (List.length b1000000.f_s : Int)))) = true then (lett ((bif (decide (b1000000.f_at < (List.length b1000000.f_s : Int))) then ((((b1000000.f_s)[Int.toNat b1000000.f_at]?.getD 0).toNat : Int) == 32) else false) : Bool) fun x1 =>
  if x1 = true then (flow_reader_next__o0_l1 n k (S_flow_reader.mk b1000000.f_s (IntKind.wrap .i64 (b1000000.f_at + 1)) b1000000.f_bad))
  else some b1000000) else none
theorem ok_flow_reader_next__o0_l1 (n : Nat) {F0 : Fz} {w0 : Pt Tryd.prog} {Q : Exit → Act → World → Prop} (k : Nat) : ∀ (b1000000 : S_flow_reader) (o : S_flow_reader), flow_reader_next__o0_l1 n k b1000000 = some o → To 51 F0 w0 [(0, .own 1000000 0)] [(1000000, 40, [.str o.f_s, .val (.int .i64 o.f_at), .val (.bool o.f_bad)])] (.exit 0) Q → WL Tryd.prog 51 F0 w0 [(0, .own 1000000 0)] [(1000000, 40, [.str b1000000.f_s, .val (.int .i64 b1000000.f_at), .val (.bool b1000000.f_bad)])] (cI (cI (cA (cB (cF Tryd.f18))))) Q := by
  induction k with
  | zero => intro b1000000 o h; cases h
  | succ k ih =>
    intro b1000000 o h hQ
    rw [flow_reader_next__o0_l1] at h
    refine WL.round ?_
    refine Wp.seq ?_
    refine Wp.seq ?_
    obtain ⟨hc2, h⟩ := chk_of h
    obtain ⟨x1, hx1, h⟩ := lett_of h
    refine Wp.regionD hm hΓ [] [0, 24] [1000000] (K' := [(0, .own 1000000 0), (24, .val (.bool (bif (decide (b1000000.f_at < (List.length b1000000.f_s : Int))) then ((((b1000000.f_s)[Int.toNat b1000000.f_at]?.getD 0).toNat : Int) == 32) else false)))]) (L' := [(1000000, 40, [.str b1000000.f_s, .val (.int .i64 b1000000.f_at), .val (.bool b1000000.f_bad)])]) (ob := [(!((decide (b1000000.f_at < (List.length b1000000.f_s : Int))) == true) || decide (0 ≤ b1000000.f_at ∧ b1000000.f_at < (List.length b1000000.f_s : Int))) = true]) (by kernel_rfl) (AllP.cons hc2 AllP.nil) ?_
    refine To.eq (K' := [(0, .own 1000000 0), (24, .val (.bool x1))]) (L' := [(1000000, 40, [.str b1000000.f_s, .val (.int .i64 b1000000.f_at), .val (.bool b1000000.f_bad)])]) (by cases hx1; rfl) (by cases hx1; rfl) ?_
    refine To.thenN ?_
    refine Wp.cond (b := x1) (by kernel_rfl) (fun hb => ?_) (fun hb => ?_)
    · replace h := if_t hb h
      refine Wp.skip ?_
      refine To.thenN ?_
      refine Wp.block ?_
      refine Wp.region hΓ [] [] [] [0] [1000000] (K' := [(0, .own 1000000 0)]) (L' := [(1000000, 40, [.str b1000000.f_s, .val (.int .i64 (IntKind.wrap .i64 (b1000000.f_at + 1))), .val (.bool b1000000.f_bad)])]) (ob := []) (by kernel_rfl) AllP.nil ?_
      refine To.blockN ?_
      refine To.keep (kk := [0]) (kl := [1000000]) (K' := [(0, .own 1000000 0)]) (L' := [(1000000, 40, [.str b1000000.f_s, .val (.int .i64 (IntKind.wrap .i64 (b1000000.f_at + 1))), .val (.bool b1000000.f_bad)])]) (by kernel_rfl) (by kernel_rfl) ?_
      refine To.again ?_
      exact ih (S_flow_reader.mk b1000000.f_s (IntKind.wrap .i64 (b1000000.f_at + 1)) b1000000.f_bad) _ h hQ
    · replace h := if_f hb h
      refine Wp.exit ?_
      refine To.thenX ?_
      refine To.thenX ?_
      refine To.keep (kk := [0]) (kl := [1000000]) (K' := [(0, .own 1000000 0)]) (L' := [(1000000, 40, [.str b1000000.f_s, .val (.int .i64 b1000000.f_at), .val (.bool b1000000.f_bad)])]) (by kernel_rfl) (by kernel_rfl) ?_
      cases h
      exact hQ
def flow_reader_next__o0 (n : Nat) (h0 : S_flow_reader) : Option (Int × S_flow_reader) :=
  (flow_reader_next__o0_l1 n n h0).bind fun o1 =>
  if (o1.f_at == (List.length o1.f_s : Int)) = true then (some (0, o1))
  else (if (decide (0 ≤ o1.f_at ∧ o1.f_at < (List.length o1.f_s : Int))) = true then (some ((((o1.f_s)[Int.toNat o1.f_at]?.getD 0).toNat : Int), o1)) else none)
theorem ok_flow_reader_next__o0 (n : Nat) (h0 : S_flow_reader) (r : Int × S_flow_reader) (h : flow_reader_next__o0 n h0 = some r) : CallsB Tryd.prog 18 [.own 1000000 0] [(1000000, 40, [.str h0.f_s, .val (.int .i64 h0.f_at), .val (.bool h0.f_bad)])] (.val (.int .u8 r.1)) [(1000000, 40, [.str r.2.f_s, .val (.int .i64 r.2.f_at), .val (.bool r.2.f_bad)])] := by
  unfold flow_reader_next__o0 at h
  refine callsB_of (fn := Tryd.f18) (by kernel_rfl) rfl (by kernel_rfl) (Nat.le_of_ble_eq_true (by kernel_rfl)) fun F0 w0 => ?_
  refine Wp.keep (kk := [0]) (kl := [1000000]) (K' := [(0, .own 1000000 0)]) (L' := [(1000000, 40, [.str h0.f_s, .val (.int .i64 h0.f_at), .val (.bool h0.f_bad)])]) (by kernel_rfl) (by kernel_rfl) ?_
  refine Wp.seq ?_
  refine Wp.region hΓ [] [] [] [0] [1000000] (K' := [(0, .own 1000000 0)]) (L' := [(1000000, 40, [.str h0.f_s, .val (.int .i64 h0.f_at), .val (.bool h0.f_bad)])]) (ob := []) (by kernel_rfl) AllP.nil ?_
  refine To.thenN ?_
  refine Wp.seq ?_
  refine Wp.block ?_
  obtain ⟨o1, ho1, h⟩ := bind_of h
  refine Wp.keep (kk := [0]) (kl := [1000000]) (K' := [(0, .own 1000000 0)]) (L' := [(1000000, 40, [.str h0.f_s, .val (.int .i64 h0.f_at), .val (.bool h0.f_bad)])]) (by kernel_rfl) (by kernel_rfl) ?_
  refine Wp.loopL ?_
  refine ok_flow_reader_next__o0_l1 n n h0 o1 ho1 ?_
  refine To.blockX ?_
  refine To.thenN ?_
  refine Wp.seq ?_
  refine Wp.seq ?_
  refine Wp.regionD hm hΓ [] [0, 41] [1000000] (K' := [(0, .own 1000000 0), (41, .val (.bool (o1.f_at == (List.length o1.f_s : Int))))]) (L' := [(1000000, 40, [.str o1.f_s, .val (.int .i64 o1.f_at), .val (.bool o1.f_bad)])]) (ob := []) (by kernel_rfl) AllP.nil ?_
  refine To.thenN ?_
  refine Wp.cond (b := (o1.f_at == (List.length o1.f_s : Int))) (by kernel_rfl) (fun hb => ?_) (fun hb => ?_)
  · replace h := if_t hb h
    refine Wp.seq ?_
    refine Wp.region hΓ [] [] [] [2] [1000000] (K' := [(2, .val (.int .u8 0))]) (L' := [(1000000, 40, [.str o1.f_s, .val (.int .i64 o1.f_at), .val (.bool o1.f_bad)])]) (ob := []) (by kernel_rfl) AllP.nil ?_
    refine To.thenN ?_
    refine Wp.ret ?_
    refine To.thenR ?_
    refine To.keep (kk := [2]) (kl := [1000000]) (K' := [(2, .val (.int .u8 0))]) (L' := [(1000000, 40, [.str o1.f_s, .val (.int .i64 o1.f_at), .val (.bool o1.f_bad)])]) (by kernel_rfl) (by kernel_rfl) ?_
    cases h
    exact To.doneB hΓ [1000000] (by kernel_rfl) (by kernel_rfl)
  · replace h := if_f hb h
    refine Wp.skip ?_
    refine To.thenN ?_
    refine Wp.seq ?_
    obtain ⟨hc2, h⟩ := chk_of h
    refine Wp.regionD hm hΓ [] [2] [1000000] (K' := [(2, .val (.int .u8 (((o1.f_s)[Int.toNat o1.f_at]?.getD 0).toNat : Int)))]) (L' := [(1000000, 40, [.str o1.f_s, .val (.int .i64 o1.f_at), .val (.bool o1.f_bad)])]) (ob := [(decide (0 ≤ o1.f_at ∧ o1.f_at < (List.length o1.f_s : Int))) = true]) (by kernel_rfl) (AllP.cons hc2 AllP.nil) ?_
    refine To.thenN ?_
    refine Wp.ret ?_
    refine To.keep (kk := [2]) (kl := [1000000]) (K' := [(2, .val (.int .u8 (((o1.f_s)[Int.toNat o1.f_at]?.getD 0).toNat : Int)))]) (L' := [(1000000, 40, [.str o1.f_s, .val (.int .i64 o1.f_at), .val (.bool o1.f_bad)])]) (by kernel_rfl) (by kernel_rfl) ?_
    cases h
    exact To.doneB hΓ [1000000] (by kernel_rfl) (by kernel_rfl)
def flow_reader_take__o0 (n : Nat) (a1 : Int) (h0 : S_flow_reader) : Option (Bool × S_flow_reader) :=
  (flow_reader_next__o0 n h0).bind fun r1 =>
  if (r1.1 != a1) = true then (some (false, r1.2))
  else (some (true, (S_flow_reader.mk r1.2.f_s (IntKind.wrap .i64 (r1.2.f_at + 1)) r1.2.f_bad)))
theorem ok_flow_reader_take__o0 (n : Nat) (a1 : Int) (h0 : S_flow_reader) (r : Bool × S_flow_reader) (h : flow_reader_take__o0 n a1 h0 = some r) : CallsB Tryd.prog 46 [.own 1000000 0, .val (.int .u8 a1)] [(1000000, 40, [.str h0.f_s, .val (.int .i64 h0.f_at), .val (.bool h0.f_bad)])] (.val (.bool r.1)) [(1000000, 40, [.str r.2.f_s, .val (.int .i64 r.2.f_at), .val (.bool r.2.f_bad)])] := by
  unfold flow_reader_take__o0 at h
  refine callsB_of (fn := Tryd.f46) (by kernel_rfl) rfl (by kernel_rfl) (Nat.le_of_ble_eq_true (by kernel_rfl)) fun F0 w0 => ?_
  refine Wp.keep (kk := [0, 1]) (kl := [1000000]) (K' := [(0, .own 1000000 0), (1, .val (.int .u8 a1))]) (L' := [(1000000, 40, [.str h0.f_s, .val (.int .i64 h0.f_at), .val (.bool h0.f_bad)])]) (by kernel_rfl) (by kernel_rfl) ?_
  refine Wp.seq ?_
  refine Wp.region hΓ [] [] [] [0, 1] [1000000] (K' := [(0, .own 1000000 0), (1, .val (.int .u8 a1))]) (L' := [(1000000, 40, [.str h0.f_s, .val (.int .i64 h0.f_at), .val (.bool h0.f_bad)])]) (ob := []) (by kernel_rfl) AllP.nil ?_
  refine To.thenN ?_
  refine Wp.seq ?_
  refine Wp.seq ?_
  obtain ⟨r1, hr1, h⟩ := bind_of h
  refine Wp.region hΓ [] [] [(1, ⟨[(1000000, 1000000)], [(1000000, 1000000)], [.own 1000000 0], [(1000000, 40, [.str h0.f_s, .val (.int .i64 h0.f_at), .val (.bool h0.f_bad)])], .val (.int .u8 r1.1), [(1000000, 40, [.str r1.2.f_s, .val (.int .i64 r1.2.f_at), .val (.bool r1.2.f_bad)])]⟩)] [0, 8] [1000000] (K' := [(0, .own 1000000 0), (8, .val (.bool (r1.1 != a1)))]) (L' := [(1000000, 40, [.str r1.2.f_s, .val (.int .i64 r1.2.f_at), .val (.bool r1.2.f_bad)])]) (ob := [CbOb (CallsB Tryd.prog) 18 [.own 1000000 0] [some (40, [.str h0.f_s, .val (.int .i64 h0.f_at), .val (.bool h0.f_bad)])] ⟨[(1000000, 1000000)], [(1000000, 1000000)], [.own 1000000 0], [(1000000, 40, [.str h0.f_s, .val (.int .i64 h0.f_at), .val (.bool h0.f_bad)])], .val (.int .u8 r1.1), [(1000000, 40, [.str r1.2.f_s, .val (.int .i64 r1.2.f_at), .val (.bool r1.2.f_bad)])]⟩]) (by kernel_rfl) (AllP.cons (⟨(ok_flow_reader_next__o0 n h0 _ hr1), by kernel_rfl, by kernel_rfl⟩) AllP.nil) ?_
  refine To.thenN ?_
  refine Wp.cond (b := (r1.1 != a1)) (by kernel_rfl) (fun hb => ?_) (fun hb => ?_)
  · replace h := if_t hb h
    refine Wp.seq ?_
    refine Wp.region hΓ [] [] [] [4] [1000000] (K' := [(4, .val (.bool false))]) (L' := [(1000000, 40, [.str r1.2.f_s, .val (.int .i64 r1.2.f_at), .val (.bool r1.2.f_bad)])]) (ob := []) (by kernel_rfl) AllP.nil ?_
    refine To.thenN ?_
    refine Wp.ret ?_
    refine To.thenR ?_
    refine To.keep (kk := [4]) (kl := [1000000]) (K' := [(4, .val (.bool false))]) (L' := [(1000000, 40, [.str r1.2.f_s, .val (.int .i64 r1.2.f_at), .val (.bool r1.2.f_bad)])]) (by kernel_rfl) (by kernel_rfl) ?_
    cases h
    exact To.doneB hΓ [1000000] (by kernel_rfl) (by kernel_rfl)
  · replace h := if_f hb h
    refine Wp.skip ?_
    refine To.thenN ?_
    refine Wp.seq ?_
    refine Wp.region hΓ [] [] [] [] [1000000] (K' := []) (L' := [(1000000, 40, [.str r1.2.f_s, .val (.int .i64 (IntKind.wrap .i64 (r1.2.f_at + 1))), .val (.bool r1.2.f_bad)])]) (ob := []) (by kernel_rfl) AllP.nil ?_
    refine To.thenN ?_
    refine Wp.seq ?_
    refine Wp.region hΓ [] [] [] [4] [1000000] (K' := [(4, .val (.bool true))]) (L' := [(1000000, 40, [.str r1.2.f_s, .val (.int .i64 (IntKind.wrap .i64 (r1.2.f_at + 1))), .val (.bool r1.2.f_bad)])]) (ob := []) (by kernel_rfl) AllP.nil ?_
    refine To.thenN ?_
    refine Wp.ret ?_
    refine To.keep (kk := [4]) (kl := [1000000]) (K' := [(4, .val (.bool true))]) (L' := [(1000000, 40, [.str r1.2.f_s, .val (.int .i64 (IntKind.wrap .i64 (r1.2.f_at + 1))), .val (.bool r1.2.f_bad)])]) (by kernel_rfl) (by kernel_rfl) ?_
    cases h
    exact To.doneB hΓ [1000000] (by kernel_rfl) (by kernel_rfl)
theorem good_E_api_Node (l : List (S_api_Node)) : GoodR (.recs (S_api_Node.mk 0 [] [] []) E_api_Node l) := ⟨Nat.le_of_ble_eq_true (by kernel_rfl), fun _ => ⟨rfl, rfl⟩⟩
mutual
def flow_reader_seq__o0_g1_e (R_flow_reader_value__o0 : S_flow_reader → Option (S_api_Node × Bool × S_flow_reader)) (n : Nat) : Nat → S_api_Node → S_flow_reader → Option (S_api_Node × S_flow_reader)
  | 0, _, _ => none
  | k + 1, b2, b1000000 => (flow_reader_take__o0 n 93 (S_flow_reader.mk b1000000.f_s (IntKind.wrap .i64 (b1000000.f_at + 1)) b1000000.f_bad)).bind fun r1 =>
  if r1.1 = true then (some ((S_api_Node.mk 2 [] [] []), r1.2))
  else ((R_flow_reader_value__o0 r1.2).bind fun r2 =>
  if (bif r2.2.2.f_bad then true else (!r2.2.1)) = true then (some ((S_api_Node.mk 2 [] [] []), (S_flow_reader.mk r2.2.2.f_s r2.2.2.f_at (bif r2.2.2.f_bad then true else (!r2.2.1)))))
  else (if (decide ((List.length ([] : List (S_api_Node)) + List.length ([r2.1] : List (S_api_Node))) * (72 + 1) ≤ limit)) = true then ((flow_reader_take__o0 n 44 (S_flow_reader.mk r2.2.2.f_s r2.2.2.f_at (bif r2.2.2.f_bad then true else (!r2.2.1)))).bind fun r3 =>
  if r3.1 = true then (flow_reader_seq__o0_g1_0 R_flow_reader_value__o0 n k b2 (S_api_Node.mk 2 [] [] (([] : List (S_api_Node)) ++ ([r2.1] : List (S_api_Node)))) r3.2)
  else ((flow_reader_take__o0 n 93 r3.2).bind fun r4 =>
  some ((S_api_Node.mk 2 [] [] (([] : List (S_api_Node)) ++ ([r2.1] : List (S_api_Node)))), (S_flow_reader.mk r4.2.f_s r4.2.f_at (!r4.1))))) else none))
def flow_reader_seq__o0_g1_0 (R_flow_reader_value__o0 : S_flow_reader → Option (S_api_Node × Bool × S_flow_reader)) (n : Nat) : Nat → S_api_Node → S_api_Node → S_flow_reader → Option (S_api_Node × S_flow_reader)
  | 0, _, _, _ => none
  | k + 1, b2, b3, b1000000 => (R_flow_reader_value__o0 b1000000).bind fun r1 =>
  if (bif r1.2.2.f_bad then true else (!r1.2.1)) = true then (some (b3, (S_flow_reader.mk r1.2.2.f_s r1.2.2.f_at (bif r1.2.2.f_bad then true else (!r1.2.1)))))
  else (if (decide ((List.length b3.f_Kids + List.length ([r1.1] : List (S_api_Node))) * (72 + 1) ≤ limit)) = true then ((flow_reader_take__o0 n 44 (S_flow_reader.mk r1.2.2.f_s r1.2.2.f_at (bif r1.2.2.f_bad then true else (!r1.2.1)))).bind fun r2 =>
  if r2.1 = true then (flow_reader_seq__o0_g1_0 R_flow_reader_value__o0 n k b2 (S_api_Node.mk b3.f_Kind b3.f_Text b3.f_Keys (b3.f_Kids ++ ([r1.1] : List (S_api_Node)))) r2.2)
  else ((flow_reader_take__o0 n 93 r2.2).bind fun r3 =>
  some ((S_api_Node.mk b3.f_Kind b3.f_Text b3.f_Keys (b3.f_Kids ++ ([r1.1] : List (S_api_Node)))), (S_flow_reader.mk r3.2.f_s r3.2.f_at (!r3.1))))) else none)
end
theorem ok_flow_reader_seq__o0_g1 (R_flow_reader_value__o0 : S_flow_reader → Option (S_api_Node × Bool × S_flow_reader)) (hR_flow_reader_value__o0 : ∀ (h0 : S_flow_reader) (r : S_api_Node × Bool × S_flow_reader), R_flow_reader_value__o0 h0 = some r → CallsB Tryd.prog 17 [.own 1000000 0] [(1000000, 40, [.str h0.f_s, .val (.int .i64 h0.f_at), .val (.bool h0.f_bad)])] (.tup [.agg [.val (.int .i64 r.1.f_Kind), .str r.1.f_Text, .recs (α := List UInt8) [] E_string r.1.f_Keys, .tree (α := S_api_Node) (S_api_Node.mk 0 [] [] []) pre_S_api_Node kids_S_api_Node r.1.f_Kids], .val (.bool r.2.1)]) [(1000000, 40, [.str r.2.2.f_s, .val (.int .i64 r.2.2.f_at), .val (.bool r.2.2.f_bad)])]) (n : Nat) {F0 : Fz} {w0 : Pt Tryd.prog} {Q : Exit → Act → World → Prop} (k : Nat) : (∀ (b2 : S_api_Node) (b1000000 : S_flow_reader) (o : S_api_Node × S_flow_reader), flow_reader_seq__o0_g1_e R_flow_reader_value__o0 n k b2 b1000000 = some o → To 53 F0 w0 [(2, .own 2 0)] [(2, 25, [.val (.int .i64 o.1.f_Kind), .str o.1.f_Text, .recs (α := List UInt8) [] E_string o.1.f_Keys, .row 4123]), (4123, 25, [.rowc false (α := S_api_Node) (S_api_Node.mk 0 [] [] []) E_api_Node o.1.f_Kids]), (1000000, 40, [.str o.2.f_s, .val (.int .i64 o.2.f_at), .val (.bool o.2.f_bad)])] .ret Q → WG Tryd.prog 53 F0 w0 [(0, .own 1000000 0), (2, .own 2 0)] [(2, 25, [.val (.int .i64 b2.f_Kind), .str b2.f_Text, .recs (α := List UInt8) [] E_string b2.f_Keys, .tree (α := S_api_Node) (S_api_Node.mk 0 [] [] []) pre_S_api_Node kids_S_api_Node b2.f_Kids]), (1000000, 40, [.str b1000000.f_s, .val (.int .i64 b1000000.f_at), .val (.bool b1000000.f_bad)])] (cI (cB (cF Tryd.f30))) (cI (cB (cF Tryd.f30))) Q) ∧
  (∀ (b2 : S_api_Node) (b3 : S_api_Node) (b1000000 : S_flow_reader) (o : S_api_Node × S_flow_reader), flow_reader_seq__o0_g1_0 R_flow_reader_value__o0 n k b2 b3 b1000000 = some o → To 53 F0 w0 [(2, .own 2 0)] [(2, 25, [.val (.int .i64 o.1.f_Kind), .str o.1.f_Text, .recs (α := List UInt8) [] E_string o.1.f_Keys, .row 4123]), (4123, 25, [.rowc false (α := S_api_Node) (S_api_Node.mk 0 [] [] []) E_api_Node o.1.f_Kids]), (1000000, 40, [.str o.2.f_s, .val (.int .i64 o.2.f_at), .val (.bool o.2.f_bad)])] .ret Q → WG Tryd.prog 53 F0 w0 [(0, .own 1000000 0), (2, .own 2 0), (3, .own 3 0)] [(2, 25, [.val (.int .i64 b2.f_Kind), .str b2.f_Text, .recs (α := List UInt8) [] E_string b2.f_Keys, .tree (α := S_api_Node) (S_api_Node.mk 0 [] [] []) pre_S_api_Node kids_S_api_Node b2.f_Kids]), (3, 25, [.val (.int .i64 b3.f_Kind), .str b3.f_Text, .recs (α := List UInt8) [] E_string b3.f_Keys, .row 4183]), (4183, 25, [.rowc false (α := S_api_Node) (S_api_Node.mk 0 [] [] []) E_api_Node b3.f_Kids]), (1000000, 40, [.str b1000000.f_s, .val (.int .i64 b1000000.f_at), .val (.bool b1000000.f_bad)])] (cI (cB (cF Tryd.f30))) (cG 0 (cB (cF Tryd.f30))) Q) := by
  induction k with
  | zero => exact ⟨(by intro b2 b1000000 o h; cases h), (by intro b2 b3 b1000000 o h; cases h)⟩
  | succ k ih =>
    refine ⟨?_, ?_⟩
    · intro b2 b1000000 o h hQ
      rw [flow_reader_seq__o0_g1_e] at h
      refine WG.pass ?_
      refine Wp.seq ?_
      refine Wp.region hΓ [] [] [] [0, 2, 3] [2, 3, 1000000] (K' := [(0, .own 1000000 0), (2, .own 2 0), (3, .own 3 0)]) (L' := [(2, 25, [.val (.int .i64 b2.f_Kind), .str b2.f_Text, .recs (α := List UInt8) [] E_string b2.f_Keys, .tree (α := S_api_Node) (S_api_Node.mk 0 [] [] []) pre_S_api_Node kids_S_api_Node b2.f_Kids]), (3, 25, [.val (.int .i64 2), .str [], .val (.slice none 0 0), .val (.slice none 0 0)]), (1000000, 40, [.str b1000000.f_s, .val (.int .i64 b1000000.f_at), .val (.bool b1000000.f_bad)])]) (ob := []) (by kernel_rfl) AllP.nil ?_
      refine To.thenN ?_
      refine Wp.seq ?_
      refine Wp.region hΓ [] [] [] [0, 2, 3] [2, 3, 1000000] (K' := [(0, .own 1000000 0), (2, .own 2 0), (3, .own 3 0)]) (L' := [(2, 25, [.val (.int .i64 b2.f_Kind), .str b2.f_Text, .recs (α := List UInt8) [] E_string b2.f_Keys, .tree (α := S_api_Node) (S_api_Node.mk 0 [] [] []) pre_S_api_Node kids_S_api_Node b2.f_Kids]), (3, 25, [.val (.int .i64 2), .str [], .val (.slice none 0 0), .val (.slice none 0 0)]), (1000000, 40, [.str b1000000.f_s, .val (.int .i64 (IntKind.wrap .i64 (b1000000.f_at + 1))), .val (.bool b1000000.f_bad)])]) (ob := []) (by kernel_rfl) AllP.nil ?_
      refine To.thenN ?_
      refine Wp.seq ?_
      refine Wp.seq ?_
      obtain ⟨r1, hr1, h⟩ := bind_of h
      refine Wp.region hΓ [] [] [(1, ⟨[(1000000, 1000000)], [(1000000, 1000000)], [.own 1000000 0, .val (.int .u8 93)], [(1000000, 40, [.str b1000000.f_s, .val (.int .i64 (IntKind.wrap .i64 (b1000000.f_at + 1))), .val (.bool b1000000.f_bad)])], .val (.bool r1.1), [(1000000, 40, [.str r1.2.f_s, .val (.int .i64 r1.2.f_at), .val (.bool r1.2.f_bad)])]⟩)] [0, 2, 3, 15] [2, 3, 1000000] (K' := [(0, .own 1000000 0), (2, .own 2 0), (3, .own 3 0), (15, .val (.bool r1.1))]) (L' := [(2, 25, [.val (.int .i64 b2.f_Kind), .str b2.f_Text, .recs (α := List UInt8) [] E_string b2.f_Keys, .tree (α := S_api_Node) (S_api_Node.mk 0 [] [] []) pre_S_api_Node kids_S_api_Node b2.f_Kids]), (3, 25, [.val (.int .i64 2), .str [], .val (.slice none 0 0), .val (.slice none 0 0)]), (1000000, 40, [.str r1.2.f_s, .val (.int .i64 r1.2.f_at), .val (.bool r1.2.f_bad)])]) (ob := [CbOb (CallsB Tryd.prog) 46 [.own 1000000 0, .val (.int .u8 93)] [some (40, [.str b1000000.f_s, .val (.int .i64 (IntKind.wrap .i64 (b1000000.f_at + 1))), .val (.bool b1000000.f_bad)])] ⟨[(1000000, 1000000)], [(1000000, 1000000)], [.own 1000000 0, .val (.int .u8 93)], [(1000000, 40, [.str b1000000.f_s, .val (.int .i64 (IntKind.wrap .i64 (b1000000.f_at + 1))), .val (.bool b1000000.f_bad)])], .val (.bool r1.1), [(1000000, 40, [.str r1.2.f_s, .val (.int .i64 r1.2.f_at), .val (.bool r1.2.f_bad)])]⟩]) (by kernel_rfl) (AllP.cons (⟨(ok_flow_reader_take__o0 n 93 (S_flow_reader.mk b1000000.f_s (IntKind.wrap .i64 (b1000000.f_at + 1)) b1000000.f_bad) _ hr1), by kernel_rfl, by kernel_rfl⟩) AllP.nil) ?_
      refine To.thenN ?_
      refine Wp.cond (b := r1.1) (by kernel_rfl) (fun hb => ?_) (fun hb => ?_)
      · replace h := if_t hb h
        refine Wp.seq ?_
        refine Wp.region hΓ [] [] [] [2] [2, 1000000] (K' := [(2, .own 2 0)]) (L' := [(2, 25, [.val (.int .i64 2), .str [], .val (.slice none 0 0), .val (.slice none 0 0)]), (1000000, 40, [.str r1.2.f_s, .val (.int .i64 r1.2.f_at), .val (.bool r1.2.f_bad)])]) (ob := []) (by kernel_rfl) AllP.nil ?_
        refine To.thenN ?_
        refine Wp.ret ?_
        refine To.thenR ?_
        refine To.goesO (.inr (.inl rfl)) ?_
        refine To.keep (kk := [2]) (kl := [2, 1000000]) (K' := [(2, .own 2 0)]) (L' := [(2, 25, [.val (.int .i64 2), .str [], .val (.slice none 0 0), .val (.slice none 0 0)]), (1000000, 40, [.str r1.2.f_s, .val (.int .i64 r1.2.f_at), .val (.bool r1.2.f_bad)])]) (by kernel_rfl) (by kernel_rfl) ?_
        refine To.pre (St.vacantB 2 3 4123 25 (good_E_api_Node _) (by decide) (by kernel_rfl) (L' := [(2, 25, [.val (.int .i64 2), .str [], .val (.slice none 0 0), .row 4123]), (1000000, 40, [.str r1.2.f_s, .val (.int .i64 r1.2.f_at), .val (.bool r1.2.f_bad)])]) (by kernel_rfl)) ?_
        refine To.keep (kk := [2]) (kl := [2, 4123, 1000000]) (K' := [(2, .own 2 0)]) (L' := [(2, 25, [.val (.int .i64 2), .str [], .val (.slice none 0 0), .row 4123]), (4123, 25, [.rowc false (α := S_api_Node) (S_api_Node.mk 0 [] [] []) E_api_Node []]), (1000000, 40, [.str r1.2.f_s, .val (.int .i64 r1.2.f_at), .val (.bool r1.2.f_bad)])]) (by kernel_rfl) (by kernel_rfl) ?_
        refine To.weak (K' := [(2, .own 2 0)]) (L' := [(2, 25, [.val (.int .i64 2), .str [], .recs (α := List UInt8) [] E_string [], .row 4123]), (4123, 25, [.rowc false (α := S_api_Node) (S_api_Node.mk 0 [] [] []) E_api_Node []]), (1000000, 40, [.str r1.2.f_s, .val (.int .i64 r1.2.f_at), .val (.bool r1.2.f_bad)])]) (.cons (.refl _) .nil) (.cons (.cons (.refl _) (.cons (.refl _) (.cons (.zero _ _) (.cons (.refl _) .nil)))) (.cons (.cons (.refl _) .nil) (.cons (.cons (.refl _) (.cons (.refl _) (.cons (.refl _) .nil))) .nil))) ?_
        cases h
        exact hQ
      · replace h := if_f hb h
        refine Wp.skip ?_
        refine To.thenN ?_
        refine Wp.seq ?_
        refine Wp.keep (kk := [0, 2, 3, 15]) (kl := [2, 3, 1000000]) (K' := [(0, .own 1000000 0), (2, .own 2 0), (3, .own 3 0), (15, .val (.bool r1.1))]) (L' := [(2, 25, [.val (.int .i64 b2.f_Kind), .str b2.f_Text, .recs (α := List UInt8) [] E_string b2.f_Keys, .tree (α := S_api_Node) (S_api_Node.mk 0 [] [] []) pre_S_api_Node kids_S_api_Node b2.f_Kids]), (3, 25, [.val (.int .i64 2), .str [], .val (.slice none 0 0), .val (.slice none 0 0)]), (1000000, 40, [.str r1.2.f_s, .val (.int .i64 r1.2.f_at), .val (.bool r1.2.f_bad)])]) (by kernel_rfl) (by kernel_rfl) ?_
        refine Wp.pre (St.vacantB 3 3 4183 25 (good_E_api_Node _) (by decide) (by kernel_rfl) (L' := [(2, 25, [.val (.int .i64 b2.f_Kind), .str b2.f_Text, .recs (α := List UInt8) [] E_string b2.f_Keys, .tree (α := S_api_Node) (S_api_Node.mk 0 [] [] []) pre_S_api_Node kids_S_api_Node b2.f_Kids]), (3, 25, [.val (.int .i64 2), .str [], .val (.slice none 0 0), .row 4183]), (1000000, 40, [.str r1.2.f_s, .val (.int .i64 r1.2.f_at), .val (.bool r1.2.f_bad)])]) (by kernel_rfl)) ?_
        refine Wp.keep (kk := [0, 2, 3, 15]) (kl := [2, 3, 4183, 1000000]) (K' := [(0, .own 1000000 0), (2, .own 2 0), (3, .own 3 0), (15, .val (.bool r1.1))]) (L' := [(2, 25, [.val (.int .i64 b2.f_Kind), .str b2.f_Text, .recs (α := List UInt8) [] E_string b2.f_Keys, .tree (α := S_api_Node) (S_api_Node.mk 0 [] [] []) pre_S_api_Node kids_S_api_Node b2.f_Kids]), (3, 25, [.val (.int .i64 2), .str [], .val (.slice none 0 0), .row 4183]), (4183, 25, [.rowc false (α := S_api_Node) (S_api_Node.mk 0 [] [] []) E_api_Node []]), (1000000, 40, [.str r1.2.f_s, .val (.int .i64 r1.2.f_at), .val (.bool r1.2.f_bad)])]) (by kernel_rfl) (by kernel_rfl) ?_
        refine Wp.label ?_
        refine To.thenN ?_
        refine Wp.seq ?_
        obtain ⟨r2, hr2, h⟩ := bind_of h
        refine Wp.region hΓ [] [] [(1, ⟨[(1000000, 1000000)], [(1000000, 1000000)], [.own 1000000 0], [(1000000, 40, [.str r1.2.f_s, .val (.int .i64 r1.2.f_at), .val (.bool r1.2.f_bad)])], .tup [.agg [.val (.int .i64 r2.1.f_Kind), .str r2.1.f_Text, .recs (α := List UInt8) [] E_string r2.1.f_Keys, .tree (α := S_api_Node) (S_api_Node.mk 0 [] [] []) pre_S_api_Node kids_S_api_Node r2.1.f_Kids], .val (.bool r2.2.1)], [(1000000, 40, [.str r2.2.2.f_s, .val (.int .i64 r2.2.2.f_at), .val (.bool r2.2.2.f_bad)])]⟩)] [0, 2, 3, 4, 5] [2, 3, 4, 4183, 1000000] (K' := [(0, .own 1000000 0), (2, .own 2 0), (3, .own 3 0), (4, .own 4 0), (5, .val (.bool r2.2.1))]) (L' := [(2, 25, [.val (.int .i64 b2.f_Kind), .str b2.f_Text, .recs (α := List UInt8) [] E_string b2.f_Keys, .tree (α := S_api_Node) (S_api_Node.mk 0 [] [] []) pre_S_api_Node kids_S_api_Node b2.f_Kids]), (3, 25, [.val (.int .i64 2), .str [], .val (.slice none 0 0), .row 4183]), (4, 25, [.val (.int .i64 r2.1.f_Kind), .str r2.1.f_Text, .recs (α := List UInt8) [] E_string r2.1.f_Keys, .tree (α := S_api_Node) (S_api_Node.mk 0 [] [] []) pre_S_api_Node kids_S_api_Node r2.1.f_Kids]), (4183, 25, [.rowc false (α := S_api_Node) (S_api_Node.mk 0 [] [] []) E_api_Node []]), (1000000, 40, [.str r2.2.2.f_s, .val (.int .i64 r2.2.2.f_at), .val (.bool r2.2.2.f_bad)])]) (ob := [CbOb (CallsB Tryd.prog) 17 [.own 1000000 0] [some (40, [.str r1.2.f_s, .val (.int .i64 r1.2.f_at), .val (.bool r1.2.f_bad)])] ⟨[(1000000, 1000000)], [(1000000, 1000000)], [.own 1000000 0], [(1000000, 40, [.str r1.2.f_s, .val (.int .i64 r1.2.f_at), .val (.bool r1.2.f_bad)])], .tup [.agg [.val (.int .i64 r2.1.f_Kind), .str r2.1.f_Text, .recs (α := List UInt8) [] E_string r2.1.f_Keys, .tree (α := S_api_Node) (S_api_Node.mk 0 [] [] []) pre_S_api_Node kids_S_api_Node r2.1.f_Kids], .val (.bool r2.2.1)], [(1000000, 40, [.str r2.2.2.f_s, .val (.int .i64 r2.2.2.f_at), .val (.bool r2.2.2.f_bad)])]⟩]) (by kernel_rfl) (AllP.cons (⟨(hR_flow_reader_value__o0 r1.2 _ hr2), by kernel_rfl, by kernel_rfl⟩) AllP.nil) ?_
        refine To.thenN ?_
        refine Wp.seq ?_
        refine Wp.seq ?_
        refine Wp.region hΓ [] [] [] [0, 2, 3, 4] [2, 3, 4, 4183, 1000000] (K' := [(0, .own 1000000 0), (2, .own 2 0), (3, .own 3 0), (4, .own 4 0)]) (L' := [(2, 25, [.val (.int .i64 b2.f_Kind), .str b2.f_Text, .recs (α := List UInt8) [] E_string b2.f_Keys, .tree (α := S_api_Node) (S_api_Node.mk 0 [] [] []) pre_S_api_Node kids_S_api_Node b2.f_Kids]), (3, 25, [.val (.int .i64 2), .str [], .val (.slice none 0 0), .row 4183]), (4, 25, [.val (.int .i64 r2.1.f_Kind), .str r2.1.f_Text, .recs (α := List UInt8) [] E_string r2.1.f_Keys, .tree (α := S_api_Node) (S_api_Node.mk 0 [] [] []) pre_S_api_Node kids_S_api_Node r2.1.f_Kids]), (4183, 25, [.rowc false (α := S_api_Node) (S_api_Node.mk 0 [] [] []) E_api_Node []]), (1000000, 40, [.str r2.2.2.f_s, .val (.int .i64 r2.2.2.f_at), .val (.bool (bif r2.2.2.f_bad then true else (!r2.2.1)))])]) (ob := []) (by kernel_rfl) AllP.nil ?_
        refine To.thenN ?_
        refine Wp.seq ?_
        refine Wp.region hΓ [] [] [] [0, 2, 3, 4, 36] [2, 3, 4, 4183, 1000000] (K' := [(0, .own 1000000 0), (2, .own 2 0), (3, .own 3 0), (4, .own 4 0), (36, .val (.bool (bif r2.2.2.f_bad then true else (!r2.2.1))))]) (L' := [(2, 25, [.val (.int .i64 b2.f_Kind), .str b2.f_Text, .recs (α := List UInt8) [] E_string b2.f_Keys, .tree (α := S_api_Node) (S_api_Node.mk 0 [] [] []) pre_S_api_Node kids_S_api_Node b2.f_Kids]), (3, 25, [.val (.int .i64 2), .str [], .val (.slice none 0 0), .row 4183]), (4, 25, [.val (.int .i64 r2.1.f_Kind), .str r2.1.f_Text, .recs (α := List UInt8) [] E_string r2.1.f_Keys, .tree (α := S_api_Node) (S_api_Node.mk 0 [] [] []) pre_S_api_Node kids_S_api_Node r2.1.f_Kids]), (4183, 25, [.rowc false (α := S_api_Node) (S_api_Node.mk 0 [] [] []) E_api_Node []]), (1000000, 40, [.str r2.2.2.f_s, .val (.int .i64 r2.2.2.f_at), .val (.bool (bif r2.2.2.f_bad then true else (!r2.2.1)))])]) (ob := []) (by kernel_rfl) AllP.nil ?_
        refine To.thenN ?_
        refine Wp.cond (b := (bif r2.2.2.f_bad then true else (!r2.2.1))) (by kernel_rfl) (fun hb => ?_) (fun hb => ?_)
        · replace h := if_t hb h
          refine Wp.seq ?_
          refine Wp.region hΓ [] [] [] [2] [2, 4183, 1000000] (K' := [(2, .own 2 0)]) (L' := [(2, 25, [.val (.int .i64 2), .str [], .val (.slice none 0 0), .row 4183]), (4183, 25, [.rowc false (α := S_api_Node) (S_api_Node.mk 0 [] [] []) E_api_Node []]), (1000000, 40, [.str r2.2.2.f_s, .val (.int .i64 r2.2.2.f_at), .val (.bool (bif r2.2.2.f_bad then true else (!r2.2.1)))])]) (ob := []) (by kernel_rfl) AllP.nil ?_
          refine To.thenN ?_
          refine Wp.ret ?_
          refine To.thenR ?_
          refine To.goesO (.inr (.inl rfl)) ?_
          refine To.keep (kk := [2]) (kl := [2, 4183, 1000000]) (K' := [(2, .own 2 0)]) (L' := [(2, 25, [.val (.int .i64 2), .str [], .val (.slice none 0 0), .row 4183]), (4183, 25, [.rowc false (α := S_api_Node) (S_api_Node.mk 0 [] [] []) E_api_Node []]), (1000000, 40, [.str r2.2.2.f_s, .val (.int .i64 r2.2.2.f_at), .val (.bool (bif r2.2.2.f_bad then true else (!r2.2.1)))])]) (by kernel_rfl) (by kernel_rfl) ?_
          refine To.pre (St.rename 4183 4123 (by decide) (K' := [(2, .own 2 0)]) (L' := [(2, 25, [.val (.int .i64 2), .str [], .val (.slice none 0 0), .row 4123]), (4123, 25, [.rowc false (α := S_api_Node) (S_api_Node.mk 0 [] [] []) E_api_Node []]), (1000000, 40, [.str r2.2.2.f_s, .val (.int .i64 r2.2.2.f_at), .val (.bool (bif r2.2.2.f_bad then true else (!r2.2.1)))])]) (by kernel_rfl) (by kernel_rfl) (by kernel_rfl)) ?_
          refine To.keep (kk := [2]) (kl := [2, 4123, 1000000]) (K' := [(2, .own 2 0)]) (L' := [(2, 25, [.val (.int .i64 2), .str [], .val (.slice none 0 0), .row 4123]), (4123, 25, [.rowc false (α := S_api_Node) (S_api_Node.mk 0 [] [] []) E_api_Node []]), (1000000, 40, [.str r2.2.2.f_s, .val (.int .i64 r2.2.2.f_at), .val (.bool (bif r2.2.2.f_bad then true else (!r2.2.1)))])]) (by kernel_rfl) (by kernel_rfl) ?_
          refine To.weak (K' := [(2, .own 2 0)]) (L' := [(2, 25, [.val (.int .i64 2), .str [], .recs (α := List UInt8) [] E_string [], .row 4123]), (4123, 25, [.rowc false (α := S_api_Node) (S_api_Node.mk 0 [] [] []) E_api_Node []]), (1000000, 40, [.str r2.2.2.f_s, .val (.int .i64 r2.2.2.f_at), .val (.bool (bif r2.2.2.f_bad then true else (!r2.2.1)))])]) (.cons (.refl _) .nil) (.cons (.cons (.refl _) (.cons (.refl _) (.cons (.zero _ _) (.cons (.refl _) .nil)))) (.cons (.cons (.refl _) .nil) (.cons (.cons (.refl _) (.cons (.refl _) (.cons (.refl _) .nil))) .nil))) ?_
          cases h
          exact hQ
        · replace h := if_f hb h
          refine Wp.skip ?_
          refine To.thenN ?_
          refine Wp.seq ?_
          obtain ⟨hc5, h⟩ := chk_of h
          refine Wp.region hΓ [] [(3, .recs (α := S_api_Node) (S_api_Node.mk 0 [] [] []) E_api_Node [r2.1]), (4, .recs (α := S_api_Node) (S_api_Node.mk 0 [] [] []) E_api_Node (([] : List (S_api_Node)) ++ ([r2.1] : List (S_api_Node))))] [] [0, 2, 3] [2, 3, 42, 1000000] (K' := [(0, .own 1000000 0), (2, .own 2 0), (3, .own 3 0)]) (L' := [(2, 25, [.val (.int .i64 b2.f_Kind), .str b2.f_Text, .recs (α := List UInt8) [] E_string b2.f_Keys, .tree (α := S_api_Node) (S_api_Node.mk 0 [] [] []) pre_S_api_Node kids_S_api_Node b2.f_Kids]), (3, 25, [.val (.int .i64 2), .str [], .val (.slice none 0 0), .row 42]), (42, 25, [.rowc false (α := S_api_Node) (S_api_Node.mk 0 [] [] []) E_api_Node (([] : List (S_api_Node)) ++ ([r2.1] : List (S_api_Node)))]), (1000000, 40, [.str r2.2.2.f_s, .val (.int .i64 r2.2.2.f_at), .val (.bool (bif r2.2.2.f_bad then true else (!r2.2.1)))])]) (ob := [(MkOb 4 [.val (.int .i64 r2.1.f_Kind), .str r2.1.f_Text, .recs (α := List UInt8) [] E_string r2.1.f_Keys, .tree (α := S_api_Node) (S_api_Node.mk 0 [] [] []) pre_S_api_Node kids_S_api_Node r2.1.f_Kids] 1 (.recs (α := S_api_Node) (S_api_Node.mk 0 [] [] []) E_api_Node [r2.1]) ∧ GoodR (.recs (α := S_api_Node) (S_api_Node.mk 0 [] [] []) E_api_Node [r2.1])), (decide ((List.length ([] : List (S_api_Node)) + List.length ([r2.1] : List (S_api_Node))) * (72 + 1) ≤ limit)) = true, (AppOb (S_api_Node.mk 0 [] [] []) E_api_Node ([] : List (S_api_Node)) (List.flatMap E_api_Node ([r2.1] : List (S_api_Node))) (List.length ([r2.1] : List (S_api_Node))) (.recs (α := S_api_Node) (S_api_Node.mk 0 [] [] []) E_api_Node (([] : List (S_api_Node)) ++ ([r2.1] : List (S_api_Node)))) ∧ GoodR (.recs (α := S_api_Node) (S_api_Node.mk 0 [] [] []) E_api_Node (([] : List (S_api_Node)) ++ ([r2.1] : List (S_api_Node)))))]) (by kernel_rfl) (AllP.cons (mkOb (by kernel_rfl) rfl (by kernel_rfl) (good_E_api_Node _)) (AllP.cons hc5 (AllP.cons (appOb rfl rfl (good_E_api_Node _)) AllP.nil))) ?_
          refine To.thenN ?_
          refine Wp.seq ?_
          refine Wp.seq ?_
          obtain ⟨r3, hr3, h⟩ := bind_of h
          refine Wp.region hΓ [] [] [(1, ⟨[(1000000, 1000000)], [(1000000, 1000000)], [.own 1000000 0, .val (.int .u8 44)], [(1000000, 40, [.str r2.2.2.f_s, .val (.int .i64 r2.2.2.f_at), .val (.bool (bif r2.2.2.f_bad then true else (!r2.2.1)))])], .val (.bool r3.1), [(1000000, 40, [.str r3.2.f_s, .val (.int .i64 r3.2.f_at), .val (.bool r3.2.f_bad)])]⟩)] [0, 2, 3, 45] [2, 3, 42, 1000000] (K' := [(0, .own 1000000 0), (2, .own 2 0), (3, .own 3 0), (45, .val (.bool r3.1))]) (L' := [(2, 25, [.val (.int .i64 b2.f_Kind), .str b2.f_Text, .recs (α := List UInt8) [] E_string b2.f_Keys, .tree (α := S_api_Node) (S_api_Node.mk 0 [] [] []) pre_S_api_Node kids_S_api_Node b2.f_Kids]), (3, 25, [.val (.int .i64 2), .str [], .val (.slice none 0 0), .row 42]), (42, 25, [.rowc false (α := S_api_Node) (S_api_Node.mk 0 [] [] []) E_api_Node (([] : List (S_api_Node)) ++ ([r2.1] : List (S_api_Node)))]), (1000000, 40, [.str r3.2.f_s, .val (.int .i64 r3.2.f_at), .val (.bool r3.2.f_bad)])]) (ob := [CbOb (CallsB Tryd.prog) 46 [.own 1000000 0, .val (.int .u8 44)] [some (40, [.str r2.2.2.f_s, .val (.int .i64 r2.2.2.f_at), .val (.bool (bif r2.2.2.f_bad then true else (!r2.2.1)))])] ⟨[(1000000, 1000000)], [(1000000, 1000000)], [.own 1000000 0, .val (.int .u8 44)], [(1000000, 40, [.str r2.2.2.f_s, .val (.int .i64 r2.2.2.f_at), .val (.bool (bif r2.2.2.f_bad then true else (!r2.2.1)))])], .val (.bool r3.1), [(1000000, 40, [.str r3.2.f_s, .val (.int .i64 r3.2.f_at), .val (.bool r3.2.f_bad)])]⟩]) (by kernel_rfl) (AllP.cons (⟨(ok_flow_reader_take__o0 n 44 (S_flow_reader.mk r2.2.2.f_s r2.2.2.f_at (bif r2.2.2.f_bad then true else (!r2.2.1))) _ hr3), by kernel_rfl, by kernel_rfl⟩) AllP.nil) ?_
          refine To.thenN ?_
          refine Wp.cond (b := r3.1) (by kernel_rfl) (fun hb => ?_) (fun hb => ?_)
          · replace h := if_t hb h
            refine Wp.goto ?_
            refine To.thenG ?_
            refine To.keep (kk := [0, 2, 3]) (kl := [2, 3, 42, 1000000]) (K' := [(0, .own 1000000 0), (2, .own 2 0), (3, .own 3 0)]) (L' := [(2, 25, [.val (.int .i64 b2.f_Kind), .str b2.f_Text, .recs (α := List UInt8) [] E_string b2.f_Keys, .tree (α := S_api_Node) (S_api_Node.mk 0 [] [] []) pre_S_api_Node kids_S_api_Node b2.f_Kids]), (3, 25, [.val (.int .i64 2), .str [], .val (.slice none 0 0), .row 42]), (42, 25, [.rowc false (α := S_api_Node) (S_api_Node.mk 0 [] [] []) E_api_Node (([] : List (S_api_Node)) ++ ([r2.1] : List (S_api_Node)))]), (1000000, 40, [.str r3.2.f_s, .val (.int .i64 r3.2.f_at), .val (.bool r3.2.f_bad)])]) (by kernel_rfl) (by kernel_rfl) ?_
            refine To.pre (St.rename 42 4183 (by decide) (K' := [(0, .own 1000000 0), (2, .own 2 0), (3, .own 3 0)]) (L' := [(2, 25, [.val (.int .i64 b2.f_Kind), .str b2.f_Text, .recs (α := List UInt8) [] E_string b2.f_Keys, .tree (α := S_api_Node) (S_api_Node.mk 0 [] [] []) pre_S_api_Node kids_S_api_Node b2.f_Kids]), (3, 25, [.val (.int .i64 2), .str [], .val (.slice none 0 0), .row 4183]), (4183, 25, [.rowc false (α := S_api_Node) (S_api_Node.mk 0 [] [] []) E_api_Node (([] : List (S_api_Node)) ++ ([r2.1] : List (S_api_Node)))]), (1000000, 40, [.str r3.2.f_s, .val (.int .i64 r3.2.f_at), .val (.bool r3.2.f_bad)])]) (by kernel_rfl) (by kernel_rfl) (by kernel_rfl)) ?_
            refine To.keep (kk := [0, 2, 3]) (kl := [2, 3, 4183, 1000000]) (K' := [(0, .own 1000000 0), (2, .own 2 0), (3, .own 3 0)]) (L' := [(2, 25, [.val (.int .i64 b2.f_Kind), .str b2.f_Text, .recs (α := List UInt8) [] E_string b2.f_Keys, .tree (α := S_api_Node) (S_api_Node.mk 0 [] [] []) pre_S_api_Node kids_S_api_Node b2.f_Kids]), (3, 25, [.val (.int .i64 2), .str [], .val (.slice none 0 0), .row 4183]), (4183, 25, [.rowc false (α := S_api_Node) (S_api_Node.mk 0 [] [] []) E_api_Node (([] : List (S_api_Node)) ++ ([r2.1] : List (S_api_Node)))]), (1000000, 40, [.str r3.2.f_s, .val (.int .i64 r3.2.f_at), .val (.bool r3.2.f_bad)])]) (by kernel_rfl) (by kernel_rfl) ?_
            refine To.weak (K' := [(0, .own 1000000 0), (2, .own 2 0), (3, .own 3 0)]) (L' := [(2, 25, [.val (.int .i64 b2.f_Kind), .str b2.f_Text, .recs (α := List UInt8) [] E_string b2.f_Keys, .tree (α := S_api_Node) (S_api_Node.mk 0 [] [] []) pre_S_api_Node kids_S_api_Node b2.f_Kids]), (3, 25, [.val (.int .i64 2), .str [], .recs (α := List UInt8) [] E_string [], .row 4183]), (4183, 25, [.rowc false (α := S_api_Node) (S_api_Node.mk 0 [] [] []) E_api_Node (([] : List (S_api_Node)) ++ ([r2.1] : List (S_api_Node)))]), (1000000, 40, [.str r3.2.f_s, .val (.int .i64 r3.2.f_at), .val (.bool r3.2.f_bad)])]) (.cons (.refl _) (.cons (.refl _) (.cons (.refl _) .nil))) (.cons (.cons (.refl _) (.cons (.refl _) (.cons (.refl _) (.cons (.refl _) .nil)))) (.cons (.cons (.refl _) (.cons (.refl _) (.cons (.zero _ _) (.cons (.refl _) .nil)))) (.cons (.cons (.refl _) .nil) (.cons (.cons (.refl _) (.cons (.refl _) (.cons (.refl _) .nil))) .nil)))) ?_
            refine To.goto (rest := cG 0 (cB (cF Tryd.f30))) (by kernel_rfl) ?_
            exact ih.2 b2 (S_api_Node.mk 2 [] [] (([] : List (S_api_Node)) ++ ([r2.1] : List (S_api_Node)))) r3.2 _ h hQ
          · replace h := if_f hb h
            refine Wp.skip ?_
            refine To.thenN ?_
            refine Wp.seq ?_
            obtain ⟨r4, hr4, h⟩ := bind_of h
            refine Wp.region hΓ [] [] [(2, ⟨[(1000000, 1000000)], [(1000000, 1000000)], [.own 1000000 0, .val (.int .u8 93)], [(1000000, 40, [.str r3.2.f_s, .val (.int .i64 r3.2.f_at), .val (.bool r3.2.f_bad)])], .val (.bool r4.1), [(1000000, 40, [.str r4.2.f_s, .val (.int .i64 r4.2.f_at), .val (.bool r4.2.f_bad)])]⟩)] [2, 3] [2, 3, 42, 1000000] (K' := [(2, .own 2 0), (3, .own 3 0)]) (L' := [(2, 25, [.val (.int .i64 b2.f_Kind), .str b2.f_Text, .recs (α := List UInt8) [] E_string b2.f_Keys, .tree (α := S_api_Node) (S_api_Node.mk 0 [] [] []) pre_S_api_Node kids_S_api_Node b2.f_Kids]), (3, 25, [.val (.int .i64 2), .str [], .val (.slice none 0 0), .row 42]), (42, 25, [.rowc false (α := S_api_Node) (S_api_Node.mk 0 [] [] []) E_api_Node (([] : List (S_api_Node)) ++ ([r2.1] : List (S_api_Node)))]), (1000000, 40, [.str r4.2.f_s, .val (.int .i64 r4.2.f_at), .val (.bool (!r4.1))])]) (ob := [CbOb (CallsB Tryd.prog) 46 [.own 1000000 0, .val (.int .u8 93)] [some (40, [.str r3.2.f_s, .val (.int .i64 r3.2.f_at), .val (.bool r3.2.f_bad)])] ⟨[(1000000, 1000000)], [(1000000, 1000000)], [.own 1000000 0, .val (.int .u8 93)], [(1000000, 40, [.str r3.2.f_s, .val (.int .i64 r3.2.f_at), .val (.bool r3.2.f_bad)])], .val (.bool r4.1), [(1000000, 40, [.str r4.2.f_s, .val (.int .i64 r4.2.f_at), .val (.bool r4.2.f_bad)])]⟩]) (by kernel_rfl) (AllP.cons (⟨(ok_flow_reader_take__o0 n 93 r3.2 _ hr4), by kernel_rfl, by kernel_rfl⟩) AllP.nil) ?_
            refine To.thenN ?_
            refine Wp.seq ?_
            refine Wp.region hΓ [] [] [] [2] [2, 42, 1000000] (K' := [(2, .own 2 0)]) (L' := [(2, 25, [.val (.int .i64 2), .str [], .val (.slice none 0 0), .row 42]), (42, 25, [.rowc false (α := S_api_Node) (S_api_Node.mk 0 [] [] []) E_api_Node (([] : List (S_api_Node)) ++ ([r2.1] : List (S_api_Node)))]), (1000000, 40, [.str r4.2.f_s, .val (.int .i64 r4.2.f_at), .val (.bool (!r4.1))])]) (ob := []) (by kernel_rfl) AllP.nil ?_
            refine To.thenN ?_
            refine Wp.ret ?_
            refine To.goesO (.inr (.inl rfl)) ?_
            refine To.keep (kk := [2]) (kl := [2, 42, 1000000]) (K' := [(2, .own 2 0)]) (L' := [(2, 25, [.val (.int .i64 2), .str [], .val (.slice none 0 0), .row 42]), (42, 25, [.rowc false (α := S_api_Node) (S_api_Node.mk 0 [] [] []) E_api_Node (([] : List (S_api_Node)) ++ ([r2.1] : List (S_api_Node)))]), (1000000, 40, [.str r4.2.f_s, .val (.int .i64 r4.2.f_at), .val (.bool (!r4.1))])]) (by kernel_rfl) (by kernel_rfl) ?_
            refine To.pre (St.rename 42 4123 (by decide) (K' := [(2, .own 2 0)]) (L' := [(2, 25, [.val (.int .i64 2), .str [], .val (.slice none 0 0), .row 4123]), (4123, 25, [.rowc false (α := S_api_Node) (S_api_Node.mk 0 [] [] []) E_api_Node (([] : List (S_api_Node)) ++ ([r2.1] : List (S_api_Node)))]), (1000000, 40, [.str r4.2.f_s, .val (.int .i64 r4.2.f_at), .val (.bool (!r4.1))])]) (by kernel_rfl) (by kernel_rfl) (by kernel_rfl)) ?_
            refine To.keep (kk := [2]) (kl := [2, 4123, 1000000]) (K' := [(2, .own 2 0)]) (L' := [(2, 25, [.val (.int .i64 2), .str [], .val (.slice none 0 0), .row 4123]), (4123, 25, [.rowc false (α := S_api_Node) (S_api_Node.mk 0 [] [] []) E_api_Node (([] : List (S_api_Node)) ++ ([r2.1] : List (S_api_Node)))]), (1000000, 40, [.str r4.2.f_s, .val (.int .i64 r4.2.f_at), .val (.bool (!r4.1))])]) (by kernel_rfl) (by kernel_rfl) ?_
            refine To.weak (K' := [(2, .own 2 0)]) (L' := [(2, 25, [.val (.int .i64 2), .str [], .recs (α := List UInt8) [] E_string [], .row 4123]), (4123, 25, [.rowc false (α := S_api_Node) (S_api_Node.mk 0 [] [] []) E_api_Node (([] : List (S_api_Node)) ++ ([r2.1] : List (S_api_Node)))]), (1000000, 40, [.str r4.2.f_s, .val (.int .i64 r4.2.f_at), .val (.bool (!r4.1))])]) (.cons (.refl _) .nil) (.cons (.cons (.refl _) (.cons (.refl _) (.cons (.zero _ _) (.cons (.refl _) .nil)))) (.cons (.cons (.refl _) .nil) (.cons (.cons (.refl _) (.cons (.refl _) (.cons (.refl _) .nil))) .nil))) ?_
            cases h
            exact hQ
    · intro b2 b3 b1000000 o h hQ
      rw [flow_reader_seq__o0_g1_0] at h
      refine WG.pass ?_
      refine Wp.seq ?_
      refine Wp.skip ?_
      refine To.thenN ?_
      refine Wp.seq ?_
      obtain ⟨r1, hr1, h⟩ := bind_of h
      refine Wp.region hΓ [] [] [(1, ⟨[(1000000, 1000000)], [(1000000, 1000000)], [.own 1000000 0], [(1000000, 40, [.str b1000000.f_s, .val (.int .i64 b1000000.f_at), .val (.bool b1000000.f_bad)])], .tup [.agg [.val (.int .i64 r1.1.f_Kind), .str r1.1.f_Text, .recs (α := List UInt8) [] E_string r1.1.f_Keys, .tree (α := S_api_Node) (S_api_Node.mk 0 [] [] []) pre_S_api_Node kids_S_api_Node r1.1.f_Kids], .val (.bool r1.2.1)], [(1000000, 40, [.str r1.2.2.f_s, .val (.int .i64 r1.2.2.f_at), .val (.bool r1.2.2.f_bad)])]⟩)] [0, 2, 3, 4, 5] [2, 3, 4, 4183, 1000000] (K' := [(0, .own 1000000 0), (2, .own 2 0), (3, .own 3 0), (4, .own 4 0), (5, .val (.bool r1.2.1))]) (L' := [(2, 25, [.val (.int .i64 b2.f_Kind), .str b2.f_Text, .recs (α := List UInt8) [] E_string b2.f_Keys, .tree (α := S_api_Node) (S_api_Node.mk 0 [] [] []) pre_S_api_Node kids_S_api_Node b2.f_Kids]), (3, 25, [.val (.int .i64 b3.f_Kind), .str b3.f_Text, .recs (α := List UInt8) [] E_string b3.f_Keys, .row 4183]), (4, 25, [.val (.int .i64 r1.1.f_Kind), .str r1.1.f_Text, .recs (α := List UInt8) [] E_string r1.1.f_Keys, .tree (α := S_api_Node) (S_api_Node.mk 0 [] [] []) pre_S_api_Node kids_S_api_Node r1.1.f_Kids]), (4183, 25, [.rowc false (α := S_api_Node) (S_api_Node.mk 0 [] [] []) E_api_Node b3.f_Kids]), (1000000, 40, [.str r1.2.2.f_s, .val (.int .i64 r1.2.2.f_at), .val (.bool r1.2.2.f_bad)])]) (ob := [CbOb (CallsB Tryd.prog) 17 [.own 1000000 0] [some (40, [.str b1000000.f_s, .val (.int .i64 b1000000.f_at), .val (.bool b1000000.f_bad)])] ⟨[(1000000, 1000000)], [(1000000, 1000000)], [.own 1000000 0], [(1000000, 40, [.str b1000000.f_s, .val (.int .i64 b1000000.f_at), .val (.bool b1000000.f_bad)])], .tup [.agg [.val (.int .i64 r1.1.f_Kind), .str r1.1.f_Text, .recs (α := List UInt8) [] E_string r1.1.f_Keys, .tree (α := S_api_Node) (S_api_Node.mk 0 [] [] []) pre_S_api_Node kids_S_api_Node r1.1.f_Kids], .val (.bool r1.2.1)], [(1000000, 40, [.str r1.2.2.f_s, .val (.int .i64 r1.2.2.f_at), .val (.bool r1.2.2.f_bad)])]⟩]) (by kernel_rfl) (AllP.cons (⟨(hR_flow_reader_value__o0 b1000000 _ hr1), by kernel_rfl, by kernel_rfl⟩) AllP.nil) ?_
      refine To.thenN ?_
      refine Wp.seq ?_
      refine Wp.seq ?_
      refine Wp.region hΓ [] [] [] [0, 2, 3, 4] [2, 3, 4, 4183, 1000000] (K' := [(0, .own 1000000 0), (2, .own 2 0), (3, .own 3 0), (4, .own 4 0)]) (L' := [(2, 25, [.val (.int .i64 b2.f_Kind), .str b2.f_Text, .recs (α := List UInt8) [] E_string b2.f_Keys, .tree (α := S_api_Node) (S_api_Node.mk 0 [] [] []) pre_S_api_Node kids_S_api_Node b2.f_Kids]), (3, 25, [.val (.int .i64 b3.f_Kind), .str b3.f_Text, .recs (α := List UInt8) [] E_string b3.f_Keys, .row 4183]), (4, 25, [.val (.int .i64 r1.1.f_Kind), .str r1.1.f_Text, .recs (α := List UInt8) [] E_string r1.1.f_Keys, .tree (α := S_api_Node) (S_api_Node.mk 0 [] [] []) pre_S_api_Node kids_S_api_Node r1.1.f_Kids]), (4183, 25, [.rowc false (α := S_api_Node) (S_api_Node.mk 0 [] [] []) E_api_Node b3.f_Kids]), (1000000, 40, [.str r1.2.2.f_s, .val (.int .i64 r1.2.2.f_at), .val (.bool (bif r1.2.2.f_bad then true else (!r1.2.1)))])]) (ob := []) (by kernel_rfl) AllP.nil ?_
      refine To.thenN ?_
      refine Wp.seq ?_
      refine Wp.region hΓ [] [] [] [0, 2, 3, 4, 36] [2, 3, 4, 4183, 1000000] (K' := [(0, .own 1000000 0), (2, .own 2 0), (3, .own 3 0), (4, .own 4 0), (36, .val (.bool (bif r1.2.2.f_bad then true else (!r1.2.1))))]) (L' := [(2, 25, [.val (.int .i64 b2.f_Kind), .str b2.f_Text, .recs (α := List UInt8) [] E_string b2.f_Keys, .tree (α := S_api_Node) (S_api_Node.mk 0 [] [] []) pre_S_api_Node kids_S_api_Node b2.f_Kids]), (3, 25, [.val (.int .i64 b3.f_Kind), .str b3.f_Text, .recs (α := List UInt8) [] E_string b3.f_Keys, .row 4183]), (4, 25, [.val (.int .i64 r1.1.f_Kind), .str r1.1.f_Text, .recs (α := List UInt8) [] E_string r1.1.f_Keys, .tree (α := S_api_Node) (S_api_Node.mk 0 [] [] []) pre_S_api_Node kids_S_api_Node r1.1.f_Kids]), (4183, 25, [.rowc false (α := S_api_Node) (S_api_Node.mk 0 [] [] []) E_api_Node b3.f_Kids]), (1000000, 40, [.str r1.2.2.f_s, .val (.int .i64 r1.2.2.f_at), .val (.bool (bif r1.2.2.f_bad then true else (!r1.2.1)))])]) (ob := []) (by kernel_rfl) AllP.nil ?_
      refine To.thenN ?_
      refine Wp.cond (b := (bif r1.2.2.f_bad then true else (!r1.2.1))) (by kernel_rfl) (fun hb => ?_) (fun hb => ?_)
      · replace h := if_t hb h
        refine Wp.seq ?_
        refine Wp.region hΓ [] [] [] [2] [2, 4183, 1000000] (K' := [(2, .own 2 0)]) (L' := [(2, 25, [.val (.int .i64 b3.f_Kind), .str b3.f_Text, .recs (α := List UInt8) [] E_string b3.f_Keys, .row 4183]), (4183, 25, [.rowc false (α := S_api_Node) (S_api_Node.mk 0 [] [] []) E_api_Node b3.f_Kids]), (1000000, 40, [.str r1.2.2.f_s, .val (.int .i64 r1.2.2.f_at), .val (.bool (bif r1.2.2.f_bad then true else (!r1.2.1)))])]) (ob := []) (by kernel_rfl) AllP.nil ?_
        refine To.thenN ?_
        refine Wp.ret ?_
        refine To.thenR ?_
        refine To.goesO (.inr (.inl rfl)) ?_
        refine To.keep (kk := [2]) (kl := [2, 4183, 1000000]) (K' := [(2, .own 2 0)]) (L' := [(2, 25, [.val (.int .i64 b3.f_Kind), .str b3.f_Text, .recs (α := List UInt8) [] E_string b3.f_Keys, .row 4183]), (4183, 25, [.rowc false (α := S_api_Node) (S_api_Node.mk 0 [] [] []) E_api_Node b3.f_Kids]), (1000000, 40, [.str r1.2.2.f_s, .val (.int .i64 r1.2.2.f_at), .val (.bool (bif r1.2.2.f_bad then true else (!r1.2.1)))])]) (by kernel_rfl) (by kernel_rfl) ?_
        refine To.pre (St.rename 4183 4123 (by decide) (K' := [(2, .own 2 0)]) (L' := [(2, 25, [.val (.int .i64 b3.f_Kind), .str b3.f_Text, .recs (α := List UInt8) [] E_string b3.f_Keys, .row 4123]), (4123, 25, [.rowc false (α := S_api_Node) (S_api_Node.mk 0 [] [] []) E_api_Node b3.f_Kids]), (1000000, 40, [.str r1.2.2.f_s, .val (.int .i64 r1.2.2.f_at), .val (.bool (bif r1.2.2.f_bad then true else (!r1.2.1)))])]) (by kernel_rfl) (by kernel_rfl) (by kernel_rfl)) ?_
        refine To.keep (kk := [2]) (kl := [2, 4123, 1000000]) (K' := [(2, .own 2 0)]) (L' := [(2, 25, [.val (.int .i64 b3.f_Kind), .str b3.f_Text, .recs (α := List UInt8) [] E_string b3.f_Keys, .row 4123]), (4123, 25, [.rowc false (α := S_api_Node) (S_api_Node.mk 0 [] [] []) E_api_Node b3.f_Kids]), (1000000, 40, [.str r1.2.2.f_s, .val (.int .i64 r1.2.2.f_at), .val (.bool (bif r1.2.2.f_bad then true else (!r1.2.1)))])]) (by kernel_rfl) (by kernel_rfl) ?_
        cases h
        exact hQ
      · replace h := if_f hb h
        refine Wp.skip ?_
        refine To.thenN ?_
        refine Wp.seq ?_
        obtain ⟨hc4, h⟩ := chk_of h
        refine Wp.region hΓ [] [(3, .recs (α := S_api_Node) (S_api_Node.mk 0 [] [] []) E_api_Node [r1.1]), (4, .recs (α := S_api_Node) (S_api_Node.mk 0 [] [] []) E_api_Node (b3.f_Kids ++ ([r1.1] : List (S_api_Node))))] [] [0, 2, 3] [2, 3, 42, 1000000] (K' := [(0, .own 1000000 0), (2, .own 2 0), (3, .own 3 0)]) (L' := [(2, 25, [.val (.int .i64 b2.f_Kind), .str b2.f_Text, .recs (α := List UInt8) [] E_string b2.f_Keys, .tree (α := S_api_Node) (S_api_Node.mk 0 [] [] []) pre_S_api_Node kids_S_api_Node b2.f_Kids]), (3, 25, [.val (.int .i64 b3.f_Kind), .str b3.f_Text, .recs (α := List UInt8) [] E_string b3.f_Keys, .row 42]), (42, 25, [.rowc false (α := S_api_Node) (S_api_Node.mk 0 [] [] []) E_api_Node (b3.f_Kids ++ ([r1.1] : List (S_api_Node)))]), (1000000, 40, [.str r1.2.2.f_s, .val (.int .i64 r1.2.2.f_at), .val (.bool (bif r1.2.2.f_bad then true else (!r1.2.1)))])]) (ob := [(MkOb 4 [.val (.int .i64 r1.1.f_Kind), .str r1.1.f_Text, .recs (α := List UInt8) [] E_string r1.1.f_Keys, .tree (α := S_api_Node) (S_api_Node.mk 0 [] [] []) pre_S_api_Node kids_S_api_Node r1.1.f_Kids] 1 (.recs (α := S_api_Node) (S_api_Node.mk 0 [] [] []) E_api_Node [r1.1]) ∧ GoodR (.recs (α := S_api_Node) (S_api_Node.mk 0 [] [] []) E_api_Node [r1.1])), (decide ((List.length b3.f_Kids + List.length ([r1.1] : List (S_api_Node))) * (72 + 1) ≤ limit)) = true, (AppOb (S_api_Node.mk 0 [] [] []) E_api_Node b3.f_Kids (List.flatMap E_api_Node ([r1.1] : List (S_api_Node))) (List.length ([r1.1] : List (S_api_Node))) (.recs (α := S_api_Node) (S_api_Node.mk 0 [] [] []) E_api_Node (b3.f_Kids ++ ([r1.1] : List (S_api_Node)))) ∧ GoodR (.recs (α := S_api_Node) (S_api_Node.mk 0 [] [] []) E_api_Node (b3.f_Kids ++ ([r1.1] : List (S_api_Node)))))]) (by kernel_rfl) (AllP.cons (mkOb (by kernel_rfl) rfl (by kernel_rfl) (good_E_api_Node _)) (AllP.cons hc4 (AllP.cons (appOb rfl rfl (good_E_api_Node _)) AllP.nil))) ?_
        refine To.thenN ?_
        refine Wp.seq ?_
        refine Wp.seq ?_
        obtain ⟨r2, hr2, h⟩ := bind_of h
        refine Wp.region hΓ [] [] [(1, ⟨[(1000000, 1000000)], [(1000000, 1000000)], [.own 1000000 0, .val (.int .u8 44)], [(1000000, 40, [.str r1.2.2.f_s, .val (.int .i64 r1.2.2.f_at), .val (.bool (bif r1.2.2.f_bad then true else (!r1.2.1)))])], .val (.bool r2.1), [(1000000, 40, [.str r2.2.f_s, .val (.int .i64 r2.2.f_at), .val (.bool r2.2.f_bad)])]⟩)] [0, 2, 3, 45] [2, 3, 42, 1000000] (K' := [(0, .own 1000000 0), (2, .own 2 0), (3, .own 3 0), (45, .val (.bool r2.1))]) (L' := [(2, 25, [.val (.int .i64 b2.f_Kind), .str b2.f_Text, .recs (α := List UInt8) [] E_string b2.f_Keys, .tree (α := S_api_Node) (S_api_Node.mk 0 [] [] []) pre_S_api_Node kids_S_api_Node b2.f_Kids]), (3, 25, [.val (.int .i64 b3.f_Kind), .str b3.f_Text, .recs (α := List UInt8) [] E_string b3.f_Keys, .row 42]), (42, 25, [.rowc false (α := S_api_Node) (S_api_Node.mk 0 [] [] []) E_api_Node (b3.f_Kids ++ ([r1.1] : List (S_api_Node)))]), (1000000, 40, [.str r2.2.f_s, .val (.int .i64 r2.2.f_at), .val (.bool r2.2.f_bad)])]) (ob := [CbOb (CallsB Tryd.prog) 46 [.own 1000000 0, .val (.int .u8 44)] [some (40, [.str r1.2.2.f_s, .val (.int .i64 r1.2.2.f_at), .val (.bool (bif r1.2.2.f_bad then true else (!r1.2.1)))])] ⟨[(1000000, 1000000)], [(1000000, 1000000)], [.own 1000000 0, .val (.int .u8 44)], [(1000000, 40, [.str r1.2.2.f_s, .val (.int .i64 r1.2.2.f_at), .val (.bool (bif r1.2.2.f_bad then true else (!r1.2.1)))])], .val (.bool r2.1), [(1000000, 40, [.str r2.2.f_s, .val (.int .i64 r2.2.f_at), .val (.bool r2.2.f_bad)])]⟩]) (by kernel_rfl) (AllP.cons (⟨(ok_flow_reader_take__o0 n 44 (S_flow_reader.mk r1.2.2.f_s r1.2.2.f_at (bif r1.2.2.f_bad then true else (!r1.2.1))) _ hr2), by kernel_rfl, by kernel_rfl⟩) AllP.nil) ?_
        refine To.thenN ?_
        refine Wp.cond (b := r2.1) (by kernel_rfl) (fun hb => ?_) (fun hb => ?_)
        · replace h := if_t hb h
          refine Wp.goto ?_
          refine To.thenG ?_
          refine To.keep (kk := [0, 2, 3]) (kl := [2, 3, 42, 1000000]) (K' := [(0, .own 1000000 0), (2, .own 2 0), (3, .own 3 0)]) (L' := [(2, 25, [.val (.int .i64 b2.f_Kind), .str b2.f_Text, .recs (α := List UInt8) [] E_string b2.f_Keys, .tree (α := S_api_Node) (S_api_Node.mk 0 [] [] []) pre_S_api_Node kids_S_api_Node b2.f_Kids]), (3, 25, [.val (.int .i64 b3.f_Kind), .str b3.f_Text, .recs (α := List UInt8) [] E_string b3.f_Keys, .row 42]), (42, 25, [.rowc false (α := S_api_Node) (S_api_Node.mk 0 [] [] []) E_api_Node (b3.f_Kids ++ ([r1.1] : List (S_api_Node)))]), (1000000, 40, [.str r2.2.f_s, .val (.int .i64 r2.2.f_at), .val (.bool r2.2.f_bad)])]) (by kernel_rfl) (by kernel_rfl) ?_
          refine To.pre (St.rename 42 4183 (by decide) (K' := [(0, .own 1000000 0), (2, .own 2 0), (3, .own 3 0)]) (L' := [(2, 25, [.val (.int .i64 b2.f_Kind), .str b2.f_Text, .recs (α := List UInt8) [] E_string b2.f_Keys, .tree (α := S_api_Node) (S_api_Node.mk 0 [] [] []) pre_S_api_Node kids_S_api_Node b2.f_Kids]), (3, 25, [.val (.int .i64 b3.f_Kind), .str b3.f_Text, .recs (α := List UInt8) [] E_string b3.f_Keys, .row 4183]), (4183, 25, [.rowc false (α := S_api_Node) (S_api_Node.mk 0 [] [] []) E_api_Node (b3.f_Kids ++ ([r1.1] : List (S_api_Node)))]), (1000000, 40, [.str r2.2.f_s, .val (.int .i64 r2.2.f_at), .val (.bool r2.2.f_bad)])]) (by kernel_rfl) (by kernel_rfl) (by kernel_rfl)) ?_
          refine To.keep (kk := [0, 2, 3]) (kl := [2, 3, 4183, 1000000]) (K' := [(0, .own 1000000 0), (2, .own 2 0), (3, .own 3 0)]) (L' := [(2, 25, [.val (.int .i64 b2.f_Kind), .str b2.f_Text, .recs (α := List UInt8) [] E_string b2.f_Keys, .tree (α := S_api_Node) (S_api_Node.mk 0 [] [] []) pre_S_api_Node kids_S_api_Node b2.f_Kids]), (3, 25, [.val (.int .i64 b3.f_Kind), .str b3.f_Text, .recs (α := List UInt8) [] E_string b3.f_Keys, .row 4183]), (4183, 25, [.rowc false (α := S_api_Node) (S_api_Node.mk 0 [] [] []) E_api_Node (b3.f_Kids ++ ([r1.1] : List (S_api_Node)))]), (1000000, 40, [.str r2.2.f_s, .val (.int .i64 r2.2.f_at), .val (.bool r2.2.f_bad)])]) (by kernel_rfl) (by kernel_rfl) ?_
          refine To.goto (rest := cG 0 (cB (cF Tryd.f30))) (by kernel_rfl) ?_
          exact ih.2 b2 (S_api_Node.mk b3.f_Kind b3.f_Text b3.f_Keys (b3.f_Kids ++ ([r1.1] : List (S_api_Node)))) r2.2 _ h hQ
        · replace h := if_f hb h
          refine Wp.skip ?_
          refine To.thenN ?_
          refine Wp.seq ?_
          obtain ⟨r3, hr3, h⟩ := bind_of h
          refine Wp.region hΓ [] [] [(2, ⟨[(1000000, 1000000)], [(1000000, 1000000)], [.own 1000000 0, .val (.int .u8 93)], [(1000000, 40, [.str r2.2.f_s, .val (.int .i64 r2.2.f_at), .val (.bool r2.2.f_bad)])], .val (.bool r3.1), [(1000000, 40, [.str r3.2.f_s, .val (.int .i64 r3.2.f_at), .val (.bool r3.2.f_bad)])]⟩)] [2, 3] [2, 3, 42, 1000000] (K' := [(2, .own 2 0), (3, .own 3 0)]) (L' := [(2, 25, [.val (.int .i64 b2.f_Kind), .str b2.f_Text, .recs (α := List UInt8) [] E_string b2.f_Keys, .tree (α := S_api_Node) (S_api_Node.mk 0 [] [] []) pre_S_api_Node kids_S_api_Node b2.f_Kids]), (3, 25, [.val (.int .i64 b3.f_Kind), .str b3.f_Text, .recs (α := List UInt8) [] E_string b3.f_Keys, .row 42]), (42, 25, [.rowc false (α := S_api_Node) (S_api_Node.mk 0 [] [] []) E_api_Node (b3.f_Kids ++ ([r1.1] : List (S_api_Node)))]), (1000000, 40, [.str r3.2.f_s, .val (.int .i64 r3.2.f_at), .val (.bool (!r3.1))])]) (ob := [CbOb (CallsB Tryd.prog) 46 [.own 1000000 0, .val (.int .u8 93)] [some (40, [.str r2.2.f_s, .val (.int .i64 r2.2.f_at), .val (.bool r2.2.f_bad)])] ⟨[(1000000, 1000000)], [(1000000, 1000000)], [.own 1000000 0, .val (.int .u8 93)], [(1000000, 40, [.str r2.2.f_s, .val (.int .i64 r2.2.f_at), .val (.bool r2.2.f_bad)])], .val (.bool r3.1), [(1000000, 40, [.str r3.2.f_s, .val (.int .i64 r3.2.f_at), .val (.bool r3.2.f_bad)])]⟩]) (by kernel_rfl) (AllP.cons (⟨(ok_flow_reader_take__o0 n 93 r2.2 _ hr3), by kernel_rfl, by kernel_rfl⟩) AllP.nil) ?_
          refine To.thenN ?_
          refine Wp.seq ?_
          refine Wp.region hΓ [] [] [] [2] [2, 42, 1000000] (K' := [(2, .own 2 0)]) (L' := [(2, 25, [.val (.int .i64 b3.f_Kind), .str b3.f_Text, .recs (α := List UInt8) [] E_string b3.f_Keys, .row 42]), (42, 25, [.rowc false (α := S_api_Node) (S_api_Node.mk 0 [] [] []) E_api_Node (b3.f_Kids ++ ([r1.1] : List (S_api_Node)))]), (1000000, 40, [.str r3.2.f_s, .val (.int .i64 r3.2.f_at), .val (.bool (!r3.1))])]) (ob := []) (by kernel_rfl) AllP.nil ?_
          refine To.thenN ?_
          refine Wp.ret ?_
          refine To.goesO (.inr (.inl rfl)) ?_
          refine To.keep (kk := [2]) (kl := [2, 42, 1000000]) (K' := [(2, .own 2 0)]) (L' := [(2, 25, [.val (.int .i64 b3.f_Kind), .str b3.f_Text, .recs (α := List UInt8) [] E_string b3.f_Keys, .row 42]), (42, 25, [.rowc false (α := S_api_Node) (S_api_Node.mk 0 [] [] []) E_api_Node (b3.f_Kids ++ ([r1.1] : List (S_api_Node)))]), (1000000, 40, [.str r3.2.f_s, .val (.int .i64 r3.2.f_at), .val (.bool (!r3.1))])]) (by kernel_rfl) (by kernel_rfl) ?_
          refine To.pre (St.rename 42 4123 (by decide) (K' := [(2, .own 2 0)]) (L' := [(2, 25, [.val (.int .i64 b3.f_Kind), .str b3.f_Text, .recs (α := List UInt8) [] E_string b3.f_Keys, .row 4123]), (4123, 25, [.rowc false (α := S_api_Node) (S_api_Node.mk 0 [] [] []) E_api_Node (b3.f_Kids ++ ([r1.1] : List (S_api_Node)))]), (1000000, 40, [.str r3.2.f_s, .val (.int .i64 r3.2.f_at), .val (.bool (!r3.1))])]) (by kernel_rfl) (by kernel_rfl) (by kernel_rfl)) ?_
          refine To.keep (kk := [2]) (kl := [2, 4123, 1000000]) (K' := [(2, .own 2 0)]) (L' := [(2, 25, [.val (.int .i64 b3.f_Kind), .str b3.f_Text, .recs (α := List UInt8) [] E_string b3.f_Keys, .row 4123]), (4123, 25, [.rowc false (α := S_api_Node) (S_api_Node.mk 0 [] [] []) E_api_Node (b3.f_Kids ++ ([r1.1] : List (S_api_Node)))]), (1000000, 40, [.str r3.2.f_s, .val (.int .i64 r3.2.f_at), .val (.bool (!r3.1))])]) (by kernel_rfl) (by kernel_rfl) ?_
          cases h
          exact hQ
def flow_reader_seq__o0 (R_flow_reader_value__o0 : S_flow_reader → Option (S_api_Node × Bool × S_flow_reader)) (n : Nat) (h0 : S_flow_reader) : Option (S_api_Node × S_flow_reader) :=
  (flow_reader_seq__o0_g1_e R_flow_reader_value__o0 n n (S_api_Node.mk 0 [] [] []) h0).bind fun o1 =>
  some (o1.1, o1.2)
theorem ok_flow_reader_seq__o0 (R_flow_reader_value__o0 : S_flow_reader → Option (S_api_Node × Bool × S_flow_reader)) (hR_flow_reader_value__o0 : ∀ (h0 : S_flow_reader) (r : S_api_Node × Bool × S_flow_reader), R_flow_reader_value__o0 h0 = some r → CallsB Tryd.prog 17 [.own 1000000 0] [(1000000, 40, [.str h0.f_s, .val (.int .i64 h0.f_at), .val (.bool h0.f_bad)])] (.tup [.agg [.val (.int .i64 r.1.f_Kind), .str r.1.f_Text, .recs (α := List UInt8) [] E_string r.1.f_Keys, .tree (α := S_api_Node) (S_api_Node.mk 0 [] [] []) pre_S_api_Node kids_S_api_Node r.1.f_Kids], .val (.bool r.2.1)]) [(1000000, 40, [.str r.2.2.f_s, .val (.int .i64 r.2.2.f_at), .val (.bool r.2.2.f_bad)])]) (n : Nat) (h0 : S_flow_reader) (r : S_api_Node × S_flow_reader) (h : flow_reader_seq__o0 R_flow_reader_value__o0 n h0 = some r) : CallsB Tryd.prog 30 [.own 1000000 0] [(1000000, 40, [.str h0.f_s, .val (.int .i64 h0.f_at), .val (.bool h0.f_bad)])] (.agg [.val (.int .i64 r.1.f_Kind), .str r.1.f_Text, .recs (α := List UInt8) [] E_string r.1.f_Keys, .tree (α := S_api_Node) (S_api_Node.mk 0 [] [] []) pre_S_api_Node kids_S_api_Node r.1.f_Kids]) [(1000000, 40, [.str r.2.f_s, .val (.int .i64 r.2.f_at), .val (.bool r.2.f_bad)])] := by
  unfold flow_reader_seq__o0 at h
  refine callsB_of (fn := Tryd.f30) (by kernel_rfl) rfl (by kernel_rfl) (Nat.le_of_ble_eq_true (by kernel_rfl)) fun F0 w0 => ?_
  refine Wp.keep (kk := [0]) (kl := [1000000]) (K' := [(0, .own 1000000 0)]) (L' := [(1000000, 40, [.str h0.f_s, .val (.int .i64 h0.f_at), .val (.bool h0.f_bad)])]) (by kernel_rfl) (by kernel_rfl) ?_
  refine Wp.seq ?_
  refine Wp.region hΓ [] [] [] [0, 2] [2, 1000000] (K' := [(0, .own 1000000 0), (2, .own 2 0)]) (L' := [(2, 25, [.val (.int .i64 0), .str [], .val (.slice none 0 0), .val (.slice none 0 0)]), (1000000, 40, [.str h0.f_s, .val (.int .i64 h0.f_at), .val (.bool h0.f_bad)])]) (ob := []) (by kernel_rfl) AllP.nil ?_
  refine To.thenN ?_
  obtain ⟨o1, ho1, h⟩ := bind_of h
  refine Wp.keep (kk := [0, 2]) (kl := [2, 1000000]) (K' := [(0, .own 1000000 0), (2, .own 2 0)]) (L' := [(2, 25, [.val (.int .i64 0), .str [], .val (.slice none 0 0), .val (.slice none 0 0)]), (1000000, 40, [.str h0.f_s, .val (.int .i64 h0.f_at), .val (.bool h0.f_bad)])]) (by kernel_rfl) (by kernel_rfl) ?_
  refine Wp.weak (K' := [(0, .own 1000000 0), (2, .own 2 0)]) (L' := [(2, 25, [.val (.int .i64 0), .str [], .recs (α := List UInt8) [] E_string [], .tree (α := S_api_Node) (S_api_Node.mk 0 [] [] []) pre_S_api_Node kids_S_api_Node []]), (1000000, 40, [.str h0.f_s, .val (.int .i64 h0.f_at), .val (.bool h0.f_bad)])]) (.cons (.refl _) (.cons (.refl _) .nil)) (.cons (.cons (.refl _) (.cons (.refl _) (.cons (.zero _ _) (.cons (.zeroT _ _ _) .nil)))) (.cons (.cons (.refl _) (.cons (.refl _) (.cons (.refl _) .nil))) .nil)) ?_
  refine Wp.scopeG ?_
  refine (ok_flow_reader_seq__o0_g1 R_flow_reader_value__o0 hR_flow_reader_value__o0 n n).1 (S_api_Node.mk 0 [] [] []) h0 o1 ho1 ?_
  refine To.keep (kk := [2]) (kl := [2, 4123, 1000000]) (K' := [(2, .own 2 0)]) (L' := [(2, 25, [.val (.int .i64 o1.1.f_Kind), .str o1.1.f_Text, .recs (α := List UInt8) [] E_string o1.1.f_Keys, .row 4123]), (4123, 25, [.rowc false (α := S_api_Node) (S_api_Node.mk 0 [] [] []) E_api_Node o1.1.f_Kids]), (1000000, 40, [.str o1.2.f_s, .val (.int .i64 o1.2.f_at), .val (.bool o1.2.f_bad)])]) (by kernel_rfl) (by kernel_rfl) ?_
  refine To.pre (St.settle (ks := [4123]) (kk := [2]) (kl := [2, 4123, 1000000]) (K' := [(2, .own 2 0)]) (L' := [(2, 25, [.val (.int .i64 o1.1.f_Kind), .str o1.1.f_Text, .recs (α := List UInt8) [] E_string o1.1.f_Keys, .row 4123]), (4123, 25, [.rowc true (α := S_api_Node) (S_api_Node.mk 0 [] [] []) E_api_Node o1.1.f_Kids]), (1000000, 40, [.str o1.2.f_s, .val (.int .i64 o1.2.f_at), .val (.bool o1.2.f_bad)])]) (by kernel_rfl)) ?_
  refine To.pre (St.sealB [2] (L' := [(2, 25, [.val (.int .i64 o1.1.f_Kind), .str o1.1.f_Text, .recs (α := List UInt8) [] E_string o1.1.f_Keys, .recs (α := S_api_Node) (S_api_Node.mk 0 [] [] []) E_api_Node o1.1.f_Kids]), (4123, 25, [.rowc true (α := S_api_Node) (S_api_Node.mk 0 [] [] []) E_api_Node o1.1.f_Kids]), (1000000, 40, [.str o1.2.f_s, .val (.int .i64 o1.2.f_at), .val (.bool o1.2.f_bad)])]) (by kernel_rfl)) ?_
  refine To.weak (K' := [(2, .own 2 0)]) (L' := [(2, 25, [.val (.int .i64 o1.1.f_Kind), .str o1.1.f_Text, .recs (α := List UInt8) [] E_string o1.1.f_Keys, .tree (α := S_api_Node) (S_api_Node.mk 0 [] [] []) pre_S_api_Node kids_S_api_Node o1.1.f_Kids]), (4123, 25, [.rowc true (α := S_api_Node) (S_api_Node.mk 0 [] [] []) E_api_Node o1.1.f_Kids]), (1000000, 40, [.str o1.2.f_s, .val (.int .i64 o1.2.f_at), .val (.bool o1.2.f_bad)])]) (.cons (.refl _) .nil) (.cons (.cons (.refl _) (.cons (.refl _) (.cons (.refl _) (.cons (.close _ _ _ _) .nil)))) (.cons (.cons (.refl _) .nil) (.cons (.cons (.refl _) (.cons (.refl _) (.cons (.refl _) .nil))) .nil))) ?_
  refine To.keep (kk := [2]) (kl := [2, 1000000]) (K' := [(2, .own 2 0)]) (L' := [(2, 25, [.val (.int .i64 o1.1.f_Kind), .str o1.1.f_Text, .recs (α := List UInt8) [] E_string o1.1.f_Keys, .tree (α := S_api_Node) (S_api_Node.mk 0 [] [] []) pre_S_api_Node kids_S_api_Node o1.1.f_Kids]), (1000000, 40, [.str o1.2.f_s, .val (.int .i64 o1.2.f_at), .val (.bool o1.2.f_bad)])]) (by kernel_rfl) (by kernel_rfl) ?_
  cases h
  exact To.doneB hΓ [1000000] (by kernel_rfl) (by kernel_rfl)
def E_i64 : Int → List D := fun x => [.val (.int .i64 x)]
def quote_ok (a0 : Int) : Bool :=
  (bif (decide (a0 ≥ 32)) then (a0 != 127) else false)
theorem ok_quote_ok (a0 : Int) (r : Bool) (h : quote_ok a0 = r) : CallsX Tryd.prog 39 [.val (.int .u8 a0)] (.val (.bool r)) := by
  unfold quote_ok at h
  refine callsX_of (fn := Tryd.f39) (by kernel_rfl) rfl (by kernel_rfl) (Nat.le_of_ble_eq_true (by kernel_rfl)) fun F0 w0 _ => ?_
  refine Wp.keep (kk := [0]) (kl := []) (K' := [(0, .val (.int .u8 a0))]) (L' := []) (by kernel_rfl) (by kernel_rfl) ?_
  refine Wp.seq ?_
  refine Wp.region hΓ [] [] [] [0] [] (K' := [(0, .val (.int .u8 a0))]) (L' := []) (ob := []) (by kernel_rfl) AllP.nil ?_
  refine To.thenN ?_
  refine Wp.seq ?_
  refine Wp.region hΓ [] [] [] [2] [] (K' := [(2, .val (.bool (bif (decide (a0 ≥ 32)) then (a0 != 127) else false)))]) (L' := []) (ob := []) (by kernel_rfl) AllP.nil ?_
  refine To.thenN ?_
  refine Wp.ret ?_
  refine To.keep (kk := [2]) (kl := []) (K' := [(2, .val (.bool (bif (decide (a0 ≥ 32)) then (a0 != 127) else false)))]) (L' := []) (by kernel_rfl) (by kernel_rfl) ?_
  cases h
  exact To.done hΓ (by kernel_rfl)
def quote_hex (a0 : Int) : Int × Bool :=
  if (bif (decide (a0 ≥ 48)) then (decide (a0 ≤ 57)) else false) = true then (((IntKind.wrap .u8 (a0 - 48)), true))
  else (if (bif (decide (a0 ≥ 97)) then (decide (a0 ≤ 102)) else false) = true then (((IntKind.wrap .u8 ((IntKind.wrap .u8 (a0 - 97)) + 10)), true))
  else (if (bif (decide (a0 ≥ 65)) then (decide (a0 ≤ 70)) else false) = true then (((IntKind.wrap .u8 ((IntKind.wrap .u8 (a0 - 65)) + 10)), true))
  else ((0, false))))
theorem ok_quote_hex (a0 : Int) (r : Int × Bool) (h : quote_hex a0 = r) : CallsX Tryd.prog 62 [.val (.int .u8 a0)] (.tup [.val (.int .u8 r.1), .val (.bool r.2)]) := by
  unfold quote_hex at h
  refine callsX_of (fn := Tryd.f62) (by kernel_rfl) rfl (by kernel_rfl) (Nat.le_of_ble_eq_true (by kernel_rfl)) fun F0 w0 _ => ?_
  refine Wp.keep (kk := [0]) (kl := []) (K' := [(0, .val (.int .u8 a0))]) (L' := []) (by kernel_rfl) (by kernel_rfl) ?_
  refine Wp.seq ?_
  refine Wp.region hΓ [] [] [] [0] [] (K' := [(0, .val (.int .u8 a0))]) (L' := []) (ob := []) (by kernel_rfl) AllP.nil ?_
  refine To.thenN ?_
  refine Wp.seq ?_
  refine Wp.block ?_
  refine Wp.seq ?_
  refine Wp.region hΓ [] [] [] [0, 4] [] (K' := [(0, .val (.int .u8 a0)), (4, .val (.bool (bif (decide (a0 ≥ 48)) then (decide (a0 ≤ 57)) else false)))]) (L' := []) (ob := []) (by kernel_rfl) AllP.nil ?_
  refine To.thenN ?_
  refine Wp.cond (b := (bif (decide (a0 ≥ 48)) then (decide (a0 ≤ 57)) else false)) (by kernel_rfl) (fun hb => ?_) (fun hb => ?_)
  · replace h := if_t hb h
    refine Wp.seq ?_
    refine Wp.region hΓ [] [] [] [2, 3] [] (K' := [(2, .val (.int .u8 (IntKind.wrap .u8 (a0 - 48)))), (3, .val (.bool true))]) (L' := []) (ob := []) (by kernel_rfl) AllP.nil ?_
    refine To.thenN ?_
    refine Wp.ret ?_
    refine To.blockR ?_
    refine To.thenR ?_
    refine To.keep (kk := [2, 3]) (kl := []) (K' := [(2, .val (.int .u8 (IntKind.wrap .u8 (a0 - 48)))), (3, .val (.bool true))]) (L' := []) (by kernel_rfl) (by kernel_rfl) ?_
    cases h
    exact To.done hΓ (by kernel_rfl)
  · replace h := if_f hb h
    refine Wp.seq ?_
    refine Wp.region hΓ [] [] [] [0, 13] [] (K' := [(0, .val (.int .u8 a0)), (13, .val (.bool (bif (decide (a0 ≥ 97)) then (decide (a0 ≤ 102)) else false)))]) (L' := []) (ob := []) (by kernel_rfl) AllP.nil ?_
    refine To.thenN ?_
    refine Wp.cond (b := (bif (decide (a0 ≥ 97)) then (decide (a0 ≤ 102)) else false)) (by kernel_rfl) (fun hb => ?_) (fun hb => ?_)
    · replace h := if_t hb h
      refine Wp.seq ?_
      refine Wp.region hΓ [] [] [] [2, 3] [] (K' := [(2, .val (.int .u8 (IntKind.wrap .u8 ((IntKind.wrap .u8 (a0 - 97)) + 10)))), (3, .val (.bool true))]) (L' := []) (ob := []) (by kernel_rfl) AllP.nil ?_
      refine To.thenN ?_
      refine Wp.ret ?_
      refine To.blockR ?_
      refine To.thenR ?_
      refine To.keep (kk := [2, 3]) (kl := []) (K' := [(2, .val (.int .u8 (IntKind.wrap .u8 ((IntKind.wrap .u8 (a0 - 97)) + 10)))), (3, .val (.bool true))]) (L' := []) (by kernel_rfl) (by kernel_rfl) ?_
      cases h
      exact To.done hΓ (by kernel_rfl)
    · replace h := if_f hb h
      refine Wp.seq ?_
      refine Wp.region hΓ [] [] [] [0, 23] [] (K' := [(0, .val (.int .u8 a0)), (23, .val (.bool (bif (decide (a0 ≥ 65)) then (decide (a0 ≤ 70)) else false)))]) (L' := []) (ob := []) (by kernel_rfl) AllP.nil ?_
      refine To.thenN ?_
      refine Wp.cond (b := (bif (decide (a0 ≥ 65)) then (decide (a0 ≤ 70)) else false)) (by kernel_rfl) (fun hb => ?_) (fun hb => ?_)
      · replace h := if_t hb h
        refine Wp.seq ?_
        refine Wp.region hΓ [] [] [] [2, 3] [] (K' := [(2, .val (.int .u8 (IntKind.wrap .u8 ((IntKind.wrap .u8 (a0 - 65)) + 10)))), (3, .val (.bool true))]) (L' := []) (ob := []) (by kernel_rfl) AllP.nil ?_
        refine To.thenN ?_
        refine Wp.ret ?_
        refine To.blockR ?_
        refine To.thenR ?_
        refine To.keep (kk := [2, 3]) (kl := []) (K' := [(2, .val (.int .u8 (IntKind.wrap .u8 ((IntKind.wrap .u8 (a0 - 65)) + 10)))), (3, .val (.bool true))]) (L' := []) (by kernel_rfl) (by kernel_rfl) ?_
        cases h
        exact To.done hΓ (by kernel_rfl)
      · replace h := if_f hb h
        refine Wp.skip ?_
        refine To.blockN ?_
        refine To.thenN ?_
        refine Wp.seq ?_
        refine Wp.region hΓ [] [] [] [2, 3] [] (K' := [(2, .val (.int .u8 0)), (3, .val (.bool false))]) (L' := []) (ob := []) (by kernel_rfl) AllP.nil ?_
        refine To.thenN ?_
        refine Wp.ret ?_
        refine To.keep (kk := [2, 3]) (kl := []) (K' := [(2, .val (.int .u8 0)), (3, .val (.bool false))]) (L' := []) (by kernel_rfl) (by kernel_rfl) ?_
        cases h
        exact To.done hΓ (by kernel_rfl)
def quote_escape_j2 (n : Nat) (v0 : List UInt8) (v12 : Int) (v13 : Bool) : Option (Bool) :=
  if v13 = true then some v13
  else (some (v12 == 34))
theorem ok_quote_escape_j2 (n : Nat) (v0 : List UInt8) (v12 : Int) (v13 : Bool) (o : Bool) (h : quote_escape_j2 n v0 v12 v13 = some o) {F0 : Fz} {w0 : Pt Tryd.prog} {Q : Exit → Act → World → Prop} (hQ : To 47 F0 w0 [(0, .str v0), (12, .val (.int .u8 v12)), (13, .val (.bool o))] [] .normal Q) : Wp Tryd.prog 47 F0 w0 [(0, .str v0), (12, .val (.int .u8 v12)), (13, .val (.bool v13))] [] (cB (cA (cI (cB (cA (cB (cB (cF Tryd.f54)))))))) Q := by
  unfold quote_escape_j2 at h
  refine Wp.cond (b := v13) (by kernel_rfl) (fun hb => ?_) (fun hb => ?_)
  · replace h := if_t hb h
    refine Wp.skip ?_
    refine To.keep (kk := [0, 12, 13]) (kl := []) (K' := [(0, .str v0), (12, .val (.int .u8 v12)), (13, .val (.bool v13))]) (L' := []) (by kernel_rfl) (by kernel_rfl) ?_
    cases h
    exact hQ
  · replace h := if_f hb h
    refine Wp.region hΓ [] [] [] [0, 12, 13] [] (K' := [(0, .str v0), (12, .val (.int .u8 v12)), (13, .val (.bool (v12 == 34)))]) (L' := []) (ob := []) (by kernel_rfl) AllP.nil ?_
    refine To.keep (kk := [0, 12, 13]) (kl := []) (K' := [(0, .str v0), (12, .val (.int .u8 v12)), (13, .val (.bool (v12 == 34)))]) (L' := []) (by kernel_rfl) (by kernel_rfl) ?_
    cases h
    exact hQ
def quote_escape_j1 (n : Nat) (v0 : List UInt8) (v12 : Int) : Option (Sum (Unit) (Int × Int)) :=
  (quote_escape_j2 n v0 v12 (v12 == 92)).bind fun o1 =>
  if o1 = true then (if (decide (0 ≤ (1 : Int) ∧ (1 : Int) < (List.length v0 : Int))) = true then (some (.inr ((((v0)[Int.toNat 1]?.getD 0).toNat : Int), 2))) else none)
  else (if (v12 == 110) = true then (some (.inr (10, 2)))
  else (if (v12 == 116) = true then (some (.inr (9, 2)))
  else (if (v12 == 120) = true then (if (decide ((List.length v0 : Int) < 4)) = true then (some (.inr (0, 0)))
  else (if (decide (0 ≤ (2 : Int) ∧ (2 : Int) < (List.length v0 : Int))) = true then (lett (quote_hex (((v0)[Int.toNat 2]?.getD 0).toNat : Int)) fun r3 =>
  if (decide (0 ≤ (3 : Int) ∧ (3 : Int) < (List.length v0 : Int))) = true then (lett (quote_hex (((v0)[Int.toNat 3]?.getD 0).toNat : Int)) fun r4 =>
  if (bif r3.2 then r4.2 else false) = true then (if (decide (0 ≤ (4 : Int))) = true then (lett ((IntKind.wrap .u8 ((BitVec.ofInt (IntKind.bits .u8) (IntKind.wrap .u8 (r3.1 * 2 ^ (min (Int.toNat 4) (IntKind.bits .u8)))) ||| BitVec.ofInt (IntKind.bits .u8) r4.1).toNat)) : Int) fun x5 =>
  some (.inr (x5, 4))) else none)
  else (some (.inl ()))) else none) else none))
  else (some (.inl ())))))
theorem ok_quote_escape_j1 (n : Nat) (v0 : List UInt8) (v12 : Int) (o : Sum (Unit) (Int × Int)) (h : quote_escape_j1 n v0 v12 = some o) {F0 : Fz} {w0 : Pt Tryd.prog} {Q : Exit → Act → World → Prop} (hQ : (Sum.elim (fun s => To 47 F0 w0 [] [] .normal Q) (fun s => To 47 F0 w0 [(2, .val (.int .u8 s.1)), (3, .val (.int .i64 s.2))] [] .ret Q)) o) : Wp Tryd.prog 47 F0 w0 [(0, .str v0), (12, .val (.int .u8 v12))] [] (cB (cA (cB (cB (cF Tryd.f54))))) Q := by
  unfold quote_escape_j1 at h
  refine Wp.block ?_
  refine Wp.seq ?_
  refine Wp.seq ?_
  refine Wp.region hΓ [] [] [] [0, 12, 13] [] (K' := [(0, .str v0), (12, .val (.int .u8 v12)), (13, .val (.bool (v12 == 92)))]) (L' := []) (ob := []) (by kernel_rfl) AllP.nil ?_
  refine To.thenN ?_
  obtain ⟨o1, ho1, h⟩ := bind_of h
  refine Wp.keep (kk := [0, 12, 13]) (kl := []) (K' := [(0, .str v0), (12, .val (.int .u8 v12)), (13, .val (.bool (v12 == 92)))]) (L' := []) (by kernel_rfl) (by kernel_rfl) ?_
  refine ok_quote_escape_j2 n v0 v12 (v12 == 92) o1 ho1 ?_
  refine To.thenN ?_
  refine Wp.cond (b := o1) (by kernel_rfl) (fun hb => ?_) (fun hb => ?_)
  · replace h := if_t hb h
    refine Wp.seq ?_
    obtain ⟨hc2, h⟩ := chk_of h
    refine Wp.region hΓ [] [] [] [2, 3] [] (K' := [(2, .val (.int .u8 (((v0)[Int.toNat 1]?.getD 0).toNat : Int))), (3, .val (.int .i64 2))]) (L' := []) (ob := [(decide (0 ≤ (1 : Int) ∧ (1 : Int) < (List.length v0 : Int))) = true]) (by kernel_rfl) (AllP.cons hc2 AllP.nil) ?_
    refine To.thenN ?_
    refine Wp.ret ?_
    refine To.blockR ?_
    refine To.keep (kk := [2, 3]) (kl := []) (K' := [(2, .val (.int .u8 (((v0)[Int.toNat 1]?.getD 0).toNat : Int))), (3, .val (.int .i64 2))]) (L' := []) (by kernel_rfl) (by kernel_rfl) ?_
    cases h
    exact hQ
  · replace h := if_f hb h
    refine Wp.seq ?_
    refine Wp.region hΓ [] [] [] [0, 12, 18] [] (K' := [(0, .str v0), (12, .val (.int .u8 v12)), (18, .val (.bool (v12 == 110)))]) (L' := []) (ob := []) (by kernel_rfl) AllP.nil ?_
    refine To.thenN ?_
    refine Wp.cond (b := (v12 == 110)) (by kernel_rfl) (fun hb => ?_) (fun hb => ?_)
    · replace h := if_t hb h
      refine Wp.seq ?_
      refine Wp.region hΓ [] [] [] [2, 3] [] (K' := [(2, .val (.int .u8 10)), (3, .val (.int .i64 2))]) (L' := []) (ob := []) (by kernel_rfl) AllP.nil ?_
      refine To.thenN ?_
      refine Wp.ret ?_
      refine To.blockR ?_
      refine To.keep (kk := [2, 3]) (kl := []) (K' := [(2, .val (.int .u8 10)), (3, .val (.int .i64 2))]) (L' := []) (by kernel_rfl) (by kernel_rfl) ?_
      cases h
      exact hQ
    · replace h := if_f hb h
      refine Wp.seq ?_
      refine Wp.region hΓ [] [] [] [0, 12, 20] [] (K' := [(0, .str v0), (12, .val (.int .u8 v12)), (20, .val (.bool (v12 == 116)))]) (L' := []) (ob := []) (by kernel_rfl) AllP.nil ?_
      refine To.thenN ?_
      refine Wp.cond (b := (v12 == 116)) (by kernel_rfl) (fun hb => ?_) (fun hb => ?_)
      · replace h := if_t hb h
        refine Wp.seq ?_
        refine Wp.region hΓ [] [] [] [2, 3] [] (K' := [(2, .val (.int .u8 9)), (3, .val (.int .i64 2))]) (L' := []) (ob := []) (by kernel_rfl) AllP.nil ?_
        refine To.thenN ?_
        refine Wp.ret ?_
        refine To.blockR ?_
        refine To.keep (kk := [2, 3]) (kl := []) (K' := [(2, .val (.int .u8 9)), (3, .val (.int .i64 2))]) (L' := []) (by kernel_rfl) (by kernel_rfl) ?_
        cases h
        exact hQ
      · replace h := if_f hb h
        refine Wp.seq ?_
        refine Wp.region hΓ [] [] [] [0, 22] [] (K' := [(0, .str v0), (22, .val (.bool (v12 == 120)))]) (L' := []) (ob := []) (by kernel_rfl) AllP.nil ?_
        refine To.thenN ?_
        refine Wp.cond (b := (v12 == 120)) (by kernel_rfl) (fun hb => ?_) (fun hb => ?_)
        · replace h := if_t hb h
          refine Wp.seq ?_
          refine Wp.seq ?_
          refine Wp.region hΓ [] [] [] [0, 26] [] (K' := [(0, .str v0), (26, .val (.bool (decide ((List.length v0 : Int) < 4))))]) (L' := []) (ob := []) (by kernel_rfl) AllP.nil ?_
          refine To.thenN ?_
          refine Wp.cond (b := (decide ((List.length v0 : Int) < 4))) (by kernel_rfl) (fun hb => ?_) (fun hb => ?_)
          · replace h := if_t hb h
            refine Wp.seq ?_
            refine Wp.region hΓ [] [] [] [2, 3] [] (K' := [(2, .val (.int .u8 0)), (3, .val (.int .i64 0))]) (L' := []) (ob := []) (by kernel_rfl) AllP.nil ?_
            refine To.thenN ?_
            refine Wp.ret ?_
            refine To.thenR ?_
            refine To.blockR ?_
            refine To.keep (kk := [2, 3]) (kl := []) (K' := [(2, .val (.int .u8 0)), (3, .val (.int .i64 0))]) (L' := []) (by kernel_rfl) (by kernel_rfl) ?_
            cases h
            exact hQ
          · replace h := if_f hb h
            refine Wp.skip ?_
            refine To.thenN ?_
            refine Wp.seq ?_
            obtain ⟨hc8, h⟩ := chk_of h
            obtain ⟨r3, hr3, h⟩ := lett_of h
            refine Wp.region hΓ [] [(2, .tup [.val (.int .u8 r3.1), .val (.bool r3.2)])] [] [0, 4, 5] [] (K' := [(0, .str v0), (4, .val (.int .u8 r3.1)), (5, .val (.bool r3.2))]) (L' := []) (ob := [(decide (0 ≤ (2 : Int) ∧ (2 : Int) < (List.length v0 : Int))) = true, (true = true → CX Tryd.prog 62 [.val (.int .u8 (((v0)[Int.toNat 2]?.getD 0).toNat : Int))] (.tup [.val (.int .u8 r3.1), .val (.bool r3.2)]))]) (by kernel_rfl) (AllP.cons hc8 (AllP.cons (fun _ => cx (ok_quote_hex (((v0)[Int.toNat 2]?.getD 0).toNat : Int) _ hr3)) AllP.nil)) ?_
            refine To.thenN ?_
            refine Wp.seq ?_
            obtain ⟨hc7, h⟩ := chk_of h
            obtain ⟨r4, hr4, h⟩ := lett_of h
            refine Wp.region hΓ [] [(2, .tup [.val (.int .u8 r4.1), .val (.bool r4.2)])] [] [4, 5, 6, 7] [] (K' := [(4, .val (.int .u8 r3.1)), (5, .val (.bool r3.2)), (6, .val (.int .u8 r4.1)), (7, .val (.bool r4.2))]) (L' := []) (ob := [(decide (0 ≤ (3 : Int) ∧ (3 : Int) < (List.length v0 : Int))) = true, (true = true → CX Tryd.prog 62 [.val (.int .u8 (((v0)[Int.toNat 3]?.getD 0).toNat : Int))] (.tup [.val (.int .u8 r4.1), .val (.bool r4.2)]))]) (by kernel_rfl) (AllP.cons hc7 (AllP.cons (fun _ => cx (ok_quote_hex (((v0)[Int.toNat 3]?.getD 0).toNat : Int) _ hr4)) AllP.nil)) ?_
            refine To.thenN ?_
            refine Wp.seq ?_
            refine Wp.region hΓ [] [] [] [4, 6, 42] [] (K' := [(4, .val (.int .u8 r3.1)), (6, .val (.int .u8 r4.1)), (42, .val (.bool (bif r3.2 then r4.2 else false)))]) (L' := []) (ob := []) (by kernel_rfl) AllP.nil ?_
            refine To.thenN ?_
            refine Wp.cond (b := (bif r3.2 then r4.2 else false)) (by kernel_rfl) (fun hb => ?_) (fun hb => ?_)
            · replace h := if_t hb h
              refine Wp.seq ?_
              obtain ⟨hc6, h⟩ := chk_of h
              obtain ⟨x5, hx5, h⟩ := lett_of h
              refine Wp.region hΓ [] [] [] [2, 3] [] (K' := [(2, .val (.int .u8 (IntKind.wrap .u8 ((BitVec.ofInt (IntKind.bits .u8) (IntKind.wrap .u8 (r3.1 * 2 ^ (min (Int.toNat 4) (IntKind.bits .u8)))) ||| BitVec.ofInt (IntKind.bits .u8) r4.1).toNat)))), (3, .val (.int .i64 4))]) (L' := []) (ob := [(decide (0 ≤ (4 : Int))) = true]) (by kernel_rfl) (AllP.cons hc6 AllP.nil) ?_
              refine To.eq (K' := [(2, .val (.int .u8 x5)), (3, .val (.int .i64 4))]) (L' := []) (by cases hx5; rfl) (by cases hx5; rfl) ?_
              refine To.thenN ?_
              refine Wp.ret ?_
              refine To.blockR ?_
              refine To.keep (kk := [2, 3]) (kl := []) (K' := [(2, .val (.int .u8 x5)), (3, .val (.int .i64 4))]) (L' := []) (by kernel_rfl) (by kernel_rfl) ?_
              cases h
              exact hQ
            · replace h := if_f hb h
              refine Wp.skip ?_
              refine To.blockN ?_
              refine To.keep (kk := []) (kl := []) (K' := []) (L' := []) (by kernel_rfl) (by kernel_rfl) ?_
              cases h
              exact hQ
        · replace h := if_f hb h
          refine Wp.skip ?_
          refine To.blockN ?_
          refine To.keep (kk := []) (kl := []) (K' := []) (L' := []) (by kernel_rfl) (by kernel_rfl) ?_
          cases h
          exact hQ
def quote_escape (n : Nat) (a0 : List UInt8) : Option (Int × Int) :=
  if (decide ((List.length a0 : Int) < 2)) = true then (some (0, 0))
  else (if (decide (0 ≤ (1 : Int) ∧ (1 : Int) < (List.length a0 : Int))) = true then ((quote_escape_j1 n a0 (((a0)[Int.toNat 1]?.getD 0).toNat : Int)).bind fun o1 =>
  (Sum.elim (fun o1 => some (0, 0)) (fun o1 => some (o1.1, o1.2))) o1) else none)
theorem ok_quote_escape (n : Nat) (a0 : List UInt8) (r : Int × Int) (h : quote_escape n a0 = some r) : CallsX Tryd.prog 54 [.str a0] (.tup [.val (.int .u8 r.1), .val (.int .i64 r.2)]) := by
  unfold quote_escape at h
  refine callsX_of (fn := Tryd.f54) (by kernel_rfl) rfl (by kernel_rfl) (Nat.le_of_ble_eq_true (by kernel_rfl)) fun F0 w0 _ => ?_
  refine Wp.keep (kk := [0]) (kl := []) (K' := [(0, .str a0)]) (L' := []) (by kernel_rfl) (by kernel_rfl) ?_
  refine Wp.seq ?_
  refine Wp.region hΓ [] [] [] [0] [] (K' := [(0, .str a0)]) (L' := []) (ob := []) (by kernel_rfl) AllP.nil ?_
  refine To.thenN ?_
  refine Wp.seq ?_
  refine Wp.seq ?_
  refine Wp.region hΓ [] [] [] [0, 10] [] (K' := [(0, .str a0), (10, .val (.bool (decide ((List.length a0 : Int) < 2))))]) (L' := []) (ob := []) (by kernel_rfl) AllP.nil ?_
  refine To.thenN ?_
  refine Wp.cond (b := (decide ((List.length a0 : Int) < 2))) (by kernel_rfl) (fun hb => ?_) (fun hb => ?_)
  · replace h := if_t hb h
    refine Wp.seq ?_
    refine Wp.region hΓ [] [] [] [2, 3] [] (K' := [(2, .val (.int .u8 0)), (3, .val (.int .i64 0))]) (L' := []) (ob := []) (by kernel_rfl) AllP.nil ?_
    refine To.thenN ?_
    refine Wp.ret ?_
    refine To.thenR ?_
    refine To.keep (kk := [2, 3]) (kl := []) (K' := [(2, .val (.int .u8 0)), (3, .val (.int .i64 0))]) (L' := []) (by kernel_rfl) (by kernel_rfl) ?_
    cases h
    exact To.done hΓ (by kernel_rfl)
  · replace h := if_f hb h
    refine Wp.skip ?_
    refine To.thenN ?_
    refine Wp.seq ?_
    refine Wp.seq ?_
    obtain ⟨hc2, h⟩ := chk_of h
    refine Wp.region hΓ [] [] [] [0, 12] [] (K' := [(0, .str a0), (12, .val (.int .u8 (((a0)[Int.toNat 1]?.getD 0).toNat : Int)))]) (L' := []) (ob := [(decide (0 ≤ (1 : Int) ∧ (1 : Int) < (List.length a0 : Int))) = true]) (by kernel_rfl) (AllP.cons hc2 AllP.nil) ?_
    refine To.thenN ?_
    obtain ⟨o1, ho1, h⟩ := bind_of h
    refine Wp.keep (kk := [0, 12]) (kl := []) (K' := [(0, .str a0), (12, .val (.int .u8 (((a0)[Int.toNat 1]?.getD 0).toNat : Int)))]) (L' := []) (by kernel_rfl) (by kernel_rfl) ?_
    refine ok_quote_escape_j1 n a0 (((a0)[Int.toNat 1]?.getD 0).toNat : Int) o1 ho1 ?_
    rcases o1 with o1 | o1
    · replace h := sum_l h
      refine To.thenN ?_
      refine Wp.seq ?_
      refine Wp.region hΓ [] [] [] [2, 3] [] (K' := [(2, .val (.int .u8 0)), (3, .val (.int .i64 0))]) (L' := []) (ob := []) (by kernel_rfl) AllP.nil ?_
      refine To.thenN ?_
      refine Wp.ret ?_
      refine To.keep (kk := [2, 3]) (kl := []) (K' := [(2, .val (.int .u8 0)), (3, .val (.int .i64 0))]) (L' := []) (by kernel_rfl) (by kernel_rfl) ?_
      cases h
      exact To.done hΓ (by kernel_rfl)
    · replace h := sum_r h
      refine To.thenR ?_
      refine To.keep (kk := [2, 3]) (kl := []) (K' := [(2, .val (.int .u8 o1.1)), (3, .val (.int .i64 o1.2))]) (L' := []) (by kernel_rfl) (by kernel_rfl) ?_
      cases h
      exact To.done hΓ (by kernel_rfl)
def quote_Scan_l1 (n : Nat) (v0 : List UInt8) (v7 : Int) : Nat → Int → (List (UInt8)) → Option (Sum (Unit) ((List UInt8) × Int × Int))
  | 0, _, _ => none
  | k + 1, v1, v8 => if ((!((decide (v1 < (List.length v0 : Int))) == true) || decide (0 ≤ v1 ∧ v1 < (List.length v0 : Int)))) = true then (if (bif (decide (v1 < (List.length v0 : Int))) then (quote_ok (((v0)[Int.toNat v1]?.getD 0).toNat : Int)) else false) = true then (if (decide (0 ≤ v1 ∧ v1 < (List.length v0 : Int))) = true then (if ((!((bif (bif ((((v0)[Int.toNat v1]?.getD 0).toNat : Int) == 39) then (v7 == (((v0)[Int.toNat v1]?.getD 0).toNat : Int)) else false) then (decide ((IntKind.wrap .i64 (v1 + 1)) < (List.length v0 : Int))) else false) == true) || decide (0 ≤ (IntKind.wrap .i64 (v1 + 1)) ∧ (IntKind.wrap .i64 (v1 + 1)) < (List.length v0 : Int)))) = true then (lett ((bif (bif (bif ((((v0)[Int.toNat v1]?.getD 0).toNat : Int) == 39) then (v7 == (((v0)[Int.toNat v1]?.getD 0).toNat : Int)) else false) then (decide ((IntKind.wrap .i64 (v1 + 1)) < (List.length v0 : Int))) else false) then ((((v0)[Int.toNat (IntKind.wrap .i64 (v1 + 1))]?.getD 0).toNat : Int) == (((v0)[Int.toNat v1]?.getD 0).toNat : Int)) else false) : Bool) fun x2 =>
  if x2 = true then (if (decide ((List.length v8 + List.length ([((v0)[Int.toNat v1]?.getD 0)] : List (UInt8))) * (1 + 1) ≤ limit)) = true then (quote_Scan_l1 n v0 v7 k (IntKind.wrap .i64 (v1 + 2)) (v8 ++ ([((v0)[Int.toNat v1]?.getD 0)] : List (UInt8)))) else none)
  else (if ((((v0)[Int.toNat v1]?.getD 0).toNat : Int) == v7) = true then (some (.inr (v8, (IntKind.wrap .i64 (v1 + 1)), 0)))
  else (if (bif ((((v0)[Int.toNat v1]?.getD 0).toNat : Int) == 92) then (v7 == 34) else false) = true then (if (decide (0 ≤ v1 ∧ v1 ≤ (List.length v0 : Int))) = true then ((quote_escape n (List.drop (Int.toNat v1) v0)).bind fun r4 =>
  if (r4.2 == 0) = true then (some (.inr ([], 0, 3)))
  else (if (decide (0 ≤ r4.1 ∧ r4.1 < 256)) = true then (if (decide ((List.length v8 + List.length ([(UInt8.ofNat (Int.toNat r4.1))] : List (UInt8))) * (1 + 1) ≤ limit)) = true then (quote_Scan_l1 n v0 v7 k (IntKind.wrap .i64 (v1 + r4.2)) (v8 ++ ([(UInt8.ofNat (Int.toNat r4.1))] : List (UInt8)))) else none) else none)) else none)
  else (if (decide ((List.length v8 + List.length ([((v0)[Int.toNat v1]?.getD 0)] : List (UInt8))) * (1 + 1) ≤ limit)) = true then (quote_Scan_l1 n v0 v7 k (IntKind.wrap .i64 (v1 + 1)) (v8 ++ ([((v0)[Int.toNat v1]?.getD 0)] : List (UInt8)))) else none)))) else none) else none)
  else (some (.inl ()))) else none
theorem ok_quote_Scan_l1 (n : Nat) (v0 : List UInt8) (v7 : Int) {F0 : Fz} {w0 : Pt Tryd.prog} {Q : Exit → Act → World → Prop} (k : Nat) : ∀ (v1 : Int) (v8 : List (UInt8)) (o : Sum (Unit) ((List UInt8) × Int × Int)), quote_Scan_l1 n v0 v7 k v1 v8 = some o → (Sum.elim (fun s => To 116 F0 w0 [] [] (.exit 0) Q) (fun s => To 116 F0 w0 [(4, .str s.1), (5, .val (.int .i64 s.2.1)), (6, .val (.int .i64 s.2.2))] [] .ret Q)) o → WL Tryd.prog 116 F0 w0 [(0, .str v0), (1, .val (.int .i64 v1)), (7, .val (.int .u8 v7)), (8, .row 1008)] [(1008, 5, [.rowc false (α := UInt8) 0 e8 v8])] (cI (cI (cB (cA (cB (cB (cB (cB (cF Tryd.f48))))))))) Q := by
  induction k with
  | zero => intro v1 v8 o h; cases h
  | succ k ih =>
    intro v1 v8 o h hQ
    rw [quote_Scan_l1] at h
    refine WL.round ?_
    refine Wp.seq ?_
    refine Wp.seq ?_
    obtain ⟨hc11, h⟩ := chk_of h
    refine Wp.region hΓ [] [(8, .val (.bool (quote_ok (((v0)[Int.toNat v1]?.getD 0).toNat : Int))))] [] [0, 1, 7, 8, 46] [1008] (K' := [(0, .str v0), (1, .val (.int .i64 v1)), (7, .val (.int .u8 v7)), (8, .row 1008), (46, .val (.bool (bif (decide (v1 < (List.length v0 : Int))) then (quote_ok (((v0)[Int.toNat v1]?.getD 0).toNat : Int)) else false)))]) (L' := [(1008, 5, [.rowc false (α := UInt8) 0 e8 v8])]) (ob := [(!((decide (v1 < (List.length v0 : Int))) == true) || decide (0 ≤ v1 ∧ v1 < (List.length v0 : Int))) = true, (((decide (v1 < (List.length v0 : Int))) == true) = true → CX Tryd.prog 39 [.val (.int .u8 (((v0)[Int.toNat v1]?.getD 0).toNat : Int))] (.val (.bool (quote_ok (((v0)[Int.toNat v1]?.getD 0).toNat : Int)))))]) (by kernel_rfl) (AllP.cons hc11 (AllP.cons (fun _ => cx (ok_quote_ok (((v0)[Int.toNat v1]?.getD 0).toNat : Int) _ rfl)) AllP.nil)) ?_
    refine To.thenN ?_
    refine Wp.cond (b := (bif (decide (v1 < (List.length v0 : Int))) then (quote_ok (((v0)[Int.toNat v1]?.getD 0).toNat : Int)) else false)) (by kernel_rfl) (fun hb => ?_) (fun hb => ?_)
    · replace h := if_t hb h
      refine Wp.skip ?_
      refine To.thenN ?_
      refine Wp.block ?_
      refine Wp.seq ?_
      obtain ⟨hc10, h⟩ := chk_of h
      refine Wp.region hΓ [] [] [] [0, 1, 7, 8, 9] [1008] (K' := [(0, .str v0), (1, .val (.int .i64 v1)), (7, .val (.int .u8 v7)), (8, .row 1008), (9, .val (.int .u8 (((v0)[Int.toNat v1]?.getD 0).toNat : Int)))]) (L' := [(1008, 5, [.rowc false (α := UInt8) 0 e8 v8])]) (ob := [(decide (0 ≤ v1 ∧ v1 < (List.length v0 : Int))) = true]) (by kernel_rfl) (AllP.cons hc10 AllP.nil) ?_
      refine To.thenN ?_
      refine Wp.block ?_
      refine Wp.seq ?_
      obtain ⟨hc9, h⟩ := chk_of h
      obtain ⟨x2, hx2, h⟩ := lett_of h
      refine Wp.region hΓ [] [] [] [0, 1, 7, 8, 9, 56] [1008] (K' := [(0, .str v0), (1, .val (.int .i64 v1)), (7, .val (.int .u8 v7)), (8, .row 1008), (9, .val (.int .u8 (((v0)[Int.toNat v1]?.getD 0).toNat : Int))), (56, .val (.bool (bif (bif (bif ((((v0)[Int.toNat v1]?.getD 0).toNat : Int) == 39) then (v7 == (((v0)[Int.toNat v1]?.getD 0).toNat : Int)) else false) then (decide ((IntKind.wrap .i64 (v1 + 1)) < (List.length v0 : Int))) else false) then ((((v0)[Int.toNat (IntKind.wrap .i64 (v1 + 1))]?.getD 0).toNat : Int) == (((v0)[Int.toNat v1]?.getD 0).toNat : Int)) else false)))]) (L' := [(1008, 5, [.rowc false (α := UInt8) 0 e8 v8])]) (ob := [(!((bif (bif ((((v0)[Int.toNat v1]?.getD 0).toNat : Int) == 39) then (v7 == (((v0)[Int.toNat v1]?.getD 0).toNat : Int)) else false) then (decide ((IntKind.wrap .i64 (v1 + 1)) < (List.length v0 : Int))) else false) == true) || decide (0 ≤ (IntKind.wrap .i64 (v1 + 1)) ∧ (IntKind.wrap .i64 (v1 + 1)) < (List.length v0 : Int))) = true]) (by kernel_rfl) (AllP.cons hc9 AllP.nil) ?_
      refine To.eq (K' := [(0, .str v0), (1, .val (.int .i64 v1)), (7, .val (.int .u8 v7)), (8, .row 1008), (9, .val (.int .u8 (((v0)[Int.toNat v1]?.getD 0).toNat : Int))), (56, .val (.bool x2))]) (L' := [(1008, 5, [.rowc false (α := UInt8) 0 e8 v8])]) (by cases hx2; rfl) (by cases hx2; rfl) ?_
      refine To.thenN ?_
      refine Wp.cond (b := x2) (by kernel_rfl) (fun hb => ?_) (fun hb => ?_)
      · replace h := if_t hb h
        refine Wp.seq ?_
        obtain ⟨hc3, h⟩ := chk_of h
        refine Wp.region hΓ [] [(2, .recs (α := UInt8) 0 e8 ([((v0)[Int.toNat v1]?.getD 0)])), (3, .recs (α := UInt8) 0 e8 (v8 ++ ([((v0)[Int.toNat v1]?.getD 0)] : List (UInt8))))] [] [0, 1, 7, 8] [82] (K' := [(0, .str v0), (1, .val (.int .i64 v1)), (7, .val (.int .u8 v7)), (8, .row 82)]) (L' := [(82, 5, [.rowc false (α := UInt8) 0 e8 (v8 ++ ([((v0)[Int.toNat v1]?.getD 0)] : List (UInt8)))])]) (ob := [(MkOb 1 [.val (.int .u8 (((v0)[Int.toNat v1]?.getD 0).toNat : Int))] 1 (.recs (α := UInt8) 0 e8 ([((v0)[Int.toNat v1]?.getD 0)])) ∧ GoodR (.recs (α := UInt8) 0 e8 ([((v0)[Int.toNat v1]?.getD 0)]))), (decide ((List.length v8 + List.length ([((v0)[Int.toNat v1]?.getD 0)] : List (UInt8))) * (1 + 1) ≤ limit)) = true, (AppOb 0 e8 v8 (List.flatMap e8 ([((v0)[Int.toNat v1]?.getD 0)] : List (UInt8))) (List.length ([((v0)[Int.toNat v1]?.getD 0)] : List (UInt8))) (.recs (α := UInt8) 0 e8 (v8 ++ ([((v0)[Int.toNat v1]?.getD 0)] : List (UInt8)))) ∧ GoodR (.recs (α := UInt8) 0 e8 (v8 ++ ([((v0)[Int.toNat v1]?.getD 0)] : List (UInt8)))))]) (by kernel_rfl) (AllP.cons (mkOb (All8.cells (ns := [(((v0)[Int.toNat v1]?.getD 0).toNat : Int)]) (.cons rfl .nil)) rfl rfl (good8 _)) (AllP.cons hc3 (AllP.cons (appOb rfl rfl (good8 _)) AllP.nil))) ?_
        refine To.thenN ?_
        refine Wp.region hΓ [] [] [] [0, 1, 7, 8] [82] (K' := [(0, .str v0), (1, .val (.int .i64 (IntKind.wrap .i64 (v1 + 2)))), (7, .val (.int .u8 v7)), (8, .row 82)]) (L' := [(82, 5, [.rowc false (α := UInt8) 0 e8 (v8 ++ ([((v0)[Int.toNat v1]?.getD 0)] : List (UInt8)))])]) (ob := []) (by kernel_rfl) AllP.nil ?_
        refine To.blockN ?_
        refine To.blockN ?_
        refine To.keep (kk := [0, 1, 7, 8]) (kl := [82]) (K' := [(0, .str v0), (1, .val (.int .i64 (IntKind.wrap .i64 (v1 + 2)))), (7, .val (.int .u8 v7)), (8, .row 82)]) (L' := [(82, 5, [.rowc false (α := UInt8) 0 e8 (v8 ++ ([((v0)[Int.toNat v1]?.getD 0)] : List (UInt8)))])]) (by kernel_rfl) (by kernel_rfl) ?_
        refine To.pre (St.rename 82 1008 (by decide) (K' := [(0, .str v0), (1, .val (.int .i64 (IntKind.wrap .i64 (v1 + 2)))), (7, .val (.int .u8 v7)), (8, .row 1008)]) (L' := [(1008, 5, [.rowc false (α := UInt8) 0 e8 (v8 ++ ([((v0)[Int.toNat v1]?.getD 0)] : List (UInt8)))])]) (by kernel_rfl) (by kernel_rfl) (by kernel_rfl)) ?_
        refine To.keep (kk := [0, 1, 7, 8]) (kl := [1008]) (K' := [(0, .str v0), (1, .val (.int .i64 (IntKind.wrap .i64 (v1 + 2)))), (7, .val (.int .u8 v7)), (8, .row 1008)]) (L' := [(1008, 5, [.rowc false (α := UInt8) 0 e8 (v8 ++ ([((v0)[Int.toNat v1]?.getD 0)] : List (UInt8)))])]) (by kernel_rfl) (by kernel_rfl) ?_
        refine To.again ?_
        exact ih (IntKind.wrap .i64 (v1 + 2)) (v8 ++ ([((v0)[Int.toNat v1]?.getD 0)] : List (UInt8))) _ h hQ
      · replace h := if_f hb h
        refine Wp.seq ?_
        refine Wp.region hΓ [] [] [] [0, 1, 7, 8, 9, 85] [1008] (K' := [(0, .str v0), (1, .val (.int .i64 v1)), (7, .val (.int .u8 v7)), (8, .row 1008), (9, .val (.int .u8 (((v0)[Int.toNat v1]?.getD 0).toNat : Int))), (85, .val (.bool ((((v0)[Int.toNat v1]?.getD 0).toNat : Int) == v7)))]) (L' := [(1008, 5, [.rowc false (α := UInt8) 0 e8 v8])]) (ob := []) (by kernel_rfl) AllP.nil ?_
        refine To.thenN ?_
        refine Wp.cond (b := ((((v0)[Int.toNat v1]?.getD 0).toNat : Int) == v7)) (by kernel_rfl) (fun hb => ?_) (fun hb => ?_)
        · replace h := if_t hb h
          refine Wp.seq ?_
          refine Wp.region hΓ [] [(1, .str v8)] [] [4, 5, 6] [] (K' := [(4, .str v8), (5, .val (.int .i64 (IntKind.wrap .i64 (v1 + 1)))), (6, .val (.int .i64 0))]) (L' := []) (ob := [(true = true → StrOb (List.flatMap e8 v8) (.str v8))]) (by kernel_rfl) (AllP.cons (fun _ => strOb (flat8 _)) AllP.nil) ?_
          refine To.thenN ?_
          refine Wp.ret ?_
          refine To.blockR ?_
          refine To.blockR ?_
          refine To.thenR ?_
          refine To.keep (kk := [4, 5, 6]) (kl := []) (K' := [(4, .str v8), (5, .val (.int .i64 (IntKind.wrap .i64 (v1 + 1)))), (6, .val (.int .i64 0))]) (L' := []) (by kernel_rfl) (by kernel_rfl) ?_
          cases h
          exact hQ
        · replace h := if_f hb h
          refine Wp.seq ?_
          refine Wp.region hΓ [] [] [] [0, 1, 7, 8, 9, 93] [1008] (K' := [(0, .str v0), (1, .val (.int .i64 v1)), (7, .val (.int .u8 v7)), (8, .row 1008), (9, .val (.int .u8 (((v0)[Int.toNat v1]?.getD 0).toNat : Int))), (93, .val (.bool (bif ((((v0)[Int.toNat v1]?.getD 0).toNat : Int) == 92) then (v7 == 34) else false)))]) (L' := [(1008, 5, [.rowc false (α := UInt8) 0 e8 v8])]) (ob := []) (by kernel_rfl) AllP.nil ?_
          refine To.thenN ?_
          refine Wp.cond (b := (bif ((((v0)[Int.toNat v1]?.getD 0).toNat : Int) == 92) then (v7 == 34) else false)) (by kernel_rfl) (fun hb => ?_) (fun hb => ?_)
          · replace h := if_t hb h
            refine Wp.seq ?_
            obtain ⟨hc7, h⟩ := chk_of h
            obtain ⟨r4, hr4, h⟩ := bind_of h
            refine Wp.region hΓ [] [(3, .tup [.val (.int .u8 r4.1), .val (.int .i64 r4.2)])] [] [0, 1, 7, 8, 10, 11] [1008] (K' := [(0, .str v0), (1, .val (.int .i64 v1)), (7, .val (.int .u8 v7)), (8, .row 1008), (10, .val (.int .u8 r4.1)), (11, .val (.int .i64 r4.2))]) (L' := [(1008, 5, [.rowc false (α := UInt8) 0 e8 v8])]) (ob := [(decide (0 ≤ v1 ∧ v1 ≤ (List.length v0 : Int))) = true, (true = true → CX Tryd.prog 54 [.str (List.drop (Int.toNat v1) v0)] (.tup [.val (.int .u8 r4.1), .val (.int .i64 r4.2)]))]) (by kernel_rfl) (AllP.cons hc7 (AllP.cons (fun _ => cx (ok_quote_escape n (List.drop (Int.toNat v1) v0) _ hr4)) AllP.nil)) ?_
            refine To.thenN ?_
            refine Wp.seq ?_
            refine Wp.seq ?_
            refine Wp.region hΓ [] [] [] [0, 1, 7, 8, 10, 11, 108] [1008] (K' := [(0, .str v0), (1, .val (.int .i64 v1)), (7, .val (.int .u8 v7)), (8, .row 1008), (10, .val (.int .u8 r4.1)), (11, .val (.int .i64 r4.2)), (108, .val (.bool (r4.2 == 0)))]) (L' := [(1008, 5, [.rowc false (α := UInt8) 0 e8 v8])]) (ob := []) (by kernel_rfl) AllP.nil ?_
            refine To.thenN ?_
            refine Wp.cond (b := (r4.2 == 0)) (by kernel_rfl) (fun hb => ?_) (fun hb => ?_)
            · replace h := if_t hb h
              refine Wp.seq ?_
              refine Wp.region hΓ [] [] [] [4, 5, 6] [] (K' := [(4, .str []), (5, .val (.int .i64 0)), (6, .val (.int .i64 3))]) (L' := []) (ob := []) (by kernel_rfl) AllP.nil ?_
              refine To.thenN ?_
              refine Wp.ret ?_
              refine To.thenR ?_
              refine To.blockR ?_
              refine To.blockR ?_
              refine To.thenR ?_
              refine To.keep (kk := [4, 5, 6]) (kl := []) (K' := [(4, .str []), (5, .val (.int .i64 0)), (6, .val (.int .i64 3))]) (L' := []) (by kernel_rfl) (by kernel_rfl) ?_
              cases h
              exact hQ
            · replace h := if_f hb h
              refine Wp.skip ?_
              refine To.thenN ?_
              refine Wp.seq ?_
              obtain ⟨u5, h⟩ := chk_of h
              obtain ⟨hc6, h⟩ := chk_of h
              refine Wp.region hΓ [] [(2, .recs (α := UInt8) 0 e8 [(UInt8.ofNat (Int.toNat r4.1))]), (3, .recs (α := UInt8) 0 e8 (v8 ++ ([(UInt8.ofNat (Int.toNat r4.1))] : List (UInt8))))] [] [0, 1, 7, 8, 11] [112] (K' := [(0, .str v0), (1, .val (.int .i64 v1)), (7, .val (.int .u8 v7)), (8, .row 112), (11, .val (.int .i64 r4.2))]) (L' := [(112, 5, [.rowc false (α := UInt8) 0 e8 (v8 ++ ([(UInt8.ofNat (Int.toNat r4.1))] : List (UInt8)))])]) (ob := [(MkOb 1 [.val (.int .u8 r4.1)] 1 (.recs (α := UInt8) 0 e8 [(UInt8.ofNat (Int.toNat r4.1))]) ∧ GoodR (.recs (α := UInt8) 0 e8 [(UInt8.ofNat (Int.toNat r4.1))])), (decide ((List.length v8 + List.length ([(UInt8.ofNat (Int.toNat r4.1))] : List (UInt8))) * (1 + 1) ≤ limit)) = true, (AppOb 0 e8 v8 (List.flatMap e8 ([(UInt8.ofNat (Int.toNat r4.1))] : List (UInt8))) (List.length ([(UInt8.ofNat (Int.toNat r4.1))] : List (UInt8))) (.recs (α := UInt8) 0 e8 (v8 ++ ([(UInt8.ofNat (Int.toNat r4.1))] : List (UInt8)))) ∧ GoodR (.recs (α := UInt8) 0 e8 (v8 ++ ([(UInt8.ofNat (Int.toNat r4.1))] : List (UInt8)))))]) (by kernel_rfl) (AllP.cons (mkOb (All8.cells (ns := [r4.1]) (.cons (u8_of u5) .nil)) rfl rfl (good8 _)) (AllP.cons hc6 (AllP.cons (appOb rfl rfl (good8 _)) AllP.nil))) ?_
              refine To.thenN ?_
              refine Wp.region hΓ [] [] [] [0, 1, 7, 8] [112] (K' := [(0, .str v0), (1, .val (.int .i64 (IntKind.wrap .i64 (v1 + r4.2)))), (7, .val (.int .u8 v7)), (8, .row 112)]) (L' := [(112, 5, [.rowc false (α := UInt8) 0 e8 (v8 ++ ([(UInt8.ofNat (Int.toNat r4.1))] : List (UInt8)))])]) (ob := []) (by kernel_rfl) AllP.nil ?_
              refine To.blockN ?_
              refine To.blockN ?_
              refine To.keep (kk := [0, 1, 7, 8]) (kl := [112]) (K' := [(0, .str v0), (1, .val (.int .i64 (IntKind.wrap .i64 (v1 + r4.2)))), (7, .val (.int .u8 v7)), (8, .row 112)]) (L' := [(112, 5, [.rowc false (α := UInt8) 0 e8 (v8 ++ ([(UInt8.ofNat (Int.toNat r4.1))] : List (UInt8)))])]) (by kernel_rfl) (by kernel_rfl) ?_
              refine To.pre (St.rename 112 1008 (by decide) (K' := [(0, .str v0), (1, .val (.int .i64 (IntKind.wrap .i64 (v1 + r4.2)))), (7, .val (.int .u8 v7)), (8, .row 1008)]) (L' := [(1008, 5, [.rowc false (α := UInt8) 0 e8 (v8 ++ ([(UInt8.ofNat (Int.toNat r4.1))] : List (UInt8)))])]) (by kernel_rfl) (by kernel_rfl) (by kernel_rfl)) ?_
              refine To.keep (kk := [0, 1, 7, 8]) (kl := [1008]) (K' := [(0, .str v0), (1, .val (.int .i64 (IntKind.wrap .i64 (v1 + r4.2)))), (7, .val (.int .u8 v7)), (8, .row 1008)]) (L' := [(1008, 5, [.rowc false (α := UInt8) 0 e8 (v8 ++ ([(UInt8.ofNat (Int.toNat r4.1))] : List (UInt8)))])]) (by kernel_rfl) (by kernel_rfl) ?_
              refine To.again ?_
              exact ih (IntKind.wrap .i64 (v1 + r4.2)) (v8 ++ ([(UInt8.ofNat (Int.toNat r4.1))] : List (UInt8))) _ h hQ
          · replace h := if_f hb h
            refine Wp.seq ?_
            obtain ⟨hc8, h⟩ := chk_of h
            refine Wp.region hΓ [] [(2, .recs (α := UInt8) 0 e8 ([((v0)[Int.toNat v1]?.getD 0)])), (3, .recs (α := UInt8) 0 e8 (v8 ++ ([((v0)[Int.toNat v1]?.getD 0)] : List (UInt8))))] [] [0, 1, 7, 8] [53] (K' := [(0, .str v0), (1, .val (.int .i64 v1)), (7, .val (.int .u8 v7)), (8, .row 53)]) (L' := [(53, 5, [.rowc false (α := UInt8) 0 e8 (v8 ++ ([((v0)[Int.toNat v1]?.getD 0)] : List (UInt8)))])]) (ob := [(MkOb 1 [.val (.int .u8 (((v0)[Int.toNat v1]?.getD 0).toNat : Int))] 1 (.recs (α := UInt8) 0 e8 ([((v0)[Int.toNat v1]?.getD 0)])) ∧ GoodR (.recs (α := UInt8) 0 e8 ([((v0)[Int.toNat v1]?.getD 0)]))), (decide ((List.length v8 + List.length ([((v0)[Int.toNat v1]?.getD 0)] : List (UInt8))) * (1 + 1) ≤ limit)) = true, (AppOb 0 e8 v8 (List.flatMap e8 ([((v0)[Int.toNat v1]?.getD 0)] : List (UInt8))) (List.length ([((v0)[Int.toNat v1]?.getD 0)] : List (UInt8))) (.recs (α := UInt8) 0 e8 (v8 ++ ([((v0)[Int.toNat v1]?.getD 0)] : List (UInt8)))) ∧ GoodR (.recs (α := UInt8) 0 e8 (v8 ++ ([((v0)[Int.toNat v1]?.getD 0)] : List (UInt8)))))]) (by kernel_rfl) (AllP.cons (mkOb (All8.cells (ns := [(((v0)[Int.toNat v1]?.getD 0).toNat : Int)]) (.cons rfl .nil)) rfl rfl (good8 _)) (AllP.cons hc8 (AllP.cons (appOb rfl rfl (good8 _)) AllP.nil))) ?_
            refine To.thenN ?_
            refine Wp.region hΓ [] [] [] [0, 1, 7, 8] [53] (K' := [(0, .str v0), (1, .val (.int .i64 (IntKind.wrap .i64 (v1 + 1)))), (7, .val (.int .u8 v7)), (8, .row 53)]) (L' := [(53, 5, [.rowc false (α := UInt8) 0 e8 (v8 ++ ([((v0)[Int.toNat v1]?.getD 0)] : List (UInt8)))])]) (ob := []) (by kernel_rfl) AllP.nil ?_
            refine To.blockN ?_
            refine To.blockN ?_
            refine To.keep (kk := [0, 1, 7, 8]) (kl := [53]) (K' := [(0, .str v0), (1, .val (.int .i64 (IntKind.wrap .i64 (v1 + 1)))), (7, .val (.int .u8 v7)), (8, .row 53)]) (L' := [(53, 5, [.rowc false (α := UInt8) 0 e8 (v8 ++ ([((v0)[Int.toNat v1]?.getD 0)] : List (UInt8)))])]) (by kernel_rfl) (by kernel_rfl) ?_
            refine To.pre (St.rename 53 1008 (by decide) (K' := [(0, .str v0), (1, .val (.int .i64 (IntKind.wrap .i64 (v1 + 1)))), (7, .val (.int .u8 v7)), (8, .row 1008)]) (L' := [(1008, 5, [.rowc false (α := UInt8) 0 e8 (v8 ++ ([((v0)[Int.toNat v1]?.getD 0)] : List (UInt8)))])]) (by kernel_rfl) (by kernel_rfl) (by kernel_rfl)) ?_
            refine To.keep (kk := [0, 1, 7, 8]) (kl := [1008]) (K' := [(0, .str v0), (1, .val (.int .i64 (IntKind.wrap .i64 (v1 + 1)))), (7, .val (.int .u8 v7)), (8, .row 1008)]) (L' := [(1008, 5, [.rowc false (α := UInt8) 0 e8 (v8 ++ ([((v0)[Int.toNat v1]?.getD 0)] : List (UInt8)))])]) (by kernel_rfl) (by kernel_rfl) ?_
            refine To.again ?_
            exact ih (IntKind.wrap .i64 (v1 + 1)) (v8 ++ ([((v0)[Int.toNat v1]?.getD 0)] : List (UInt8))) _ h hQ
    · replace h := if_f hb h
      refine Wp.exit ?_
      refine To.thenX ?_
      refine To.thenX ?_
      refine To.keep (kk := []) (kl := []) (K' := []) (L' := []) (by kernel_rfl) (by kernel_rfl) ?_
      cases h
      exact hQ
def quote_Scan (n : Nat) (a0 : List UInt8) (a1 : Int) : Option ((List UInt8) × Int × Int) :=
  if ((!((bif (decide (a1 < 0)) then true else (decide (a1 ≥ (List.length a0 : Int)))) == false) || decide (0 ≤ a1 ∧ a1 < (List.length a0 : Int)))) = true then (if ((!((((((a0)[Int.toNat a1]?.getD 0).toNat : Int) != 34) == true) && ((bif (decide (a1 < 0)) then true else (decide (a1 ≥ (List.length a0 : Int)))) == false)) || decide (0 ≤ a1 ∧ a1 < (List.length a0 : Int)))) = true then (lett ((bif (bif (decide (a1 < 0)) then true else (decide (a1 ≥ (List.length a0 : Int)))) then true else (bif ((((a0)[Int.toNat a1]?.getD 0).toNat : Int) != 34) then ((((a0)[Int.toNat a1]?.getD 0).toNat : Int) != 39) else false)) : Bool) fun x1 =>
  if x1 = true then (some ([], 0, 2))
  else (if (decide (0 ≤ a1 ∧ a1 < (List.length a0 : Int))) = true then ((quote_Scan_l1 n a0 (((a0)[Int.toNat a1]?.getD 0).toNat : Int) n (IntKind.wrap .i64 (a1 + 1)) ([] : List (UInt8))).bind fun o2 =>
  (Sum.elim (fun o2 => some ([], 0, 3)) (fun o2 => some (o2.1, o2.2.1, o2.2.2))) o2) else none)) else none) else none
theorem ok_quote_Scan (n : Nat) (a0 : List UInt8) (a1 : Int) (r : (List UInt8) × Int × Int) (h : quote_Scan n a0 a1 = some r) : CallsX Tryd.prog 48 [.str a0, .val (.int .i64 a1)] (.tup [.str r.1, .val (.int .i64 r.2.1), .val (.int .i64 r.2.2)]) := by
  unfold quote_Scan at h
  refine callsX_of (fn := Tryd.f48) (by kernel_rfl) rfl (by kernel_rfl) (Nat.le_of_ble_eq_true (by kernel_rfl)) fun F0 w0 _ => ?_
  refine Wp.keep (kk := [0, 1]) (kl := []) (K' := [(0, .str a0), (1, .val (.int .i64 a1))]) (L' := []) (by kernel_rfl) (by kernel_rfl) ?_
  refine Wp.seq ?_
  refine Wp.region hΓ [] [] [] [0, 1] [] (K' := [(0, .str a0), (1, .val (.int .i64 a1))]) (L' := []) (ob := []) (by kernel_rfl) AllP.nil ?_
  refine To.thenN ?_
  refine Wp.seq ?_
  refine Wp.seq ?_
  obtain ⟨hc4, h⟩ := chk_of h
  obtain ⟨hc5, h⟩ := chk_of h
  obtain ⟨x1, hx1, h⟩ := lett_of h
  refine Wp.region hΓ [] [] [] [0, 1, 31] [] (K' := [(0, .str a0), (1, .val (.int .i64 a1)), (31, .val (.bool (bif (bif (decide (a1 < 0)) then true else (decide (a1 ≥ (List.length a0 : Int)))) then true else (bif ((((a0)[Int.toNat a1]?.getD 0).toNat : Int) != 34) then ((((a0)[Int.toNat a1]?.getD 0).toNat : Int) != 39) else false))))]) (L' := []) (ob := [(!((bif (decide (a1 < 0)) then true else (decide (a1 ≥ (List.length a0 : Int)))) == false) || decide (0 ≤ a1 ∧ a1 < (List.length a0 : Int))) = true, (!((((((a0)[Int.toNat a1]?.getD 0).toNat : Int) != 34) == true) && ((bif (decide (a1 < 0)) then true else (decide (a1 ≥ (List.length a0 : Int)))) == false)) || decide (0 ≤ a1 ∧ a1 < (List.length a0 : Int))) = true]) (by kernel_rfl) (AllP.cons hc4 (AllP.cons hc5 AllP.nil)) ?_
  refine To.eq (K' := [(0, .str a0), (1, .val (.int .i64 a1)), (31, .val (.bool x1))]) (L' := []) (by cases hx1; rfl) (by cases hx1; rfl) ?_
  refine To.thenN ?_
  refine Wp.cond (b := x1) (by kernel_rfl) (fun hb => ?_) (fun hb => ?_)
  · replace h := if_t hb h
    refine Wp.seq ?_
    refine Wp.region hΓ [] [] [] [4, 5, 6] [] (K' := [(4, .str []), (5, .val (.int .i64 0)), (6, .val (.int .i64 2))]) (L' := []) (ob := []) (by kernel_rfl) AllP.nil ?_
    refine To.thenN ?_
    refine Wp.ret ?_
    refine To.thenR ?_
    refine To.keep (kk := [4, 5, 6]) (kl := []) (K' := [(4, .str []), (5, .val (.int .i64 0)), (6, .val (.int .i64 2))]) (L' := []) (by kernel_rfl) (by kernel_rfl) ?_
    cases h
    exact To.done hΓ (by kernel_rfl)
  · replace h := if_f hb h
    refine Wp.skip ?_
    refine To.thenN ?_
    refine Wp.seq ?_
    obtain ⟨hc3, h⟩ := chk_of h
    refine Wp.region hΓ [] [] [] [0, 1, 7] [] (K' := [(0, .str a0), (1, .val (.int .i64 a1)), (7, .val (.int .u8 (((a0)[Int.toNat a1]?.getD 0).toNat : Int)))]) (L' := []) (ob := [(decide (0 ≤ a1 ∧ a1 < (List.length a0 : Int))) = true]) (by kernel_rfl) (AllP.cons hc3 AllP.nil) ?_
    refine To.thenN ?_
    refine Wp.seq ?_
    refine Wp.region hΓ [] [] [] [0, 1, 7, 8] [] (K' := [(0, .str a0), (1, .val (.int .i64 a1)), (7, .val (.int .u8 (((a0)[Int.toNat a1]?.getD 0).toNat : Int))), (8, .val (.slice none 0 0))]) (L' := []) (ob := []) (by kernel_rfl) AllP.nil ?_
    refine To.thenN ?_
    refine Wp.seq ?_
    refine Wp.seq ?_
    refine Wp.region hΓ [] [] [] [0, 1, 7, 8] [] (K' := [(0, .str a0), (1, .val (.int .i64 (IntKind.wrap .i64 (a1 + 1)))), (7, .val (.int .u8 (((a0)[Int.toNat a1]?.getD 0).toNat : Int))), (8, .val (.slice none 0 0))]) (L' := []) (ob := []) (by kernel_rfl) AllP.nil ?_
    refine To.thenN ?_
    refine Wp.block ?_
    obtain ⟨o2, ho2, h⟩ := bind_of h
    refine Wp.keep (kk := [0, 1, 7, 8]) (kl := []) (K' := [(0, .str a0), (1, .val (.int .i64 (IntKind.wrap .i64 (a1 + 1)))), (7, .val (.int .u8 (((a0)[Int.toNat a1]?.getD 0).toNat : Int))), (8, .val (.slice none 0 0))]) (L' := []) (by kernel_rfl) (by kernel_rfl) ?_
    refine Wp.pre (St.vacant (t := 8) (k := 1008) (e := 5) (K' := [(0, .str a0), (1, .val (.int .i64 (IntKind.wrap .i64 (a1 + 1)))), (7, .val (.int .u8 (((a0)[Int.toNat a1]?.getD 0).toNat : Int))), (8, .row 1008)]) (good8 _) (by decide) (by kernel_rfl) (by kernel_rfl)) ?_
    refine Wp.keep (kk := [0, 1, 7, 8]) (kl := [1008]) (K' := [(0, .str a0), (1, .val (.int .i64 (IntKind.wrap .i64 (a1 + 1)))), (7, .val (.int .u8 (((a0)[Int.toNat a1]?.getD 0).toNat : Int))), (8, .row 1008)]) (L' := [(1008, 5, [.rowc false (α := UInt8) 0 e8 []])]) (by kernel_rfl) (by kernel_rfl) ?_
    refine Wp.loopL ?_
    refine ok_quote_Scan_l1 n a0 (((a0)[Int.toNat a1]?.getD 0).toNat : Int) n (IntKind.wrap .i64 (a1 + 1)) ([] : List (UInt8)) o2 ho2 ?_
    rcases o2 with o2 | o2
    · replace h := sum_l h
      refine To.blockX ?_
      refine To.thenN ?_
      refine Wp.seq ?_
      refine Wp.region hΓ [] [] [] [4, 5, 6] [] (K' := [(4, .str []), (5, .val (.int .i64 0)), (6, .val (.int .i64 3))]) (L' := []) (ob := []) (by kernel_rfl) AllP.nil ?_
      refine To.thenN ?_
      refine Wp.ret ?_
      refine To.keep (kk := [4, 5, 6]) (kl := []) (K' := [(4, .str []), (5, .val (.int .i64 0)), (6, .val (.int .i64 3))]) (L' := []) (by kernel_rfl) (by kernel_rfl) ?_
      cases h
      exact To.done hΓ (by kernel_rfl)
    · replace h := sum_r h
      refine To.blockR ?_
      refine To.thenR ?_
      refine To.keep (kk := [4, 5, 6]) (kl := []) (K' := [(4, .str o2.1), (5, .val (.int .i64 o2.2.1)), (6, .val (.int .i64 o2.2.2))]) (L' := []) (by kernel_rfl) (by kernel_rfl) ?_
      cases h
      exact To.done hΓ (by kernel_rfl)
def flow_reader_quoted__o0 (n : Nat) (h0 : S_flow_reader) : Option ((List UInt8) × S_flow_reader) :=
  (quote_Scan n h0.f_s h0.f_at).bind fun r1 =>
  if (r1.2.2 != 0) = true then (some ([], (S_flow_reader.mk h0.f_s h0.f_at true)))
  else (some (r1.1, (S_flow_reader.mk h0.f_s r1.2.1 h0.f_bad)))
theorem ok_flow_reader_quoted__o0 (n : Nat) (h0 : S_flow_reader) (r : (List UInt8) × S_flow_reader) (h : flow_reader_quoted__o0 n h0 = some r) : CallsB Tryd.prog 33 [.own 1000000 0] [(1000000, 40, [.str h0.f_s, .val (.int .i64 h0.f_at), .val (.bool h0.f_bad)])] (.str r.1) [(1000000, 40, [.str r.2.f_s, .val (.int .i64 r.2.f_at), .val (.bool r.2.f_bad)])] := by
  unfold flow_reader_quoted__o0 at h
  refine callsB_of (fn := Tryd.f33) (by kernel_rfl) rfl (by kernel_rfl) (Nat.le_of_ble_eq_true (by kernel_rfl)) fun F0 w0 => ?_
  refine Wp.keep (kk := [0]) (kl := [1000000]) (K' := [(0, .own 1000000 0)]) (L' := [(1000000, 40, [.str h0.f_s, .val (.int .i64 h0.f_at), .val (.bool h0.f_bad)])]) (by kernel_rfl) (by kernel_rfl) ?_
  refine Wp.seq ?_
  refine Wp.region hΓ [] [] [] [0] [1000000] (K' := [(0, .own 1000000 0)]) (L' := [(1000000, 40, [.str h0.f_s, .val (.int .i64 h0.f_at), .val (.bool h0.f_bad)])]) (ob := []) (by kernel_rfl) AllP.nil ?_
  refine To.thenN ?_
  refine Wp.seq ?_
  obtain ⟨r1, hr1, h⟩ := bind_of h
  refine Wp.regionD hm hΓ [(8, .tup [.str r1.1, .val (.int .i64 r1.2.1), .val (.int .i64 r1.2.2)])] [0, 3, 4, 5] [1000000] (K' := [(0, .own 1000000 0), (3, .str r1.1), (4, .val (.int .i64 r1.2.1)), (5, .val (.int .i64 r1.2.2))]) (L' := [(1000000, 40, [.str h0.f_s, .val (.int .i64 h0.f_at), .val (.bool h0.f_bad)])]) (ob := [(true = true → CX Tryd.prog 48 [.str h0.f_s, .val (.int .i64 h0.f_at)] (.tup [.str r1.1, .val (.int .i64 r1.2.1), .val (.int .i64 r1.2.2)]))]) (by kernel_rfl) (AllP.cons (fun _ => cx (ok_quote_Scan n h0.f_s h0.f_at _ hr1)) AllP.nil) ?_
  refine To.thenN ?_
  refine Wp.seq ?_
  refine Wp.seq ?_
  refine Wp.region hΓ [] [] [] [0, 3, 4, 20] [1000000] (K' := [(0, .own 1000000 0), (3, .str r1.1), (4, .val (.int .i64 r1.2.1)), (20, .val (.bool (r1.2.2 != 0)))]) (L' := [(1000000, 40, [.str h0.f_s, .val (.int .i64 h0.f_at), .val (.bool h0.f_bad)])]) (ob := []) (by kernel_rfl) AllP.nil ?_
  refine To.thenN ?_
  refine Wp.cond (b := (r1.2.2 != 0)) (by kernel_rfl) (fun hb => ?_) (fun hb => ?_)
  · replace h := if_t hb h
    refine Wp.seq ?_
    refine Wp.region hΓ [] [] [] [] [1000000] (K' := []) (L' := [(1000000, 40, [.str h0.f_s, .val (.int .i64 h0.f_at), .val (.bool true)])]) (ob := []) (by kernel_rfl) AllP.nil ?_
    refine To.thenN ?_
    refine Wp.seq ?_
    refine Wp.region hΓ [] [] [] [2] [1000000] (K' := [(2, .str [])]) (L' := [(1000000, 40, [.str h0.f_s, .val (.int .i64 h0.f_at), .val (.bool true)])]) (ob := []) (by kernel_rfl) AllP.nil ?_
    refine To.thenN ?_
    refine Wp.ret ?_
    refine To.thenR ?_
    refine To.keep (kk := [2]) (kl := [1000000]) (K' := [(2, .str [])]) (L' := [(1000000, 40, [.str h0.f_s, .val (.int .i64 h0.f_at), .val (.bool true)])]) (by kernel_rfl) (by kernel_rfl) ?_
    cases h
    exact To.doneB hΓ [1000000] (by kernel_rfl) (by kernel_rfl)
  · replace h := if_f hb h
    refine Wp.skip ?_
    refine To.thenN ?_
    refine Wp.seq ?_
    refine Wp.region hΓ [] [] [] [3] [1000000] (K' := [(3, .str r1.1)]) (L' := [(1000000, 40, [.str h0.f_s, .val (.int .i64 r1.2.1), .val (.bool h0.f_bad)])]) (ob := []) (by kernel_rfl) AllP.nil ?_
    refine To.thenN ?_
    refine Wp.seq ?_
    refine Wp.region hΓ [] [] [] [2] [1000000] (K' := [(2, .str r1.1)]) (L' := [(1000000, 40, [.str h0.f_s, .val (.int .i64 r1.2.1), .val (.bool h0.f_bad)])]) (ob := []) (by kernel_rfl) AllP.nil ?_
    refine To.thenN ?_
    refine Wp.ret ?_
    refine To.keep (kk := [2]) (kl := [1000000]) (K' := [(2, .str r1.1)]) (L' := [(1000000, 40, [.str h0.f_s, .val (.int .i64 r1.2.1), .val (.bool h0.f_bad)])]) (by kernel_rfl) (by kernel_rfl) ?_
    cases h
    exact To.doneB hΓ [1000000] (by kernel_rfl) (by kernel_rfl)
def flow_reader_plain__o0_l1 (n : Nat) (v3 : Int) : Nat → S_flow_reader → Option (S_flow_reader)
  | 0, _ => none
  | k + 1, b1000000 => if (decide (b1000000.f_at < (List.length b1000000.f_s : Int))) = true then (if (decide (0 ≤ b1000000.f_at ∧ b1000000.f_at < (List.length b1000000.f_s : Int))) = true then (if ((!((((IntKind.wrap .i64 (b1000000.f_at + 1)) == (List.length b1000000.f_s : Int)) == false) && ((((((b1000000.f_s)[Int.toNat b1000000.f_at]?.getD 0).toNat : Int) == 58) == true) && ((decide ((Lib.indexByte ([44, 91, 93, 123, 125] : List UInt8) (Int.toNat (((b1000000.f_s)[Int.toNat b1000000.f_at]?.getD 0).toNat : Int)).toUInt8) ≥ 0)) == false))) || decide (0 ≤ (IntKind.wrap .i64 (b1000000.f_at + 1)) ∧ (IntKind.wrap .i64 (b1000000.f_at + 1)) < (List.length b1000000.f_s : Int)))) = true then (lett ((bif (decide ((Lib.indexByte ([44, 91, 93, 123, 125] : List UInt8) (Int.toNat (((b1000000.f_s)[Int.toNat b1000000.f_at]?.getD 0).toNat : Int)).toUInt8) ≥ 0)) then true else (bif ((((b1000000.f_s)[Int.toNat b1000000.f_at]?.getD 0).toNat : Int) == 58) then (bif ((IntKind.wrap .i64 (b1000000.f_at + 1)) == (List.length b1000000.f_s : Int)) then true else (decide ((Lib.indexByte ([32, 44, 91, 93, 123, 125] : List UInt8) (Int.toNat (((b1000000.f_s)[Int.toNat (IntKind.wrap .i64 (b1000000.f_at + 1))]?.getD 0).toNat : Int)).toUInt8) ≥ 0))) else false)) : Bool) fun x1 =>
  if x1 = true then some b1000000
  else (flow_reader_plain__o0_l1 n v3 k (S_flow_reader.mk b1000000.f_s (IntKind.wrap .i64 (b1000000.f_at + 1)) b1000000.f_bad))) else none) else none)
  else some b1000000
theorem ok_flow_reader_plain__o0_l1 (n : Nat) (v3 : Int) {F0 : Fz} {w0 : Pt Tryd.prog} {Q : Exit → Act → World → Prop} (k : Nat) : ∀ (b1000000 : S_flow_reader) (o : S_flow_reader), flow_reader_plain__o0_l1 n v3 k b1000000 = some o → To 80 F0 w0 [(0, .own 1000000 0), (3, .val (.int .i64 v3))] [(1000000, 40, [.str o.f_s, .val (.int .i64 o.f_at), .val (.bool o.f_bad)])] (.exit 0) Q → WL Tryd.prog 80 F0 w0 [(0, .own 1000000 0), (3, .val (.int .i64 v3))] [(1000000, 40, [.str b1000000.f_s, .val (.int .i64 b1000000.f_at), .val (.bool b1000000.f_bad)])] (cI (cI (cA (cB (cB (cF Tryd.f34)))))) Q := by
  induction k with
  | zero => intro b1000000 o h; cases h
  | succ k ih =>
    intro b1000000 o h hQ
    rw [flow_reader_plain__o0_l1] at h
    refine WL.round ?_
    refine Wp.seq ?_
    refine Wp.seq ?_
    refine Wp.regionD hm hΓ [] [0, 3, 18] [1000000] (K' := [(0, .own 1000000 0), (3, .val (.int .i64 v3)), (18, .val (.bool (decide (b1000000.f_at < (List.length b1000000.f_s : Int)))))]) (L' := [(1000000, 40, [.str b1000000.f_s, .val (.int .i64 b1000000.f_at), .val (.bool b1000000.f_bad)])]) (ob := []) (by kernel_rfl) AllP.nil ?_
    refine To.thenN ?_
    refine Wp.cond (b := (decide (b1000000.f_at < (List.length b1000000.f_s : Int)))) (by kernel_rfl) (fun hb => ?_) (fun hb => ?_)
    · replace h := if_t hb h
      refine Wp.skip ?_
      refine To.thenN ?_
      refine Wp.seq ?_
      refine Wp.block ?_
      refine Wp.seq ?_
      obtain ⟨hc3, h⟩ := chk_of h
      refine Wp.regionD hm hΓ [] [0, 3, 4] [1000000] (K' := [(0, .own 1000000 0), (3, .val (.int .i64 v3)), (4, .val (.int .u8 (((b1000000.f_s)[Int.toNat b1000000.f_at]?.getD 0).toNat : Int)))]) (L' := [(1000000, 40, [.str b1000000.f_s, .val (.int .i64 b1000000.f_at), .val (.bool b1000000.f_bad)])]) (ob := [(decide (0 ≤ b1000000.f_at ∧ b1000000.f_at < (List.length b1000000.f_s : Int))) = true]) (by kernel_rfl) (AllP.cons hc3 AllP.nil) ?_
      refine To.thenN ?_
      refine Wp.seq ?_
      obtain ⟨hc2, h⟩ := chk_of h
      obtain ⟨x1, hx1, h⟩ := lett_of h
      refine Wp.regionD hm hΓ [(1, .val (.int .i64 (Lib.indexByte ([44, 91, 93, 123, 125] : List UInt8) (Int.toNat (((b1000000.f_s)[Int.toNat b1000000.f_at]?.getD 0).toNat : Int)).toUInt8))), (29, .val (.int .i64 (Lib.indexByte ([32, 44, 91, 93, 123, 125] : List UInt8) (Int.toNat (((b1000000.f_s)[Int.toNat (IntKind.wrap .i64 (b1000000.f_at + 1))]?.getD 0).toNat : Int)).toUInt8)))] [0, 3, 68] [1000000] (K' := [(0, .own 1000000 0), (3, .val (.int .i64 v3)), (68, .val (.bool (bif (decide ((Lib.indexByte ([44, 91, 93, 123, 125] : List UInt8) (Int.toNat (((b1000000.f_s)[Int.toNat b1000000.f_at]?.getD 0).toNat : Int)).toUInt8) ≥ 0)) then true else (bif ((((b1000000.f_s)[Int.toNat b1000000.f_at]?.getD 0).toNat : Int) == 58) then (bif ((IntKind.wrap .i64 (b1000000.f_at + 1)) == (List.length b1000000.f_s : Int)) then true else (decide ((Lib.indexByte ([32, 44, 91, 93, 123, 125] : List UInt8) (Int.toNat (((b1000000.f_s)[Int.toNat (IntKind.wrap .i64 (b1000000.f_at + 1))]?.getD 0).toNat : Int)).toUInt8) ≥ 0))) else false))))]) (L' := [(1000000, 40, [.str b1000000.f_s, .val (.int .i64 b1000000.f_at), .val (.bool b1000000.f_bad)])]) (ob := [(true = true → CX Tryd.prog 37 [.str [44, 91, 93, 123, 125], .val (.int .u8 (((b1000000.f_s)[Int.toNat b1000000.f_at]?.getD 0).toNat : Int))] (.val (.int .i64 (Lib.indexByte ([44, 91, 93, 123, 125] : List UInt8) (Int.toNat (((b1000000.f_s)[Int.toNat b1000000.f_at]?.getD 0).toNat : Int)).toUInt8)))), (!((((IntKind.wrap .i64 (b1000000.f_at + 1)) == (List.length b1000000.f_s : Int)) == false) && ((((((b1000000.f_s)[Int.toNat b1000000.f_at]?.getD 0).toNat : Int) == 58) == true) && ((decide ((Lib.indexByte ([44, 91, 93, 123, 125] : List UInt8) (Int.toNat (((b1000000.f_s)[Int.toNat b1000000.f_at]?.getD 0).toNat : Int)).toUInt8) ≥ 0)) == false))) || decide (0 ≤ (IntKind.wrap .i64 (b1000000.f_at + 1)) ∧ (IntKind.wrap .i64 (b1000000.f_at + 1)) < (List.length b1000000.f_s : Int))) = true, (((((IntKind.wrap .i64 (b1000000.f_at + 1)) == (List.length b1000000.f_s : Int)) == false) && ((((((b1000000.f_s)[Int.toNat b1000000.f_at]?.getD 0).toNat : Int) == 58) == true) && ((decide ((Lib.indexByte ([44, 91, 93, 123, 125] : List UInt8) (Int.toNat (((b1000000.f_s)[Int.toNat b1000000.f_at]?.getD 0).toNat : Int)).toUInt8) ≥ 0)) == false))) = true → CX Tryd.prog 37 [.str [32, 44, 91, 93, 123, 125], .val (.int .u8 (((b1000000.f_s)[Int.toNat (IntKind.wrap .i64 (b1000000.f_at + 1))]?.getD 0).toNat : Int))] (.val (.int .i64 (Lib.indexByte ([32, 44, 91, 93, 123, 125] : List UInt8) (Int.toNat (((b1000000.f_s)[Int.toNat (IntKind.wrap .i64 (b1000000.f_at + 1))]?.getD 0).toNat : Int)).toUInt8))))]) (by kernel_rfl) (AllP.cons (fun _ => cx (Sh.indexByte37)) (AllP.cons hc2 (AllP.cons (fun _ => cx (Sh.indexByte37)) AllP.nil))) ?_
      refine To.eq (K' := [(0, .own 1000000 0), (3, .val (.int .i64 v3)), (68, .val (.bool x1))]) (L' := [(1000000, 40, [.str b1000000.f_s, .val (.int .i64 b1000000.f_at), .val (.bool b1000000.f_bad)])]) (by cases hx1; rfl) (by cases hx1; rfl) ?_
      refine To.thenN ?_
      refine Wp.cond (b := x1) (by kernel_rfl) (fun hb => ?_) (fun hb => ?_)
      · replace h := if_t hb h
        refine Wp.exit ?_
        refine To.blockO (by decide) ?_
        refine To.thenX ?_
        refine To.thenX ?_
        refine To.keep (kk := [0, 3]) (kl := [1000000]) (K' := [(0, .own 1000000 0), (3, .val (.int .i64 v3))]) (L' := [(1000000, 40, [.str b1000000.f_s, .val (.int .i64 b1000000.f_at), .val (.bool b1000000.f_bad)])]) (by kernel_rfl) (by kernel_rfl) ?_
        cases h
        exact hQ
      · replace h := if_f hb h
        refine Wp.skip ?_
        refine To.blockN ?_
        refine To.thenN ?_
        refine Wp.region hΓ [] [] [] [0, 3] [1000000] (K' := [(0, .own 1000000 0), (3, .val (.int .i64 v3))]) (L' := [(1000000, 40, [.str b1000000.f_s, .val (.int .i64 (IntKind.wrap .i64 (b1000000.f_at + 1))), .val (.bool b1000000.f_bad)])]) (ob := []) (by kernel_rfl) AllP.nil ?_
        refine To.keep (kk := [0, 3]) (kl := [1000000]) (K' := [(0, .own 1000000 0), (3, .val (.int .i64 v3))]) (L' := [(1000000, 40, [.str b1000000.f_s, .val (.int .i64 (IntKind.wrap .i64 (b1000000.f_at + 1))), .val (.bool b1000000.f_bad)])]) (by kernel_rfl) (by kernel_rfl) ?_
        refine To.again ?_
        exact ih (S_flow_reader.mk b1000000.f_s (IntKind.wrap .i64 (b1000000.f_at + 1)) b1000000.f_bad) _ h hQ
    · replace h := if_f hb h
      refine Wp.exit ?_
      refine To.thenX ?_
      refine To.thenX ?_
      refine To.keep (kk := [0, 3]) (kl := [1000000]) (K' := [(0, .own 1000000 0), (3, .val (.int .i64 v3))]) (L' := [(1000000, 40, [.str b1000000.f_s, .val (.int .i64 b1000000.f_at), .val (.bool b1000000.f_bad)])]) (by kernel_rfl) (by kernel_rfl) ?_
      cases h
      exact hQ
def flow_reader_plain__o0 (n : Nat) (h0 : S_flow_reader) : Option ((List UInt8) × S_flow_reader) :=
  (flow_reader_plain__o0_l1 n h0.f_at n h0).bind fun o1 =>
  if (decide (0 ≤ o1.f_at ∧ o1.f_at ≤ (List.length o1.f_s : Int))) = true then (if (decide (0 ≤ h0.f_at ∧ h0.f_at ≤ o1.f_at)) = true then (if (decide (List.length (List.take (Int.toNat o1.f_at - Int.toNat h0.f_at) (List.drop (Int.toNat h0.f_at) o1.f_s)) < 4294967281)) = true then (some ((Lib.trimRightB (List.take (Int.toNat o1.f_at - Int.toNat h0.f_at) (List.drop (Int.toNat h0.f_at) o1.f_s)) 32), o1)) else none) else none) else none
theorem ok_flow_reader_plain__o0 (n : Nat) (h0 : S_flow_reader) (r : (List UInt8) × S_flow_reader) (h : flow_reader_plain__o0 n h0 = some r) : CallsB Tryd.prog 34 [.own 1000000 0] [(1000000, 40, [.str h0.f_s, .val (.int .i64 h0.f_at), .val (.bool h0.f_bad)])] (.str r.1) [(1000000, 40, [.str r.2.f_s, .val (.int .i64 r.2.f_at), .val (.bool r.2.f_bad)])] := by
  unfold flow_reader_plain__o0 at h
  refine callsB_of (fn := Tryd.f34) (by kernel_rfl) rfl (by kernel_rfl) (Nat.le_of_ble_eq_true (by kernel_rfl)) fun F0 w0 => ?_
  refine Wp.keep (kk := [0]) (kl := [1000000]) (K' := [(0, .own 1000000 0)]) (L' := [(1000000, 40, [.str h0.f_s, .val (.int .i64 h0.f_at), .val (.bool h0.f_bad)])]) (by kernel_rfl) (by kernel_rfl) ?_
  refine Wp.seq ?_
  refine Wp.region hΓ [] [] [] [0] [1000000] (K' := [(0, .own 1000000 0)]) (L' := [(1000000, 40, [.str h0.f_s, .val (.int .i64 h0.f_at), .val (.bool h0.f_bad)])]) (ob := []) (by kernel_rfl) AllP.nil ?_
  refine To.thenN ?_
  refine Wp.seq ?_
  refine Wp.region hΓ [] [] [] [0, 3] [1000000] (K' := [(0, .own 1000000 0), (3, .val (.int .i64 h0.f_at))]) (L' := [(1000000, 40, [.str h0.f_s, .val (.int .i64 h0.f_at), .val (.bool h0.f_bad)])]) (ob := []) (by kernel_rfl) AllP.nil ?_
  refine To.thenN ?_
  refine Wp.seq ?_
  refine Wp.block ?_
  obtain ⟨o1, ho1, h⟩ := bind_of h
  refine Wp.keep (kk := [0, 3]) (kl := [1000000]) (K' := [(0, .own 1000000 0), (3, .val (.int .i64 h0.f_at))]) (L' := [(1000000, 40, [.str h0.f_s, .val (.int .i64 h0.f_at), .val (.bool h0.f_bad)])]) (by kernel_rfl) (by kernel_rfl) ?_
  refine Wp.loopL ?_
  refine ok_flow_reader_plain__o0_l1 n h0.f_at n h0 o1 ho1 ?_
  refine To.blockX ?_
  refine To.thenN ?_
  refine Wp.seq ?_
  obtain ⟨hc3, h⟩ := chk_of h
  obtain ⟨hc4, h⟩ := chk_of h
  obtain ⟨u2, h⟩ := chk_of h
  refine Wp.regionD hm hΓ [(10, .str (Lib.trimRightB (List.take (Int.toNat o1.f_at - Int.toNat h0.f_at) (List.drop (Int.toNat h0.f_at) o1.f_s)) 32))] [2] [1000000] (K' := [(2, .str (Lib.trimRightB (List.take (Int.toNat o1.f_at - Int.toNat h0.f_at) (List.drop (Int.toNat h0.f_at) o1.f_s)) 32))]) (L' := [(1000000, 40, [.str o1.f_s, .val (.int .i64 o1.f_at), .val (.bool o1.f_bad)])]) (ob := [(decide (0 ≤ o1.f_at ∧ o1.f_at ≤ (List.length o1.f_s : Int))) = true, (decide (0 ≤ h0.f_at ∧ h0.f_at ≤ o1.f_at)) = true, (true = true → CX Tryd.prog 49 [.str (List.take (Int.toNat o1.f_at - Int.toNat h0.f_at) (List.drop (Int.toNat h0.f_at) o1.f_s)), .str [32]] (.str (Lib.trimRightB (List.take (Int.toNat o1.f_at - Int.toNat h0.f_at) (List.drop (Int.toNat h0.f_at) o1.f_s)) 32)))]) (by kernel_rfl) (AllP.cons hc3 (AllP.cons hc4 (AllP.cons (fun _ => cx (Sh.trimRight149 (by decide) u2)) AllP.nil))) ?_
  refine To.thenN ?_
  refine Wp.ret ?_
  refine To.keep (kk := [2]) (kl := [1000000]) (K' := [(2, .str (Lib.trimRightB (List.take (Int.toNat o1.f_at - Int.toNat h0.f_at) (List.drop (Int.toNat h0.f_at) o1.f_s)) 32))]) (L' := [(1000000, 40, [.str o1.f_s, .val (.int .i64 o1.f_at), .val (.bool o1.f_bad)])]) (by kernel_rfl) (by kernel_rfl) ?_
  cases h
  exact To.doneB hΓ [1000000] (by kernel_rfl) (by kernel_rfl)
def quote_Plain_1__e (n : Nat) (a0 : Int) (c0 : List UInt8) : Option (Bool) :=
  if ((!((bif (decide (a0 < 0)) then true else (decide (a0 ≥ (List.length c0 : Int)))) == false) || decide (0 ≤ a0 ∧ a0 < (List.length c0 : Int)))) = true then (lett ((bif (bif (decide (a0 < 0)) then true else (decide (a0 ≥ (List.length c0 : Int)))) then true else ((((c0)[Int.toNat a0]?.getD 0).toNat : Int) == 32)) : Bool) fun x1 =>
  some x1) else none
theorem ok_quote_Plain_1__e (n : Nat) (a0 : Int) (c0 : List UInt8) (r : Bool) (h : quote_Plain_1__e n a0 c0 = some r) : CallsX Tryd.prog 38 [.val (.int .i64 a0), .el [.str c0]] (.val (.bool r)) := by
  unfold quote_Plain_1__e at h
  refine callsX_of (fn := Tryd.f38) (by kernel_rfl) rfl (by kernel_rfl) (Nat.le_of_ble_eq_true (by kernel_rfl)) fun F0 w0 _ => ?_
  refine Wp.keep (kk := [0, 1]) (kl := []) (K' := [(0, .val (.int .i64 a0)), (1, .el [.str c0])]) (L' := []) (by kernel_rfl) (by kernel_rfl) ?_
  refine Wp.seq ?_
  refine Wp.region hΓ [] [] [] [0, 1] [] (K' := [(0, .val (.int .i64 a0)), (1, .el [.str c0])]) (L' := []) (ob := []) (by kernel_rfl) AllP.nil ?_
  refine To.thenN ?_
  refine Wp.seq ?_
  obtain ⟨hc2, h⟩ := chk_of h
  obtain ⟨x1, hx1, h⟩ := lett_of h
  refine Wp.region hΓ [] [] [] [3] [] (K' := [(3, .val (.bool (bif (bif (decide (a0 < 0)) then true else (decide (a0 ≥ (List.length c0 : Int)))) then true else ((((c0)[Int.toNat a0]?.getD 0).toNat : Int) == 32))))]) (L' := []) (ob := [(!((bif (decide (a0 < 0)) then true else (decide (a0 ≥ (List.length c0 : Int)))) == false) || decide (0 ≤ a0 ∧ a0 < (List.length c0 : Int))) = true]) (by kernel_rfl) (AllP.cons hc2 AllP.nil) ?_
  refine To.eq (K' := [(3, .val (.bool x1))]) (L' := []) (by cases hx1; rfl) (by cases hx1; rfl) ?_
  refine To.thenN ?_
  refine Wp.ret ?_
  refine To.keep (kk := [3]) (kl := []) (K' := [(3, .val (.bool x1))]) (L' := []) (by kernel_rfl) (by kernel_rfl) ?_
  cases h
  exact To.done hΓ (by kernel_rfl)
def quote_Plain_l1 (n : Nat) (v1 : List UInt8) (v3_0 : List UInt8) (v43 : Int) : Nat → Int → Option (Sum (Unit) (Bool))
  | 0, _ => none
  | k + 1, v44 => if (decide (v44 < v43)) = true then (if (decide (0 ≤ v44 ∧ v44 < (List.length v1 : Int))) = true then (if ((!((!(quote_ok (((v1)[Int.toNat v44]?.getD 0).toNat : Int))) == false) || decide (0 ≤ v44 ∧ v44 < (List.length v1 : Int)))) = true then (((if ((((((v1)[Int.toNat v44]?.getD 0).toNat : Int) == 58) == true) && ((!(quote_ok (((v1)[Int.toNat v44]?.getD 0).toNat : Int))) == false)) = true then quote_Plain_1__e n (IntKind.wrap .i64 (v44 + 1)) v3_0 else some false)).bind fun r3 =>
  if ((!((bif (!(quote_ok (((v1)[Int.toNat v44]?.getD 0).toNat : Int))) then true else (bif ((((v1)[Int.toNat v44]?.getD 0).toNat : Int) == 58) then r3 else false)) == false) || decide (0 ≤ v44 ∧ v44 < (List.length v1 : Int)))) = true then (((if ((((((v1)[Int.toNat v44]?.getD 0).toNat : Int) == 35) == true) && ((bif (!(quote_ok (((v1)[Int.toNat v44]?.getD 0).toNat : Int))) then true else (bif ((((v1)[Int.toNat v44]?.getD 0).toNat : Int) == 58) then r3 else false)) == false)) = true then quote_Plain_1__e n (IntKind.wrap .i64 (v44 - 1)) v3_0 else some false)).bind fun r4 =>
  lett ((bif (bif (!(quote_ok (((v1)[Int.toNat v44]?.getD 0).toNat : Int))) then true else (bif ((((v1)[Int.toNat v44]?.getD 0).toNat : Int) == 58) then r3 else false)) then true else (bif ((((v1)[Int.toNat v44]?.getD 0).toNat : Int) == 35) then r4 else false)) : Bool) fun x5 =>
  if x5 = true then (some (.inr false))
  else (quote_Plain_l1 n v1 v3_0 v43 k (IntKind.wrap .i64 (v44 + 1)))) else none) else none) else none)
  else (some (.inl ()))
theorem ok_quote_Plain_l1 (n : Nat) (v1 : List UInt8) (v3_0 : List UInt8) (v43 : Int) {F0 : Fz} {w0 : Pt Tryd.prog} {Q : Exit → Act → World → Prop} (k : Nat) : ∀ (v44 : Int) (o : Sum (Unit) (Bool)), quote_Plain_l1 n v1 v3_0 v43 k v44 = some o → (Sum.elim (fun s => To 77 F0 w0 [] [] (.exit 0) Q) (fun s => To 77 F0 w0 [(2, .val (.bool s))] [] .ret Q)) o → WL Tryd.prog 77 F0 w0 [(1, .el [.str v1]), (3, .fn 38 [.el [.str v3_0]]), (43, .val (.int .i64 v43)), (44, .val (.int .i64 v44))] [] (cI (cI (cB (cA (cB (cB (cB (cB (cF Tryd.f23))))))))) Q := by
  induction k with
  | zero => intro v44 o h; cases h
  | succ k ih =>
    intro v44 o h hQ
    rw [quote_Plain_l1] at h
    refine WL.round ?_
    refine Wp.seq ?_
    refine Wp.region hΓ [] [] [] [1, 3, 43, 44, 45] [] (K' := [(1, .el [.str v1]), (3, .fn 38 [.el [.str v3_0]]), (43, .val (.int .i64 v43)), (44, .val (.int .i64 v44)), (45, .val (.bool (decide (v44 < v43))))]) (L' := []) (ob := []) (by kernel_rfl) AllP.nil ?_
    refine To.thenN ?_
    refine Wp.seq ?_
    refine Wp.cond (b := (decide (v44 < v43))) (by kernel_rfl) (fun hb => ?_) (fun hb => ?_)
    · replace h := if_t hb h
      refine Wp.skip ?_
      refine To.thenN ?_
      refine Wp.seq ?_
      refine Wp.block ?_
      refine Wp.seq ?_
      refine Wp.region hΓ [] [] [] [1, 3, 4, 43, 44] [] (K' := [(1, .el [.str v1]), (3, .fn 38 [.el [.str v3_0]]), (4, .val (.int .i64 v44)), (43, .val (.int .i64 v43)), (44, .val (.int .i64 v44))]) (L' := []) (ob := []) (by kernel_rfl) AllP.nil ?_
      refine To.thenN ?_
      refine Wp.seq ?_
      obtain ⟨hc6, h⟩ := chk_of h
      obtain ⟨hc7, h⟩ := chk_of h
      obtain ⟨r3, hr3, h⟩ := bind_of h
      obtain ⟨hc8, h⟩ := chk_of h
      obtain ⟨r4, hr4, h⟩ := bind_of h
      obtain ⟨x5, hx5, h⟩ := lett_of h
      refine Wp.region hΓ [] [(3, .val (.bool (quote_ok (((v1)[Int.toNat v44]?.getD 0).toNat : Int)))), (14, .val (.bool r3)), (26, .val (.bool r4))] [] [1, 3, 43, 44, 75] [] (K' := [(1, .el [.str v1]), (3, .fn 38 [.el [.str v3_0]]), (43, .val (.int .i64 v43)), (44, .val (.int .i64 v44)), (75, .val (.bool (bif (bif (!(quote_ok (((v1)[Int.toNat v44]?.getD 0).toNat : Int))) then true else (bif ((((v1)[Int.toNat v44]?.getD 0).toNat : Int) == 58) then r3 else false)) then true else (bif ((((v1)[Int.toNat v44]?.getD 0).toNat : Int) == 35) then r4 else false))))]) (L' := []) (ob := [(decide (0 ≤ v44 ∧ v44 < (List.length v1 : Int))) = true, (true = true → CX Tryd.prog 39 [.val (.int .u8 (((v1)[Int.toNat v44]?.getD 0).toNat : Int))] (.val (.bool (quote_ok (((v1)[Int.toNat v44]?.getD 0).toNat : Int))))), (!((!(quote_ok (((v1)[Int.toNat v44]?.getD 0).toNat : Int))) == false) || decide (0 ≤ v44 ∧ v44 < (List.length v1 : Int))) = true, (((((((v1)[Int.toNat v44]?.getD 0).toNat : Int) == 58) == true) && ((!(quote_ok (((v1)[Int.toNat v44]?.getD 0).toNat : Int))) == false)) = true → CX Tryd.prog 38 [.val (.int .i64 (IntKind.wrap .i64 (v44 + 1))), .el [.str v3_0]] (.val (.bool r3))), (!((bif (!(quote_ok (((v1)[Int.toNat v44]?.getD 0).toNat : Int))) then true else (bif ((((v1)[Int.toNat v44]?.getD 0).toNat : Int) == 58) then r3 else false)) == false) || decide (0 ≤ v44 ∧ v44 < (List.length v1 : Int))) = true, (((((((v1)[Int.toNat v44]?.getD 0).toNat : Int) == 35) == true) && ((bif (!(quote_ok (((v1)[Int.toNat v44]?.getD 0).toNat : Int))) then true else (bif ((((v1)[Int.toNat v44]?.getD 0).toNat : Int) == 58) then r3 else false)) == false)) = true → CX Tryd.prog 38 [.val (.int .i64 (IntKind.wrap .i64 (v44 - 1))), .el [.str v3_0]] (.val (.bool r4)))]) (by kernel_rfl) (AllP.cons hc6 (AllP.cons (fun _ => cx (ok_quote_ok (((v1)[Int.toNat v44]?.getD 0).toNat : Int) _ rfl)) (AllP.cons hc7 (AllP.cons (fun hg => cx (ok_quote_Plain_1__e n (IntKind.wrap .i64 (v44 + 1)) v3_0 _ (if_t hg hr3))) (AllP.cons hc8 (AllP.cons (fun hg => cx (ok_quote_Plain_1__e n (IntKind.wrap .i64 (v44 - 1)) v3_0 _ (if_t hg hr4))) AllP.nil)))))) ?_
      refine To.eq (K' := [(1, .el [.str v1]), (3, .fn 38 [.el [.str v3_0]]), (43, .val (.int .i64 v43)), (44, .val (.int .i64 v44)), (75, .val (.bool x5))]) (L' := []) (by cases hx5; rfl) (by cases hx5; rfl) ?_
      refine To.thenN ?_
      refine Wp.cond (b := x5) (by kernel_rfl) (fun hb => ?_) (fun hb => ?_)
      · replace h := if_t hb h
        refine Wp.seq ?_
        refine Wp.region hΓ [] [] [] [2] [] (K' := [(2, .val (.bool false))]) (L' := []) (ob := []) (by kernel_rfl) AllP.nil ?_
        refine To.thenN ?_
        refine Wp.ret ?_
        refine To.blockR ?_
        refine To.thenR ?_
        refine To.thenR ?_
        refine To.keep (kk := [2]) (kl := []) (K' := [(2, .val (.bool false))]) (L' := []) (by kernel_rfl) (by kernel_rfl) ?_
        cases h
        exact hQ
      · replace h := if_f hb h
        refine Wp.skip ?_
        refine To.blockN ?_
        refine To.thenN ?_
        refine Wp.region hΓ [] [] [] [1, 3, 43, 44] [] (K' := [(1, .el [.str v1]), (3, .fn 38 [.el [.str v3_0]]), (43, .val (.int .i64 v43)), (44, .val (.int .i64 (IntKind.wrap .i64 (v44 + 1))))]) (L' := []) (ob := []) (by kernel_rfl) AllP.nil ?_
        refine To.keep (kk := [1, 3, 43, 44]) (kl := []) (K' := [(1, .el [.str v1]), (3, .fn 38 [.el [.str v3_0]]), (43, .val (.int .i64 v43)), (44, .val (.int .i64 (IntKind.wrap .i64 (v44 + 1))))]) (L' := []) (by kernel_rfl) (by kernel_rfl) ?_
        refine To.again ?_
        exact ih (IntKind.wrap .i64 (v44 + 1)) _ h hQ
    · replace h := if_f hb h
      refine Wp.exit ?_
      refine To.thenX ?_
      refine To.thenX ?_
      refine To.keep (kk := []) (kl := []) (K' := []) (L' := []) (by kernel_rfl) (by kernel_rfl) ?_
      cases h
      exact hQ
def quote_Plain (n : Nat) (a0 : List UInt8) : Option (Bool) :=
  if ((!((bif (bif (a0 == []) then true else (a0 == [126])) then true else (a0 == [110, 117, 108, 108])) == false) || decide (0 ≤ (0 : Int) ∧ (0 : Int) < (List.length a0 : Int)))) = true then (if ((!((bif (bif (bif (a0 == []) then true else (a0 == [126])) then true else (a0 == [110, 117, 108, 108])) then true else ((((a0)[Int.toNat 0]?.getD 0).toNat : Int) == 32)) == false) || decide (0 ≤ (IntKind.wrap .i64 ((List.length a0 : Int) - 1)) ∧ (IntKind.wrap .i64 ((List.length a0 : Int) - 1)) < (List.length a0 : Int)))) = true then (if ((!((bif (bif (bif (bif (a0 == []) then true else (a0 == [126])) then true else (a0 == [110, 117, 108, 108])) then true else ((((a0)[Int.toNat 0]?.getD 0).toNat : Int) == 32)) then true else ((((a0)[Int.toNat (IntKind.wrap .i64 ((List.length a0 : Int) - 1))]?.getD 0).toNat : Int) == 32)) == false) || decide (0 ≤ (0 : Int) ∧ (0 : Int) < (List.length a0 : Int)))) = true then (lett ((bif (bif (bif (bif (bif (a0 == []) then true else (a0 == [126])) then true else (a0 == [110, 117, 108, 108])) then true else ((((a0)[Int.toNat 0]?.getD 0).toNat : Int) == 32)) then true else ((((a0)[Int.toNat (IntKind.wrap .i64 ((List.length a0 : Int) - 1))]?.getD 0).toNat : Int) == 32)) then true else (decide ((Lib.indexByte ([63, 58, 44, 91, 93, 123, 125, 35, 38, 42, 33, 124, 62, 39, 34, 37, 64, 96] : List UInt8) (Int.toNat (((a0)[Int.toNat 0]?.getD 0).toNat : Int)).toUInt8) ≥ 0))) : Bool) fun x1 =>
  if x1 = true then some false
  else (if (decide (0 ≤ (0 : Int) ∧ (0 : Int) < (List.length a0 : Int))) = true then (((if (((((a0)[Int.toNat 0]?.getD 0).toNat : Int) == 45) == true) = true then quote_Plain_1__e n 1 a0 else some false)).bind fun r2 =>
  if (bif ((((a0)[Int.toNat 0]?.getD 0).toNat : Int) == 45) then r2 else false) = true then some false
  else ((quote_Plain_l1 n a0 a0 (List.length a0 : Int) n 0).bind fun o3 =>
  (Sum.elim (fun o3 => some true) (fun o3 => some o3)) o3)) else none)) else none) else none) else none
theorem ok_quote_Plain (n : Nat) (a0 : List UInt8) (r : Bool) (h : quote_Plain n a0 = some r) : CallsX Tryd.prog 23 [.str a0] (.val (.bool r)) := by
  unfold quote_Plain at h
  refine callsX_of (fn := Tryd.f23) (by kernel_rfl) rfl (by kernel_rfl) (Nat.le_of_ble_eq_true (by kernel_rfl)) fun F0 w0 _ => ?_
  refine Wp.keep (kk := [0]) (kl := []) (K' := [(0, .str a0)]) (L' := []) (by kernel_rfl) (by kernel_rfl) ?_
  refine Wp.seq ?_
  refine Wp.region hΓ [] [] [] [1] [1] (K' := [(1, .own 1 0)]) (L' := [(1, 9, [.str a0])]) (ob := []) (by kernel_rfl) AllP.nil ?_
  refine To.thenN ?_
  refine Wp.seq ?_
  refine Wp.seq ?_
  obtain ⟨hc5, h⟩ := chk_of h
  obtain ⟨hc6, h⟩ := chk_of h
  obtain ⟨hc7, h⟩ := chk_of h
  obtain ⟨x1, hx1, h⟩ := lett_of h
  refine Wp.region hΓ [] [(26, .val (.int .i64 (Lib.indexByte ([63, 58, 44, 91, 93, 123, 125, 35, 38, 42, 33, 124, 62, 39, 34, 37, 64, 96] : List UInt8) (Int.toNat (((a0)[Int.toNat 0]?.getD 0).toNat : Int)).toUInt8)))] [] [1, 33] [1] (K' := [(1, .own 1 0), (33, .val (.bool (bif (bif (bif (bif (bif (a0 == []) then true else (a0 == [126])) then true else (a0 == [110, 117, 108, 108])) then true else ((((a0)[Int.toNat 0]?.getD 0).toNat : Int) == 32)) then true else ((((a0)[Int.toNat (IntKind.wrap .i64 ((List.length a0 : Int) - 1))]?.getD 0).toNat : Int) == 32)) then true else (decide ((Lib.indexByte ([63, 58, 44, 91, 93, 123, 125, 35, 38, 42, 33, 124, 62, 39, 34, 37, 64, 96] : List UInt8) (Int.toNat (((a0)[Int.toNat 0]?.getD 0).toNat : Int)).toUInt8) ≥ 0)))))]) (L' := [(1, 9, [.str a0])]) (ob := [(!((bif (bif (a0 == []) then true else (a0 == [126])) then true else (a0 == [110, 117, 108, 108])) == false) || decide (0 ≤ (0 : Int) ∧ (0 : Int) < (List.length a0 : Int))) = true, (!((bif (bif (bif (a0 == []) then true else (a0 == [126])) then true else (a0 == [110, 117, 108, 108])) then true else ((((a0)[Int.toNat 0]?.getD 0).toNat : Int) == 32)) == false) || decide (0 ≤ (IntKind.wrap .i64 ((List.length a0 : Int) - 1)) ∧ (IntKind.wrap .i64 ((List.length a0 : Int) - 1)) < (List.length a0 : Int))) = true, (!((bif (bif (bif (bif (a0 == []) then true else (a0 == [126])) then true else (a0 == [110, 117, 108, 108])) then true else ((((a0)[Int.toNat 0]?.getD 0).toNat : Int) == 32)) then true else ((((a0)[Int.toNat (IntKind.wrap .i64 ((List.length a0 : Int) - 1))]?.getD 0).toNat : Int) == 32)) == false) || decide (0 ≤ (0 : Int) ∧ (0 : Int) < (List.length a0 : Int))) = true, (((bif (bif (bif (bif (a0 == []) then true else (a0 == [126])) then true else (a0 == [110, 117, 108, 108])) then true else ((((a0)[Int.toNat 0]?.getD 0).toNat : Int) == 32)) then true else ((((a0)[Int.toNat (IntKind.wrap .i64 ((List.length a0 : Int) - 1))]?.getD 0).toNat : Int) == 32)) == false) = true → CX Tryd.prog 37 [.str [63, 58, 44, 91, 93, 123, 125, 35, 38, 42, 33, 124, 62, 39, 34, 37, 64, 96], .val (.int .u8 (((a0)[Int.toNat 0]?.getD 0).toNat : Int))] (.val (.int .i64 (Lib.indexByte ([63, 58, 44, 91, 93, 123, 125, 35, 38, 42, 33, 124, 62, 39, 34, 37, 64, 96] : List UInt8) (Int.toNat (((a0)[Int.toNat 0]?.getD 0).toNat : Int)).toUInt8))))]) (by kernel_rfl) (AllP.cons hc5 (AllP.cons hc6 (AllP.cons hc7 (AllP.cons (fun _ => cx (Sh.indexByte37)) AllP.nil)))) ?_
  refine To.eq (K' := [(1, .own 1 0), (33, .val (.bool x1))]) (L' := [(1, 9, [.str a0])]) (by cases hx1; rfl) (by cases hx1; rfl) ?_
  refine To.thenN ?_
  refine Wp.cond (b := x1) (by kernel_rfl) (fun hb => ?_) (fun hb => ?_)
  · replace h := if_t hb h
    refine Wp.seq ?_
    refine Wp.region hΓ [] [] [] [2] [] (K' := [(2, .val (.bool false))]) (L' := []) (ob := []) (by kernel_rfl) AllP.nil ?_
    refine To.thenN ?_
    refine Wp.ret ?_
    refine To.thenR ?_
    refine To.keep (kk := [2]) (kl := []) (K' := [(2, .val (.bool false))]) (L' := []) (by kernel_rfl) (by kernel_rfl) ?_
    cases h
    exact To.done hΓ (by kernel_rfl)
  · replace h := if_f hb h
    refine Wp.skip ?_
    refine To.thenN ?_
    refine Wp.seq ?_
    refine Wp.region hΓ [(0, [1])] [] [] [1, 3] [] (K' := [(1, .el [.str a0]), (3, .fn 38 [.el [.str a0]])]) (L' := []) (ob := []) (by kernel_rfl) AllP.nil ?_
    refine To.thenN ?_
    refine Wp.seq ?_
    refine Wp.seq ?_
    obtain ⟨hc4, h⟩ := chk_of h
    obtain ⟨r2, hr2, h⟩ := bind_of h
    refine Wp.region hΓ [] [(5, .val (.bool r2))] [] [1, 3, 41] [] (K' := [(1, .el [.str a0]), (3, .fn 38 [.el [.str a0]]), (41, .val (.bool (bif ((((a0)[Int.toNat 0]?.getD 0).toNat : Int) == 45) then r2 else false)))]) (L' := []) (ob := [(decide (0 ≤ (0 : Int) ∧ (0 : Int) < (List.length a0 : Int))) = true, ((((((a0)[Int.toNat 0]?.getD 0).toNat : Int) == 45) == true) = true → CX Tryd.prog 38 [.val (.int .i64 1), .el [.str a0]] (.val (.bool r2)))]) (by kernel_rfl) (AllP.cons hc4 (AllP.cons (fun hg => cx (ok_quote_Plain_1__e n 1 a0 _ (if_t hg hr2))) AllP.nil)) ?_
    refine To.thenN ?_
    refine Wp.cond (b := (bif ((((a0)[Int.toNat 0]?.getD 0).toNat : Int) == 45) then r2 else false)) (by kernel_rfl) (fun hb => ?_) (fun hb => ?_)
    · replace h := if_t hb h
      refine Wp.seq ?_
      refine Wp.region hΓ [] [] [] [2] [] (K' := [(2, .val (.bool false))]) (L' := []) (ob := []) (by kernel_rfl) AllP.nil ?_
      refine To.thenN ?_
      refine Wp.ret ?_
      refine To.thenR ?_
      refine To.keep (kk := [2]) (kl := []) (K' := [(2, .val (.bool false))]) (L' := []) (by kernel_rfl) (by kernel_rfl) ?_
      cases h
      exact To.done hΓ (by kernel_rfl)
    · replace h := if_f hb h
      refine Wp.skip ?_
      refine To.thenN ?_
      refine Wp.seq ?_
      refine Wp.seq ?_
      refine Wp.region hΓ [] [] [] [1, 3, 43, 44] [] (K' := [(1, .el [.str a0]), (3, .fn 38 [.el [.str a0]]), (43, .val (.int .i64 (List.length a0 : Int))), (44, .val (.int .i64 0))]) (L' := []) (ob := []) (by kernel_rfl) AllP.nil ?_
      refine To.thenN ?_
      refine Wp.block ?_
      obtain ⟨o3, ho3, h⟩ := bind_of h
      refine Wp.keep (kk := [1, 3, 43, 44]) (kl := []) (K' := [(1, .el [.str a0]), (3, .fn 38 [.el [.str a0]]), (43, .val (.int .i64 (List.length a0 : Int))), (44, .val (.int .i64 0))]) (L' := []) (by kernel_rfl) (by kernel_rfl) ?_
      refine Wp.loopL ?_
      refine ok_quote_Plain_l1 n a0 a0 (List.length a0 : Int) n 0 o3 ho3 ?_
      rcases o3 with o3 | o3
      · replace h := sum_l h
        refine To.blockX ?_
        refine To.thenN ?_
        refine Wp.seq ?_
        refine Wp.region hΓ [] [] [] [2] [] (K' := [(2, .val (.bool true))]) (L' := []) (ob := []) (by kernel_rfl) AllP.nil ?_
        refine To.thenN ?_
        refine Wp.ret ?_
        refine To.keep (kk := [2]) (kl := []) (K' := [(2, .val (.bool true))]) (L' := []) (by kernel_rfl) (by kernel_rfl) ?_
        cases h
        exact To.done hΓ (by kernel_rfl)
      · replace h := sum_r h
        refine To.blockR ?_
        refine To.thenR ?_
        refine To.keep (kk := [2]) (kl := []) (K' := [(2, .val (.bool o3))]) (L' := []) (by kernel_rfl) (by kernel_rfl) ?_
        cases h
        exact To.done hΓ (by kernel_rfl)
def quote_Row_l1 (n : Nat) (v0 : List UInt8) (v5 : Int) : Nat → Int → Option (Sum (Unit) (Bool))
  | 0, _ => none
  | k + 1, v6 => if (decide (v6 < v5)) = true then (if (decide (0 ≤ v6 ∧ v6 < (List.length v0 : Int))) = true then (lett ((decide ((Lib.indexByte ([44, 91, 93, 123, 125] : List UInt8) (Int.toNat (((v0)[Int.toNat v6]?.getD 0).toNat : Int)).toUInt8) ≥ 0)) : Bool) fun x1 =>
  if x1 = true then (some (.inr false))
  else (quote_Row_l1 n v0 v5 k (IntKind.wrap .i64 (v6 + 1)))) else none)
  else (some (.inl ()))
theorem ok_quote_Row_l1 (n : Nat) (v0 : List UInt8) (v5 : Int) {F0 : Fz} {w0 : Pt Tryd.prog} {Q : Exit → Act → World → Prop} (k : Nat) : ∀ (v6 : Int) (o : Sum (Unit) (Bool)), quote_Row_l1 n v0 v5 k v6 = some o → (Sum.elim (fun s => To 17 F0 w0 [(0, .str v0)] [] (.exit 0) Q) (fun s => To 17 F0 w0 [(2, .val (.bool s))] [] .ret Q)) o → WL Tryd.prog 17 F0 w0 [(0, .str v0), (5, .val (.int .i64 v5)), (6, .val (.int .i64 v6))] [] (cI (cI (cB (cA (cB (cF Tryd.f22)))))) Q := by
  induction k with
  | zero => intro v6 o h; cases h
  | succ k ih =>
    intro v6 o h hQ
    rw [quote_Row_l1] at h
    refine WL.round ?_
    refine Wp.seq ?_
    refine Wp.region hΓ [] [] [] [0, 5, 6, 7] [] (K' := [(0, .str v0), (5, .val (.int .i64 v5)), (6, .val (.int .i64 v6)), (7, .val (.bool (decide (v6 < v5))))]) (L' := []) (ob := []) (by kernel_rfl) AllP.nil ?_
    refine To.thenN ?_
    refine Wp.seq ?_
    refine Wp.cond (b := (decide (v6 < v5))) (by kernel_rfl) (fun hb => ?_) (fun hb => ?_)
    · replace h := if_t hb h
      refine Wp.skip ?_
      refine To.thenN ?_
      refine Wp.seq ?_
      refine Wp.block ?_
      refine Wp.seq ?_
      refine Wp.region hΓ [] [] [] [0, 3, 5, 6] [] (K' := [(0, .str v0), (3, .val (.int .i64 v6)), (5, .val (.int .i64 v5)), (6, .val (.int .i64 v6))]) (L' := []) (ob := []) (by kernel_rfl) AllP.nil ?_
      refine To.thenN ?_
      refine Wp.seq ?_
      obtain ⟨hc2, h⟩ := chk_of h
      obtain ⟨x1, hx1, h⟩ := lett_of h
      refine Wp.region hΓ [] [(3, .val (.int .i64 (Lib.indexByte ([44, 91, 93, 123, 125] : List UInt8) (Int.toNat (((v0)[Int.toNat v6]?.getD 0).toNat : Int)).toUInt8)))] [] [0, 5, 6, 13] [] (K' := [(0, .str v0), (5, .val (.int .i64 v5)), (6, .val (.int .i64 v6)), (13, .val (.bool (decide ((Lib.indexByte ([44, 91, 93, 123, 125] : List UInt8) (Int.toNat (((v0)[Int.toNat v6]?.getD 0).toNat : Int)).toUInt8) ≥ 0))))]) (L' := []) (ob := [(decide (0 ≤ v6 ∧ v6 < (List.length v0 : Int))) = true, (true = true → CX Tryd.prog 37 [.str [44, 91, 93, 123, 125], .val (.int .u8 (((v0)[Int.toNat v6]?.getD 0).toNat : Int))] (.val (.int .i64 (Lib.indexByte ([44, 91, 93, 123, 125] : List UInt8) (Int.toNat (((v0)[Int.toNat v6]?.getD 0).toNat : Int)).toUInt8))))]) (by kernel_rfl) (AllP.cons hc2 (AllP.cons (fun _ => cx (Sh.indexByte37)) AllP.nil)) ?_
      refine To.eq (K' := [(0, .str v0), (5, .val (.int .i64 v5)), (6, .val (.int .i64 v6)), (13, .val (.bool x1))]) (L' := []) (by cases hx1; rfl) (by cases hx1; rfl) ?_
      refine To.thenN ?_
      refine Wp.cond (b := x1) (by kernel_rfl) (fun hb => ?_) (fun hb => ?_)
      · replace h := if_t hb h
        refine Wp.seq ?_
        refine Wp.region hΓ [] [] [] [2] [] (K' := [(2, .val (.bool false))]) (L' := []) (ob := []) (by kernel_rfl) AllP.nil ?_
        refine To.thenN ?_
        refine Wp.ret ?_
        refine To.blockR ?_
        refine To.thenR ?_
        refine To.thenR ?_
        refine To.keep (kk := [2]) (kl := []) (K' := [(2, .val (.bool false))]) (L' := []) (by kernel_rfl) (by kernel_rfl) ?_
        cases h
        exact hQ
      · replace h := if_f hb h
        refine Wp.skip ?_
        refine To.blockN ?_
        refine To.thenN ?_
        refine Wp.region hΓ [] [] [] [0, 5, 6] [] (K' := [(0, .str v0), (5, .val (.int .i64 v5)), (6, .val (.int .i64 (IntKind.wrap .i64 (v6 + 1))))]) (L' := []) (ob := []) (by kernel_rfl) AllP.nil ?_
        refine To.keep (kk := [0, 5, 6]) (kl := []) (K' := [(0, .str v0), (5, .val (.int .i64 v5)), (6, .val (.int .i64 (IntKind.wrap .i64 (v6 + 1))))]) (L' := []) (by kernel_rfl) (by kernel_rfl) ?_
        refine To.again ?_
        exact ih (IntKind.wrap .i64 (v6 + 1)) _ h hQ
    · replace h := if_f hb h
      refine Wp.exit ?_
      refine To.thenX ?_
      refine To.thenX ?_
      refine To.keep (kk := [0]) (kl := []) (K' := [(0, .str v0)]) (L' := []) (by kernel_rfl) (by kernel_rfl) ?_
      cases h
      exact hQ
def quote_Row (n : Nat) (a0 : List UInt8) : Option (Bool) :=
  (quote_Row_l1 n a0 (List.length a0 : Int) n 0).bind fun o1 =>
  (Sum.elim (fun o1 => (quote_Plain n a0).bind fun r2 =>
  some r2) (fun o1 => some o1)) o1
theorem ok_quote_Row (n : Nat) (a0 : List UInt8) (r : Bool) (h : quote_Row n a0 = some r) : CallsX Tryd.prog 22 [.str a0] (.val (.bool r)) := by
  unfold quote_Row at h
  refine callsX_of (fn := Tryd.f22) (by kernel_rfl) rfl (by kernel_rfl) (Nat.le_of_ble_eq_true (by kernel_rfl)) fun F0 w0 _ => ?_
  refine Wp.keep (kk := [0]) (kl := []) (K' := [(0, .str a0)]) (L' := []) (by kernel_rfl) (by kernel_rfl) ?_
  refine Wp.seq ?_
  refine Wp.region hΓ [] [] [] [0] [] (K' := [(0, .str a0)]) (L' := []) (ob := []) (by kernel_rfl) AllP.nil ?_
  refine To.thenN ?_
  refine Wp.seq ?_
  refine Wp.seq ?_
  refine Wp.region hΓ [] [] [] [0, 5, 6] [] (K' := [(0, .str a0), (5, .val (.int .i64 (List.length a0 : Int))), (6, .val (.int .i64 0))]) (L' := []) (ob := []) (by kernel_rfl) AllP.nil ?_
  refine To.thenN ?_
  refine Wp.block ?_
  obtain ⟨o1, ho1, h⟩ := bind_of h
  refine Wp.keep (kk := [0, 5, 6]) (kl := []) (K' := [(0, .str a0), (5, .val (.int .i64 (List.length a0 : Int))), (6, .val (.int .i64 0))]) (L' := []) (by kernel_rfl) (by kernel_rfl) ?_
  refine Wp.loopL ?_
  refine ok_quote_Row_l1 n a0 (List.length a0 : Int) n 0 o1 ho1 ?_
  rcases o1 with o1 | o1
  · replace h := sum_l h
    refine To.blockX ?_
    refine To.thenN ?_
    refine Wp.seq ?_
    obtain ⟨r2, hr2, h⟩ := bind_of h
    refine Wp.region hΓ [] [(1, .val (.bool r2))] [] [2] [] (K' := [(2, .val (.bool r2))]) (L' := []) (ob := [(true = true → CX Tryd.prog 23 [.str a0] (.val (.bool r2)))]) (by kernel_rfl) (AllP.cons (fun _ => cx (ok_quote_Plain n a0 _ hr2)) AllP.nil) ?_
    refine To.thenN ?_
    refine Wp.ret ?_
    refine To.keep (kk := [2]) (kl := []) (K' := [(2, .val (.bool r2))]) (L' := []) (by kernel_rfl) (by kernel_rfl) ?_
    cases h
    exact To.done hΓ (by kernel_rfl)
  · replace h := sum_r h
    refine To.blockR ?_
    refine To.thenR ?_
    refine To.keep (kk := [2]) (kl := []) (K' := [(2, .val (.bool o1))]) (L' := []) (by kernel_rfl) (by kernel_rfl) ?_
    cases h
    exact To.done hΓ (by kernel_rfl)
def flow_reader_key__o0_j1 (n : Nat) (v12 : Bool) (b1000000 : S_flow_reader) : Option ((List UInt8) × S_flow_reader) :=
  if v12 = true then ((flow_reader_quoted__o0 n b1000000).bind fun r2 =>
  some (r2.1, r2.2))
  else ((flow_reader_plain__o0 n b1000000).bind fun r3 =>
  (quote_Row n r3.1).bind fun r4 =>
  if (!r4) = true then (some (r3.1, (S_flow_reader.mk r3.2.f_s r3.2.f_at true)))
  else (some (r3.1, r3.2)))
theorem ok_flow_reader_key__o0_j1 (n : Nat) (v12 : Bool) (b1000000 : S_flow_reader) (o : (List UInt8) × S_flow_reader) (h : flow_reader_key__o0_j1 n v12 b1000000 = some o) {F0 : Fz} {w0 : Pt Tryd.prog} {Q : Exit → Act → World → Prop} (hQ : To 36 F0 w0 [(0, .own 1000000 0), (3, .str o.1)] [(1000000, 40, [.str o.2.f_s, .val (.int .i64 o.2.f_at), .val (.bool o.2.f_bad)])] .normal Q) : Wp Tryd.prog 36 F0 w0 [(0, .own 1000000 0), (12, .val (.bool v12))] [(1000000, 40, [.str b1000000.f_s, .val (.int .i64 b1000000.f_at), .val (.bool b1000000.f_bad)])] (cB (cA (cB (cB (cF Tryd.f47))))) Q := by
  unfold flow_reader_key__o0_j1 at h
  refine Wp.cond (b := v12) (by kernel_rfl) (fun hb => ?_) (fun hb => ?_)
  · replace h := if_t hb h
    obtain ⟨r2, hr2, h⟩ := bind_of h
    refine Wp.region hΓ [] [] [(1, ⟨[(1000000, 1000000)], [(1000000, 1000000)], [.own 1000000 0], [(1000000, 40, [.str b1000000.f_s, .val (.int .i64 b1000000.f_at), .val (.bool b1000000.f_bad)])], .str r2.1, [(1000000, 40, [.str r2.2.f_s, .val (.int .i64 r2.2.f_at), .val (.bool r2.2.f_bad)])]⟩)] [0, 3] [1000000] (K' := [(0, .own 1000000 0), (3, .str r2.1)]) (L' := [(1000000, 40, [.str r2.2.f_s, .val (.int .i64 r2.2.f_at), .val (.bool r2.2.f_bad)])]) (ob := [CbOb (CallsB Tryd.prog) 33 [.own 1000000 0] [some (40, [.str b1000000.f_s, .val (.int .i64 b1000000.f_at), .val (.bool b1000000.f_bad)])] ⟨[(1000000, 1000000)], [(1000000, 1000000)], [.own 1000000 0], [(1000000, 40, [.str b1000000.f_s, .val (.int .i64 b1000000.f_at), .val (.bool b1000000.f_bad)])], .str r2.1, [(1000000, 40, [.str r2.2.f_s, .val (.int .i64 r2.2.f_at), .val (.bool r2.2.f_bad)])]⟩]) (by kernel_rfl) (AllP.cons (⟨(ok_flow_reader_quoted__o0 n b1000000 _ hr2), by kernel_rfl, by kernel_rfl⟩) AllP.nil) ?_
    refine To.keep (kk := [0, 3]) (kl := [1000000]) (K' := [(0, .own 1000000 0), (3, .str r2.1)]) (L' := [(1000000, 40, [.str r2.2.f_s, .val (.int .i64 r2.2.f_at), .val (.bool r2.2.f_bad)])]) (by kernel_rfl) (by kernel_rfl) ?_
    cases h
    exact hQ
  · replace h := if_f hb h
    refine Wp.seq ?_
    obtain ⟨r3, hr3, h⟩ := bind_of h
    refine Wp.region hΓ [] [] [(1, ⟨[(1000000, 1000000)], [(1000000, 1000000)], [.own 1000000 0], [(1000000, 40, [.str b1000000.f_s, .val (.int .i64 b1000000.f_at), .val (.bool b1000000.f_bad)])], .str r3.1, [(1000000, 40, [.str r3.2.f_s, .val (.int .i64 r3.2.f_at), .val (.bool r3.2.f_bad)])]⟩)] [0, 3] [1000000] (K' := [(0, .own 1000000 0), (3, .str r3.1)]) (L' := [(1000000, 40, [.str r3.2.f_s, .val (.int .i64 r3.2.f_at), .val (.bool r3.2.f_bad)])]) (ob := [CbOb (CallsB Tryd.prog) 34 [.own 1000000 0] [some (40, [.str b1000000.f_s, .val (.int .i64 b1000000.f_at), .val (.bool b1000000.f_bad)])] ⟨[(1000000, 1000000)], [(1000000, 1000000)], [.own 1000000 0], [(1000000, 40, [.str b1000000.f_s, .val (.int .i64 b1000000.f_at), .val (.bool b1000000.f_bad)])], .str r3.1, [(1000000, 40, [.str r3.2.f_s, .val (.int .i64 r3.2.f_at), .val (.bool r3.2.f_bad)])]⟩]) (by kernel_rfl) (AllP.cons (⟨(ok_flow_reader_plain__o0 n b1000000 _ hr3), by kernel_rfl, by kernel_rfl⟩) AllP.nil) ?_
    refine To.thenN ?_
    refine Wp.seq ?_
    obtain ⟨r4, hr4, h⟩ := bind_of h
    refine Wp.region hΓ [] [(1, .val (.bool r4))] [] [0, 3, 19] [1000000] (K' := [(0, .own 1000000 0), (3, .str r3.1), (19, .val (.bool (!r4)))]) (L' := [(1000000, 40, [.str r3.2.f_s, .val (.int .i64 r3.2.f_at), .val (.bool r3.2.f_bad)])]) (ob := [(true = true → CX Tryd.prog 22 [.str r3.1] (.val (.bool r4)))]) (by kernel_rfl) (AllP.cons (fun _ => cx (ok_quote_Row n r3.1 _ hr4)) AllP.nil) ?_
    refine To.thenN ?_
    refine Wp.cond (b := (!r4)) (by kernel_rfl) (fun hb => ?_) (fun hb => ?_)
    · replace h := if_t hb h
      refine Wp.region hΓ [] [] [] [0, 3] [1000000] (K' := [(0, .own 1000000 0), (3, .str r3.1)]) (L' := [(1000000, 40, [.str r3.2.f_s, .val (.int .i64 r3.2.f_at), .val (.bool true)])]) (ob := []) (by kernel_rfl) AllP.nil ?_
      refine To.keep (kk := [0, 3]) (kl := [1000000]) (K' := [(0, .own 1000000 0), (3, .str r3.1)]) (L' := [(1000000, 40, [.str r3.2.f_s, .val (.int .i64 r3.2.f_at), .val (.bool true)])]) (by kernel_rfl) (by kernel_rfl) ?_
      cases h
      exact hQ
    · replace h := if_f hb h
      refine Wp.skip ?_
      refine To.keep (kk := [0, 3]) (kl := [1000000]) (K' := [(0, .own 1000000 0), (3, .str r3.1)]) (L' := [(1000000, 40, [.str r3.2.f_s, .val (.int .i64 r3.2.f_at), .val (.bool r3.2.f_bad)])]) (by kernel_rfl) (by kernel_rfl) ?_
      cases h
      exact hQ
def flow_reader_key__o0 (n : Nat) (h0 : S_flow_reader) : Option ((List UInt8) × S_flow_reader) :=
  (flow_reader_next__o0 n h0).bind fun r1 =>
  (flow_reader_key__o0_j1 n (bif (r1.1 == 34) then true else (r1.1 == 39)) r1.2).bind fun o2 =>
  ((if (o2.2.f_bad == false) = true then flow_reader_take__o0 n 58 o2.2 else some (false, o2.2))).bind fun r3 =>
  some (o2.1, (S_flow_reader.mk r3.2.f_s r3.2.f_at (bif o2.2.f_bad then true else (!r3.1))))
end Go.Proofs.YtjicbelggepaiaaDoor.M
