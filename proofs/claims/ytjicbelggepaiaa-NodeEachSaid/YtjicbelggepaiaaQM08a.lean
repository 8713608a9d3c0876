/-
  Part of the proof of NodeEach: M08a.
-/
import Derived.Test.YtjicbelggepaiaaQRxAnyD
import Derived.Test.YtjicbelggepaiaaQRxArgs
import Derived.Test.YtjicbelggepaiaaQRxGoto
import Derived.Test.YtjicbelggepaiaaQRxNil
import Derived.Test.YtjicbelggepaiaaQRxOrd
import Derived.Test.YtjicbelggepaiaaQSh08
import Derived.Test.YtjicbelggepaiaaProg
set_option linter.all false
namespace Go.Proofs.Ytjicbelggepaiaa.M
open Go.RowKit Go.Proofs.Ytjicbelggepaiaa.RX
set_option maxRecDepth 100000
def tab : List (Nat × TI) := [
  (3, { agg := false, size := 1, zero := [.int .i64 0], kind := .int .i64, eqs := [] }),
  (4, { agg := false, size := 1, zero := [.bool false], kind := .bool, eqs := [] }),
  (5, { agg := false, size := 1, zero := [.int .u8 0], kind := .int .u8, eqs := [] }),
  (9, { agg := false, size := 1, zero := [.string ⟨#[]⟩], kind := .str, eqs := [] }),
  (22, { agg := false, size := 1, zero := [.slice none 0 0], kind := .slice 1 false, elt := 9, eb := 16, ez := [.string ⟨#[]⟩], ek := none, eqs := [] }),
  (23, { agg := false, size := 1, zero := [.slice none 0 0], kind := .slice 4 true, elt := 25, eb := 72, ez := [.int .i64 0, .string ⟨#[]⟩, .slice none 0 0, .slice none 0 0], ek := none, eqs := [] }),
  (25, { agg := true, size := 4, zero := [.int .i64 0, .string ⟨#[]⟩, .slice none 0 0, .slice none 0 0], kind := .struct [(0, 1, false), (1, 1, false), (2, 1, false), (3, 1, false)], eqs := [] }),
  (61, { agg := true, size := 1, zero := [.int .i64 0], kind := .struct [(0, 1, false)], eqs := [] }),
  (65, { agg := false, size := 1, zero := [.int .u64 0], kind := .int .u64, eqs := [] }),
  (66, { agg := false, size := 1, zero := [.slice none 0 0], kind := .slice 1 false, elt := 22, eb := 24, ez := [.slice none 0 0], ek := none, eqs := [] }),
  (68, { agg := false, size := 1, zero := [.slice none 0 0], kind := .slice 1 false, elt := 23, eb := 24, ez := [.slice none 0 0], ek := none, eqs := [] })]
theorem tabOK : TabOK Try.prog tab := ⟨⟨by kernel_rfl, fun h => absurd rfl h⟩, ⟨by kernel_rfl, fun h => absurd rfl h⟩, ⟨by kernel_rfl, fun h => absurd rfl h⟩, ⟨by kernel_rfl, fun h => absurd rfl h⟩, ⟨by kernel_rfl, fun h => absurd rfl h⟩, ⟨by kernel_rfl, fun h => absurd rfl h⟩, ⟨by kernel_rfl, fun h => absurd rfl h⟩, ⟨by kernel_rfl, fun h => absurd rfl h⟩, ⟨by kernel_rfl, fun h => absurd rfl h⟩, ⟨by kernel_rfl, fun h => absurd rfl h⟩, ⟨by kernel_rfl, fun h => absurd rfl h⟩, trivial⟩
theorem hΓ : ΓOK Try.prog (tabΓ tab) := ΓOK.of tabOK
theorem hm : Try.prog.follows .mixedOrders = true := by kernel_rfl
structure S_api_Node where
  f_Kind : Int
  f_Text : List UInt8
  f_Keys : List (List UInt8)
  f_Kids : List (S_api_Node)
def E_string : List UInt8 → List D := fun x => [.str x]
def pre_S_api_Node : S_api_Node → List D := fun x => [.val (.int .i64 x.f_Kind), .str x.f_Text, .recs (α := List UInt8) [] E_string x.f_Keys]
def kids_S_api_Node : S_api_Node → List (S_api_Node) := fun x => x.f_Kids
def tr_S_api_Node : S_api_Node → List D := treeEnc (S_api_Node.mk 0 [] [] []) pre_S_api_Node kids_S_api_Node
def E_api_Node : S_api_Node → List D := tr_S_api_Node
theorem good_E_string (l : List (List UInt8)) : GoodR (.recs [] E_string l) := ⟨Nat.le_of_ble_eq_true (by kernel_rfl), fun _ => ⟨rfl, rfl⟩⟩
def ref02_Sorted_j3 (n : Nat) (v0 : List (List UInt8)) (v3 : List (List UInt8)) (v4 : Int) (v5 : Int) : Option (Int) :=
  if ((!(((List.length v3 : Int) == 0) == false) || decide (0 ≤ v5 ∧ v5 < (List.length v0 : Int)))) = true then (if ((!(((List.length v3 : Int) == 0) == false) || decide (0 ≤ (IntKind.wrap .i64 ((List.length v3 : Int) - 1)) ∧ (IntKind.wrap .i64 ((List.length v3 : Int) - 1)) < (List.length v3 : Int)))) = true then (if ((!(((decide (v4 < 0)) == false) && ((bif ((List.length v3 : Int) == 0) then true else (!(Op.bytesLess ((v0)[Int.toNat v5]?.getD []) ((v3)[Int.toNat (IntKind.wrap .i64 ((List.length v3 : Int) - 1))]?.getD []) || ((v0)[Int.toNat v5]?.getD []) == ((v3)[Int.toNat (IntKind.wrap .i64 ((List.length v3 : Int) - 1))]?.getD [])))) == true)) || decide (0 ≤ v5 ∧ v5 < (List.length v0 : Int)))) = true then (if ((!(((decide (v4 < 0)) == false) && ((bif ((List.length v3 : Int) == 0) then true else (!(Op.bytesLess ((v0)[Int.toNat v5]?.getD []) ((v3)[Int.toNat (IntKind.wrap .i64 ((List.length v3 : Int) - 1))]?.getD []) || ((v0)[Int.toNat v5]?.getD []) == ((v3)[Int.toNat (IntKind.wrap .i64 ((List.length v3 : Int) - 1))]?.getD [])))) == true)) || decide (0 ≤ v4 ∧ v4 < (List.length v0 : Int)))) = true then (lett ((bif (bif ((List.length v3 : Int) == 0) then true else (!(Op.bytesLess ((v0)[Int.toNat v5]?.getD []) ((v3)[Int.toNat (IntKind.wrap .i64 ((List.length v3 : Int) - 1))]?.getD []) || ((v0)[Int.toNat v5]?.getD []) == ((v3)[Int.toNat (IntKind.wrap .i64 ((List.length v3 : Int) - 1))]?.getD [])))) then (bif (decide (v4 < 0)) then true else (Op.bytesLess ((v0)[Int.toNat v5]?.getD []) ((v0)[Int.toNat v4]?.getD []))) else false) : Bool) fun x1 =>
  if x1 = true then some v5
  else some v4) else none) else none) else none) else none
theorem ok_ref02_Sorted_j3 (n : Nat) (v0 : List (List UInt8)) (v3 : List (List UInt8)) (v4 : Int) (v5 : Int) (o : Int) (h : ref02_Sorted_j3 n v0 v3 v4 v5 = some o) {F0 : Fz} {w0 : Pt Try.prog} {Q : Exit → Act → World → Prop} (hQ : To 55 F0 w0 [(0, .recs (α := List UInt8) [] E_string v0), (3, .row 1003), (4, .val (.int .i64 o)), (5, .val (.int .i64 v5))] [(1003, 9, [.rowc false (α := List UInt8) [] E_string v3])] .normal Q) : Wp Try.prog 55 F0 w0 [(0, .recs (α := List UInt8) [] E_string v0), (3, .row 1003), (4, .val (.int .i64 v4)), (5, .val (.int .i64 v5))] [(1003, 9, [.rowc false (α := List UInt8) [] E_string v3])] (cA (cB (cI (cI (cB (cA (cB (cI (cI (cI (cB (cB (cF Try.f37))))))))))))) Q := by
  unfold ref02_Sorted_j3 at h
  refine Wp.block ?_
  refine Wp.seq ?_
  obtain ⟨hc2, h⟩ := chk_of h
  obtain ⟨hc3, h⟩ := chk_of h
  obtain ⟨hc4, h⟩ := chk_of h
  obtain ⟨hc5, h⟩ := chk_of h
  obtain ⟨x1, hx1, h⟩ := lett_of h
  refine Wp.regionD hm hΓ [] [0, 3, 4, 5, 43] [1003] (K' := [(0, .recs (α := List UInt8) [] E_string v0), (3, .row 1003), (4, .val (.int .i64 v4)), (5, .val (.int .i64 v5)), (43, .val (.bool (bif (bif ((List.length v3 : Int) == 0) then true else (!(Op.bytesLess ((v0)[Int.toNat v5]?.getD []) ((v3)[Int.toNat (IntKind.wrap .i64 ((List.length v3 : Int) - 1))]?.getD []) || ((v0)[Int.toNat v5]?.getD []) == ((v3)[Int.toNat (IntKind.wrap .i64 ((List.length v3 : Int) - 1))]?.getD [])))) then (bif (decide (v4 < 0)) then true else (Op.bytesLess ((v0)[Int.toNat v5]?.getD []) ((v0)[Int.toNat v4]?.getD []))) else false)))]) (L' := [(1003, 9, [.rowc false (α := List UInt8) [] E_string v3])]) (ob := [(!(((List.length v3 : Int) == 0) == false) || decide (0 ≤ v5 ∧ v5 < (List.length v0 : Int))) = true, (!(((List.length v3 : Int) == 0) == false) || decide (0 ≤ (IntKind.wrap .i64 ((List.length v3 : Int) - 1)) ∧ (IntKind.wrap .i64 ((List.length v3 : Int) - 1)) < (List.length v3 : Int))) = true, (!(((List.length v3 : Int) == 0) == false) || decide (0 ≤ (IntKind.wrap .i64 ((List.length v3 : Int) - 1)) ∧ (IntKind.wrap .i64 ((List.length v3 : Int) - 1)) < (List.length v3 : Int))) = true, (!(((decide (v4 < 0)) == false) && ((bif ((List.length v3 : Int) == 0) then true else (!(Op.bytesLess ((v0)[Int.toNat v5]?.getD []) ((v3)[Int.toNat (IntKind.wrap .i64 ((List.length v3 : Int) - 1))]?.getD []) || ((v0)[Int.toNat v5]?.getD []) == ((v3)[Int.toNat (IntKind.wrap .i64 ((List.length v3 : Int) - 1))]?.getD [])))) == true)) || decide (0 ≤ v5 ∧ v5 < (List.length v0 : Int))) = true, (!(((decide (v4 < 0)) == false) && ((bif ((List.length v3 : Int) == 0) then true else (!(Op.bytesLess ((v0)[Int.toNat v5]?.getD []) ((v3)[Int.toNat (IntKind.wrap .i64 ((List.length v3 : Int) - 1))]?.getD []) || ((v0)[Int.toNat v5]?.getD []) == ((v3)[Int.toNat (IntKind.wrap .i64 ((List.length v3 : Int) - 1))]?.getD [])))) == true)) || decide (0 ≤ v4 ∧ v4 < (List.length v0 : Int))) = true]) (by kernel_rfl) (AllP.cons hc2 (AllP.cons hc3 (AllP.cons hc3 (AllP.cons hc4 (AllP.cons hc5 AllP.nil))))) ?_
  refine To.eq (K' := [(0, .recs (α := List UInt8) [] E_string v0), (3, .row 1003), (4, .val (.int .i64 v4)), (5, .val (.int .i64 v5)), (43, .val (.bool x1))]) (L' := [(1003, 9, [.rowc false (α := List UInt8) [] E_string v3])]) (by cases hx1; rfl) (by cases hx1; rfl) ?_
  refine To.thenN ?_
  refine Wp.cond (b := x1) (by kernel_rfl) (fun hb => ?_) (fun hb => ?_)
  · replace h := if_t hb h
    refine Wp.region hΓ [] [] [] [0, 3, 4, 5] [1003] (K' := [(0, .recs (α := List UInt8) [] E_string v0), (3, .row 1003), (4, .val (.int .i64 v5)), (5, .val (.int .i64 v5))]) (L' := [(1003, 9, [.rowc false (α := List UInt8) [] E_string v3])]) (ob := []) (by kernel_rfl) AllP.nil ?_
    refine To.blockN ?_
    refine To.keep (kk := [0, 3, 4, 5]) (kl := [1003]) (K' := [(0, .recs (α := List UInt8) [] E_string v0), (3, .row 1003), (4, .val (.int .i64 v5)), (5, .val (.int .i64 v5))]) (L' := [(1003, 9, [.rowc false (α := List UInt8) [] E_string v3])]) (by kernel_rfl) (by kernel_rfl) ?_
    cases h
    exact hQ
  · replace h := if_f hb h
    refine Wp.skip ?_
    refine To.blockN ?_
    refine To.keep (kk := [0, 3, 4, 5]) (kl := [1003]) (K' := [(0, .recs (α := List UInt8) [] E_string v0), (3, .row 1003), (4, .val (.int .i64 v4)), (5, .val (.int .i64 v5))]) (L' := [(1003, 9, [.rowc false (α := List UInt8) [] E_string v3])]) (by kernel_rfl) (by kernel_rfl) ?_
    cases h
    exact hQ
def ref02_Sorted_l2 (n : Nat) (v0 : List (List UInt8)) (v3 : List (List UInt8)) : Nat → Int → Int → Option (Int)
  | 0, _, _ => none
  | k + 1, v4, v5 => if (decide (v5 < (List.length v0 : Int))) = true then ((ref02_Sorted_j3 n v0 v3 v4 v5).bind fun o1 =>
  ref02_Sorted_l2 n v0 v3 k o1 (IntKind.wrap .i64 (v5 + 1)))
  else some v4
theorem ok_ref02_Sorted_l2 (n : Nat) (v0 : List (List UInt8)) (v3 : List (List UInt8)) {F0 : Fz} {w0 : Pt Try.prog} {Q : Exit → Act → World → Prop} (k : Nat) : ∀ (v4 : Int) (v5 : Int) (o : Int), ref02_Sorted_l2 n v0 v3 k v4 v5 = some o → To 55 F0 w0 [(0, .recs (α := List UInt8) [] E_string v0), (3, .row 1003), (4, .val (.int .i64 o))] [(1003, 9, [.rowc false (α := List UInt8) [] E_string v3])] (.exit 2) Q → WL Try.prog 55 F0 w0 [(0, .recs (α := List UInt8) [] E_string v0), (3, .row 1003), (4, .val (.int .i64 v4)), (5, .val (.int .i64 v5))] [(1003, 9, [.rowc false (α := List UInt8) [] E_string v3])] (cI (cI (cB (cA (cB (cI (cI (cI (cB (cB (cF Try.f37))))))))))) Q := by
  induction k with
  | zero => intro v4 v5 o h; cases h
  | succ k ih =>
    intro v4 v5 o h hQ
    rw [ref02_Sorted_l2] at h
    refine WL.round ?_
    refine Wp.seq ?_
    refine Wp.seq ?_
    refine Wp.region hΓ [] [] [] [0, 3, 4, 5, 10] [1003] (K' := [(0, .recs (α := List UInt8) [] E_string v0), (3, .row 1003), (4, .val (.int .i64 v4)), (5, .val (.int .i64 v5)), (10, .val (.bool (decide (v5 < (List.length v0 : Int)))))]) (L' := [(1003, 9, [.rowc false (α := List UInt8) [] E_string v3])]) (ob := []) (by kernel_rfl) AllP.nil ?_
    refine To.thenN ?_
    refine Wp.cond (b := (decide (v5 < (List.length v0 : Int)))) (by kernel_rfl) (fun hb => ?_) (fun hb => ?_)
    · replace h := if_t hb h
      refine Wp.skip ?_
      refine To.thenN ?_
      refine Wp.seq ?_
      obtain ⟨o1, ho1, h⟩ := bind_of h
      refine Wp.keep (kk := [0, 3, 4, 5]) (kl := [1003]) (K' := [(0, .recs (α := List UInt8) [] E_string v0), (3, .row 1003), (4, .val (.int .i64 v4)), (5, .val (.int .i64 v5))]) (L' := [(1003, 9, [.rowc false (α := List UInt8) [] E_string v3])]) (by kernel_rfl) (by kernel_rfl) ?_
      refine ok_ref02_Sorted_j3 n v0 v3 v4 v5 o1 ho1 ?_
      refine To.thenN ?_
      refine Wp.region hΓ [] [] [] [0, 3, 4, 5] [1003] (K' := [(0, .recs (α := List UInt8) [] E_string v0), (3, .row 1003), (4, .val (.int .i64 o1)), (5, .val (.int .i64 (IntKind.wrap .i64 (v5 + 1))))]) (L' := [(1003, 9, [.rowc false (α := List UInt8) [] E_string v3])]) (ob := []) (by kernel_rfl) AllP.nil ?_
      refine To.keep (kk := [0, 3, 4, 5]) (kl := [1003]) (K' := [(0, .recs (α := List UInt8) [] E_string v0), (3, .row 1003), (4, .val (.int .i64 o1)), (5, .val (.int .i64 (IntKind.wrap .i64 (v5 + 1))))]) (L' := [(1003, 9, [.rowc false (α := List UInt8) [] E_string v3])]) (by kernel_rfl) (by kernel_rfl) ?_
      refine To.again ?_
      exact ih o1 (IntKind.wrap .i64 (v5 + 1)) _ h hQ
    · replace h := if_f hb h
      refine Wp.exit ?_
      refine To.thenX ?_
      refine To.thenX ?_
      refine To.keep (kk := [0, 3, 4]) (kl := [1003]) (K' := [(0, .recs (α := List UInt8) [] E_string v0), (3, .row 1003), (4, .val (.int .i64 v4))]) (L' := [(1003, 9, [.rowc false (α := List UInt8) [] E_string v3])]) (by kernel_rfl) (by kernel_rfl) ?_
      cases h
      exact hQ
def ref02_Sorted_l1 (n : Nat) (v0 : List (List UInt8)) : Nat → (List (List UInt8)) → Option ((List (List UInt8)))
  | 0, _ => none
  | k + 1, v3 => (ref02_Sorted_l2 n v0 v3 n (-1) 0).bind fun o1 =>
  if (decide (o1 < 0)) = true then some v3
  else (if (decide (0 ≤ o1 ∧ o1 < (List.length v0 : Int))) = true then (if (decide ((List.length v3 + List.length ([((v0)[Int.toNat o1]?.getD [])] : List (List UInt8))) * (16 + 1) ≤ limit)) = true then (ref02_Sorted_l1 n v0 k (v3 ++ ([((v0)[Int.toNat o1]?.getD [])] : List (List UInt8)))) else none) else none)
theorem ok_ref02_Sorted_l1 (n : Nat) (v0 : List (List UInt8)) {F0 : Fz} {w0 : Pt Try.prog} {Q : Exit → Act → World → Prop} (k : Nat) : ∀ (v3 : List (List UInt8)) (o : (List (List UInt8))), ref02_Sorted_l1 n v0 k v3 = some o → To 55 F0 w0 [(2, .row 1002)] [(1002, 9, [.rowc false (α := List UInt8) [] E_string o])] .ret Q → WL Try.prog 55 F0 w0 [(0, .recs (α := List UInt8) [] E_string v0), (3, .row 1003)] [(1003, 9, [.rowc false (α := List UInt8) [] E_string v3])] (cI (cI (cB (cB (cF Try.f37))))) Q := by
  induction k with
  | zero => intro v3 o h; cases h
  | succ k ih =>
    intro v3 o h hQ
    rw [ref02_Sorted_l1] at h
    refine WL.round ?_
    refine Wp.block ?_
    refine Wp.seq ?_
    refine Wp.region hΓ [] [] [] [0, 3, 4] [1003] (K' := [(0, .recs (α := List UInt8) [] E_string v0), (3, .row 1003), (4, .val (.int .i64 (-1)))]) (L' := [(1003, 9, [.rowc false (α := List UInt8) [] E_string v3])]) (ob := []) (by kernel_rfl) AllP.nil ?_
    refine To.thenN ?_
    refine Wp.seq ?_
    refine Wp.seq ?_
    refine Wp.region hΓ [] [] [] [0, 3, 4, 5] [1003] (K' := [(0, .recs (α := List UInt8) [] E_string v0), (3, .row 1003), (4, .val (.int .i64 (-1))), (5, .val (.int .i64 0))]) (L' := [(1003, 9, [.rowc false (α := List UInt8) [] E_string v3])]) (ob := []) (by kernel_rfl) AllP.nil ?_
    refine To.thenN ?_
    refine Wp.block ?_
    obtain ⟨o1, ho1, h⟩ := bind_of h
    refine Wp.keep (kk := [0, 3, 4, 5]) (kl := [1003]) (K' := [(0, .recs (α := List UInt8) [] E_string v0), (3, .row 1003), (4, .val (.int .i64 (-1))), (5, .val (.int .i64 0))]) (L' := [(1003, 9, [.rowc false (α := List UInt8) [] E_string v3])]) (by kernel_rfl) (by kernel_rfl) ?_
    refine Wp.loopL ?_
    refine ok_ref02_Sorted_l2 n v0 v3 n (-1) 0 o1 ho1 ?_
    refine To.blockX ?_
    refine To.thenN ?_
    refine Wp.seq ?_
    refine Wp.seq ?_
    refine Wp.region hΓ [] [] [] [0, 3, 4, 46] [1003] (K' := [(0, .recs (α := List UInt8) [] E_string v0), (3, .row 1003), (4, .val (.int .i64 o1)), (46, .val (.bool (decide (o1 < 0))))]) (L' := [(1003, 9, [.rowc false (α := List UInt8) [] E_string v3])]) (ob := []) (by kernel_rfl) AllP.nil ?_
    refine To.thenN ?_
    refine Wp.cond (b := (decide (o1 < 0))) (by kernel_rfl) (fun hb => ?_) (fun hb => ?_)
    · replace h := if_t hb h
      refine Wp.seq ?_
      refine Wp.region hΓ [] [] [] [2] [1003] (K' := [(2, .row 1003)]) (L' := [(1003, 9, [.rowc false (α := List UInt8) [] E_string v3])]) (ob := []) (by kernel_rfl) AllP.nil ?_
      refine To.thenN ?_
      refine Wp.ret ?_
      refine To.thenR ?_
      refine To.blockR ?_
      refine To.thenR ?_
      refine To.keep (kk := [2]) (kl := [1003]) (K' := [(2, .row 1003)]) (L' := [(1003, 9, [.rowc false (α := List UInt8) [] E_string v3])]) (by kernel_rfl) (by kernel_rfl) ?_
      refine To.pre (St.rename 1003 1002 (by decide) (K' := [(2, .row 1002)]) (L' := [(1002, 9, [.rowc false (α := List UInt8) [] E_string v3])]) (by kernel_rfl) (by kernel_rfl) (by kernel_rfl)) ?_
      refine To.keep (kk := [2]) (kl := [1002]) (K' := [(2, .row 1002)]) (L' := [(1002, 9, [.rowc false (α := List UInt8) [] E_string v3])]) (by kernel_rfl) (by kernel_rfl) ?_
      cases h
      exact hQ
    · replace h := if_f hb h
      refine Wp.skip ?_
      refine To.thenN ?_
      obtain ⟨hc2, h⟩ := chk_of h
      obtain ⟨hc3, h⟩ := chk_of h
      refine Wp.region hΓ [] [(5, .recs (α := List UInt8) [] E_string ([((v0)[Int.toNat o1]?.getD [])])), (6, .recs (α := List UInt8) [] E_string (v3 ++ ([((v0)[Int.toNat o1]?.getD [])] : List (List UInt8))))] [] [0, 3] [54] (K' := [(0, .recs (α := List UInt8) [] E_string v0), (3, .row 54)]) (L' := [(54, 9, [.rowc false (α := List UInt8) [] E_string (v3 ++ ([((v0)[Int.toNat o1]?.getD [])] : List (List UInt8)))])]) (ob := [(decide (0 ≤ o1 ∧ o1 < (List.length v0 : Int))) = true, (MkOb 1 [.str ((v0)[Int.toNat o1]?.getD [])] 1 (.recs (α := List UInt8) [] E_string ([((v0)[Int.toNat o1]?.getD [])])) ∧ GoodR (.recs (α := List UInt8) [] E_string ([((v0)[Int.toNat o1]?.getD [])]))), (decide ((List.length v3 + List.length ([((v0)[Int.toNat o1]?.getD [])] : List (List UInt8))) * (16 + 1) ≤ limit)) = true, (AppOb [] E_string v3 (List.flatMap E_string ([((v0)[Int.toNat o1]?.getD [])] : List (List UInt8))) (List.length ([((v0)[Int.toNat o1]?.getD [])] : List (List UInt8))) (.recs (α := List UInt8) [] E_string (v3 ++ ([((v0)[Int.toNat o1]?.getD [])] : List (List UInt8)))) ∧ GoodR (.recs (α := List UInt8) [] E_string (v3 ++ ([((v0)[Int.toNat o1]?.getD [])] : List (List UInt8)))))]) (by kernel_rfl) (AllP.cons hc2 (AllP.cons (mkOb (by kernel_rfl) rfl (by kernel_rfl) (good_E_string _)) (AllP.cons hc3 (AllP.cons (appOb rfl rfl (good_E_string _)) AllP.nil)))) ?_
      refine To.blockN ?_
      refine To.keep (kk := [0, 3]) (kl := [54]) (K' := [(0, .recs (α := List UInt8) [] E_string v0), (3, .row 54)]) (L' := [(54, 9, [.rowc false (α := List UInt8) [] E_string (v3 ++ ([((v0)[Int.toNat o1]?.getD [])] : List (List UInt8)))])]) (by kernel_rfl) (by kernel_rfl) ?_
      refine To.pre (St.rename 54 1003 (by decide) (K' := [(0, .recs (α := List UInt8) [] E_string v0), (3, .row 1003)]) (L' := [(1003, 9, [.rowc false (α := List UInt8) [] E_string (v3 ++ ([((v0)[Int.toNat o1]?.getD [])] : List (List UInt8)))])]) (by kernel_rfl) (by kernel_rfl) (by kernel_rfl)) ?_
      refine To.keep (kk := [0, 3]) (kl := [1003]) (K' := [(0, .recs (α := List UInt8) [] E_string v0), (3, .row 1003)]) (L' := [(1003, 9, [.rowc false (α := List UInt8) [] E_string (v3 ++ ([((v0)[Int.toNat o1]?.getD [])] : List (List UInt8)))])]) (by kernel_rfl) (by kernel_rfl) ?_
      refine To.again ?_
      exact ih (v3 ++ ([((v0)[Int.toNat o1]?.getD [])] : List (List UInt8))) _ h hQ
def ref02_Sorted (n : Nat) (a0 : List (List UInt8)) : Option ((List (List UInt8))) :=
  (ref02_Sorted_l1 n a0 n ([] : List (List UInt8))).bind fun o1 =>
  some o1
theorem ok_ref02_Sorted (n : Nat) (a0 : List (List UInt8)) (r : (List (List UInt8))) (h : ref02_Sorted n a0 = some r) : CallsX Try.prog 37 [.recs (α := List UInt8) [] E_string a0] (.recs (α := List UInt8) [] E_string r) := by
  unfold ref02_Sorted at h
  refine callsX_of (fn := Try.f37) (by kernel_rfl) rfl (by kernel_rfl) (Nat.le_of_ble_eq_true (by kernel_rfl)) fun F0 w0 _ => ?_
  refine Wp.keep (kk := [0]) (kl := []) (K' := [(0, .recs (α := List UInt8) [] E_string a0)]) (L' := []) (by kernel_rfl) (by kernel_rfl) ?_
  refine Wp.seq ?_
  refine Wp.region hΓ [] [] [] [0] [] (K' := [(0, .recs (α := List UInt8) [] E_string a0)]) (L' := []) (ob := []) (by kernel_rfl) AllP.nil ?_
  refine To.thenN ?_
  refine Wp.seq ?_
  refine Wp.region hΓ [] [(0, .recs (α := List UInt8) [] E_string [])] [] [0, 3] [6] (K' := [(0, .recs (α := List UInt8) [] E_string a0), (3, .row 6)]) (L' := [(6, 9, [.rowc false (α := List UInt8) [] E_string []])]) (ob := [(MkOb 1 [] 0 (.recs (α := List UInt8) [] E_string []) ∧ GoodR (.recs (α := List UInt8) [] E_string []))]) (by kernel_rfl) (AllP.cons (mkOb (by kernel_rfl) rfl (by kernel_rfl) (good_E_string _)) AllP.nil) ?_
  refine To.thenN ?_
  refine Wp.block ?_
  obtain ⟨o1, ho1, h⟩ := bind_of h
  refine Wp.keep (kk := [0, 3]) (kl := [6]) (K' := [(0, .recs (α := List UInt8) [] E_string a0), (3, .row 6)]) (L' := [(6, 9, [.rowc false (α := List UInt8) [] E_string []])]) (by kernel_rfl) (by kernel_rfl) ?_
  refine Wp.pre (St.rename 6 1003 (by decide) (K' := [(0, .recs (α := List UInt8) [] E_string a0), (3, .row 1003)]) (L' := [(1003, 9, [.rowc false (α := List UInt8) [] E_string []])]) (by kernel_rfl) (by kernel_rfl) (by kernel_rfl)) ?_
  refine Wp.keep (kk := [0, 3]) (kl := [1003]) (K' := [(0, .recs (α := List UInt8) [] E_string a0), (3, .row 1003)]) (L' := [(1003, 9, [.rowc false (α := List UInt8) [] E_string []])]) (by kernel_rfl) (by kernel_rfl) ?_
  refine Wp.loopL ?_
  refine ok_ref02_Sorted_l1 n a0 n ([] : List (List UInt8)) o1 ho1 ?_
  refine To.blockR ?_
  refine To.keep (kk := [2]) (kl := [1002]) (K' := [(2, .row 1002)]) (L' := [(1002, 9, [.rowc false (α := List UInt8) [] E_string o1])]) (by kernel_rfl) (by kernel_rfl) ?_
  refine To.pre (St.settle (ks := [1002]) (kk := [2]) (kl := [1002]) (K' := [(2, .row 1002)]) (L' := [(1002, 9, [.rowc true (α := List UInt8) [] E_string o1])]) (by kernel_rfl)) ?_
  refine To.pre (St.sealK [2] (K' := [(2, .recs (α := List UInt8) [] E_string o1)]) (by kernel_rfl)) ?_
  refine To.keep (kk := [2]) (kl := []) (K' := [(2, .recs (α := List UInt8) [] E_string o1)]) (L' := []) (by kernel_rfl) (by kernel_rfl) ?_
  cases h
  exact To.done hΓ (by kernel_rfl)
def ref08_Left_l1 (R_ref08_Left : S_api_Node → Int → Int → Option (Int)) (n : Nat) (v1 : Int) (b3 : S_api_Node) : Nat → Int → Int → Option (Sum (Int) (Int))
  | 0, _, _ => none
  | k + 1, v2, v7 => if (decide (v7 < (List.length b3.f_Kids : Int))) = true then (if (decide (0 ≤ v7 ∧ v7 < (List.length b3.f_Kids : Int))) = true then ((R_ref08_Left (S_api_Node.mk (((b3.f_Kids)[Int.toNat v7]?.getD (S_api_Node.mk 0 [] [] [])).f_Kind) (((b3.f_Kids)[Int.toNat v7]?.getD (S_api_Node.mk 0 [] [] [])).f_Text) (((b3.f_Kids)[Int.toNat v7]?.getD (S_api_Node.mk 0 [] [] [])).f_Keys) (((b3.f_Kids)[Int.toNat v7]?.getD (S_api_Node.mk 0 [] [] [])).f_Kids)) (IntKind.wrap .i64 (v1 + 1)) v2).bind fun r5 =>
  if (decide (r5 < 0)) = true then (some (.inr (-1)))
  else (ref08_Left_l1 R_ref08_Left n v1 b3 k r5 (IntKind.wrap .i64 (v7 + 1)))) else none)
  else (some (.inl v2))
theorem ok_ref08_Left_l1 (R_ref08_Left : S_api_Node → Int → Int → Option (Int)) (hR_ref08_Left : ∀ (a0 : S_api_Node) (a1 : Int) (a2 : Int) (r : Int), R_ref08_Left a0 a1 a2 = some r → CallsX Try.prog 29 [.agg [.val (.int .i64 a0.f_Kind), .str a0.f_Text, .recs (α := List UInt8) [] E_string a0.f_Keys, .tree (α := S_api_Node) (S_api_Node.mk 0 [] [] []) pre_S_api_Node kids_S_api_Node a0.f_Kids], .val (.int .i64 a1), .val (.int .i64 a2)] (.val (.int .i64 r))) (n : Nat) (v1 : Int) (b3 : S_api_Node) {F0 : Fz} {w0 : Pt Try.prog} {Q : Exit → Act → World → Prop} (k : Nat) : ∀ (v2 : Int) (v7 : Int) (o : Sum (Int) (Int)), ref08_Left_l1 R_ref08_Left n v1 b3 k v2 v7 = some o → (Sum.elim (fun s => To 105 F0 w0 [(2, .val (.int .i64 s))] [] (.exit 0) Q) (fun s => To 105 F0 w0 [(6, .val (.int .i64 s))] [] .ret Q)) o → WL Try.prog 105 F0 w0 [(1, .val (.int .i64 v1)), (2, .val (.int .i64 v2)), (3, .own 3 0), (7, .val (.int .i64 v7))] [(3, 25, [.val (.int .i64 b3.f_Kind), .str b3.f_Text, .recs (α := List UInt8) [] E_string b3.f_Keys, .tree (α := S_api_Node) (S_api_Node.mk 0 [] [] []) pre_S_api_Node kids_S_api_Node b3.f_Kids])] (cI (cI (cB (cA (cB (cB (cB (cB (cB (cF Try.f29)))))))))) Q := by
  induction k with
  | zero => intro v2 v7 o h; cases h
  | succ k ih =>
    intro v2 v7 o h hQ
    rw [ref08_Left_l1] at h
    refine WL.round ?_
    refine Wp.seq ?_
    refine Wp.seq ?_
    refine Wp.region hΓ [] [] [] [1, 2, 3, 7, 90] [3] (K' := [(1, .val (.int .i64 v1)), (2, .val (.int .i64 v2)), (3, .own 3 0), (7, .val (.int .i64 v7)), (90, .val (.bool (decide (v7 < (List.length b3.f_Kids : Int)))))]) (L' := [(3, 25, [.val (.int .i64 b3.f_Kind), .str b3.f_Text, .recs (α := List UInt8) [] E_string b3.f_Keys, .tree (α := S_api_Node) (S_api_Node.mk 0 [] [] []) pre_S_api_Node kids_S_api_Node b3.f_Kids])]) (ob := []) (by kernel_rfl) AllP.nil ?_
    refine To.thenN ?_
    refine Wp.cond (b := (decide (v7 < (List.length b3.f_Kids : Int)))) (by kernel_rfl) (fun hb => ?_) (fun hb => ?_)
    · replace h := if_t hb h
      refine Wp.skip ?_
      refine To.thenN ?_
      refine Wp.seq ?_
      refine Wp.block ?_
      refine Wp.seq ?_
      obtain ⟨hc6, h⟩ := chk_of h
      obtain ⟨r5, hr5, h⟩ := bind_of h
      refine Wp.region hΓ [] [(8, .val (.int .i64 r5))] [] [1, 2, 3, 7] [3] (K' := [(1, .val (.int .i64 v1)), (2, .val (.int .i64 r5)), (3, .own 3 0), (7, .val (.int .i64 v7))]) (L' := [(3, 25, [.val (.int .i64 b3.f_Kind), .str b3.f_Text, .recs (α := List UInt8) [] E_string b3.f_Keys, .tree (α := S_api_Node) (S_api_Node.mk 0 [] [] []) pre_S_api_Node kids_S_api_Node b3.f_Kids])]) (ob := [(decide (0 ≤ v7 ∧ v7 < (List.length b3.f_Kids : Int))) = true, (true = true → CX Try.prog 29 [.agg [.val (.int .i64 (((b3.f_Kids)[Int.toNat v7]?.getD (S_api_Node.mk 0 [] [] [])).f_Kind)), .str (((b3.f_Kids)[Int.toNat v7]?.getD (S_api_Node.mk 0 [] [] [])).f_Text), .recs (α := List UInt8) [] E_string (((b3.f_Kids)[Int.toNat v7]?.getD (S_api_Node.mk 0 [] [] [])).f_Keys), .tree (α := S_api_Node) (S_api_Node.mk 0 [] [] []) pre_S_api_Node kids_S_api_Node (((b3.f_Kids)[Int.toNat v7]?.getD (S_api_Node.mk 0 [] [] [])).f_Kids)], .val (.int .i64 (IntKind.wrap .i64 (v1 + 1))), .val (.int .i64 v2)] (.val (.int .i64 r5)))]) (by kernel_rfl) (AllP.cons hc6 (AllP.cons (fun _ => cx (hR_ref08_Left (S_api_Node.mk (((b3.f_Kids)[Int.toNat v7]?.getD (S_api_Node.mk 0 [] [] [])).f_Kind) (((b3.f_Kids)[Int.toNat v7]?.getD (S_api_Node.mk 0 [] [] [])).f_Text) (((b3.f_Kids)[Int.toNat v7]?.getD (S_api_Node.mk 0 [] [] [])).f_Keys) (((b3.f_Kids)[Int.toNat v7]?.getD (S_api_Node.mk 0 [] [] [])).f_Kids)) (IntKind.wrap .i64 (v1 + 1)) v2 _ hr5)) AllP.nil)) ?_
      refine To.thenN ?_
      refine Wp.seq ?_
      refine Wp.region hΓ [] [] [] [1, 2, 3, 7, 103] [3] (K' := [(1, .val (.int .i64 v1)), (2, .val (.int .i64 r5)), (3, .own 3 0), (7, .val (.int .i64 v7)), (103, .val (.bool (decide (r5 < 0))))]) (L' := [(3, 25, [.val (.int .i64 b3.f_Kind), .str b3.f_Text, .recs (α := List UInt8) [] E_string b3.f_Keys, .tree (α := S_api_Node) (S_api_Node.mk 0 [] [] []) pre_S_api_Node kids_S_api_Node b3.f_Kids])]) (ob := []) (by kernel_rfl) AllP.nil ?_
      refine To.thenN ?_
      refine Wp.cond (b := (decide (r5 < 0))) (by kernel_rfl) (fun hb => ?_) (fun hb => ?_)
      · replace h := if_t hb h
        refine Wp.seq ?_
        refine Wp.region hΓ [] [] [] [6] [] (K' := [(6, .val (.int .i64 (-1)))]) (L' := []) (ob := []) (by kernel_rfl) AllP.nil ?_
        refine To.thenN ?_
        refine Wp.ret ?_
        refine To.blockR ?_
        refine To.thenR ?_
        refine To.thenR ?_
        refine To.keep (kk := [6]) (kl := []) (K' := [(6, .val (.int .i64 (-1)))]) (L' := []) (by kernel_rfl) (by kernel_rfl) ?_
        cases h
        exact hQ
      · replace h := if_f hb h
        refine Wp.skip ?_
        refine To.blockN ?_
        refine To.thenN ?_
        refine Wp.region hΓ [] [] [] [1, 2, 3, 7] [3] (K' := [(1, .val (.int .i64 v1)), (2, .val (.int .i64 r5)), (3, .own 3 0), (7, .val (.int .i64 (IntKind.wrap .i64 (v7 + 1))))]) (L' := [(3, 25, [.val (.int .i64 b3.f_Kind), .str b3.f_Text, .recs (α := List UInt8) [] E_string b3.f_Keys, .tree (α := S_api_Node) (S_api_Node.mk 0 [] [] []) pre_S_api_Node kids_S_api_Node b3.f_Kids])]) (ob := []) (by kernel_rfl) AllP.nil ?_
        refine To.keep (kk := [1, 2, 3, 7]) (kl := [3]) (K' := [(1, .val (.int .i64 v1)), (2, .val (.int .i64 r5)), (3, .own 3 0), (7, .val (.int .i64 (IntKind.wrap .i64 (v7 + 1))))]) (L' := [(3, 25, [.val (.int .i64 b3.f_Kind), .str b3.f_Text, .recs (α := List UInt8) [] E_string b3.f_Keys, .tree (α := S_api_Node) (S_api_Node.mk 0 [] [] []) pre_S_api_Node kids_S_api_Node b3.f_Kids])]) (by kernel_rfl) (by kernel_rfl) ?_
        refine To.again ?_
        exact ih r5 (IntKind.wrap .i64 (v7 + 1)) _ h hQ
    · replace h := if_f hb h
      refine Wp.exit ?_
      refine To.thenX ?_
      refine To.thenX ?_
      refine To.keep (kk := [2]) (kl := []) (K' := [(2, .val (.int .i64 v2))]) (L' := []) (by kernel_rfl) (by kernel_rfl) ?_
      cases h
      exact hQ
def ref08_Left_b (R_ref08_Left : S_api_Node → Int → Int → Option (Int)) (n : Nat) (a0 : S_api_Node) (a1 : Int) (a2 : Int) : Option (Int) :=
  lett ((bif (bif (bif (decide ((IntKind.wrap .i64 (a2 - 1)) < 0)) then true else (decide (a1 > 12))) then true else (decide (a0.f_Kind < 0))) then true else (decide (a0.f_Kind > 3))) : Bool) fun x1 =>
  if x1 = true then (some (-1))
  else (lett ((bif (bif (bif (a0.f_Kind != 1) then (decide ((List.length a0.f_Text : Int) > 0)) else false) then true else (bif (a0.f_Kind != 3) then (decide ((List.length a0.f_Keys : Int) > 0)) else false)) then true else (bif (decide (a0.f_Kind < 2)) then (decide ((List.length a0.f_Kids : Int) > 0)) else false)) : Bool) fun x2 =>
  if x2 = true then (some (-1))
  else (((if (((bif ((List.length a0.f_Keys : Int) != (List.length a0.f_Kids : Int)) then true else (decide ((List.length a0.f_Kids : Int) > (IntKind.wrap .i64 (a2 - 1))))) == false) && ((a0.f_Kind == 3) == true)) = true then ref02_Sorted n a0.f_Keys else some [])).bind fun r3 =>
  lett ((bif (a0.f_Kind == 3) then (bif (bif ((List.length a0.f_Keys : Int) != (List.length a0.f_Kids : Int)) then true else (decide ((List.length a0.f_Kids : Int) > (IntKind.wrap .i64 (a2 - 1))))) then true else ((List.length r3 : Int) != (List.length a0.f_Keys : Int))) else false) : Bool) fun x4 =>
  if x4 = true then (some (-1))
  else ((ref08_Left_l1 R_ref08_Left n a1 a0 n (IntKind.wrap .i64 (a2 - 1)) 0).bind fun o5 =>
  (Sum.elim (fun o5 => some o5) (fun o5 => some o5)) o5)))
theorem ok_ref08_Left_b (R_ref08_Left : S_api_Node → Int → Int → Option (Int)) (hR_ref08_Left : ∀ (a0 : S_api_Node) (a1 : Int) (a2 : Int) (r : Int), R_ref08_Left a0 a1 a2 = some r → CallsX Try.prog 29 [.agg [.val (.int .i64 a0.f_Kind), .str a0.f_Text, .recs (α := List UInt8) [] E_string a0.f_Keys, .tree (α := S_api_Node) (S_api_Node.mk 0 [] [] []) pre_S_api_Node kids_S_api_Node a0.f_Kids], .val (.int .i64 a1), .val (.int .i64 a2)] (.val (.int .i64 r))) (n : Nat) (a0 : S_api_Node) (a1 : Int) (a2 : Int) (r : Int) (h : ref08_Left_b R_ref08_Left n a0 a1 a2 = some r) : CallsX Try.prog 29 [.agg [.val (.int .i64 a0.f_Kind), .str a0.f_Text, .recs (α := List UInt8) [] E_string a0.f_Keys, .tree (α := S_api_Node) (S_api_Node.mk 0 [] [] []) pre_S_api_Node kids_S_api_Node a0.f_Kids], .val (.int .i64 a1), .val (.int .i64 a2)] (.val (.int .i64 r)) := by
  unfold ref08_Left_b at h
  refine callsX_of (fn := Try.f29) (by kernel_rfl) rfl (by kernel_rfl) (Nat.le_of_ble_eq_true (by kernel_rfl)) fun F0 w0 _ => ?_
  refine Wp.keep (kk := [0, 1, 2]) (kl := []) (K' := [(0, .agg [.val (.int .i64 a0.f_Kind), .str a0.f_Text, .recs (α := List UInt8) [] E_string a0.f_Keys, .tree (α := S_api_Node) (S_api_Node.mk 0 [] [] []) pre_S_api_Node kids_S_api_Node a0.f_Kids]), (1, .val (.int .i64 a1)), (2, .val (.int .i64 a2))]) (L' := []) (by kernel_rfl) (by kernel_rfl) ?_
  refine Wp.seq ?_
  refine Wp.region hΓ [] [] [] [1, 2, 3] [3] (K' := [(1, .val (.int .i64 a1)), (2, .val (.int .i64 a2)), (3, .own 3 0)]) (L' := [(3, 25, [.val (.int .i64 a0.f_Kind), .str a0.f_Text, .recs (α := List UInt8) [] E_string a0.f_Keys, .tree (α := S_api_Node) (S_api_Node.mk 0 [] [] []) pre_S_api_Node kids_S_api_Node a0.f_Kids])]) (ob := []) (by kernel_rfl) AllP.nil ?_
  refine To.thenN ?_
  refine Wp.seq ?_
  refine Wp.region hΓ [] [] [] [1, 2, 3] [3] (K' := [(1, .val (.int .i64 a1)), (2, .val (.int .i64 (IntKind.wrap .i64 (a2 - 1)))), (3, .own 3 0)]) (L' := [(3, 25, [.val (.int .i64 a0.f_Kind), .str a0.f_Text, .recs (α := List UInt8) [] E_string a0.f_Keys, .tree (α := S_api_Node) (S_api_Node.mk 0 [] [] []) pre_S_api_Node kids_S_api_Node a0.f_Kids])]) (ob := []) (by kernel_rfl) AllP.nil ?_
  refine To.thenN ?_
  refine Wp.seq ?_
  refine Wp.seq ?_
  obtain ⟨x1, hx1, h⟩ := lett_of h
  refine Wp.region hΓ [] [] [] [1, 2, 3, 25] [3] (K' := [(1, .val (.int .i64 a1)), (2, .val (.int .i64 (IntKind.wrap .i64 (a2 - 1)))), (3, .own 3 0), (25, .val (.bool (bif (bif (bif (decide ((IntKind.wrap .i64 (a2 - 1)) < 0)) then true else (decide (a1 > 12))) then true else (decide (a0.f_Kind < 0))) then true else (decide (a0.f_Kind > 3)))))]) (L' := [(3, 25, [.val (.int .i64 a0.f_Kind), .str a0.f_Text, .recs (α := List UInt8) [] E_string a0.f_Keys, .tree (α := S_api_Node) (S_api_Node.mk 0 [] [] []) pre_S_api_Node kids_S_api_Node a0.f_Kids])]) (ob := []) (by kernel_rfl) AllP.nil ?_
  refine To.eq (K' := [(1, .val (.int .i64 a1)), (2, .val (.int .i64 (IntKind.wrap .i64 (a2 - 1)))), (3, .own 3 0), (25, .val (.bool x1))]) (L' := [(3, 25, [.val (.int .i64 a0.f_Kind), .str a0.f_Text, .recs (α := List UInt8) [] E_string a0.f_Keys, .tree (α := S_api_Node) (S_api_Node.mk 0 [] [] []) pre_S_api_Node kids_S_api_Node a0.f_Kids])]) (by cases hx1; rfl) (by cases hx1; rfl) ?_
  refine To.thenN ?_
  refine Wp.cond (b := x1) (by kernel_rfl) (fun hb => ?_) (fun hb => ?_)
  · replace h := if_t hb h
    refine Wp.seq ?_
    refine Wp.region hΓ [] [] [] [6] [] (K' := [(6, .val (.int .i64 (-1)))]) (L' := []) (ob := []) (by kernel_rfl) AllP.nil ?_
    refine To.thenN ?_
    refine Wp.ret ?_
    refine To.thenR ?_
    refine To.keep (kk := [6]) (kl := []) (K' := [(6, .val (.int .i64 (-1)))]) (L' := []) (by kernel_rfl) (by kernel_rfl) ?_
    cases h
    exact To.done hΓ (by kernel_rfl)
  · replace h := if_f hb h
    refine Wp.skip ?_
    refine To.thenN ?_
    refine Wp.seq ?_
    refine Wp.seq ?_
    obtain ⟨x2, hx2, h⟩ := lett_of h
    refine Wp.region hΓ [] [] [] [1, 2, 3, 56] [3] (K' := [(1, .val (.int .i64 a1)), (2, .val (.int .i64 (IntKind.wrap .i64 (a2 - 1)))), (3, .own 3 0), (56, .val (.bool (bif (bif (bif (a0.f_Kind != 1) then (decide ((List.length a0.f_Text : Int) > 0)) else false) then true else (bif (a0.f_Kind != 3) then (decide ((List.length a0.f_Keys : Int) > 0)) else false)) then true else (bif (decide (a0.f_Kind < 2)) then (decide ((List.length a0.f_Kids : Int) > 0)) else false))))]) (L' := [(3, 25, [.val (.int .i64 a0.f_Kind), .str a0.f_Text, .recs (α := List UInt8) [] E_string a0.f_Keys, .tree (α := S_api_Node) (S_api_Node.mk 0 [] [] []) pre_S_api_Node kids_S_api_Node a0.f_Kids])]) (ob := []) (by kernel_rfl) AllP.nil ?_
    refine To.eq (K' := [(1, .val (.int .i64 a1)), (2, .val (.int .i64 (IntKind.wrap .i64 (a2 - 1)))), (3, .own 3 0), (56, .val (.bool x2))]) (L' := [(3, 25, [.val (.int .i64 a0.f_Kind), .str a0.f_Text, .recs (α := List UInt8) [] E_string a0.f_Keys, .tree (α := S_api_Node) (S_api_Node.mk 0 [] [] []) pre_S_api_Node kids_S_api_Node a0.f_Kids])]) (by cases hx2; rfl) (by cases hx2; rfl) ?_
    refine To.thenN ?_
    refine Wp.cond (b := x2) (by kernel_rfl) (fun hb => ?_) (fun hb => ?_)
    · replace h := if_t hb h
      refine Wp.seq ?_
      refine Wp.region hΓ [] [] [] [6] [] (K' := [(6, .val (.int .i64 (-1)))]) (L' := []) (ob := []) (by kernel_rfl) AllP.nil ?_
      refine To.thenN ?_
      refine Wp.ret ?_
      refine To.thenR ?_
      refine To.keep (kk := [6]) (kl := []) (K' := [(6, .val (.int .i64 (-1)))]) (L' := []) (by kernel_rfl) (by kernel_rfl) ?_
      cases h
      exact To.done hΓ (by kernel_rfl)
    · replace h := if_f hb h
      refine Wp.skip ?_
      refine To.thenN ?_
      refine Wp.seq ?_
      refine Wp.seq ?_
      obtain ⟨r3, hr3, h⟩ := bind_of h
      obtain ⟨x4, hx4, h⟩ := lett_of h
      refine Wp.regionD hm hΓ [(21, .recs (α := List UInt8) [] E_string r3)] [1, 2, 3, 85] [3] (K' := [(1, .val (.int .i64 a1)), (2, .val (.int .i64 (IntKind.wrap .i64 (a2 - 1)))), (3, .own 3 0), (85, .val (.bool (bif (a0.f_Kind == 3) then (bif (bif ((List.length a0.f_Keys : Int) != (List.length a0.f_Kids : Int)) then true else (decide ((List.length a0.f_Kids : Int) > (IntKind.wrap .i64 (a2 - 1))))) then true else ((List.length r3 : Int) != (List.length a0.f_Keys : Int))) else false)))]) (L' := [(3, 25, [.val (.int .i64 a0.f_Kind), .str a0.f_Text, .recs (α := List UInt8) [] E_string a0.f_Keys, .tree (α := S_api_Node) (S_api_Node.mk 0 [] [] []) pre_S_api_Node kids_S_api_Node a0.f_Kids])]) (ob := [((((bif ((List.length a0.f_Keys : Int) != (List.length a0.f_Kids : Int)) then true else (decide ((List.length a0.f_Kids : Int) > (IntKind.wrap .i64 (a2 - 1))))) == false) && ((a0.f_Kind == 3) == true)) = true → CX Try.prog 37 [.recs (α := List UInt8) [] E_string a0.f_Keys] (.recs (α := List UInt8) [] E_string r3))]) (by kernel_rfl) (AllP.cons (fun hg => cx (ok_ref02_Sorted n a0.f_Keys _ (if_t hg hr3))) AllP.nil) ?_
      refine To.eq (K' := [(1, .val (.int .i64 a1)), (2, .val (.int .i64 (IntKind.wrap .i64 (a2 - 1)))), (3, .own 3 0), (85, .val (.bool x4))]) (L' := [(3, 25, [.val (.int .i64 a0.f_Kind), .str a0.f_Text, .recs (α := List UInt8) [] E_string a0.f_Keys, .tree (α := S_api_Node) (S_api_Node.mk 0 [] [] []) pre_S_api_Node kids_S_api_Node a0.f_Kids])]) (by cases hx4; rfl) (by cases hx4; rfl) ?_
      refine To.thenN ?_
      refine Wp.cond (b := x4) (by kernel_rfl) (fun hb => ?_) (fun hb => ?_)
      · replace h := if_t hb h
        refine Wp.seq ?_
        refine Wp.region hΓ [] [] [] [6] [] (K' := [(6, .val (.int .i64 (-1)))]) (L' := []) (ob := []) (by kernel_rfl) AllP.nil ?_
        refine To.thenN ?_
        refine Wp.ret ?_
        refine To.thenR ?_
        refine To.keep (kk := [6]) (kl := []) (K' := [(6, .val (.int .i64 (-1)))]) (L' := []) (by kernel_rfl) (by kernel_rfl) ?_
        cases h
        exact To.done hΓ (by kernel_rfl)
      · replace h := if_f hb h
        refine Wp.skip ?_
        refine To.thenN ?_
        refine Wp.seq ?_
        refine Wp.seq ?_
        refine Wp.region hΓ [] [] [] [1, 2, 3, 7] [3] (K' := [(1, .val (.int .i64 a1)), (2, .val (.int .i64 (IntKind.wrap .i64 (a2 - 1)))), (3, .own 3 0), (7, .val (.int .i64 0))]) (L' := [(3, 25, [.val (.int .i64 a0.f_Kind), .str a0.f_Text, .recs (α := List UInt8) [] E_string a0.f_Keys, .tree (α := S_api_Node) (S_api_Node.mk 0 [] [] []) pre_S_api_Node kids_S_api_Node a0.f_Kids])]) (ob := []) (by kernel_rfl) AllP.nil ?_
        refine To.thenN ?_
        refine Wp.block ?_
        obtain ⟨o5, ho5, h⟩ := bind_of h
        refine Wp.keep (kk := [1, 2, 3, 7]) (kl := [3]) (K' := [(1, .val (.int .i64 a1)), (2, .val (.int .i64 (IntKind.wrap .i64 (a2 - 1)))), (3, .own 3 0), (7, .val (.int .i64 0))]) (L' := [(3, 25, [.val (.int .i64 a0.f_Kind), .str a0.f_Text, .recs (α := List UInt8) [] E_string a0.f_Keys, .tree (α := S_api_Node) (S_api_Node.mk 0 [] [] []) pre_S_api_Node kids_S_api_Node a0.f_Kids])]) (by kernel_rfl) (by kernel_rfl) ?_
        refine Wp.loopL ?_
        refine ok_ref08_Left_l1 R_ref08_Left hR_ref08_Left n a1 a0 n (IntKind.wrap .i64 (a2 - 1)) 0 o5 ho5 ?_
        rcases o5 with o5 | o5
        · replace h := sum_l h
          refine To.blockX ?_
          refine To.thenN ?_
          refine Wp.seq ?_
          refine Wp.region hΓ [] [] [] [6] [] (K' := [(6, .val (.int .i64 o5))]) (L' := []) (ob := []) (by kernel_rfl) AllP.nil ?_
          refine To.thenN ?_
          refine Wp.ret ?_
          refine To.keep (kk := [6]) (kl := []) (K' := [(6, .val (.int .i64 o5))]) (L' := []) (by kernel_rfl) (by kernel_rfl) ?_
          cases h
          exact To.done hΓ (by kernel_rfl)
        · replace h := sum_r h
          refine To.blockR ?_
          refine To.thenR ?_
          refine To.keep (kk := [6]) (kl := []) (K' := [(6, .val (.int .i64 o5))]) (L' := []) (by kernel_rfl) (by kernel_rfl) ?_
          cases h
          exact To.done hΓ (by kernel_rfl)
def ref08_Left : Nat → S_api_Node → Int → Int → Option (Int)
  | 0 => fun _ _ _ => none
  | n + 1 => ref08_Left_b (ref08_Left n) n
theorem ok_ref08_Left (n : Nat) : ∀ (a0 : S_api_Node) (a1 : Int) (a2 : Int) (r : Int), ref08_Left n a0 a1 a2 = some r → CallsX Try.prog 29 [.agg [.val (.int .i64 a0.f_Kind), .str a0.f_Text, .recs (α := List UInt8) [] E_string a0.f_Keys, .tree (α := S_api_Node) (S_api_Node.mk 0 [] [] []) pre_S_api_Node kids_S_api_Node a0.f_Kids], .val (.int .i64 a1), .val (.int .i64 a2)] (.val (.int .i64 r)) := by
  induction n with
  | zero => intro a0 a1 a2 r h; cases h
  | succ n ih => exact fun a0 a1 a2 r h => ok_ref08_Left_b (ref08_Left n) ih n a0 a1 a2 r h
def ref08_short_l1 (R_ref08_short : S_api_Node → Option (Bool)) (n : Nat) (b1 : S_api_Node) : Nat → Int → Option (Sum (Unit) (Bool))
  | 0, _ => none
  | k + 1, v3 => if (decide (v3 < (List.length b1.f_Keys : Int))) = true then (if (decide (0 ≤ v3 ∧ v3 < (List.length b1.f_Keys : Int))) = true then (if (decide ((List.length ((b1.f_Keys)[Int.toNat v3]?.getD []) : Int) > 200)) = true then (some (.inr false))
  else (ref08_short_l1 R_ref08_short n b1 k (IntKind.wrap .i64 (v3 + 1)))) else none)
  else (some (.inl ()))
theorem ok_ref08_short_l1 (R_ref08_short : S_api_Node → Option (Bool)) (hR_ref08_short : ∀ (a0 : S_api_Node) (r : Bool), R_ref08_short a0 = some r → CallsX Try.prog 30 [.agg [.val (.int .i64 a0.f_Kind), .str a0.f_Text, .recs (α := List UInt8) [] E_string a0.f_Keys, .tree (α := S_api_Node) (S_api_Node.mk 0 [] [] []) pre_S_api_Node kids_S_api_Node a0.f_Kids]] (.val (.bool r))) (n : Nat) (b1 : S_api_Node) {F0 : Fz} {w0 : Pt Try.prog} {Q : Exit → Act → World → Prop} (k : Nat) : ∀ (v3 : Int) (o : Sum (Unit) (Bool)), ref08_short_l1 R_ref08_short n b1 k v3 = some o → (Sum.elim (fun s => To 37 F0 w0 [(1, .own 1 0)] [(1, 25, [.val (.int .i64 b1.f_Kind), .str b1.f_Text, .recs (α := List UInt8) [] E_string b1.f_Keys, .tree (α := S_api_Node) (S_api_Node.mk 0 [] [] []) pre_S_api_Node kids_S_api_Node b1.f_Kids])] (.exit 0) Q) (fun s => To 37 F0 w0 [(2, .val (.bool s))] [] .ret Q)) o → WL Try.prog 37 F0 w0 [(1, .own 1 0), (3, .val (.int .i64 v3))] [(1, 25, [.val (.int .i64 b1.f_Kind), .str b1.f_Text, .recs (α := List UInt8) [] E_string b1.f_Keys, .tree (α := S_api_Node) (S_api_Node.mk 0 [] [] []) pre_S_api_Node kids_S_api_Node b1.f_Kids])] (cI (cI (cB (cA (cB (cB (cF Try.f30))))))) Q := by
  induction k with
  | zero => intro v3 o h; cases h
  | succ k ih =>
    intro v3 o h hQ
    rw [ref08_short_l1] at h
    refine WL.round ?_
    refine Wp.seq ?_
    refine Wp.seq ?_
    refine Wp.region hΓ [] [] [] [1, 3, 13] [1] (K' := [(1, .own 1 0), (3, .val (.int .i64 v3)), (13, .val (.bool (decide (v3 < (List.length b1.f_Keys : Int)))))]) (L' := [(1, 25, [.val (.int .i64 b1.f_Kind), .str b1.f_Text, .recs (α := List UInt8) [] E_string b1.f_Keys, .tree (α := S_api_Node) (S_api_Node.mk 0 [] [] []) pre_S_api_Node kids_S_api_Node b1.f_Kids])]) (ob := []) (by kernel_rfl) AllP.nil ?_
    refine To.thenN ?_
    refine Wp.cond (b := (decide (v3 < (List.length b1.f_Keys : Int)))) (by kernel_rfl) (fun hb => ?_) (fun hb => ?_)
    · replace h := if_t hb h
      refine Wp.skip ?_
      refine To.thenN ?_
      refine Wp.seq ?_
      refine Wp.block ?_
      refine Wp.seq ?_
      obtain ⟨hc1, h⟩ := chk_of h
      refine Wp.region hΓ [] [] [] [1, 3, 22] [1] (K' := [(1, .own 1 0), (3, .val (.int .i64 v3)), (22, .val (.bool (decide ((List.length ((b1.f_Keys)[Int.toNat v3]?.getD []) : Int) > 200))))]) (L' := [(1, 25, [.val (.int .i64 b1.f_Kind), .str b1.f_Text, .recs (α := List UInt8) [] E_string b1.f_Keys, .tree (α := S_api_Node) (S_api_Node.mk 0 [] [] []) pre_S_api_Node kids_S_api_Node b1.f_Kids])]) (ob := [(decide (0 ≤ v3 ∧ v3 < (List.length b1.f_Keys : Int))) = true]) (by kernel_rfl) (AllP.cons hc1 AllP.nil) ?_
      refine To.thenN ?_
      refine Wp.cond (b := (decide ((List.length ((b1.f_Keys)[Int.toNat v3]?.getD []) : Int) > 200))) (by kernel_rfl) (fun hb => ?_) (fun hb => ?_)
      · replace h := if_t hb h
        refine Wp.seq ?_
        refine Wp.region hΓ [] [] [] [2] [] (K' := [(2, .val (.bool false))]) (L' := []) (ob := []) (by kernel_rfl) AllP.nil ?_
        refine To.thenN ?_
        refine Wp.ret ?_
        refine To.blockR ?_
        refine To.thenR ?_
        refine To.thenR ?_
        refine To.keep (kk := [2]) (kl := []) (K' := [(2, .val (.bool false))]) (L' := []) (by kernel_rfl) (by kernel_rfl) ?_
        cases h
        exact hQ
      · replace h := if_f hb h
        refine Wp.skip ?_
        refine To.blockN ?_
        refine To.thenN ?_
        refine Wp.region hΓ [] [] [] [1, 3] [1] (K' := [(1, .own 1 0), (3, .val (.int .i64 (IntKind.wrap .i64 (v3 + 1))))]) (L' := [(1, 25, [.val (.int .i64 b1.f_Kind), .str b1.f_Text, .recs (α := List UInt8) [] E_string b1.f_Keys, .tree (α := S_api_Node) (S_api_Node.mk 0 [] [] []) pre_S_api_Node kids_S_api_Node b1.f_Kids])]) (ob := []) (by kernel_rfl) AllP.nil ?_
        refine To.keep (kk := [1, 3]) (kl := [1]) (K' := [(1, .own 1 0), (3, .val (.int .i64 (IntKind.wrap .i64 (v3 + 1))))]) (L' := [(1, 25, [.val (.int .i64 b1.f_Kind), .str b1.f_Text, .recs (α := List UInt8) [] E_string b1.f_Keys, .tree (α := S_api_Node) (S_api_Node.mk 0 [] [] []) pre_S_api_Node kids_S_api_Node b1.f_Kids])]) (by kernel_rfl) (by kernel_rfl) ?_
        refine To.again ?_
        exact ih (IntKind.wrap .i64 (v3 + 1)) _ h hQ
    · replace h := if_f hb h
      refine Wp.exit ?_
      refine To.thenX ?_
      refine To.thenX ?_
      refine To.keep (kk := [1]) (kl := [1]) (K' := [(1, .own 1 0)]) (L' := [(1, 25, [.val (.int .i64 b1.f_Kind), .str b1.f_Text, .recs (α := List UInt8) [] E_string b1.f_Keys, .tree (α := S_api_Node) (S_api_Node.mk 0 [] [] []) pre_S_api_Node kids_S_api_Node b1.f_Kids])]) (by kernel_rfl) (by kernel_rfl) ?_
      cases h
      exact hQ
def ref08_short_l2 (R_ref08_short : S_api_Node → Option (Bool)) (n : Nat) (b1 : S_api_Node) : Nat → Int → Option (Sum (Unit) (Bool))
  | 0, _ => none
  | k + 1, v4 => if (decide (v4 < (List.length b1.f_Kids : Int))) = true then (if (decide (0 ≤ v4 ∧ v4 < (List.length b1.f_Kids : Int))) = true then ((R_ref08_short (S_api_Node.mk (((b1.f_Kids)[Int.toNat v4]?.getD (S_api_Node.mk 0 [] [] [])).f_Kind) (((b1.f_Kids)[Int.toNat v4]?.getD (S_api_Node.mk 0 [] [] [])).f_Text) (((b1.f_Kids)[Int.toNat v4]?.getD (S_api_Node.mk 0 [] [] [])).f_Keys) (((b1.f_Kids)[Int.toNat v4]?.getD (S_api_Node.mk 0 [] [] [])).f_Kids))).bind fun r2 =>
  if (!r2) = true then (some (.inr false))
  else (ref08_short_l2 R_ref08_short n b1 k (IntKind.wrap .i64 (v4 + 1)))) else none)
  else (some (.inl ()))
theorem ok_ref08_short_l2 (R_ref08_short : S_api_Node → Option (Bool)) (hR_ref08_short : ∀ (a0 : S_api_Node) (r : Bool), R_ref08_short a0 = some r → CallsX Try.prog 30 [.agg [.val (.int .i64 a0.f_Kind), .str a0.f_Text, .recs (α := List UInt8) [] E_string a0.f_Keys, .tree (α := S_api_Node) (S_api_Node.mk 0 [] [] []) pre_S_api_Node kids_S_api_Node a0.f_Kids]] (.val (.bool r))) (n : Nat) (b1 : S_api_Node) {F0 : Fz} {w0 : Pt Try.prog} {Q : Exit → Act → World → Prop} (k : Nat) : ∀ (v4 : Int) (o : Sum (Unit) (Bool)), ref08_short_l2 R_ref08_short n b1 k v4 = some o → (Sum.elim (fun s => To 37 F0 w0 [] [] (.exit 2) Q) (fun s => To 37 F0 w0 [(2, .val (.bool s))] [] .ret Q)) o → WL Try.prog 37 F0 w0 [(1, .own 1 0), (4, .val (.int .i64 v4))] [(1, 25, [.val (.int .i64 b1.f_Kind), .str b1.f_Text, .recs (α := List UInt8) [] E_string b1.f_Keys, .tree (α := S_api_Node) (S_api_Node.mk 0 [] [] []) pre_S_api_Node kids_S_api_Node b1.f_Kids])] (cI (cI (cB (cA (cB (cB (cB (cF Try.f30)))))))) Q := by
  induction k with
  | zero => intro v4 o h; cases h
  | succ k ih =>
    intro v4 o h hQ
    rw [ref08_short_l2] at h
    refine WL.round ?_
    refine Wp.seq ?_
    refine Wp.seq ?_
    refine Wp.region hΓ [] [] [] [1, 4, 27] [1] (K' := [(1, .own 1 0), (4, .val (.int .i64 v4)), (27, .val (.bool (decide (v4 < (List.length b1.f_Kids : Int)))))]) (L' := [(1, 25, [.val (.int .i64 b1.f_Kind), .str b1.f_Text, .recs (α := List UInt8) [] E_string b1.f_Keys, .tree (α := S_api_Node) (S_api_Node.mk 0 [] [] []) pre_S_api_Node kids_S_api_Node b1.f_Kids])]) (ob := []) (by kernel_rfl) AllP.nil ?_
    refine To.thenN ?_
    refine Wp.cond (b := (decide (v4 < (List.length b1.f_Kids : Int)))) (by kernel_rfl) (fun hb => ?_) (fun hb => ?_)
    · replace h := if_t hb h
      refine Wp.skip ?_
      refine To.thenN ?_
      refine Wp.seq ?_
      refine Wp.block ?_
      refine Wp.seq ?_
      obtain ⟨hc3, h⟩ := chk_of h
      obtain ⟨r2, hr2, h⟩ := bind_of h
      refine Wp.region hΓ [] [(5, .val (.bool r2))] [] [1, 4, 36] [1] (K' := [(1, .own 1 0), (4, .val (.int .i64 v4)), (36, .val (.bool (!r2)))]) (L' := [(1, 25, [.val (.int .i64 b1.f_Kind), .str b1.f_Text, .recs (α := List UInt8) [] E_string b1.f_Keys, .tree (α := S_api_Node) (S_api_Node.mk 0 [] [] []) pre_S_api_Node kids_S_api_Node b1.f_Kids])]) (ob := [(decide (0 ≤ v4 ∧ v4 < (List.length b1.f_Kids : Int))) = true, (true = true → CX Try.prog 30 [.agg [.val (.int .i64 (((b1.f_Kids)[Int.toNat v4]?.getD (S_api_Node.mk 0 [] [] [])).f_Kind)), .str (((b1.f_Kids)[Int.toNat v4]?.getD (S_api_Node.mk 0 [] [] [])).f_Text), .recs (α := List UInt8) [] E_string (((b1.f_Kids)[Int.toNat v4]?.getD (S_api_Node.mk 0 [] [] [])).f_Keys), .tree (α := S_api_Node) (S_api_Node.mk 0 [] [] []) pre_S_api_Node kids_S_api_Node (((b1.f_Kids)[Int.toNat v4]?.getD (S_api_Node.mk 0 [] [] [])).f_Kids)]] (.val (.bool r2)))]) (by kernel_rfl) (AllP.cons hc3 (AllP.cons (fun _ => cx (hR_ref08_short (S_api_Node.mk (((b1.f_Kids)[Int.toNat v4]?.getD (S_api_Node.mk 0 [] [] [])).f_Kind) (((b1.f_Kids)[Int.toNat v4]?.getD (S_api_Node.mk 0 [] [] [])).f_Text) (((b1.f_Kids)[Int.toNat v4]?.getD (S_api_Node.mk 0 [] [] [])).f_Keys) (((b1.f_Kids)[Int.toNat v4]?.getD (S_api_Node.mk 0 [] [] [])).f_Kids)) _ hr2)) AllP.nil)) ?_
      refine To.thenN ?_
      refine Wp.cond (b := (!r2)) (by kernel_rfl) (fun hb => ?_) (fun hb => ?_)
      · replace h := if_t hb h
        refine Wp.seq ?_
        refine Wp.region hΓ [] [] [] [2] [] (K' := [(2, .val (.bool false))]) (L' := []) (ob := []) (by kernel_rfl) AllP.nil ?_
        refine To.thenN ?_
        refine Wp.ret ?_
        refine To.blockR ?_
        refine To.thenR ?_
        refine To.thenR ?_
        refine To.keep (kk := [2]) (kl := []) (K' := [(2, .val (.bool false))]) (L' := []) (by kernel_rfl) (by kernel_rfl) ?_
        cases h
        exact hQ
      · replace h := if_f hb h
        refine Wp.skip ?_
        refine To.blockN ?_
        refine To.thenN ?_
        refine Wp.region hΓ [] [] [] [1, 4] [1] (K' := [(1, .own 1 0), (4, .val (.int .i64 (IntKind.wrap .i64 (v4 + 1))))]) (L' := [(1, 25, [.val (.int .i64 b1.f_Kind), .str b1.f_Text, .recs (α := List UInt8) [] E_string b1.f_Keys, .tree (α := S_api_Node) (S_api_Node.mk 0 [] [] []) pre_S_api_Node kids_S_api_Node b1.f_Kids])]) (ob := []) (by kernel_rfl) AllP.nil ?_
        refine To.keep (kk := [1, 4]) (kl := [1]) (K' := [(1, .own 1 0), (4, .val (.int .i64 (IntKind.wrap .i64 (v4 + 1))))]) (L' := [(1, 25, [.val (.int .i64 b1.f_Kind), .str b1.f_Text, .recs (α := List UInt8) [] E_string b1.f_Keys, .tree (α := S_api_Node) (S_api_Node.mk 0 [] [] []) pre_S_api_Node kids_S_api_Node b1.f_Kids])]) (by kernel_rfl) (by kernel_rfl) ?_
        refine To.again ?_
        exact ih (IntKind.wrap .i64 (v4 + 1)) _ h hQ
    · replace h := if_f hb h
      refine Wp.exit ?_
      refine To.thenX ?_
      refine To.thenX ?_
      refine To.keep (kk := []) (kl := []) (K' := []) (L' := []) (by kernel_rfl) (by kernel_rfl) ?_
      cases h
      exact hQ
def ref08_short_b (R_ref08_short : S_api_Node → Option (Bool)) (n : Nat) (a0 : S_api_Node) : Option (Bool) :=
  if (decide ((List.length a0.f_Text : Int) > 200)) = true then some false
  else ((ref08_short_l1 R_ref08_short n a0 n 0).bind fun o1 =>
  (Sum.elim (fun o1 => (ref08_short_l2 R_ref08_short n a0 n 0).bind fun o2 =>
  (Sum.elim (fun o2 => some true) (fun o2 => some o2)) o2) (fun o1 => some o1)) o1)
theorem ok_ref08_short_b (R_ref08_short : S_api_Node → Option (Bool)) (hR_ref08_short : ∀ (a0 : S_api_Node) (r : Bool), R_ref08_short a0 = some r → CallsX Try.prog 30 [.agg [.val (.int .i64 a0.f_Kind), .str a0.f_Text, .recs (α := List UInt8) [] E_string a0.f_Keys, .tree (α := S_api_Node) (S_api_Node.mk 0 [] [] []) pre_S_api_Node kids_S_api_Node a0.f_Kids]] (.val (.bool r))) (n : Nat) (a0 : S_api_Node) (r : Bool) (h : ref08_short_b R_ref08_short n a0 = some r) : CallsX Try.prog 30 [.agg [.val (.int .i64 a0.f_Kind), .str a0.f_Text, .recs (α := List UInt8) [] E_string a0.f_Keys, .tree (α := S_api_Node) (S_api_Node.mk 0 [] [] []) pre_S_api_Node kids_S_api_Node a0.f_Kids]] (.val (.bool r)) := by
  unfold ref08_short_b at h
  refine callsX_of (fn := Try.f30) (by kernel_rfl) rfl (by kernel_rfl) (Nat.le_of_ble_eq_true (by kernel_rfl)) fun F0 w0 _ => ?_
  refine Wp.keep (kk := [0]) (kl := []) (K' := [(0, .agg [.val (.int .i64 a0.f_Kind), .str a0.f_Text, .recs (α := List UInt8) [] E_string a0.f_Keys, .tree (α := S_api_Node) (S_api_Node.mk 0 [] [] []) pre_S_api_Node kids_S_api_Node a0.f_Kids])]) (L' := []) (by kernel_rfl) (by kernel_rfl) ?_
  refine Wp.seq ?_
  refine Wp.region hΓ [] [] [] [1] [1] (K' := [(1, .own 1 0)]) (L' := [(1, 25, [.val (.int .i64 a0.f_Kind), .str a0.f_Text, .recs (α := List UInt8) [] E_string a0.f_Keys, .tree (α := S_api_Node) (S_api_Node.mk 0 [] [] []) pre_S_api_Node kids_S_api_Node a0.f_Kids])]) (ob := []) (by kernel_rfl) AllP.nil ?_
  refine To.thenN ?_
  refine Wp.seq ?_
  refine Wp.seq ?_
  refine Wp.region hΓ [] [] [] [1, 8] [1] (K' := [(1, .own 1 0), (8, .val (.bool (decide ((List.length a0.f_Text : Int) > 200))))]) (L' := [(1, 25, [.val (.int .i64 a0.f_Kind), .str a0.f_Text, .recs (α := List UInt8) [] E_string a0.f_Keys, .tree (α := S_api_Node) (S_api_Node.mk 0 [] [] []) pre_S_api_Node kids_S_api_Node a0.f_Kids])]) (ob := []) (by kernel_rfl) AllP.nil ?_
  refine To.thenN ?_
  refine Wp.cond (b := (decide ((List.length a0.f_Text : Int) > 200))) (by kernel_rfl) (fun hb => ?_) (fun hb => ?_)
  · replace h := if_t hb h
    refine Wp.seq ?_
    refine Wp.region hΓ [] [] [] [2] [] (K' := [(2, .val (.bool false))]) (L' := []) (ob := []) (by kernel_rfl) AllP.nil ?_
    refine To.thenN ?_
    refine Wp.ret ?_
    refine To.thenR ?_
    refine To.keep (kk := [2]) (kl := []) (K' := [(2, .val (.bool false))]) (L' := []) (by kernel_rfl) (by kernel_rfl) ?_
    cases h
    exact To.done hΓ (by kernel_rfl)
  · replace h := if_f hb h
    refine Wp.skip ?_
    refine To.thenN ?_
    refine Wp.seq ?_
    refine Wp.seq ?_
    refine Wp.region hΓ [] [] [] [1, 3] [1] (K' := [(1, .own 1 0), (3, .val (.int .i64 0))]) (L' := [(1, 25, [.val (.int .i64 a0.f_Kind), .str a0.f_Text, .recs (α := List UInt8) [] E_string a0.f_Keys, .tree (α := S_api_Node) (S_api_Node.mk 0 [] [] []) pre_S_api_Node kids_S_api_Node a0.f_Kids])]) (ob := []) (by kernel_rfl) AllP.nil ?_
    refine To.thenN ?_
    refine Wp.block ?_
    obtain ⟨o1, ho1, h⟩ := bind_of h
    refine Wp.keep (kk := [1, 3]) (kl := [1]) (K' := [(1, .own 1 0), (3, .val (.int .i64 0))]) (L' := [(1, 25, [.val (.int .i64 a0.f_Kind), .str a0.f_Text, .recs (α := List UInt8) [] E_string a0.f_Keys, .tree (α := S_api_Node) (S_api_Node.mk 0 [] [] []) pre_S_api_Node kids_S_api_Node a0.f_Kids])]) (by kernel_rfl) (by kernel_rfl) ?_
    refine Wp.loopL ?_
    refine ok_ref08_short_l1 R_ref08_short hR_ref08_short n a0 n 0 o1 ho1 ?_
    rcases o1 with o1 | o1
    · replace h := sum_l h
      refine To.blockX ?_
      refine To.thenN ?_
      refine Wp.seq ?_
      refine Wp.seq ?_
      refine Wp.region hΓ [] [] [] [1, 4] [1] (K' := [(1, .own 1 0), (4, .val (.int .i64 0))]) (L' := [(1, 25, [.val (.int .i64 a0.f_Kind), .str a0.f_Text, .recs (α := List UInt8) [] E_string a0.f_Keys, .tree (α := S_api_Node) (S_api_Node.mk 0 [] [] []) pre_S_api_Node kids_S_api_Node a0.f_Kids])]) (ob := []) (by kernel_rfl) AllP.nil ?_
      refine To.thenN ?_
      refine Wp.block ?_
      obtain ⟨o2, ho2, h⟩ := bind_of h
      refine Wp.keep (kk := [1, 4]) (kl := [1]) (K' := [(1, .own 1 0), (4, .val (.int .i64 0))]) (L' := [(1, 25, [.val (.int .i64 a0.f_Kind), .str a0.f_Text, .recs (α := List UInt8) [] E_string a0.f_Keys, .tree (α := S_api_Node) (S_api_Node.mk 0 [] [] []) pre_S_api_Node kids_S_api_Node a0.f_Kids])]) (by kernel_rfl) (by kernel_rfl) ?_
      refine Wp.loopL ?_
      refine ok_ref08_short_l2 R_ref08_short hR_ref08_short n a0 n 0 o2 ho2 ?_
      rcases o2 with o2 | o2
      · replace h := sum_l h
        refine To.blockX ?_
        refine To.thenN ?_
        refine Wp.seq ?_
        refine Wp.region hΓ [] [] [] [2] [] (K' := [(2, .val (.bool true))]) (L' := []) (ob := []) (by kernel_rfl) AllP.nil ?_
        refine To.thenN ?_
        refine Wp.ret ?_
        refine To.keep (kk := [2]) (kl := []) (K' := [(2, .val (.bool true))]) (L' := []) (by kernel_rfl) (by kernel_rfl) ?_
        cases h
        exact To.done hΓ (by kernel_rfl)
      · replace h := sum_r h
        refine To.blockR ?_
        refine To.thenR ?_
        refine To.keep (kk := [2]) (kl := []) (K' := [(2, .val (.bool o2))]) (L' := []) (by kernel_rfl) (by kernel_rfl) ?_
        cases h
        exact To.done hΓ (by kernel_rfl)
    · replace h := sum_r h
      refine To.blockR ?_
      refine To.thenR ?_
      refine To.keep (kk := [2]) (kl := []) (K' := [(2, .val (.bool o1))]) (L' := []) (by kernel_rfl) (by kernel_rfl) ?_
      cases h
      exact To.done hΓ (by kernel_rfl)
def ref08_short : Nat → S_api_Node → Option (Bool)
  | 0 => fun _ => none
  | n + 1 => ref08_short_b (ref08_short n) n
theorem ok_ref08_short (n : Nat) : ∀ (a0 : S_api_Node) (r : Bool), ref08_short n a0 = some r → CallsX Try.prog 30 [.agg [.val (.int .i64 a0.f_Kind), .str a0.f_Text, .recs (α := List UInt8) [] E_string a0.f_Keys, .tree (α := S_api_Node) (S_api_Node.mk 0 [] [] []) pre_S_api_Node kids_S_api_Node a0.f_Kids]] (.val (.bool r)) := by
  induction n with
  | zero => intro a0 r h; cases h
  | succ n ih => exact fun a0 r h => ok_ref08_short_b (ref08_short n) ih n a0 r h
def ref08_Small (n : Nat) (a0 : S_api_Node) (a1 : Int) : Option (Bool) :=
  (ref08_Left n a0 1 a1).bind fun r1 =>
  ((if ((decide (r1 ≥ 0)) == true) = true then ref08_short n a0 else some false)).bind fun r2 =>
  some (bif (decide (r1 ≥ 0)) then r2 else false)
theorem ok_ref08_Small (n : Nat) (a0 : S_api_Node) (a1 : Int) (r : Bool) (h : ref08_Small n a0 a1 = some r) : CallsX Try.prog 6 [.agg [.val (.int .i64 a0.f_Kind), .str a0.f_Text, .recs (α := List UInt8) [] E_string a0.f_Keys, .tree (α := S_api_Node) (S_api_Node.mk 0 [] [] []) pre_S_api_Node kids_S_api_Node a0.f_Kids], .val (.int .i64 a1)] (.val (.bool r)) := by
  unfold ref08_Small at h
  refine callsX_of (fn := Try.f6) (by kernel_rfl) rfl (by kernel_rfl) (Nat.le_of_ble_eq_true (by kernel_rfl)) fun F0 w0 _ => ?_
  refine Wp.keep (kk := [0, 1]) (kl := []) (K' := [(0, .agg [.val (.int .i64 a0.f_Kind), .str a0.f_Text, .recs (α := List UInt8) [] E_string a0.f_Keys, .tree (α := S_api_Node) (S_api_Node.mk 0 [] [] []) pre_S_api_Node kids_S_api_Node a0.f_Kids]), (1, .val (.int .i64 a1))]) (L' := []) (by kernel_rfl) (by kernel_rfl) ?_
  refine Wp.seq ?_
  refine Wp.region hΓ [] [] [] [1, 2] [2] (K' := [(1, .val (.int .i64 a1)), (2, .own 2 0)]) (L' := [(2, 25, [.val (.int .i64 a0.f_Kind), .str a0.f_Text, .recs (α := List UInt8) [] E_string a0.f_Keys, .tree (α := S_api_Node) (S_api_Node.mk 0 [] [] []) pre_S_api_Node kids_S_api_Node a0.f_Kids])]) (ob := []) (by kernel_rfl) AllP.nil ?_
  refine To.thenN ?_
  refine Wp.seq ?_
  obtain ⟨r1, hr1, h⟩ := bind_of h
  obtain ⟨r2, hr2, h⟩ := bind_of h
  refine Wp.region hΓ [] [(2, .val (.int .i64 r1)), (6, .val (.bool r2))] [] [4] [] (K' := [(4, .val (.bool (bif (decide (r1 ≥ 0)) then r2 else false)))]) (L' := []) (ob := [(true = true → CX Try.prog 29 [.agg [.val (.int .i64 a0.f_Kind), .str a0.f_Text, .recs (α := List UInt8) [] E_string a0.f_Keys, .tree (α := S_api_Node) (S_api_Node.mk 0 [] [] []) pre_S_api_Node kids_S_api_Node a0.f_Kids], .val (.int .i64 1), .val (.int .i64 a1)] (.val (.int .i64 r1))), (((decide (r1 ≥ 0)) == true) = true → CX Try.prog 30 [.agg [.val (.int .i64 a0.f_Kind), .str a0.f_Text, .recs (α := List UInt8) [] E_string a0.f_Keys, .tree (α := S_api_Node) (S_api_Node.mk 0 [] [] []) pre_S_api_Node kids_S_api_Node a0.f_Kids]] (.val (.bool r2)))]) (by kernel_rfl) (AllP.cons (fun _ => cx (ok_ref08_Left n a0 1 a1 _ hr1)) (AllP.cons (fun hg => cx (ok_ref08_short n a0 _ (if_t hg hr2))) AllP.nil)) ?_
  refine To.thenN ?_
  refine Wp.ret ?_
  refine To.keep (kk := [4]) (kl := []) (K' := [(4, .val (.bool (bif (decide (r1 ≥ 0)) then r2 else false)))]) (L' := []) (by kernel_rfl) (by kernel_rfl) ?_
  cases h
  exact To.done hΓ (by kernel_rfl)
def node_Text (a0 : List UInt8) : S_api_Node :=
  (S_api_Node.mk 1 a0 [] [])
theorem ok_node_Text (a0 : List UInt8) (r : S_api_Node) (h : node_Text a0 = r) : CallsX Try.prog 32 [.str a0] (.agg [.val (.int .i64 r.f_Kind), .str r.f_Text, .recs (α := List UInt8) [] E_string r.f_Keys, .tree (α := S_api_Node) (S_api_Node.mk 0 [] [] []) pre_S_api_Node kids_S_api_Node r.f_Kids]) := by
  unfold node_Text at h
  refine callsX_of (fn := Try.f32) (by kernel_rfl) rfl (by kernel_rfl) (Nat.le_of_ble_eq_true (by kernel_rfl)) fun F0 w0 _ => ?_
  refine Wp.keep (kk := [0]) (kl := []) (K' := [(0, .str a0)]) (L' := []) (by kernel_rfl) (by kernel_rfl) ?_
  refine Wp.seq ?_
  refine Wp.region hΓ [] [] [] [0, 2] [2] (K' := [(0, .str a0), (2, .own 2 0)]) (L' := [(2, 25, [.val (.int .i64 0), .str [], .val (.slice none 0 0), .val (.slice none 0 0)])]) (ob := []) (by kernel_rfl) AllP.nil ?_
  refine To.thenN ?_
  refine Wp.seq ?_
  refine Wp.region hΓ [] [] [] [2] [2] (K' := [(2, .own 2 0)]) (L' := [(2, 25, [.val (.int .i64 1), .str a0, .val (.slice none 0 0), .val (.slice none 0 0)])]) (ob := []) (by kernel_rfl) AllP.nil ?_
  refine To.thenN ?_
  refine Wp.ret ?_
  refine To.keep (kk := [2]) (kl := [2]) (K' := [(2, .own 2 0)]) (L' := [(2, 25, [.val (.int .i64 1), .str a0, .val (.slice none 0 0), .val (.slice none 0 0)])]) (by kernel_rfl) (by kernel_rfl) ?_
  refine To.weak (K' := [(2, .own 2 0)]) (L' := [(2, 25, [.val (.int .i64 1), .str a0, .recs (α := List UInt8) [] E_string [], .tree (α := S_api_Node) (S_api_Node.mk 0 [] [] []) pre_S_api_Node kids_S_api_Node []])]) (.cons (.refl _) .nil) (.cons (.cons (.refl _) (.cons (.refl _) (.cons (.zero _ _) (.cons (.zeroT _ _ _) .nil)))) .nil) ?_
  cases h
  exact To.done hΓ (by kernel_rfl)
def slices_Clone_string_string (n : Nat) (a0 : List (List UInt8)) : Option ((List (List UInt8))) :=
  if (decide ((List.length ([] : List (List UInt8)) + List.length a0) * (16 + 1) ≤ limit)) = true then (some (([] : List (List UInt8)) ++ a0)) else none
theorem ok_slices_Clone_string_string (n : Nat) (a0 : List (List UInt8)) (r : (List (List UInt8))) (h : slices_Clone_string_string n a0 = some r) : CallsX Try.prog 42 [.recs (α := List UInt8) [] E_string a0] (.recs (α := List UInt8) [] E_string r) := by
  unfold slices_Clone_string_string at h
  refine callsX_of (fn := Try.f42) (by kernel_rfl) rfl (by kernel_rfl) (Nat.le_of_ble_eq_true (by kernel_rfl)) fun F0 w0 _ => ?_
  refine Wp.keep (kk := [0]) (kl := []) (K' := [(0, .recs (α := List UInt8) [] E_string a0)]) (L' := []) (by kernel_rfl) (by kernel_rfl) ?_
  refine Wp.seq ?_
  refine Wp.region hΓ [] [] [] [0] [] (K' := [(0, .recs (α := List UInt8) [] E_string a0)]) (L' := []) (ob := []) (by kernel_rfl) AllP.nil ?_
  refine To.thenN ?_
  refine Wp.seq ?_
  refine Wp.seq ?_
  refine Wp.nilR (e := 9) (neg := false) (t0 := 0) (t3 := 3) (t4 := 4) (α := List UInt8) (d := []) (enc := E_string) (l := a0) Try.underlying22 rfl rfl rfl rfl rfl rfl ⟨Nat.le_of_ble_eq_true (by kernel_rfl), Nat.le_of_ble_eq_true (by kernel_rfl), by decide⟩ (by kernel_rfl) (fun hl => ?_) ?_
  · subst hl
    have h : (some []) = some r := by simpa using h
    refine To.thenN ?_
    refine Wp.cond (b := true) (by kernel_rfl) (fun _ => ?_) (fun hb => by cases hb)
    refine Wp.seq ?_
    refine Wp.region hΓ [] [] [] [2] [] (K' := [(2, .val (.slice none 0 0))]) (L' := []) (ob := []) (by kernel_rfl) AllP.nil ?_
    refine To.thenN ?_
    refine Wp.ret ?_
    refine To.thenR ?_
    refine To.keep (kk := [2]) (kl := []) (K' := [(2, .val (.slice none 0 0))]) (L' := []) (by kernel_rfl) (by kernel_rfl) ?_
    refine To.weak (K' := [(2, .recs (α := List UInt8) [] E_string [])]) (L' := []) (.cons (.zero _ _) .nil) .nil ?_
    cases h
    exact To.done hΓ (by kernel_rfl)
  · refine To.thenN ?_
    refine Wp.cond (b := false) (by kernel_rfl) (fun hb => by cases hb) (fun _ => ?_)
    refine Wp.skip ?_
    refine To.thenN ?_
    refine Wp.seq ?_
    obtain ⟨hc1, h⟩ := chk_of h
    refine Wp.region hΓ [] [(0, .recs (α := List UInt8) [] E_string []), (2, .recs (α := List UInt8) [] E_string (([] : List (List UInt8)) ++ a0))] [] [2] [7] (K' := [(2, .row 7)]) (L' := [(7, 9, [.rowc false (α := List UInt8) [] E_string (([] : List (List UInt8)) ++ a0)])]) (ob := [(MkOb 1 [] 0 (.recs (α := List UInt8) [] E_string []) ∧ GoodR (.recs (α := List UInt8) [] E_string [])), (decide ((List.length ([] : List (List UInt8)) + List.length a0) * (16 + 1) ≤ limit)) = true, (AppOb [] E_string ([] : List (List UInt8)) (List.flatMap E_string a0) (List.length a0) (.recs (α := List UInt8) [] E_string (([] : List (List UInt8)) ++ a0)) ∧ GoodR (.recs (α := List UInt8) [] E_string (([] : List (List UInt8)) ++ a0)))]) (by kernel_rfl) (AllP.cons (mkOb (by kernel_rfl) rfl (by kernel_rfl) (good_E_string _)) (AllP.cons hc1 (AllP.cons (appOb rfl rfl (good_E_string _)) AllP.nil))) ?_
    refine To.thenN ?_
    refine Wp.ret ?_
    refine To.keep (kk := [2]) (kl := [7]) (K' := [(2, .row 7)]) (L' := [(7, 9, [.rowc false (α := List UInt8) [] E_string (([] : List (List UInt8)) ++ a0)])]) (by kernel_rfl) (by kernel_rfl) ?_
    refine To.pre (St.settle (ks := [7]) (kk := [2]) (kl := [7]) (K' := [(2, .row 7)]) (L' := [(7, 9, [.rowc true (α := List UInt8) [] E_string (([] : List (List UInt8)) ++ a0)])]) (by kernel_rfl)) ?_
    refine To.pre (St.sealK [2] (K' := [(2, .recs (α := List UInt8) [] E_string (([] : List (List UInt8)) ++ a0))]) (by kernel_rfl)) ?_
    refine To.keep (kk := [2]) (kl := []) (K' := [(2, .recs (α := List UInt8) [] E_string (([] : List (List UInt8)) ++ a0))]) (L' := []) (by kernel_rfl) (by kernel_rfl) ?_
    cases h
    exact To.done hΓ (by kernel_rfl)
theorem good_E_api_Node (l : List (S_api_Node)) : GoodR (.recs (S_api_Node.mk 0 [] [] []) E_api_Node l) := ⟨Nat.le_of_ble_eq_true (by kernel_rfl), fun _ => ⟨rfl, rfl⟩⟩
def slices_Clone_api_Node_api_Node (n : Nat) (a0 : List (S_api_Node)) : Option ((List (S_api_Node))) :=
  if (decide ((List.length ([] : List (S_api_Node)) + List.length a0) * (72 + 1) ≤ limit)) = true then (some (([] : List (S_api_Node)) ++ a0)) else none
theorem ok_slices_Clone_api_Node_api_Node (n : Nat) (a0 : List (S_api_Node)) (r : (List (S_api_Node))) (h : slices_Clone_api_Node_api_Node n a0 = some r) : CallsX Try.prog 43 [.recs (α := S_api_Node) (S_api_Node.mk 0 [] [] []) E_api_Node a0] (.recs (α := S_api_Node) (S_api_Node.mk 0 [] [] []) E_api_Node r) := by
  unfold slices_Clone_api_Node_api_Node at h
  refine callsX_of (fn := Try.f43) (by kernel_rfl) rfl (by kernel_rfl) (Nat.le_of_ble_eq_true (by kernel_rfl)) fun F0 w0 _ => ?_
  refine Wp.keep (kk := [0]) (kl := []) (K' := [(0, .recs (α := S_api_Node) (S_api_Node.mk 0 [] [] []) E_api_Node a0)]) (L' := []) (by kernel_rfl) (by kernel_rfl) ?_
  refine Wp.seq ?_
  refine Wp.region hΓ [] [] [] [0] [] (K' := [(0, .recs (α := S_api_Node) (S_api_Node.mk 0 [] [] []) E_api_Node a0)]) (L' := []) (ob := []) (by kernel_rfl) AllP.nil ?_
  refine To.thenN ?_
  refine Wp.seq ?_
  refine Wp.seq ?_
  refine Wp.nilR (e := 25) (neg := false) (t0 := 0) (t3 := 3) (t4 := 4) (α := S_api_Node) (d := (S_api_Node.mk 0 [] [] [])) (enc := E_api_Node) (l := a0) Try.underlying23 rfl rfl rfl rfl rfl rfl ⟨Nat.le_of_ble_eq_true (by kernel_rfl), Nat.le_of_ble_eq_true (by kernel_rfl), by decide⟩ (by kernel_rfl) (fun hl => ?_) ?_
  · subst hl
    have h : (some []) = some r := by simpa using h
    refine To.thenN ?_
    refine Wp.cond (b := true) (by kernel_rfl) (fun _ => ?_) (fun hb => by cases hb)
    refine Wp.seq ?_
    refine Wp.region hΓ [] [] [] [2] [] (K' := [(2, .val (.slice none 0 0))]) (L' := []) (ob := []) (by kernel_rfl) AllP.nil ?_
    refine To.thenN ?_
    refine Wp.ret ?_
    refine To.thenR ?_
    refine To.keep (kk := [2]) (kl := []) (K' := [(2, .val (.slice none 0 0))]) (L' := []) (by kernel_rfl) (by kernel_rfl) ?_
    refine To.weak (K' := [(2, .recs (α := S_api_Node) (S_api_Node.mk 0 [] [] []) E_api_Node [])]) (L' := []) (.cons (.zero _ _) .nil) .nil ?_
    cases h
    exact To.done hΓ (by kernel_rfl)
  · refine To.thenN ?_
    refine Wp.cond (b := false) (by kernel_rfl) (fun hb => by cases hb) (fun _ => ?_)
    refine Wp.skip ?_
    refine To.thenN ?_
    refine Wp.seq ?_
    obtain ⟨hc1, h⟩ := chk_of h
    refine Wp.region hΓ [] [(0, .recs (α := S_api_Node) (S_api_Node.mk 0 [] [] []) E_api_Node []), (2, .recs (α := S_api_Node) (S_api_Node.mk 0 [] [] []) E_api_Node (([] : List (S_api_Node)) ++ a0))] [] [2] [7] (K' := [(2, .row 7)]) (L' := [(7, 25, [.rowc false (α := S_api_Node) (S_api_Node.mk 0 [] [] []) E_api_Node (([] : List (S_api_Node)) ++ a0)])]) (ob := [(MkOb 4 [] 0 (.recs (α := S_api_Node) (S_api_Node.mk 0 [] [] []) E_api_Node []) ∧ GoodR (.recs (α := S_api_Node) (S_api_Node.mk 0 [] [] []) E_api_Node [])), (decide ((List.length ([] : List (S_api_Node)) + List.length a0) * (72 + 1) ≤ limit)) = true, (AppOb (S_api_Node.mk 0 [] [] []) E_api_Node ([] : List (S_api_Node)) (List.flatMap E_api_Node a0) (List.length a0) (.recs (α := S_api_Node) (S_api_Node.mk 0 [] [] []) E_api_Node (([] : List (S_api_Node)) ++ a0)) ∧ GoodR (.recs (α := S_api_Node) (S_api_Node.mk 0 [] [] []) E_api_Node (([] : List (S_api_Node)) ++ a0)))]) (by kernel_rfl) (AllP.cons (mkOb (by kernel_rfl) rfl (by kernel_rfl) (good_E_api_Node _)) (AllP.cons hc1 (AllP.cons (appOb rfl rfl (good_E_api_Node _)) AllP.nil))) ?_
    refine To.thenN ?_
    refine Wp.ret ?_
    refine To.keep (kk := [2]) (kl := [7]) (K' := [(2, .row 7)]) (L' := [(7, 25, [.rowc false (α := S_api_Node) (S_api_Node.mk 0 [] [] []) E_api_Node (([] : List (S_api_Node)) ++ a0)])]) (by kernel_rfl) (by kernel_rfl) ?_
    refine To.pre (St.settle (ks := [7]) (kk := [2]) (kl := [7]) (K' := [(2, .row 7)]) (L' := [(7, 25, [.rowc true (α := S_api_Node) (S_api_Node.mk 0 [] [] []) E_api_Node (([] : List (S_api_Node)) ++ a0)])]) (by kernel_rfl)) ?_
    refine To.pre (St.sealK [2] (K' := [(2, .recs (α := S_api_Node) (S_api_Node.mk 0 [] [] []) E_api_Node (([] : List (S_api_Node)) ++ a0))]) (by kernel_rfl)) ?_
    refine To.keep (kk := [2]) (kl := []) (K' := [(2, .recs (α := S_api_Node) (S_api_Node.mk 0 [] [] []) E_api_Node (([] : List (S_api_Node)) ++ a0))]) (L' := []) (by kernel_rfl) (by kernel_rfl) ?_
    cases h
    exact To.done hΓ (by kernel_rfl)
structure S_node_budget where
  f_left : Int
def name_Sorted (n : Nat) (a0 : List (List UInt8)) : Option ((List (List UInt8))) :=
  if (decide ((List.length ([] : List (List UInt8)) + List.length a0) * (16 + 1) ≤ limit)) = true then (if (decide (List.length (([] : List (List UInt8)) ++ a0) * 17 ≤ limit)) = true then (if (decide (List.length (Sh.sort (([] : List (List UInt8)) ++ a0)) * 17 ≤ limit)) = true then (some (Lib.compact (Sh.sort (([] : List (List UInt8)) ++ a0)))) else none) else none) else none
theorem ok_name_Sorted (n : Nat) (a0 : List (List UInt8)) (r : (List (List UInt8))) (h : name_Sorted n a0 = some r) : CallsX Try.prog 35 [.recs (α := List UInt8) [] E_string a0] (.recs (α := List UInt8) [] E_string r) := by
  unfold name_Sorted at h
  refine callsX_of (fn := Try.f35) (by kernel_rfl) rfl (by kernel_rfl) (Nat.le_of_ble_eq_true (by kernel_rfl)) fun F0 w0 _ => ?_
  refine Wp.keep (kk := [0]) (kl := []) (K' := [(0, .recs (α := List UInt8) [] E_string a0)]) (L' := []) (by kernel_rfl) (by kernel_rfl) ?_
  refine Wp.seq ?_
  refine Wp.region hΓ [] [] [] [0] [] (K' := [(0, .recs (α := List UInt8) [] E_string a0)]) (L' := []) (ob := []) (by kernel_rfl) AllP.nil ?_
  refine To.thenN ?_
  refine Wp.seq ?_
  obtain ⟨hc3, h⟩ := chk_of h
  refine Wp.region hΓ [] [(0, .recs (α := List UInt8) [] E_string []), (2, .recs (α := List UInt8) [] E_string (([] : List (List UInt8)) ++ a0))] [] [3] [6] (K' := [(3, .row 6)]) (L' := [(6, 9, [.rowc false (α := List UInt8) [] E_string (([] : List (List UInt8)) ++ a0)])]) (ob := [(MkOb 1 [] 0 (.recs (α := List UInt8) [] E_string []) ∧ GoodR (.recs (α := List UInt8) [] E_string [])), (decide ((List.length ([] : List (List UInt8)) + List.length a0) * (16 + 1) ≤ limit)) = true, (AppOb [] E_string ([] : List (List UInt8)) (List.flatMap E_string a0) (List.length a0) (.recs (α := List UInt8) [] E_string (([] : List (List UInt8)) ++ a0)) ∧ GoodR (.recs (α := List UInt8) [] E_string (([] : List (List UInt8)) ++ a0)))]) (by kernel_rfl) (AllP.cons (mkOb (by kernel_rfl) rfl (by kernel_rfl) (good_E_string _)) (AllP.cons hc3 (AllP.cons (appOb rfl rfl (good_E_string _)) AllP.nil))) ?_
  refine To.thenN ?_
  refine Wp.seq ?_
  obtain ⟨u1, h⟩ := chk_of h
  refine Wp.region hΓ [] [] [(1, ⟨[(1000000, 6)], [(1000000, 6)], [.row 1000000], [(1000000, 9, [.rowc false (α := List UInt8) [] E_string (([] : List (List UInt8)) ++ a0)])], .tup [], [(1000000, 9, [.rowc false (α := List UInt8) [] E_string (Sh.sort (([] : List (List UInt8)) ++ a0))])]⟩)] [3] [6] (K' := [(3, .row 6)]) (L' := [(6, 9, [.rowc false (α := List UInt8) [] E_string (Sh.sort (([] : List (List UInt8)) ++ a0))])]) (ob := [CbOb (CallsB Try.prog) 47 [.row 6] [some (9, [.rowc false (α := List UInt8) [] E_string (([] : List (List UInt8)) ++ a0)])] ⟨[(1000000, 6)], [(1000000, 6)], [.row 1000000], [(1000000, 9, [.rowc false (α := List UInt8) [] E_string (([] : List (List UInt8)) ++ a0)])], .tup [], [(1000000, 9, [.rowc false (α := List UInt8) [] E_string (Sh.sort (([] : List (List UInt8)) ++ a0))])]⟩]) (by kernel_rfl) (AllP.cons (⟨Sh.sort47 u1, by kernel_rfl, by kernel_rfl⟩) AllP.nil) ?_
  refine To.thenN ?_
  refine Wp.seq ?_
  obtain ⟨u2, h⟩ := chk_of h
  refine Wp.region hΓ [] [] [(1, ⟨[(1000000, 6)], [], [.row 1000000], [(1000000, 9, [.rowc false (α := List UInt8) [] E_string (Sh.sort (([] : List (List UInt8)) ++ a0))])], .recs (α := List UInt8) [] E_string (Lib.compact (Sh.sort (([] : List (List UInt8)) ++ a0))), []⟩)] [2] [] (K' := [(2, .recs (α := List UInt8) [] E_string (Lib.compact (Sh.sort (([] : List (List UInt8)) ++ a0))))]) (L' := []) (ob := [CbOb (CallsB Try.prog) 48 [.row 6] [some (9, [.rowc false (α := List UInt8) [] E_string (Sh.sort (([] : List (List UInt8)) ++ a0))])] ⟨[(1000000, 6)], [], [.row 1000000], [(1000000, 9, [.rowc false (α := List UInt8) [] E_string (Sh.sort (([] : List (List UInt8)) ++ a0))])], .recs (α := List UInt8) [] E_string (Lib.compact (Sh.sort (([] : List (List UInt8)) ++ a0))), []⟩]) (by kernel_rfl) (AllP.cons (⟨Sh.compact48 u2, by kernel_rfl, by kernel_rfl⟩) AllP.nil) ?_
  refine To.thenN ?_
  refine Wp.ret ?_
  refine To.keep (kk := [2]) (kl := []) (K' := [(2, .recs (α := List UInt8) [] E_string (Lib.compact (Sh.sort (([] : List (List UInt8)) ++ a0))))]) (L' := []) (by kernel_rfl) (by kernel_rfl) ?_
  cases h
  exact To.done hΓ (by kernel_rfl)
def node_budget_right__o0_j1 (R_node_budget_right__o0 : S_api_Node → Int → S_node_budget → Option (Bool × S_node_budget)) (n : Nat) (v2 : Int) (v26 : Int) (b4 : S_api_Node) (b1000000 : S_node_budget) : Option (Sum (Unit) (Bool)) :=
  if (v26 == 0) = true then (lett ((bif (b4.f_Text == []) then ((IntKind.wrap .i64 ((List.length b4.f_Keys : Int) + (List.length b4.f_Kids : Int))) == 0) else false) : Bool) fun x1 =>
  some (.inr x1))
  else (if (v26 == 1) = true then (some (.inr ((IntKind.wrap .i64 ((List.length b4.f_Keys : Int) + (List.length b4.f_Kids : Int))) == 0)))
  else (if (v26 == 2) = true then (if (bif (!(b4.f_Text == [])) then true else (decide ((List.length b4.f_Keys : Int) > 0))) = true then (some (.inr false))
  else (some (.inl ())))
  else (if (v26 == 3) = true then (((if ((bif (bif (!(b4.f_Text == [])) then true else ((List.length b4.f_Keys : Int) != (List.length b4.f_Kids : Int))) then true else (decide ((List.length b4.f_Keys : Int) > b1000000.f_left))) == false) = true then name_Sorted n b4.f_Keys else some [])).bind fun r2 =>
  lett ((bif (bif (bif (!(b4.f_Text == [])) then true else ((List.length b4.f_Keys : Int) != (List.length b4.f_Kids : Int))) then true else (decide ((List.length b4.f_Keys : Int) > b1000000.f_left))) then true else ((List.length r2 : Int) != (List.length b4.f_Keys : Int))) : Bool) fun x3 =>
  if x3 = true then (some (.inr false))
  else (some (.inl ())))
  else (some (.inr false)))))
theorem ok_node_budget_right__o0_j1 (R_node_budget_right__o0 : S_api_Node → Int → S_node_budget → Option (Bool × S_node_budget)) (hR_node_budget_right__o0 : ∀ (a1 : S_api_Node) (a2 : Int) (h0 : S_node_budget) (r : Bool × S_node_budget), R_node_budget_right__o0 a1 a2 h0 = some r → CallsB Try.prog 46 [.own 1000000 0, .agg [.val (.int .i64 a1.f_Kind), .str a1.f_Text, .recs (α := List UInt8) [] E_string a1.f_Keys, .tree (α := S_api_Node) (S_api_Node.mk 0 [] [] []) pre_S_api_Node kids_S_api_Node a1.f_Kids], .val (.int .i64 a2)] [(1000000, 61, [.val (.int .i64 h0.f_left)])] (.val (.bool r.1)) [(1000000, 61, [.val (.int .i64 r.2.f_left)])]) (n : Nat) (v2 : Int) (v26 : Int) (b4 : S_api_Node) (b1000000 : S_node_budget) (o : Sum (Unit) (Bool)) (h : node_budget_right__o0_j1 R_node_budget_right__o0 n v2 v26 b4 b1000000 = some o) {F0 : Fz} {w0 : Pt Try.prog} {Q : Exit → Act → World → Prop} (hQ : (Sum.elim (fun s => To 111 F0 w0 [(0, .own 1000000 0), (2, .val (.int .i64 v2)), (4, .own 4 0)] [(4, 25, [.val (.int .i64 b4.f_Kind), .str b4.f_Text, .recs (α := List UInt8) [] E_string b4.f_Keys, .tree (α := S_api_Node) (S_api_Node.mk 0 [] [] []) pre_S_api_Node kids_S_api_Node b4.f_Kids]), (1000000, 61, [.val (.int .i64 b1000000.f_left)])] .normal Q) (fun s => To 111 F0 w0 [(6, .val (.bool s))] [(1000000, 61, [.val (.int .i64 b1000000.f_left)])] .ret Q)) o) : Wp Try.prog 111 F0 w0 [(0, .own 1000000 0), (2, .val (.int .i64 v2)), (4, .own 4 0), (26, .val (.int .i64 v26))] [(4, 25, [.val (.int .i64 b4.f_Kind), .str b4.f_Text, .recs (α := List UInt8) [] E_string b4.f_Keys, .tree (α := S_api_Node) (S_api_Node.mk 0 [] [] []) pre_S_api_Node kids_S_api_Node b4.f_Kids]), (1000000, 61, [.val (.int .i64 b1000000.f_left)])] (cB (cA (cB (cB (cF Try.f46))))) Q := by
  unfold node_budget_right__o0_j1 at h
  refine Wp.block ?_
  refine Wp.seq ?_
  refine Wp.region hΓ [] [] [] [0, 2, 4, 26, 27] [4, 1000000] (K' := [(0, .own 1000000 0), (2, .val (.int .i64 v2)), (4, .own 4 0), (26, .val (.int .i64 v26)), (27, .val (.bool (v26 == 0)))]) (L' := [(4, 25, [.val (.int .i64 b4.f_Kind), .str b4.f_Text, .recs (α := List UInt8) [] E_string b4.f_Keys, .tree (α := S_api_Node) (S_api_Node.mk 0 [] [] []) pre_S_api_Node kids_S_api_Node b4.f_Kids]), (1000000, 61, [.val (.int .i64 b1000000.f_left)])]) (ob := []) (by kernel_rfl) AllP.nil ?_
  refine To.thenN ?_
  refine Wp.cond (b := (v26 == 0)) (by kernel_rfl) (fun hb => ?_) (fun hb => ?_)
  · replace h := if_t hb h
    refine Wp.seq ?_
    obtain ⟨x1, hx1, h⟩ := lett_of h
    refine Wp.region hΓ [] [] [] [6] [1000000] (K' := [(6, .val (.bool (bif (b4.f_Text == []) then ((IntKind.wrap .i64 ((List.length b4.f_Keys : Int) + (List.length b4.f_Kids : Int))) == 0) else false)))]) (L' := [(1000000, 61, [.val (.int .i64 b1000000.f_left)])]) (ob := []) (by kernel_rfl) AllP.nil ?_
    refine To.eq (K' := [(6, .val (.bool x1))]) (L' := [(1000000, 61, [.val (.int .i64 b1000000.f_left)])]) (by cases hx1; rfl) (by cases hx1; rfl) ?_
    refine To.thenN ?_
    refine Wp.ret ?_
    refine To.blockR ?_
    refine To.keep (kk := [6]) (kl := [1000000]) (K' := [(6, .val (.bool x1))]) (L' := [(1000000, 61, [.val (.int .i64 b1000000.f_left)])]) (by kernel_rfl) (by kernel_rfl) ?_
    cases h
    exact hQ
  · replace h := if_f hb h
    refine Wp.seq ?_
    refine Wp.region hΓ [] [] [] [0, 2, 4, 26, 42] [4, 1000000] (K' := [(0, .own 1000000 0), (2, .val (.int .i64 v2)), (4, .own 4 0), (26, .val (.int .i64 v26)), (42, .val (.bool (v26 == 1)))]) (L' := [(4, 25, [.val (.int .i64 b4.f_Kind), .str b4.f_Text, .recs (α := List UInt8) [] E_string b4.f_Keys, .tree (α := S_api_Node) (S_api_Node.mk 0 [] [] []) pre_S_api_Node kids_S_api_Node b4.f_Kids]), (1000000, 61, [.val (.int .i64 b1000000.f_left)])]) (ob := []) (by kernel_rfl) AllP.nil ?_
    refine To.thenN ?_
    refine Wp.cond (b := (v26 == 1)) (by kernel_rfl) (fun hb => ?_) (fun hb => ?_)
    · replace h := if_t hb h
      refine Wp.seq ?_
      refine Wp.region hΓ [] [] [] [6] [1000000] (K' := [(6, .val (.bool ((IntKind.wrap .i64 ((List.length b4.f_Keys : Int) + (List.length b4.f_Kids : Int))) == 0)))]) (L' := [(1000000, 61, [.val (.int .i64 b1000000.f_left)])]) (ob := []) (by kernel_rfl) AllP.nil ?_
      refine To.thenN ?_
      refine Wp.ret ?_
      refine To.blockR ?_
      refine To.keep (kk := [6]) (kl := [1000000]) (K' := [(6, .val (.bool ((IntKind.wrap .i64 ((List.length b4.f_Keys : Int) + (List.length b4.f_Kids : Int))) == 0)))]) (L' := [(1000000, 61, [.val (.int .i64 b1000000.f_left)])]) (by kernel_rfl) (by kernel_rfl) ?_
      cases h
      exact hQ
    · replace h := if_f hb h
      refine Wp.seq ?_
      refine Wp.region hΓ [] [] [] [0, 2, 4, 26, 52] [4, 1000000] (K' := [(0, .own 1000000 0), (2, .val (.int .i64 v2)), (4, .own 4 0), (26, .val (.int .i64 v26)), (52, .val (.bool (v26 == 2)))]) (L' := [(4, 25, [.val (.int .i64 b4.f_Kind), .str b4.f_Text, .recs (α := List UInt8) [] E_string b4.f_Keys, .tree (α := S_api_Node) (S_api_Node.mk 0 [] [] []) pre_S_api_Node kids_S_api_Node b4.f_Kids]), (1000000, 61, [.val (.int .i64 b1000000.f_left)])]) (ob := []) (by kernel_rfl) AllP.nil ?_
      refine To.thenN ?_
      refine Wp.cond (b := (v26 == 2)) (by kernel_rfl) (fun hb => ?_) (fun hb => ?_)
      · replace h := if_t hb h
        refine Wp.seq ?_
        refine Wp.region hΓ [] [] [] [0, 2, 4, 62] [4, 1000000] (K' := [(0, .own 1000000 0), (2, .val (.int .i64 v2)), (4, .own 4 0), (62, .val (.bool (bif (!(b4.f_Text == [])) then true else (decide ((List.length b4.f_Keys : Int) > 0)))))]) (L' := [(4, 25, [.val (.int .i64 b4.f_Kind), .str b4.f_Text, .recs (α := List UInt8) [] E_string b4.f_Keys, .tree (α := S_api_Node) (S_api_Node.mk 0 [] [] []) pre_S_api_Node kids_S_api_Node b4.f_Kids]), (1000000, 61, [.val (.int .i64 b1000000.f_left)])]) (ob := []) (by kernel_rfl) AllP.nil ?_
        refine To.thenN ?_
        refine Wp.cond (b := (bif (!(b4.f_Text == [])) then true else (decide ((List.length b4.f_Keys : Int) > 0)))) (by kernel_rfl) (fun hb => ?_) (fun hb => ?_)
        · replace h := if_t hb h
          refine Wp.seq ?_
          refine Wp.region hΓ [] [] [] [6] [1000000] (K' := [(6, .val (.bool false))]) (L' := [(1000000, 61, [.val (.int .i64 b1000000.f_left)])]) (ob := []) (by kernel_rfl) AllP.nil ?_
          refine To.thenN ?_
          refine Wp.ret ?_
          refine To.blockR ?_
          refine To.keep (kk := [6]) (kl := [1000000]) (K' := [(6, .val (.bool false))]) (L' := [(1000000, 61, [.val (.int .i64 b1000000.f_left)])]) (by kernel_rfl) (by kernel_rfl) ?_
          cases h
          exact hQ
        · replace h := if_f hb h
          refine Wp.skip ?_
          refine To.blockN ?_
          refine To.keep (kk := [0, 2, 4]) (kl := [4, 1000000]) (K' := [(0, .own 1000000 0), (2, .val (.int .i64 v2)), (4, .own 4 0)]) (L' := [(4, 25, [.val (.int .i64 b4.f_Kind), .str b4.f_Text, .recs (α := List UInt8) [] E_string b4.f_Keys, .tree (α := S_api_Node) (S_api_Node.mk 0 [] [] []) pre_S_api_Node kids_S_api_Node b4.f_Kids]), (1000000, 61, [.val (.int .i64 b1000000.f_left)])]) (by kernel_rfl) (by kernel_rfl) ?_
          cases h
          exact hQ
      · replace h := if_f hb h
        refine Wp.seq ?_
        refine Wp.region hΓ [] [] [] [0, 2, 4, 63] [4, 1000000] (K' := [(0, .own 1000000 0), (2, .val (.int .i64 v2)), (4, .own 4 0), (63, .val (.bool (v26 == 3)))]) (L' := [(4, 25, [.val (.int .i64 b4.f_Kind), .str b4.f_Text, .recs (α := List UInt8) [] E_string b4.f_Keys, .tree (α := S_api_Node) (S_api_Node.mk 0 [] [] []) pre_S_api_Node kids_S_api_Node b4.f_Kids]), (1000000, 61, [.val (.int .i64 b1000000.f_left)])]) (ob := []) (by kernel_rfl) AllP.nil ?_
        refine To.thenN ?_
        refine Wp.cond (b := (v26 == 3)) (by kernel_rfl) (fun hb => ?_) (fun hb => ?_)
        · replace h := if_t hb h
          refine Wp.seq ?_
          obtain ⟨r2, hr2, h⟩ := bind_of h
          obtain ⟨x3, hx3, h⟩ := lett_of h
          refine Wp.regionD hm hΓ [(25, .recs (α := List UInt8) [] E_string r2)] [0, 2, 4, 96] [4, 1000000] (K' := [(0, .own 1000000 0), (2, .val (.int .i64 v2)), (4, .own 4 0), (96, .val (.bool (bif (bif (bif (!(b4.f_Text == [])) then true else ((List.length b4.f_Keys : Int) != (List.length b4.f_Kids : Int))) then true else (decide ((List.length b4.f_Keys : Int) > b1000000.f_left))) then true else ((List.length r2 : Int) != (List.length b4.f_Keys : Int)))))]) (L' := [(4, 25, [.val (.int .i64 b4.f_Kind), .str b4.f_Text, .recs (α := List UInt8) [] E_string b4.f_Keys, .tree (α := S_api_Node) (S_api_Node.mk 0 [] [] []) pre_S_api_Node kids_S_api_Node b4.f_Kids]), (1000000, 61, [.val (.int .i64 b1000000.f_left)])]) (ob := [(((bif (bif (!(b4.f_Text == [])) then true else ((List.length b4.f_Keys : Int) != (List.length b4.f_Kids : Int))) then true else (decide ((List.length b4.f_Keys : Int) > b1000000.f_left))) == false) = true → CX Try.prog 35 [.recs (α := List UInt8) [] E_string b4.f_Keys] (.recs (α := List UInt8) [] E_string r2))]) (by kernel_rfl) (AllP.cons (fun hg => cx (ok_name_Sorted n b4.f_Keys _ (if_t hg hr2))) AllP.nil) ?_
          refine To.eq (K' := [(0, .own 1000000 0), (2, .val (.int .i64 v2)), (4, .own 4 0), (96, .val (.bool x3))]) (L' := [(4, 25, [.val (.int .i64 b4.f_Kind), .str b4.f_Text, .recs (α := List UInt8) [] E_string b4.f_Keys, .tree (α := S_api_Node) (S_api_Node.mk 0 [] [] []) pre_S_api_Node kids_S_api_Node b4.f_Kids]), (1000000, 61, [.val (.int .i64 b1000000.f_left)])]) (by cases hx3; rfl) (by cases hx3; rfl) ?_
          refine To.thenN ?_
          refine Wp.cond (b := x3) (by kernel_rfl) (fun hb => ?_) (fun hb => ?_)
          · replace h := if_t hb h
            refine Wp.seq ?_
            refine Wp.region hΓ [] [] [] [6] [1000000] (K' := [(6, .val (.bool false))]) (L' := [(1000000, 61, [.val (.int .i64 b1000000.f_left)])]) (ob := []) (by kernel_rfl) AllP.nil ?_
            refine To.thenN ?_
            refine Wp.ret ?_
            refine To.blockR ?_
            refine To.keep (kk := [6]) (kl := [1000000]) (K' := [(6, .val (.bool false))]) (L' := [(1000000, 61, [.val (.int .i64 b1000000.f_left)])]) (by kernel_rfl) (by kernel_rfl) ?_
            cases h
            exact hQ
          · replace h := if_f hb h
            refine Wp.skip ?_
            refine To.blockN ?_
            refine To.keep (kk := [0, 2, 4]) (kl := [4, 1000000]) (K' := [(0, .own 1000000 0), (2, .val (.int .i64 v2)), (4, .own 4 0)]) (L' := [(4, 25, [.val (.int .i64 b4.f_Kind), .str b4.f_Text, .recs (α := List UInt8) [] E_string b4.f_Keys, .tree (α := S_api_Node) (S_api_Node.mk 0 [] [] []) pre_S_api_Node kids_S_api_Node b4.f_Kids]), (1000000, 61, [.val (.int .i64 b1000000.f_left)])]) (by kernel_rfl) (by kernel_rfl) ?_
            cases h
            exact hQ
        · replace h := if_f hb h
          refine Wp.seq ?_
          refine Wp.region hΓ [] [] [] [6] [1000000] (K' := [(6, .val (.bool false))]) (L' := [(1000000, 61, [.val (.int .i64 b1000000.f_left)])]) (ob := []) (by kernel_rfl) AllP.nil ?_
          refine To.thenN ?_
          refine Wp.ret ?_
          refine To.blockR ?_
          refine To.keep (kk := [6]) (kl := [1000000]) (K' := [(6, .val (.bool false))]) (L' := [(1000000, 61, [.val (.int .i64 b1000000.f_left)])]) (by kernel_rfl) (by kernel_rfl) ?_
          cases h
          exact hQ
def node_budget_right__o0_l2 (R_node_budget_right__o0 : S_api_Node → Int → S_node_budget → Option (Bool × S_node_budget)) (n : Nat) (v2 : Int) (v98 : List (S_api_Node)) (v99 : Int) : Nat → Int → S_node_budget → Option (Sum (S_node_budget) (Bool × S_node_budget))
  | 0, _, _ => none
  | k + 1, v100, b1000000 => if (decide (v100 < v99)) = true then (if (decide (0 ≤ v100 ∧ v100 < (List.length v98 : Int))) = true then ((R_node_budget_right__o0 (S_api_Node.mk (((v98)[Int.toNat v100]?.getD (S_api_Node.mk 0 [] [] [])).f_Kind) (((v98)[Int.toNat v100]?.getD (S_api_Node.mk 0 [] [] [])).f_Text) (((v98)[Int.toNat v100]?.getD (S_api_Node.mk 0 [] [] [])).f_Keys) (((v98)[Int.toNat v100]?.getD (S_api_Node.mk 0 [] [] [])).f_Kids)) (IntKind.wrap .i64 (v2 + 1)) b1000000).bind fun r2 =>
  if (!r2.1) = true then (some (.inr (false, r2.2)))
  else (node_budget_right__o0_l2 R_node_budget_right__o0 n v2 v98 v99 k (IntKind.wrap .i64 (v100 + 1)) r2.2)) else none)
  else (some (.inl b1000000))
theorem ok_node_budget_right__o0_l2 (R_node_budget_right__o0 : S_api_Node → Int → S_node_budget → Option (Bool × S_node_budget)) (hR_node_budget_right__o0 : ∀ (a1 : S_api_Node) (a2 : Int) (h0 : S_node_budget) (r : Bool × S_node_budget), R_node_budget_right__o0 a1 a2 h0 = some r → CallsB Try.prog 46 [.own 1000000 0, .agg [.val (.int .i64 a1.f_Kind), .str a1.f_Text, .recs (α := List UInt8) [] E_string a1.f_Keys, .tree (α := S_api_Node) (S_api_Node.mk 0 [] [] []) pre_S_api_Node kids_S_api_Node a1.f_Kids], .val (.int .i64 a2)] [(1000000, 61, [.val (.int .i64 h0.f_left)])] (.val (.bool r.1)) [(1000000, 61, [.val (.int .i64 r.2.f_left)])]) (n : Nat) (v2 : Int) (v98 : List (S_api_Node)) (v99 : Int) {F0 : Fz} {w0 : Pt Try.prog} {Q : Exit → Act → World → Prop} (k : Nat) : ∀ (v100 : Int) (b1000000 : S_node_budget) (o : Sum (S_node_budget) (Bool × S_node_budget)), node_budget_right__o0_l2 R_node_budget_right__o0 n v2 v98 v99 k v100 b1000000 = some o → (Sum.elim (fun s => To 111 F0 w0 [] [(1000000, 61, [.val (.int .i64 s.f_left)])] (.exit 1) Q) (fun s => To 111 F0 w0 [(6, .val (.bool s.1))] [(1000000, 61, [.val (.int .i64 s.2.f_left)])] .ret Q)) o → WL Try.prog 111 F0 w0 [(0, .own 1000000 0), (2, .val (.int .i64 v2)), (98, .recs (α := S_api_Node) (S_api_Node.mk 0 [] [] []) E_api_Node v98), (99, .val (.int .i64 v99)), (100, .val (.int .i64 v100))] [(1000000, 61, [.val (.int .i64 b1000000.f_left)])] (cI (cI (cB (cA (cB (cB (cB (cF Try.f46)))))))) Q := by
  induction k with
  | zero => intro v100 b1000000 o h; cases h
  | succ k ih =>
    intro v100 b1000000 o h hQ
    rw [node_budget_right__o0_l2] at h
    refine WL.round ?_
    refine Wp.seq ?_
    refine Wp.region hΓ [] [] [] [0, 2, 98, 99, 100, 101] [1000000] (K' := [(0, .own 1000000 0), (2, .val (.int .i64 v2)), (98, .recs (α := S_api_Node) (S_api_Node.mk 0 [] [] []) E_api_Node v98), (99, .val (.int .i64 v99)), (100, .val (.int .i64 v100)), (101, .val (.bool (decide (v100 < v99))))]) (L' := [(1000000, 61, [.val (.int .i64 b1000000.f_left)])]) (ob := []) (by kernel_rfl) AllP.nil ?_
    refine To.thenN ?_
    refine Wp.seq ?_
    refine Wp.cond (b := (decide (v100 < v99))) (by kernel_rfl) (fun hb => ?_) (fun hb => ?_)
    · replace h := if_t hb h
      refine Wp.skip ?_
      refine To.thenN ?_
      refine Wp.seq ?_
      refine Wp.block ?_
      refine Wp.seq ?_
      obtain ⟨hc3, h⟩ := chk_of h
      refine Wp.region hΓ [] [] [] [0, 2, 8, 98, 99, 100] [8, 1000000] (K' := [(0, .own 1000000 0), (2, .val (.int .i64 v2)), (8, .own 8 0), (98, .recs (α := S_api_Node) (S_api_Node.mk 0 [] [] []) E_api_Node v98), (99, .val (.int .i64 v99)), (100, .val (.int .i64 v100))]) (L' := [(8, 25, [.val (.int .i64 (((v98)[Int.toNat v100]?.getD (S_api_Node.mk 0 [] [] [])).f_Kind)), .str (((v98)[Int.toNat v100]?.getD (S_api_Node.mk 0 [] [] [])).f_Text), .recs (α := List UInt8) [] E_string (((v98)[Int.toNat v100]?.getD (S_api_Node.mk 0 [] [] [])).f_Keys), .tree (α := S_api_Node) (S_api_Node.mk 0 [] [] []) pre_S_api_Node kids_S_api_Node (((v98)[Int.toNat v100]?.getD (S_api_Node.mk 0 [] [] [])).f_Kids)]), (1000000, 61, [.val (.int .i64 b1000000.f_left)])]) (ob := [(decide (0 ≤ v100 ∧ v100 < (List.length v98 : Int))) = true]) (by kernel_rfl) (AllP.cons hc3 AllP.nil) ?_
      refine To.thenN ?_
      refine Wp.seq ?_
      obtain ⟨r2, hr2, h⟩ := bind_of h
      refine Wp.region hΓ [] [] [(4, ⟨[(1000000, 1000000)], [(1000000, 1000000)], [.own 1000000 0, .agg [.val (.int .i64 (((v98)[Int.toNat v100]?.getD (S_api_Node.mk 0 [] [] [])).f_Kind)), .str (((v98)[Int.toNat v100]?.getD (S_api_Node.mk 0 [] [] [])).f_Text), .recs (α := List UInt8) [] E_string (((v98)[Int.toNat v100]?.getD (S_api_Node.mk 0 [] [] [])).f_Keys), .tree (α := S_api_Node) (S_api_Node.mk 0 [] [] []) pre_S_api_Node kids_S_api_Node (((v98)[Int.toNat v100]?.getD (S_api_Node.mk 0 [] [] [])).f_Kids)], .val (.int .i64 (IntKind.wrap .i64 (v2 + 1)))], [(1000000, 61, [.val (.int .i64 b1000000.f_left)])], .val (.bool r2.1), [(1000000, 61, [.val (.int .i64 r2.2.f_left)])]⟩)] [0, 2, 98, 99, 100, 109] [1000000] (K' := [(0, .own 1000000 0), (2, .val (.int .i64 v2)), (98, .recs (α := S_api_Node) (S_api_Node.mk 0 [] [] []) E_api_Node v98), (99, .val (.int .i64 v99)), (100, .val (.int .i64 v100)), (109, .val (.bool (!r2.1)))]) (L' := [(1000000, 61, [.val (.int .i64 r2.2.f_left)])]) (ob := [CbOb (CallsB Try.prog) 46 [.own 1000000 0, .agg [.val (.int .i64 (((v98)[Int.toNat v100]?.getD (S_api_Node.mk 0 [] [] [])).f_Kind)), .str (((v98)[Int.toNat v100]?.getD (S_api_Node.mk 0 [] [] [])).f_Text), .recs (α := List UInt8) [] E_string (((v98)[Int.toNat v100]?.getD (S_api_Node.mk 0 [] [] [])).f_Keys), .tree (α := S_api_Node) (S_api_Node.mk 0 [] [] []) pre_S_api_Node kids_S_api_Node (((v98)[Int.toNat v100]?.getD (S_api_Node.mk 0 [] [] [])).f_Kids)], .val (.int .i64 (IntKind.wrap .i64 (v2 + 1)))] [some (61, [.val (.int .i64 b1000000.f_left)])] ⟨[(1000000, 1000000)], [(1000000, 1000000)], [.own 1000000 0, .agg [.val (.int .i64 (((v98)[Int.toNat v100]?.getD (S_api_Node.mk 0 [] [] [])).f_Kind)), .str (((v98)[Int.toNat v100]?.getD (S_api_Node.mk 0 [] [] [])).f_Text), .recs (α := List UInt8) [] E_string (((v98)[Int.toNat v100]?.getD (S_api_Node.mk 0 [] [] [])).f_Keys), .tree (α := S_api_Node) (S_api_Node.mk 0 [] [] []) pre_S_api_Node kids_S_api_Node (((v98)[Int.toNat v100]?.getD (S_api_Node.mk 0 [] [] [])).f_Kids)], .val (.int .i64 (IntKind.wrap .i64 (v2 + 1)))], [(1000000, 61, [.val (.int .i64 b1000000.f_left)])], .val (.bool r2.1), [(1000000, 61, [.val (.int .i64 r2.2.f_left)])]⟩]) (by kernel_rfl) (AllP.cons (⟨(hR_node_budget_right__o0 (S_api_Node.mk (((v98)[Int.toNat v100]?.getD (S_api_Node.mk 0 [] [] [])).f_Kind) (((v98)[Int.toNat v100]?.getD (S_api_Node.mk 0 [] [] [])).f_Text) (((v98)[Int.toNat v100]?.getD (S_api_Node.mk 0 [] [] [])).f_Keys) (((v98)[Int.toNat v100]?.getD (S_api_Node.mk 0 [] [] [])).f_Kids)) (IntKind.wrap .i64 (v2 + 1)) b1000000 _ hr2), by kernel_rfl, by kernel_rfl⟩) AllP.nil) ?_
      refine To.thenN ?_
      refine Wp.cond (b := (!r2.1)) (by kernel_rfl) (fun hb => ?_) (fun hb => ?_)
      · replace h := if_t hb h
        refine Wp.seq ?_
        refine Wp.region hΓ [] [] [] [6] [1000000] (K' := [(6, .val (.bool false))]) (L' := [(1000000, 61, [.val (.int .i64 r2.2.f_left)])]) (ob := []) (by kernel_rfl) AllP.nil ?_
        refine To.thenN ?_
        refine Wp.ret ?_
        refine To.blockR ?_
        refine To.thenR ?_
        refine To.thenR ?_
        refine To.keep (kk := [6]) (kl := [1000000]) (K' := [(6, .val (.bool false))]) (L' := [(1000000, 61, [.val (.int .i64 r2.2.f_left)])]) (by kernel_rfl) (by kernel_rfl) ?_
        cases h
        exact hQ
      · replace h := if_f hb h
        refine Wp.skip ?_
        refine To.blockN ?_
        refine To.thenN ?_
        refine Wp.region hΓ [] [] [] [0, 2, 98, 99, 100] [1000000] (K' := [(0, .own 1000000 0), (2, .val (.int .i64 v2)), (98, .recs (α := S_api_Node) (S_api_Node.mk 0 [] [] []) E_api_Node v98), (99, .val (.int .i64 v99)), (100, .val (.int .i64 (IntKind.wrap .i64 (v100 + 1))))]) (L' := [(1000000, 61, [.val (.int .i64 r2.2.f_left)])]) (ob := []) (by kernel_rfl) AllP.nil ?_
        refine To.keep (kk := [0, 2, 98, 99, 100]) (kl := [1000000]) (K' := [(0, .own 1000000 0), (2, .val (.int .i64 v2)), (98, .recs (α := S_api_Node) (S_api_Node.mk 0 [] [] []) E_api_Node v98), (99, .val (.int .i64 v99)), (100, .val (.int .i64 (IntKind.wrap .i64 (v100 + 1))))]) (L' := [(1000000, 61, [.val (.int .i64 r2.2.f_left)])]) (by kernel_rfl) (by kernel_rfl) ?_
        refine To.again ?_
        exact ih (IntKind.wrap .i64 (v100 + 1)) r2.2 _ h hQ
    · replace h := if_f hb h
      refine Wp.exit ?_
      refine To.thenX ?_
      refine To.thenX ?_
      refine To.keep (kk := []) (kl := [1000000]) (K' := []) (L' := [(1000000, 61, [.val (.int .i64 b1000000.f_left)])]) (by kernel_rfl) (by kernel_rfl) ?_
      cases h
      exact hQ
def node_budget_right__o0_b (R_node_budget_right__o0 : S_api_Node → Int → S_node_budget → Option (Bool × S_node_budget)) (n : Nat) (a1 : S_api_Node) (a2 : Int) (h0 : S_node_budget) : Option (Bool × S_node_budget) :=
  if (bif (decide ((IntKind.wrap .i64 (h0.f_left - 1)) < 0)) then true else (decide (a2 > 12))) = true then (some (false, (S_node_budget.mk (IntKind.wrap .i64 (h0.f_left - 1)))))
  else ((node_budget_right__o0_j1 R_node_budget_right__o0 n a2 a1.f_Kind a1 (S_node_budget.mk (IntKind.wrap .i64 (h0.f_left - 1)))).bind fun o1 =>
  (Sum.elim (fun o1 => (node_budget_right__o0_l2 R_node_budget_right__o0 n a2 a1.f_Kids (List.length a1.f_Kids : Int) n 0 (S_node_budget.mk (IntKind.wrap .i64 (h0.f_left - 1)))).bind fun o2 =>
  (Sum.elim (fun o2 => some (true, o2)) (fun o2 => some (o2.1, o2.2))) o2) (fun o1 => some (o1, (S_node_budget.mk (IntKind.wrap .i64 (h0.f_left - 1)))))) o1)
theorem ok_node_budget_right__o0_b (R_node_budget_right__o0 : S_api_Node → Int → S_node_budget → Option (Bool × S_node_budget)) (hR_node_budget_right__o0 : ∀ (a1 : S_api_Node) (a2 : Int) (h0 : S_node_budget) (r : Bool × S_node_budget), R_node_budget_right__o0 a1 a2 h0 = some r → CallsB Try.prog 46 [.own 1000000 0, .agg [.val (.int .i64 a1.f_Kind), .str a1.f_Text, .recs (α := List UInt8) [] E_string a1.f_Keys, .tree (α := S_api_Node) (S_api_Node.mk 0 [] [] []) pre_S_api_Node kids_S_api_Node a1.f_Kids], .val (.int .i64 a2)] [(1000000, 61, [.val (.int .i64 h0.f_left)])] (.val (.bool r.1)) [(1000000, 61, [.val (.int .i64 r.2.f_left)])]) (n : Nat) (a1 : S_api_Node) (a2 : Int) (h0 : S_node_budget) (r : Bool × S_node_budget) (h : node_budget_right__o0_b R_node_budget_right__o0 n a1 a2 h0 = some r) : CallsB Try.prog 46 [.own 1000000 0, .agg [.val (.int .i64 a1.f_Kind), .str a1.f_Text, .recs (α := List UInt8) [] E_string a1.f_Keys, .tree (α := S_api_Node) (S_api_Node.mk 0 [] [] []) pre_S_api_Node kids_S_api_Node a1.f_Kids], .val (.int .i64 a2)] [(1000000, 61, [.val (.int .i64 h0.f_left)])] (.val (.bool r.1)) [(1000000, 61, [.val (.int .i64 r.2.f_left)])] := by
  unfold node_budget_right__o0_b at h
  refine callsB_of (fn := Try.f46) (by kernel_rfl) rfl (by kernel_rfl) (Nat.le_of_ble_eq_true (by kernel_rfl)) fun F0 w0 => ?_
  refine Wp.keep (kk := [0, 1, 2]) (kl := [1000000]) (K' := [(0, .own 1000000 0), (1, .agg [.val (.int .i64 a1.f_Kind), .str a1.f_Text, .recs (α := List UInt8) [] E_string a1.f_Keys, .tree (α := S_api_Node) (S_api_Node.mk 0 [] [] []) pre_S_api_Node kids_S_api_Node a1.f_Kids]), (2, .val (.int .i64 a2))]) (L' := [(1000000, 61, [.val (.int .i64 h0.f_left)])]) (by kernel_rfl) (by kernel_rfl) ?_
  refine Wp.seq ?_
  refine Wp.region hΓ [] [] [] [0, 2, 4] [4, 1000000] (K' := [(0, .own 1000000 0), (2, .val (.int .i64 a2)), (4, .own 4 0)]) (L' := [(4, 25, [.val (.int .i64 a1.f_Kind), .str a1.f_Text, .recs (α := List UInt8) [] E_string a1.f_Keys, .tree (α := S_api_Node) (S_api_Node.mk 0 [] [] []) pre_S_api_Node kids_S_api_Node a1.f_Kids]), (1000000, 61, [.val (.int .i64 h0.f_left)])]) (ob := []) (by kernel_rfl) AllP.nil ?_
  refine To.thenN ?_
  refine Wp.seq ?_
  refine Wp.seq ?_
  refine Wp.region hΓ [] [] [] [0, 2, 4] [4, 1000000] (K' := [(0, .own 1000000 0), (2, .val (.int .i64 a2)), (4, .own 4 0)]) (L' := [(4, 25, [.val (.int .i64 a1.f_Kind), .str a1.f_Text, .recs (α := List UInt8) [] E_string a1.f_Keys, .tree (α := S_api_Node) (S_api_Node.mk 0 [] [] []) pre_S_api_Node kids_S_api_Node a1.f_Kids]), (1000000, 61, [.val (.int .i64 (IntKind.wrap .i64 (h0.f_left - 1)))])]) (ob := []) (by kernel_rfl) AllP.nil ?_
  refine To.thenN ?_
  refine Wp.seq ?_
  refine Wp.region hΓ [] [] [] [0, 2, 4, 24] [4, 1000000] (K' := [(0, .own 1000000 0), (2, .val (.int .i64 a2)), (4, .own 4 0), (24, .val (.bool (bif (decide ((IntKind.wrap .i64 (h0.f_left - 1)) < 0)) then true else (decide (a2 > 12)))))]) (L' := [(4, 25, [.val (.int .i64 a1.f_Kind), .str a1.f_Text, .recs (α := List UInt8) [] E_string a1.f_Keys, .tree (α := S_api_Node) (S_api_Node.mk 0 [] [] []) pre_S_api_Node kids_S_api_Node a1.f_Kids]), (1000000, 61, [.val (.int .i64 (IntKind.wrap .i64 (h0.f_left - 1)))])]) (ob := []) (by kernel_rfl) AllP.nil ?_
  refine To.thenN ?_
  refine Wp.cond (b := (bif (decide ((IntKind.wrap .i64 (h0.f_left - 1)) < 0)) then true else (decide (a2 > 12)))) (by kernel_rfl) (fun hb => ?_) (fun hb => ?_)
  · replace h := if_t hb h
    refine Wp.seq ?_
    refine Wp.region hΓ [] [] [] [6] [1000000] (K' := [(6, .val (.bool false))]) (L' := [(1000000, 61, [.val (.int .i64 (IntKind.wrap .i64 (h0.f_left - 1)))])]) (ob := []) (by kernel_rfl) AllP.nil ?_
    refine To.thenN ?_
    refine Wp.ret ?_
    refine To.thenR ?_
    refine To.keep (kk := [6]) (kl := [1000000]) (K' := [(6, .val (.bool false))]) (L' := [(1000000, 61, [.val (.int .i64 (IntKind.wrap .i64 (h0.f_left - 1)))])]) (by kernel_rfl) (by kernel_rfl) ?_
    cases h
    exact To.doneB hΓ [1000000] (by kernel_rfl) (by kernel_rfl)
  · replace h := if_f hb h
    refine Wp.skip ?_
    refine To.thenN ?_
    refine Wp.seq ?_
    refine Wp.seq ?_
    refine Wp.region hΓ [] [] [] [0, 2, 4, 26] [4, 1000000] (K' := [(0, .own 1000000 0), (2, .val (.int .i64 a2)), (4, .own 4 0), (26, .val (.int .i64 a1.f_Kind))]) (L' := [(4, 25, [.val (.int .i64 a1.f_Kind), .str a1.f_Text, .recs (α := List UInt8) [] E_string a1.f_Keys, .tree (α := S_api_Node) (S_api_Node.mk 0 [] [] []) pre_S_api_Node kids_S_api_Node a1.f_Kids]), (1000000, 61, [.val (.int .i64 (IntKind.wrap .i64 (h0.f_left - 1)))])]) (ob := []) (by kernel_rfl) AllP.nil ?_
    refine To.thenN ?_
    obtain ⟨o1, ho1, h⟩ := bind_of h
    refine Wp.keep (kk := [0, 2, 4, 26]) (kl := [4, 1000000]) (K' := [(0, .own 1000000 0), (2, .val (.int .i64 a2)), (4, .own 4 0), (26, .val (.int .i64 a1.f_Kind))]) (L' := [(4, 25, [.val (.int .i64 a1.f_Kind), .str a1.f_Text, .recs (α := List UInt8) [] E_string a1.f_Keys, .tree (α := S_api_Node) (S_api_Node.mk 0 [] [] []) pre_S_api_Node kids_S_api_Node a1.f_Kids]), (1000000, 61, [.val (.int .i64 (IntKind.wrap .i64 (h0.f_left - 1)))])]) (by kernel_rfl) (by kernel_rfl) ?_
    refine ok_node_budget_right__o0_j1 R_node_budget_right__o0 hR_node_budget_right__o0 n a2 a1.f_Kind a1 (S_node_budget.mk (IntKind.wrap .i64 (h0.f_left - 1))) o1 ho1 ?_
    rcases o1 with o1 | o1
    · replace h := sum_l h
      refine To.thenN ?_
      refine Wp.seq ?_
      refine Wp.seq ?_
      refine Wp.region hΓ [] [] [] [0, 2, 98, 99, 100] [1000000] (K' := [(0, .own 1000000 0), (2, .val (.int .i64 a2)), (98, .tree (α := S_api_Node) (S_api_Node.mk 0 [] [] []) pre_S_api_Node kids_S_api_Node a1.f_Kids), (99, .val (.int .i64 (List.length a1.f_Kids : Int))), (100, .val (.int .i64 0))]) (L' := [(1000000, 61, [.val (.int .i64 (IntKind.wrap .i64 (h0.f_left - 1)))])]) (ob := []) (by kernel_rfl) AllP.nil ?_
      refine To.thenN ?_
      refine Wp.block ?_
      obtain ⟨o2, ho2, h⟩ := bind_of h
      refine Wp.keep (kk := [0, 2, 98, 99, 100]) (kl := [1000000]) (K' := [(0, .own 1000000 0), (2, .val (.int .i64 a2)), (98, .tree (α := S_api_Node) (S_api_Node.mk 0 [] [] []) pre_S_api_Node kids_S_api_Node a1.f_Kids), (99, .val (.int .i64 (List.length a1.f_Kids : Int))), (100, .val (.int .i64 0))]) (L' := [(1000000, 61, [.val (.int .i64 (IntKind.wrap .i64 (h0.f_left - 1)))])]) (by kernel_rfl) (by kernel_rfl) ?_
      refine Wp.weak (K' := [(0, .own 1000000 0), (2, .val (.int .i64 a2)), (98, .recs (α := S_api_Node) (S_api_Node.mk 0 [] [] []) E_api_Node a1.f_Kids), (99, .val (.int .i64 (List.length a1.f_Kids : Int))), (100, .val (.int .i64 0))]) (L' := [(1000000, 61, [.val (.int .i64 (IntKind.wrap .i64 (h0.f_left - 1)))])]) (.cons (.refl _) (.cons (.refl _) (.cons (.opn _ _ _ _) (.cons (.refl _) (.cons (.refl _) .nil))))) (.cons (.cons (.refl _) .nil) .nil) ?_
      refine Wp.loopL ?_
      refine ok_node_budget_right__o0_l2 R_node_budget_right__o0 hR_node_budget_right__o0 n a2 a1.f_Kids (List.length a1.f_Kids : Int) n 0 (S_node_budget.mk (IntKind.wrap .i64 (h0.f_left - 1))) o2 ho2 ?_
      rcases o2 with o2 | o2
      · replace h := sum_l h
        refine To.blockX ?_
        refine To.thenN ?_
        refine Wp.seq ?_
        refine Wp.region hΓ [] [] [] [6] [1000000] (K' := [(6, .val (.bool true))]) (L' := [(1000000, 61, [.val (.int .i64 o2.f_left)])]) (ob := []) (by kernel_rfl) AllP.nil ?_
        refine To.thenN ?_
        refine Wp.ret ?_
        refine To.keep (kk := [6]) (kl := [1000000]) (K' := [(6, .val (.bool true))]) (L' := [(1000000, 61, [.val (.int .i64 o2.f_left)])]) (by kernel_rfl) (by kernel_rfl) ?_
        cases h
        exact To.doneB hΓ [1000000] (by kernel_rfl) (by kernel_rfl)
      · replace h := sum_r h
        refine To.blockR ?_
        refine To.thenR ?_
        refine To.keep (kk := [6]) (kl := [1000000]) (K' := [(6, .val (.bool o2.1))]) (L' := [(1000000, 61, [.val (.int .i64 o2.2.f_left)])]) (by kernel_rfl) (by kernel_rfl) ?_
        cases h
        exact To.doneB hΓ [1000000] (by kernel_rfl) (by kernel_rfl)
    · replace h := sum_r h
      refine To.thenR ?_
      refine To.keep (kk := [6]) (kl := [1000000]) (K' := [(6, .val (.bool o1))]) (L' := [(1000000, 61, [.val (.int .i64 (IntKind.wrap .i64 (h0.f_left - 1)))])]) (by kernel_rfl) (by kernel_rfl) ?_
      cases h
      exact To.doneB hΓ [1000000] (by kernel_rfl) (by kernel_rfl)
def node_budget_right__o0 : Nat → S_api_Node → Int → S_node_budget → Option (Bool × S_node_budget)
  | 0 => fun _ _ _ => none
  | n + 1 => node_budget_right__o0_b (node_budget_right__o0 n) n
theorem ok_node_budget_right__o0 (n : Nat) : ∀ (a1 : S_api_Node) (a2 : Int) (h0 : S_node_budget) (r : Bool × S_node_budget), node_budget_right__o0 n a1 a2 h0 = some r → CallsB Try.prog 46 [.own 1000000 0, .agg [.val (.int .i64 a1.f_Kind), .str a1.f_Text, .recs (α := List UInt8) [] E_string a1.f_Keys, .tree (α := S_api_Node) (S_api_Node.mk 0 [] [] []) pre_S_api_Node kids_S_api_Node a1.f_Kids], .val (.int .i64 a2)] [(1000000, 61, [.val (.int .i64 h0.f_left)])] (.val (.bool r.1)) [(1000000, 61, [.val (.int .i64 r.2.f_left)])] := by
  induction n with
  | zero => intro a1 a2 h0 r h; cases h
  | succ n ih => exact fun a1 a2 h0 r h => ok_node_budget_right__o0_b (node_budget_right__o0 n) ih n a1 a2 h0 r h
def node_Right (n : Nat) (a0 : S_api_Node) : Option (Bool) :=
  (node_budget_right__o0 n a0 1 (S_node_budget.mk 2000)).bind fun r1 =>
  some r1.1
theorem ok_node_Right (n : Nat) (a0 : S_api_Node) (r : Bool) (h : node_Right n a0 = some r) : CallsX Try.prog 33 [.agg [.val (.int .i64 a0.f_Kind), .str a0.f_Text, .recs (α := List UInt8) [] E_string a0.f_Keys, .tree (α := S_api_Node) (S_api_Node.mk 0 [] [] []) pre_S_api_Node kids_S_api_Node a0.f_Kids]] (.val (.bool r)) := by
  unfold node_Right at h
  refine callsX_of (fn := Try.f33) (by kernel_rfl) rfl (by kernel_rfl) (Nat.le_of_ble_eq_true (by kernel_rfl)) fun F0 w0 _ => ?_
  refine Wp.keep (kk := [0]) (kl := []) (K' := [(0, .agg [.val (.int .i64 a0.f_Kind), .str a0.f_Text, .recs (α := List UInt8) [] E_string a0.f_Keys, .tree (α := S_api_Node) (S_api_Node.mk 0 [] [] []) pre_S_api_Node kids_S_api_Node a0.f_Kids])]) (L' := []) (by kernel_rfl) (by kernel_rfl) ?_
  refine Wp.seq ?_
  refine Wp.region hΓ [] [] [] [1] [1] (K' := [(1, .own 1 0)]) (L' := [(1, 25, [.val (.int .i64 a0.f_Kind), .str a0.f_Text, .recs (α := List UInt8) [] E_string a0.f_Keys, .tree (α := S_api_Node) (S_api_Node.mk 0 [] [] []) pre_S_api_Node kids_S_api_Node a0.f_Kids])]) (ob := []) (by kernel_rfl) AllP.nil ?_
  refine To.thenN ?_
  refine Wp.seq ?_
  refine Wp.region hΓ [] [] [] [1, 3] [1, 3] (K' := [(1, .own 1 0), (3, .own 3 0)]) (L' := [(1, 25, [.val (.int .i64 a0.f_Kind), .str a0.f_Text, .recs (α := List UInt8) [] E_string a0.f_Keys, .tree (α := S_api_Node) (S_api_Node.mk 0 [] [] []) pre_S_api_Node kids_S_api_Node a0.f_Kids]), (3, 61, [.val (.int .i64 2000)])]) (ob := []) (by kernel_rfl) AllP.nil ?_
  refine To.thenN ?_
  refine Wp.seq ?_
  obtain ⟨r1, hr1, h⟩ := bind_of h
  refine Wp.region hΓ [] [] [(1, ⟨[(1000000, 3)], [(1000000, 3)], [.own 1000000 0, .agg [.val (.int .i64 a0.f_Kind), .str a0.f_Text, .recs (α := List UInt8) [] E_string a0.f_Keys, .tree (α := S_api_Node) (S_api_Node.mk 0 [] [] []) pre_S_api_Node kids_S_api_Node a0.f_Kids], .val (.int .i64 1)], [(1000000, 61, [.val (.int .i64 2000)])], .val (.bool r1.1), [(1000000, 61, [.val (.int .i64 r1.2.f_left)])]⟩)] [2] [] (K' := [(2, .val (.bool r1.1))]) (L' := []) (ob := [CbOb (CallsB Try.prog) 46 [.own 3 0, .agg [.val (.int .i64 a0.f_Kind), .str a0.f_Text, .recs (α := List UInt8) [] E_string a0.f_Keys, .tree (α := S_api_Node) (S_api_Node.mk 0 [] [] []) pre_S_api_Node kids_S_api_Node a0.f_Kids], .val (.int .i64 1)] [some (61, [.val (.int .i64 2000)])] ⟨[(1000000, 3)], [(1000000, 3)], [.own 1000000 0, .agg [.val (.int .i64 a0.f_Kind), .str a0.f_Text, .recs (α := List UInt8) [] E_string a0.f_Keys, .tree (α := S_api_Node) (S_api_Node.mk 0 [] [] []) pre_S_api_Node kids_S_api_Node a0.f_Kids], .val (.int .i64 1)], [(1000000, 61, [.val (.int .i64 2000)])], .val (.bool r1.1), [(1000000, 61, [.val (.int .i64 r1.2.f_left)])]⟩]) (by kernel_rfl) (AllP.cons (⟨(ok_node_budget_right__o0 n a0 1 (S_node_budget.mk 2000) _ hr1), by kernel_rfl, by kernel_rfl⟩) AllP.nil) ?_
  refine To.thenN ?_
  refine Wp.ret ?_
  refine To.keep (kk := [2]) (kl := []) (K' := [(2, .val (.bool r1.1))]) (L' := []) (by kernel_rfl) (by kernel_rfl) ?_
  cases h
  exact To.done hΓ (by kernel_rfl)
def node_Map (n : Nat) (a0 : List (List UInt8)) (a1 : List (S_api_Node)) : Option (S_api_Node) :=
  (slices_Clone_string_string n a0).bind fun r1 =>
  (slices_Clone_api_Node_api_Node n a1).bind fun r2 =>
  (node_Right n (S_api_Node.mk 3 [] r1 r2)).bind fun r3 =>
  if (!r3) = true then (some (S_api_Node.mk 0 [] [] []))
  else (some (S_api_Node.mk 3 [] r1 r2))
theorem ok_node_Map (n : Nat) (a0 : List (List UInt8)) (a1 : List (S_api_Node)) (r : S_api_Node) (h : node_Map n a0 a1 = some r) : CallsX Try.prog 31 [.recs (α := List UInt8) [] E_string a0, .recs (α := S_api_Node) (S_api_Node.mk 0 [] [] []) E_api_Node a1] (.agg [.val (.int .i64 r.f_Kind), .str r.f_Text, .recs (α := List UInt8) [] E_string r.f_Keys, .tree (α := S_api_Node) (S_api_Node.mk 0 [] [] []) pre_S_api_Node kids_S_api_Node r.f_Kids]) := by
  unfold node_Map at h
  refine callsX_of (fn := Try.f31) (by kernel_rfl) rfl (by kernel_rfl) (Nat.le_of_ble_eq_true (by kernel_rfl)) fun F0 w0 _ => ?_
  refine Wp.keep (kk := [0, 1]) (kl := []) (K' := [(0, .recs (α := List UInt8) [] E_string a0), (1, .recs (α := S_api_Node) (S_api_Node.mk 0 [] [] []) E_api_Node a1)]) (L' := []) (by kernel_rfl) (by kernel_rfl) ?_
  refine Wp.seq ?_
  refine Wp.region hΓ [] [] [] [0, 1, 4] [4] (K' := [(0, .recs (α := List UInt8) [] E_string a0), (1, .recs (α := S_api_Node) (S_api_Node.mk 0 [] [] []) E_api_Node a1), (4, .own 4 0)]) (L' := [(4, 25, [.val (.int .i64 0), .str [], .val (.slice none 0 0), .val (.slice none 0 0)])]) (ob := []) (by kernel_rfl) AllP.nil ?_
  refine To.thenN ?_
  refine Wp.seq ?_
  obtain ⟨r1, hr1, h⟩ := bind_of h
  obtain ⟨r2, hr2, h⟩ := bind_of h
  refine Wp.region hΓ [] [(1, .recs (α := List UInt8) [] E_string r1), (3, .recs (α := S_api_Node) (S_api_Node.mk 0 [] [] []) E_api_Node r2)] [] [4, 5] [4, 5] (K' := [(4, .own 4 0), (5, .own 5 0)]) (L' := [(4, 25, [.val (.int .i64 0), .str [], .val (.slice none 0 0), .val (.slice none 0 0)]), (5, 25, [.val (.int .i64 3), .str [], .recs (α := List UInt8) [] E_string r1, .recs (α := S_api_Node) (S_api_Node.mk 0 [] [] []) E_api_Node r2])]) (ob := [(true = true → CX Try.prog 42 [.recs (α := List UInt8) [] E_string a0] (.recs (α := List UInt8) [] E_string r1)), (true = true → CX Try.prog 43 [.recs (α := S_api_Node) (S_api_Node.mk 0 [] [] []) E_api_Node a1] (.recs (α := S_api_Node) (S_api_Node.mk 0 [] [] []) E_api_Node r2))]) (by kernel_rfl) (AllP.cons (fun _ => cx (ok_slices_Clone_string_string n a0 _ hr1)) (AllP.cons (fun _ => cx (ok_slices_Clone_api_Node_api_Node n a1 _ hr2)) AllP.nil)) ?_
  refine To.thenN ?_
  refine Wp.seq ?_
  refine Wp.seq ?_
  obtain ⟨r3, hr3, h⟩ := bind_of h
  refine Wp.region hΓ [] [(1, .val (.bool r3))] [] [4, 5, 13] [4, 5] (K' := [(4, .own 4 0), (5, .own 5 0), (13, .val (.bool (!r3)))]) (L' := [(4, 25, [.val (.int .i64 0), .str [], .val (.slice none 0 0), .val (.slice none 0 0)]), (5, 25, [.val (.int .i64 3), .str [], .recs (α := List UInt8) [] E_string r1, .recs (α := S_api_Node) (S_api_Node.mk 0 [] [] []) E_api_Node r2])]) (ob := [(true = true → CX Try.prog 33 [.agg [.val (.int .i64 3), .str [], .recs (α := List UInt8) [] E_string r1, .recs (α := S_api_Node) (S_api_Node.mk 0 [] [] []) E_api_Node r2]] (.val (.bool r3)))]) (by kernel_rfl) (AllP.cons (fun _ => cx (callsX_args (.cons (.agg (.cons (.refl _) (.cons (.refl _) (.cons (.refl _) (.cons (.close _ _ _ _) .nil))))) .nil) (ok_node_Right n (S_api_Node.mk 3 [] r1 r2) _ hr3))) AllP.nil) ?_
  refine To.thenN ?_
  refine Wp.cond (b := (!r3)) (by kernel_rfl) (fun hb => ?_) (fun hb => ?_)
  · replace h := if_t hb h
    refine Wp.seq ?_
    refine Wp.region hΓ [] [] [] [4] [4] (K' := [(4, .own 4 0)]) (L' := [(4, 25, [.val (.int .i64 0), .str [], .val (.slice none 0 0), .val (.slice none 0 0)])]) (ob := []) (by kernel_rfl) AllP.nil ?_
    refine To.thenN ?_
    refine Wp.ret ?_
    refine To.thenR ?_
    refine To.keep (kk := [4]) (kl := [4]) (K' := [(4, .own 4 0)]) (L' := [(4, 25, [.val (.int .i64 0), .str [], .val (.slice none 0 0), .val (.slice none 0 0)])]) (by kernel_rfl) (by kernel_rfl) ?_
    refine To.weak (K' := [(4, .own 4 0)]) (L' := [(4, 25, [.val (.int .i64 0), .str [], .recs (α := List UInt8) [] E_string [], .tree (α := S_api_Node) (S_api_Node.mk 0 [] [] []) pre_S_api_Node kids_S_api_Node []])]) (.cons (.refl _) .nil) (.cons (.cons (.refl _) (.cons (.refl _) (.cons (.zero _ _) (.cons (.zeroT _ _ _) .nil)))) .nil) ?_
    cases h
    exact To.done hΓ (by kernel_rfl)
  · replace h := if_f hb h
    refine Wp.skip ?_
    refine To.thenN ?_
    refine Wp.seq ?_
    refine Wp.region hΓ [] [] [] [4] [4] (K' := [(4, .own 4 0)]) (L' := [(4, 25, [.val (.int .i64 3), .str [], .recs (α := List UInt8) [] E_string r1, .recs (α := S_api_Node) (S_api_Node.mk 0 [] [] []) E_api_Node r2])]) (ob := []) (by kernel_rfl) AllP.nil ?_
    refine To.thenN ?_
    refine Wp.ret ?_
    refine To.keep (kk := [4]) (kl := [4]) (K' := [(4, .own 4 0)]) (L' := [(4, 25, [.val (.int .i64 3), .str [], .recs (α := List UInt8) [] E_string r1, .recs (α := S_api_Node) (S_api_Node.mk 0 [] [] []) E_api_Node r2])]) (by kernel_rfl) (by kernel_rfl) ?_
    refine To.weak (K' := [(4, .own 4 0)]) (L' := [(4, 25, [.val (.int .i64 3), .str [], .recs (α := List UInt8) [] E_string r1, .tree (α := S_api_Node) (S_api_Node.mk 0 [] [] []) pre_S_api_Node kids_S_api_Node r2])]) (.cons (.refl _) .nil) (.cons (.cons (.refl _) (.cons (.refl _) (.cons (.refl _) (.cons (.close _ _ _ _) .nil)))) .nil) ?_
    cases h
    exact To.done hΓ (by kernel_rfl)
def node_Seq (n : Nat) (a0 : List (S_api_Node)) : Option (S_api_Node) :=
  (slices_Clone_api_Node_api_Node n a0).bind fun r1 =>
  some (S_api_Node.mk 2 [] [] r1)
theorem ok_node_Seq (n : Nat) (a0 : List (S_api_Node)) (r : S_api_Node) (h : node_Seq n a0 = some r) : CallsX Try.prog 27 [.recs (α := S_api_Node) (S_api_Node.mk 0 [] [] []) E_api_Node a0] (.agg [.val (.int .i64 r.f_Kind), .str r.f_Text, .recs (α := List UInt8) [] E_string r.f_Keys, .tree (α := S_api_Node) (S_api_Node.mk 0 [] [] []) pre_S_api_Node kids_S_api_Node r.f_Kids]) := by
  unfold node_Seq at h
  refine callsX_of (fn := Try.f27) (by kernel_rfl) rfl (by kernel_rfl) (Nat.le_of_ble_eq_true (by kernel_rfl)) fun F0 w0 _ => ?_
  refine Wp.keep (kk := [0]) (kl := []) (K' := [(0, .recs (α := S_api_Node) (S_api_Node.mk 0 [] [] []) E_api_Node a0)]) (L' := []) (by kernel_rfl) (by kernel_rfl) ?_
  refine Wp.seq ?_
  refine Wp.region hΓ [] [] [] [0, 2] [2] (K' := [(0, .recs (α := S_api_Node) (S_api_Node.mk 0 [] [] []) E_api_Node a0), (2, .own 2 0)]) (L' := [(2, 25, [.val (.int .i64 0), .str [], .val (.slice none 0 0), .val (.slice none 0 0)])]) (ob := []) (by kernel_rfl) AllP.nil ?_
  refine To.thenN ?_
  refine Wp.seq ?_
  obtain ⟨r1, hr1, h⟩ := bind_of h
  refine Wp.region hΓ [] [(1, .recs (α := S_api_Node) (S_api_Node.mk 0 [] [] []) E_api_Node r1)] [] [2] [2] (K' := [(2, .own 2 0)]) (L' := [(2, 25, [.val (.int .i64 2), .str [], .val (.slice none 0 0), .recs (α := S_api_Node) (S_api_Node.mk 0 [] [] []) E_api_Node r1])]) (ob := [(true = true → CX Try.prog 43 [.recs (α := S_api_Node) (S_api_Node.mk 0 [] [] []) E_api_Node a0] (.recs (α := S_api_Node) (S_api_Node.mk 0 [] [] []) E_api_Node r1))]) (by kernel_rfl) (AllP.cons (fun _ => cx (ok_slices_Clone_api_Node_api_Node n a0 _ hr1)) AllP.nil) ?_
  refine To.thenN ?_
  refine Wp.ret ?_
  refine To.keep (kk := [2]) (kl := [2]) (K' := [(2, .own 2 0)]) (L' := [(2, 25, [.val (.int .i64 2), .str [], .val (.slice none 0 0), .recs (α := S_api_Node) (S_api_Node.mk 0 [] [] []) E_api_Node r1])]) (by kernel_rfl) (by kernel_rfl) ?_
  refine To.weak (K' := [(2, .own 2 0)]) (L' := [(2, 25, [.val (.int .i64 2), .str [], .recs (α := List UInt8) [] E_string [], .tree (α := S_api_Node) (S_api_Node.mk 0 [] [] []) pre_S_api_Node kids_S_api_Node r1])]) (.cons (.refl _) .nil) (.cons (.cons (.refl _) (.cons (.refl _) (.cons (.zero _ _) (.cons (.close _ _ _ _) .nil)))) .nil) ?_
  cases h
  exact To.done hΓ (by kernel_rfl)
def digit_whole_j2 (n : Nat) (v0 : List UInt8) (v1 : Int) (v6 : Int) (v7 : Bool) (v23 : Int) (v24 : Int) : Option (Sum (Int × Bool) (Int × Int)) :=
  if (decide (0 ≤ v24 ∧ v24 < (List.length v0 : Int))) = true then (lett ((bif (decide ((IntKind.wrap .i64 ((IntKind.wrap .i64 ((((v0)[Int.toNat v24]?.getD 0).toNat : Int))) - 48)) < 0)) then true else (decide ((IntKind.wrap .i64 ((IntKind.wrap .i64 ((((v0)[Int.toNat v24]?.getD 0).toNat : Int))) - 48)) > 9))) : Bool) fun x2 =>
  if x2 = true then (some (.inr (0, 3)))
  else (if ((!(v7 == false) || (10 != 0))) = true then (lett ((bif (bif v7 then true else (decide (v6 > (IntKind.wrap .i64 (Int.tdiv (IntKind.wrap .i64 (v1 - (IntKind.wrap .i64 ((IntKind.wrap .i64 ((((v0)[Int.toNat v24]?.getD 0).toNat : Int))) - 48)))) 10))))) then true else (decide (v1 < (IntKind.wrap .i64 ((IntKind.wrap .i64 ((((v0)[Int.toNat v24]?.getD 0).toNat : Int))) - 48))))) : Bool) fun x3 =>
  if (!x3) = true then (lett ((IntKind.wrap .i64 ((IntKind.wrap .i64 (v6 * 10)) + (IntKind.wrap .i64 ((IntKind.wrap .i64 ((((v0)[Int.toNat v24]?.getD 0).toNat : Int))) - 48)))) : Int) fun x4 =>
  some (.inl (x4, x3)))
  else (some (.inl (v6, x3)))) else none)) else none
theorem ok_digit_whole_j2 (n : Nat) (v0 : List UInt8) (v1 : Int) (v6 : Int) (v7 : Bool) (v23 : Int) (v24 : Int) (o : Sum (Int × Bool) (Int × Int)) (h : digit_whole_j2 n v0 v1 v6 v7 v23 v24 = some o) {F0 : Fz} {w0 : Pt Try.prog} {Q : Exit → Act → World → Prop} (hQ : (Sum.elim (fun s => To 61 F0 w0 [(0, .str v0), (1, .val (.int .i64 v1)), (6, .val (.int .i64 s.1)), (7, .val (.bool s.2)), (23, .val (.int .i64 v23)), (24, .val (.int .i64 v24))] [] .normal Q) (fun s => To 61 F0 w0 [(4, .val (.int .i64 s.1)), (5, .val (.int .i64 s.2))] [] .ret Q)) o) : Wp Try.prog 61 F0 w0 [(0, .str v0), (1, .val (.int .i64 v1)), (6, .val (.int .i64 v6)), (7, .val (.bool v7)), (23, .val (.int .i64 v23)), (24, .val (.int .i64 v24))] [] (cA (cB (cB (cI (cI (cB (cA (cB (cB (cB (cF Try.f49))))))))))) Q := by
  unfold digit_whole_j2 at h
  refine Wp.block ?_
  refine Wp.seq ?_
  refine Wp.region hΓ [] [] [] [0, 1, 6, 7, 8, 23, 24] [] (K' := [(0, .str v0), (1, .val (.int .i64 v1)), (6, .val (.int .i64 v6)), (7, .val (.bool v7)), (8, .val (.int .i64 v24)), (23, .val (.int .i64 v23)), (24, .val (.int .i64 v24))]) (L' := []) (ob := []) (by kernel_rfl) AllP.nil ?_
  refine To.thenN ?_
  refine Wp.seq ?_
  obtain ⟨hc6, h⟩ := chk_of h
  refine Wp.region hΓ [] [] [] [0, 1, 6, 7, 9, 23, 24] [] (K' := [(0, .str v0), (1, .val (.int .i64 v1)), (6, .val (.int .i64 v6)), (7, .val (.bool v7)), (9, .val (.int .i64 (IntKind.wrap .i64 ((IntKind.wrap .i64 ((((v0)[Int.toNat v24]?.getD 0).toNat : Int))) - 48)))), (23, .val (.int .i64 v23)), (24, .val (.int .i64 v24))]) (L' := []) (ob := [(decide (0 ≤ v24 ∧ v24 < (List.length v0 : Int))) = true]) (by kernel_rfl) (AllP.cons hc6 AllP.nil) ?_
  refine To.thenN ?_
  refine Wp.seq ?_
  refine Wp.seq ?_
  obtain ⟨x2, hx2, h⟩ := lett_of h
  refine Wp.region hΓ [] [] [] [0, 1, 6, 7, 9, 23, 24, 37] [] (K' := [(0, .str v0), (1, .val (.int .i64 v1)), (6, .val (.int .i64 v6)), (7, .val (.bool v7)), (9, .val (.int .i64 (IntKind.wrap .i64 ((IntKind.wrap .i64 ((((v0)[Int.toNat v24]?.getD 0).toNat : Int))) - 48)))), (23, .val (.int .i64 v23)), (24, .val (.int .i64 v24)), (37, .val (.bool (bif (decide ((IntKind.wrap .i64 ((IntKind.wrap .i64 ((((v0)[Int.toNat v24]?.getD 0).toNat : Int))) - 48)) < 0)) then true else (decide ((IntKind.wrap .i64 ((IntKind.wrap .i64 ((((v0)[Int.toNat v24]?.getD 0).toNat : Int))) - 48)) > 9)))))]) (L' := []) (ob := []) (by kernel_rfl) AllP.nil ?_
  refine To.eq (K' := [(0, .str v0), (1, .val (.int .i64 v1)), (6, .val (.int .i64 v6)), (7, .val (.bool v7)), (9, .val (.int .i64 (IntKind.wrap .i64 ((IntKind.wrap .i64 ((((v0)[Int.toNat v24]?.getD 0).toNat : Int))) - 48)))), (23, .val (.int .i64 v23)), (24, .val (.int .i64 v24)), (37, .val (.bool x2))]) (L' := []) (by cases hx2; rfl) (by cases hx2; rfl) ?_
  refine To.thenN ?_
  refine Wp.cond (b := x2) (by kernel_rfl) (fun hb => ?_) (fun hb => ?_)
  · replace h := if_t hb h
    refine Wp.seq ?_
    refine Wp.region hΓ [] [] [] [4, 5] [] (K' := [(4, .val (.int .i64 0)), (5, .val (.int .i64 3))]) (L' := []) (ob := []) (by kernel_rfl) AllP.nil ?_
    refine To.thenN ?_
    refine Wp.ret ?_
    refine To.thenR ?_
    refine To.blockR ?_
    refine To.keep (kk := [4, 5]) (kl := []) (K' := [(4, .val (.int .i64 0)), (5, .val (.int .i64 3))]) (L' := []) (by kernel_rfl) (by kernel_rfl) ?_
    cases h
    exact hQ
  · replace h := if_f hb h
    refine Wp.skip ?_
    refine To.thenN ?_
    refine Wp.seq ?_
    obtain ⟨hc5, h⟩ := chk_of h
    obtain ⟨x3, hx3, h⟩ := lett_of h
    refine Wp.region hΓ [] [] [] [0, 1, 6, 7, 9, 23, 24] [] (K' := [(0, .str v0), (1, .val (.int .i64 v1)), (6, .val (.int .i64 v6)), (7, .val (.bool (bif (bif v7 then true else (decide (v6 > (IntKind.wrap .i64 (Int.tdiv (IntKind.wrap .i64 (v1 - (IntKind.wrap .i64 ((IntKind.wrap .i64 ((((v0)[Int.toNat v24]?.getD 0).toNat : Int))) - 48)))) 10))))) then true else (decide (v1 < (IntKind.wrap .i64 ((IntKind.wrap .i64 ((((v0)[Int.toNat v24]?.getD 0).toNat : Int))) - 48))))))), (9, .val (.int .i64 (IntKind.wrap .i64 ((IntKind.wrap .i64 ((((v0)[Int.toNat v24]?.getD 0).toNat : Int))) - 48)))), (23, .val (.int .i64 v23)), (24, .val (.int .i64 v24))]) (L' := []) (ob := [(!(v7 == false) || (10 != 0)) = true]) (by kernel_rfl) (AllP.cons hc5 AllP.nil) ?_
    refine To.eq (K' := [(0, .str v0), (1, .val (.int .i64 v1)), (6, .val (.int .i64 v6)), (7, .val (.bool x3)), (9, .val (.int .i64 (IntKind.wrap .i64 ((IntKind.wrap .i64 ((((v0)[Int.toNat v24]?.getD 0).toNat : Int))) - 48)))), (23, .val (.int .i64 v23)), (24, .val (.int .i64 v24))]) (L' := []) (by cases hx3; rfl) (by cases hx3; rfl) ?_
    refine To.thenN ?_
    refine Wp.seq ?_
    refine Wp.region hΓ [] [] [] [0, 1, 6, 7, 9, 23, 24, 53] [] (K' := [(0, .str v0), (1, .val (.int .i64 v1)), (6, .val (.int .i64 v6)), (7, .val (.bool x3)), (9, .val (.int .i64 (IntKind.wrap .i64 ((IntKind.wrap .i64 ((((v0)[Int.toNat v24]?.getD 0).toNat : Int))) - 48)))), (23, .val (.int .i64 v23)), (24, .val (.int .i64 v24)), (53, .val (.bool (!x3)))]) (L' := []) (ob := []) (by kernel_rfl) AllP.nil ?_
    refine To.thenN ?_
    refine Wp.cond (b := (!x3)) (by kernel_rfl) (fun hb => ?_) (fun hb => ?_)
    · replace h := if_t hb h
      obtain ⟨x4, hx4, h⟩ := lett_of h
      refine Wp.region hΓ [] [] [] [0, 1, 6, 7, 23, 24] [] (K' := [(0, .str v0), (1, .val (.int .i64 v1)), (6, .val (.int .i64 (IntKind.wrap .i64 ((IntKind.wrap .i64 (v6 * 10)) + (IntKind.wrap .i64 ((IntKind.wrap .i64 ((((v0)[Int.toNat v24]?.getD 0).toNat : Int))) - 48)))))), (7, .val (.bool x3)), (23, .val (.int .i64 v23)), (24, .val (.int .i64 v24))]) (L' := []) (ob := []) (by kernel_rfl) AllP.nil ?_
      refine To.eq (K' := [(0, .str v0), (1, .val (.int .i64 v1)), (6, .val (.int .i64 x4)), (7, .val (.bool x3)), (23, .val (.int .i64 v23)), (24, .val (.int .i64 v24))]) (L' := []) (by cases hx4; rfl) (by cases hx4; rfl) ?_
      refine To.blockN ?_
      refine To.keep (kk := [0, 1, 6, 7, 23, 24]) (kl := []) (K' := [(0, .str v0), (1, .val (.int .i64 v1)), (6, .val (.int .i64 x4)), (7, .val (.bool x3)), (23, .val (.int .i64 v23)), (24, .val (.int .i64 v24))]) (L' := []) (by kernel_rfl) (by kernel_rfl) ?_
      cases h
      exact hQ
    · replace h := if_f hb h
      refine Wp.skip ?_
      refine To.blockN ?_
      refine To.keep (kk := [0, 1, 6, 7, 23, 24]) (kl := []) (K' := [(0, .str v0), (1, .val (.int .i64 v1)), (6, .val (.int .i64 v6)), (7, .val (.bool x3)), (23, .val (.int .i64 v23)), (24, .val (.int .i64 v24))]) (L' := []) (by kernel_rfl) (by kernel_rfl) ?_
      cases h
      exact hQ
def digit_whole_l1 (n : Nat) (v0 : List UInt8) (v1 : Int) (v23 : Int) : Nat → Int → Bool → Int → Option (Sum (Int × Bool) (Int × Int))
  | 0, _, _, _ => none
  | k + 1, v6, v7, v24 => if (decide (v24 < v23)) = true then ((digit_whole_j2 n v0 v1 v6 v7 v23 v24).bind fun o2 =>
  (Sum.elim (fun o2 => digit_whole_l1 n v0 v1 v23 k o2.1 o2.2 (IntKind.wrap .i64 (v24 + 1))) (fun o2 => some (.inr (o2.1, o2.2)))) o2)
  else (some (.inl (v6, v7)))
theorem ok_digit_whole_l1 (n : Nat) (v0 : List UInt8) (v1 : Int) (v23 : Int) {F0 : Fz} {w0 : Pt Try.prog} {Q : Exit → Act → World → Prop} (k : Nat) : ∀ (v6 : Int) (v7 : Bool) (v24 : Int) (o : Sum (Int × Bool) (Int × Int)), digit_whole_l1 n v0 v1 v23 k v6 v7 v24 = some o → (Sum.elim (fun s => To 61 F0 w0 [(6, .val (.int .i64 s.1)), (7, .val (.bool s.2))] [] (.exit 0) Q) (fun s => To 61 F0 w0 [(4, .val (.int .i64 s.1)), (5, .val (.int .i64 s.2))] [] .ret Q)) o → WL Try.prog 61 F0 w0 [(0, .str v0), (1, .val (.int .i64 v1)), (6, .val (.int .i64 v6)), (7, .val (.bool v7)), (23, .val (.int .i64 v23)), (24, .val (.int .i64 v24))] [] (cI (cI (cB (cA (cB (cB (cB (cF Try.f49)))))))) Q := by
  induction k with
  | zero => intro v6 v7 v24 o h; cases h
  | succ k ih =>
    intro v6 v7 v24 o h hQ
    rw [digit_whole_l1] at h
    refine WL.round ?_
    refine Wp.seq ?_
    refine Wp.region hΓ [] [] [] [0, 1, 6, 7, 23, 24, 25] [] (K' := [(0, .str v0), (1, .val (.int .i64 v1)), (6, .val (.int .i64 v6)), (7, .val (.bool v7)), (23, .val (.int .i64 v23)), (24, .val (.int .i64 v24)), (25, .val (.bool (decide (v24 < v23))))]) (L' := []) (ob := []) (by kernel_rfl) AllP.nil ?_
    refine To.thenN ?_
    refine Wp.seq ?_
    refine Wp.cond (b := (decide (v24 < v23))) (by kernel_rfl) (fun hb => ?_) (fun hb => ?_)
    · replace h := if_t hb h
      refine Wp.skip ?_
      refine To.thenN ?_
      refine Wp.seq ?_
      obtain ⟨o2, ho2, h⟩ := bind_of h
      refine Wp.keep (kk := [0, 1, 6, 7, 23, 24]) (kl := []) (K' := [(0, .str v0), (1, .val (.int .i64 v1)), (6, .val (.int .i64 v6)), (7, .val (.bool v7)), (23, .val (.int .i64 v23)), (24, .val (.int .i64 v24))]) (L' := []) (by kernel_rfl) (by kernel_rfl) ?_
      refine ok_digit_whole_j2 n v0 v1 v6 v7 v23 v24 o2 ho2 ?_
      rcases o2 with o2 | o2
      · replace h := sum_l h
        refine To.thenN ?_
        refine Wp.region hΓ [] [] [] [0, 1, 6, 7, 23, 24] [] (K' := [(0, .str v0), (1, .val (.int .i64 v1)), (6, .val (.int .i64 o2.1)), (7, .val (.bool o2.2)), (23, .val (.int .i64 v23)), (24, .val (.int .i64 (IntKind.wrap .i64 (v24 + 1))))]) (L' := []) (ob := []) (by kernel_rfl) AllP.nil ?_
        refine To.keep (kk := [0, 1, 6, 7, 23, 24]) (kl := []) (K' := [(0, .str v0), (1, .val (.int .i64 v1)), (6, .val (.int .i64 o2.1)), (7, .val (.bool o2.2)), (23, .val (.int .i64 v23)), (24, .val (.int .i64 (IntKind.wrap .i64 (v24 + 1))))]) (L' := []) (by kernel_rfl) (by kernel_rfl) ?_
        refine To.again ?_
        exact ih o2.1 o2.2 (IntKind.wrap .i64 (v24 + 1)) _ h hQ
      · replace h := sum_r h
        refine To.thenR ?_
        refine To.thenR ?_
        refine To.keep (kk := [4, 5]) (kl := []) (K' := [(4, .val (.int .i64 o2.1)), (5, .val (.int .i64 o2.2))]) (L' := []) (by kernel_rfl) (by kernel_rfl) ?_
        cases h
        exact hQ
    · replace h := if_f hb h
      refine Wp.exit ?_
      refine To.thenX ?_
      refine To.thenX ?_
      refine To.keep (kk := [6, 7]) (kl := []) (K' := [(6, .val (.int .i64 v6)), (7, .val (.bool v7))]) (L' := []) (by kernel_rfl) (by kernel_rfl) ?_
      cases h
      exact hQ
def digit_whole (n : Nat) (a0 : List UInt8) (a1 : Int) : Option (Int × Int) :=
  if ((!(((decide ((List.length a0 : Int) > 1)) == true) && ((a0 == []) == false)) || decide (0 ≤ (0 : Int) ∧ (0 : Int) < (List.length a0 : Int)))) = true then (lett ((bif (a0 == []) then true else (bif (decide ((List.length a0 : Int) > 1)) then ((((a0)[Int.toNat 0]?.getD 0).toNat : Int) == 48) else false)) : Bool) fun x1 =>
  if x1 = true then (some (0, 3))
  else ((digit_whole_l1 n a0 a1 (List.length a0 : Int) n 0 false 0).bind fun o2 =>
  (Sum.elim (fun o2 => if o2.2 = true then (some (0, 9))
  else (some (o2.1, 0))) (fun o2 => some (o2.1, o2.2))) o2)) else none
theorem ok_digit_whole (n : Nat) (a0 : List UInt8) (a1 : Int) (r : Int × Int) (h : digit_whole n a0 a1 = some r) : CallsX Try.prog 49 [.str a0, .val (.int .i64 a1)] (.tup [.val (.int .i64 r.1), .val (.int .i64 r.2)]) := by
  unfold digit_whole at h
  refine callsX_of (fn := Try.f49) (by kernel_rfl) rfl (by kernel_rfl) (Nat.le_of_ble_eq_true (by kernel_rfl)) fun F0 w0 _ => ?_
  refine Wp.keep (kk := [0, 1]) (kl := []) (K' := [(0, .str a0), (1, .val (.int .i64 a1))]) (L' := []) (by kernel_rfl) (by kernel_rfl) ?_
  refine Wp.seq ?_
  refine Wp.region hΓ [] [] [] [0, 1] [] (K' := [(0, .str a0), (1, .val (.int .i64 a1))]) (L' := []) (ob := []) (by kernel_rfl) AllP.nil ?_
  refine To.thenN ?_
  refine Wp.seq ?_
  refine Wp.seq ?_
  obtain ⟨hc3, h⟩ := chk_of h
  obtain ⟨x1, hx1, h⟩ := lett_of h
  refine Wp.region hΓ [] [] [] [0, 1, 21] [] (K' := [(0, .str a0), (1, .val (.int .i64 a1)), (21, .val (.bool (bif (a0 == []) then true else (bif (decide ((List.length a0 : Int) > 1)) then ((((a0)[Int.toNat 0]?.getD 0).toNat : Int) == 48) else false))))]) (L' := []) (ob := [(!(((decide ((List.length a0 : Int) > 1)) == true) && ((a0 == []) == false)) || decide (0 ≤ (0 : Int) ∧ (0 : Int) < (List.length a0 : Int))) = true]) (by kernel_rfl) (AllP.cons hc3 AllP.nil) ?_
  refine To.eq (K' := [(0, .str a0), (1, .val (.int .i64 a1)), (21, .val (.bool x1))]) (L' := []) (by cases hx1; rfl) (by cases hx1; rfl) ?_
  refine To.thenN ?_
  refine Wp.cond (b := x1) (by kernel_rfl) (fun hb => ?_) (fun hb => ?_)
  · replace h := if_t hb h
    refine Wp.seq ?_
    refine Wp.region hΓ [] [] [] [4, 5] [] (K' := [(4, .val (.int .i64 0)), (5, .val (.int .i64 3))]) (L' := []) (ob := []) (by kernel_rfl) AllP.nil ?_
    refine To.thenN ?_
    refine Wp.ret ?_
    refine To.thenR ?_
    refine To.keep (kk := [4, 5]) (kl := []) (K' := [(4, .val (.int .i64 0)), (5, .val (.int .i64 3))]) (L' := []) (by kernel_rfl) (by kernel_rfl) ?_
    cases h
    exact To.done hΓ (by kernel_rfl)
  · replace h := if_f hb h
    refine Wp.skip ?_
    refine To.thenN ?_
    refine Wp.seq ?_
    refine Wp.region hΓ [] [] [] [0, 1, 6, 7] [] (K' := [(0, .str a0), (1, .val (.int .i64 a1)), (6, .val (.int .i64 0)), (7, .val (.bool false))]) (L' := []) (ob := []) (by kernel_rfl) AllP.nil ?_
    refine To.thenN ?_
    refine Wp.seq ?_
    refine Wp.seq ?_
    refine Wp.region hΓ [] [] [] [0, 1, 6, 7, 23, 24] [] (K' := [(0, .str a0), (1, .val (.int .i64 a1)), (6, .val (.int .i64 0)), (7, .val (.bool false)), (23, .val (.int .i64 (List.length a0 : Int))), (24, .val (.int .i64 0))]) (L' := []) (ob := []) (by kernel_rfl) AllP.nil ?_
    refine To.thenN ?_
    refine Wp.block ?_
    obtain ⟨o2, ho2, h⟩ := bind_of h
    refine Wp.keep (kk := [0, 1, 6, 7, 23, 24]) (kl := []) (K' := [(0, .str a0), (1, .val (.int .i64 a1)), (6, .val (.int .i64 0)), (7, .val (.bool false)), (23, .val (.int .i64 (List.length a0 : Int))), (24, .val (.int .i64 0))]) (L' := []) (by kernel_rfl) (by kernel_rfl) ?_
    refine Wp.loopL ?_
    refine ok_digit_whole_l1 n a0 a1 (List.length a0 : Int) n 0 false 0 o2 ho2 ?_
    rcases o2 with o2 | o2
    · replace h := sum_l h
      refine To.blockX ?_
      refine To.thenN ?_
      refine Wp.seq ?_
      refine Wp.seq ?_
      refine Wp.region hΓ [] [] [] [6, 59] [] (K' := [(6, .val (.int .i64 o2.1)), (59, .val (.bool o2.2))]) (L' := []) (ob := []) (by kernel_rfl) AllP.nil ?_
      refine To.thenN ?_
      refine Wp.cond (b := o2.2) (by kernel_rfl) (fun hb => ?_) (fun hb => ?_)
      · replace h := if_t hb h
        refine Wp.seq ?_
        refine Wp.region hΓ [] [] [] [4, 5] [] (K' := [(4, .val (.int .i64 0)), (5, .val (.int .i64 9))]) (L' := []) (ob := []) (by kernel_rfl) AllP.nil ?_
        refine To.thenN ?_
        refine Wp.ret ?_
        refine To.thenR ?_
        refine To.keep (kk := [4, 5]) (kl := []) (K' := [(4, .val (.int .i64 0)), (5, .val (.int .i64 9))]) (L' := []) (by kernel_rfl) (by kernel_rfl) ?_
        cases h
        exact To.done hΓ (by kernel_rfl)
      · replace h := if_f hb h
        refine Wp.skip ?_
        refine To.thenN ?_
        refine Wp.seq ?_
        refine Wp.region hΓ [] [] [] [4, 5] [] (K' := [(4, .val (.int .i64 o2.1)), (5, .val (.int .i64 0))]) (L' := []) (ob := []) (by kernel_rfl) AllP.nil ?_
        refine To.thenN ?_
        refine Wp.ret ?_
        refine To.keep (kk := [4, 5]) (kl := []) (K' := [(4, .val (.int .i64 o2.1)), (5, .val (.int .i64 0))]) (L' := []) (by kernel_rfl) (by kernel_rfl) ?_
        cases h
        exact To.done hΓ (by kernel_rfl)
    · replace h := sum_r h
      refine To.blockR ?_
      refine To.thenR ?_
      refine To.keep (kk := [4, 5]) (kl := []) (K' := [(4, .val (.int .i64 o2.1)), (5, .val (.int .i64 o2.2))]) (L' := []) (by kernel_rfl) (by kernel_rfl) ?_
      cases h
      exact To.done hΓ (by kernel_rfl)
def digit_Count (n : Nat) (a0 : List UInt8) (a1 : Int) : Option (Int × Int) :=
  if (decide (a1 < 0)) = true then (some (0, 2))
  else ((digit_whole n a0 a1).bind fun r1 =>
  some (r1.1, r1.2))
theorem ok_digit_Count (n : Nat) (a0 : List UInt8) (a1 : Int) (r : Int × Int) (h : digit_Count n a0 a1 = some r) : CallsX Try.prog 36 [.str a0, .val (.int .i64 a1)] (.tup [.val (.int .i64 r.1), .val (.int .i64 r.2)]) := by
  unfold digit_Count at h
  refine callsX_of (fn := Try.f36) (by kernel_rfl) rfl (by kernel_rfl) (Nat.le_of_ble_eq_true (by kernel_rfl)) fun F0 w0 _ => ?_
  refine Wp.keep (kk := [0, 1]) (kl := []) (K' := [(0, .str a0), (1, .val (.int .i64 a1))]) (L' := []) (by kernel_rfl) (by kernel_rfl) ?_
  refine Wp.seq ?_
  refine Wp.region hΓ [] [] [] [0, 1] [] (K' := [(0, .str a0), (1, .val (.int .i64 a1))]) (L' := []) (ob := []) (by kernel_rfl) AllP.nil ?_
  refine To.thenN ?_
  refine Wp.seq ?_
  refine Wp.seq ?_
  refine Wp.region hΓ [] [] [] [0, 1, 7] [] (K' := [(0, .str a0), (1, .val (.int .i64 a1)), (7, .val (.bool (decide (a1 < 0))))]) (L' := []) (ob := []) (by kernel_rfl) AllP.nil ?_
  refine To.thenN ?_
  refine Wp.cond (b := (decide (a1 < 0))) (by kernel_rfl) (fun hb => ?_) (fun hb => ?_)
  · replace h := if_t hb h
    refine Wp.seq ?_
    refine Wp.region hΓ [] [] [] [4, 5] [] (K' := [(4, .val (.int .i64 0)), (5, .val (.int .i64 2))]) (L' := []) (ob := []) (by kernel_rfl) AllP.nil ?_
    refine To.thenN ?_
    refine Wp.ret ?_
    refine To.thenR ?_
    refine To.keep (kk := [4, 5]) (kl := []) (K' := [(4, .val (.int .i64 0)), (5, .val (.int .i64 2))]) (L' := []) (by kernel_rfl) (by kernel_rfl) ?_
    cases h
    exact To.done hΓ (by kernel_rfl)
  · replace h := if_f hb h
    refine Wp.skip ?_
    refine To.thenN ?_
    refine Wp.seq ?_
    obtain ⟨r1, hr1, h⟩ := bind_of h
    refine Wp.region hΓ [] [(2, .tup [.val (.int .i64 r1.1), .val (.int .i64 r1.2)])] [] [4, 5] [] (K' := [(4, .val (.int .i64 r1.1)), (5, .val (.int .i64 r1.2))]) (L' := []) (ob := [(true = true → CX Try.prog 49 [.str a0, .val (.int .i64 a1)] (.tup [.val (.int .i64 r1.1), .val (.int .i64 r1.2)]))]) (by kernel_rfl) (AllP.cons (fun _ => cx (ok_digit_whole n a0 a1 _ hr1)) AllP.nil) ?_
    refine To.thenN ?_
    refine Wp.ret ?_
    refine To.keep (kk := [4, 5]) (kl := []) (K' := [(4, .val (.int .i64 r1.1)), (5, .val (.int .i64 r1.2))]) (L' := []) (by kernel_rfl) (by kernel_rfl) ?_
    cases h
    exact To.done hΓ (by kernel_rfl)
def slices_Index_string_string_l1 (n : Nat) (v0 : List (List UInt8)) (v1 : List UInt8) (v7 : Int) : Nat → Int → Option (Sum (Unit) (Int))
  | 0, _ => none
  | k + 1, v8 => if (decide (v8 < v7)) = true then (if (decide (0 ≤ v8 ∧ v8 < (List.length v0 : Int))) = true then (if (v1 == ((v0)[Int.toNat v8]?.getD [])) = true then (some (.inr v8))
  else (slices_Index_string_string_l1 n v0 v1 v7 k (IntKind.wrap .i64 (v8 + 1)))) else none)
  else (some (.inl ()))
theorem ok_slices_Index_string_string_l1 (n : Nat) (v0 : List (List UInt8)) (v1 : List UInt8) (v7 : Int) {F0 : Fz} {w0 : Pt Try.prog} {Q : Exit → Act → World → Prop} (k : Nat) : ∀ (v8 : Int) (o : Sum (Unit) (Int)), slices_Index_string_string_l1 n v0 v1 v7 k v8 = some o → (Sum.elim (fun s => To 19 F0 w0 [] [] (.exit 0) Q) (fun s => To 19 F0 w0 [(4, .val (.int .i64 s))] [] .ret Q)) o → WL Try.prog 19 F0 w0 [(0, .recs (α := List UInt8) [] E_string v0), (1, .str v1), (7, .val (.int .i64 v7)), (8, .val (.int .i64 v8))] [] (cI (cI (cB (cA (cB (cF Try.f56)))))) Q := by
  induction k with
  | zero => intro v8 o h; cases h
  | succ k ih =>
    intro v8 o h hQ
    rw [slices_Index_string_string_l1] at h
    refine WL.round ?_
    refine Wp.seq ?_
    refine Wp.region hΓ [] [] [] [0, 1, 7, 8, 9] [] (K' := [(0, .recs (α := List UInt8) [] E_string v0), (1, .str v1), (7, .val (.int .i64 v7)), (8, .val (.int .i64 v8)), (9, .val (.bool (decide (v8 < v7))))]) (L' := []) (ob := []) (by kernel_rfl) AllP.nil ?_
    refine To.thenN ?_
    refine Wp.seq ?_
    refine Wp.cond (b := (decide (v8 < v7))) (by kernel_rfl) (fun hb => ?_) (fun hb => ?_)
    · replace h := if_t hb h
      refine Wp.skip ?_
      refine To.thenN ?_
      refine Wp.seq ?_
      refine Wp.block ?_
      refine Wp.seq ?_
      refine Wp.region hΓ [] [] [] [0, 1, 5, 7, 8] [] (K' := [(0, .recs (α := List UInt8) [] E_string v0), (1, .str v1), (5, .val (.int .i64 v8)), (7, .val (.int .i64 v7)), (8, .val (.int .i64 v8))]) (L' := []) (ob := []) (by kernel_rfl) AllP.nil ?_
      refine To.thenN ?_
      refine Wp.seq ?_
      obtain ⟨hc1, h⟩ := chk_of h
      refine Wp.region hΓ [] [] [] [0, 1, 5, 7, 8, 16] [] (K' := [(0, .recs (α := List UInt8) [] E_string v0), (1, .str v1), (5, .val (.int .i64 v8)), (7, .val (.int .i64 v7)), (8, .val (.int .i64 v8)), (16, .val (.bool (v1 == ((v0)[Int.toNat v8]?.getD []))))]) (L' := []) (ob := [(decide (0 ≤ v8 ∧ v8 < (List.length v0 : Int))) = true]) (by kernel_rfl) (AllP.cons hc1 AllP.nil) ?_
      refine To.thenN ?_
      refine Wp.cond (b := (v1 == ((v0)[Int.toNat v8]?.getD []))) (by kernel_rfl) (fun hb => ?_) (fun hb => ?_)
      · replace h := if_t hb h
        refine Wp.seq ?_
        refine Wp.region hΓ [] [] [] [4] [] (K' := [(4, .val (.int .i64 v8))]) (L' := []) (ob := []) (by kernel_rfl) AllP.nil ?_
        refine To.thenN ?_
        refine Wp.ret ?_
        refine To.blockR ?_
        refine To.thenR ?_
        refine To.thenR ?_
        refine To.keep (kk := [4]) (kl := []) (K' := [(4, .val (.int .i64 v8))]) (L' := []) (by kernel_rfl) (by kernel_rfl) ?_
        cases h
        exact hQ
      · replace h := if_f hb h
        refine Wp.skip ?_
        refine To.blockN ?_
        refine To.thenN ?_
        refine Wp.region hΓ [] [] [] [0, 1, 7, 8] [] (K' := [(0, .recs (α := List UInt8) [] E_string v0), (1, .str v1), (7, .val (.int .i64 v7)), (8, .val (.int .i64 (IntKind.wrap .i64 (v8 + 1))))]) (L' := []) (ob := []) (by kernel_rfl) AllP.nil ?_
        refine To.keep (kk := [0, 1, 7, 8]) (kl := []) (K' := [(0, .recs (α := List UInt8) [] E_string v0), (1, .str v1), (7, .val (.int .i64 v7)), (8, .val (.int .i64 (IntKind.wrap .i64 (v8 + 1))))]) (L' := []) (by kernel_rfl) (by kernel_rfl) ?_
        refine To.again ?_
        exact ih (IntKind.wrap .i64 (v8 + 1)) _ h hQ
    · replace h := if_f hb h
      refine Wp.exit ?_
      refine To.thenX ?_
      refine To.thenX ?_
      refine To.keep (kk := []) (kl := []) (K' := []) (L' := []) (by kernel_rfl) (by kernel_rfl) ?_
      cases h
      exact hQ
def slices_Index_string_string (n : Nat) (a0 : List (List UInt8)) (a1 : List UInt8) : Option (Int) :=
  (slices_Index_string_string_l1 n a0 a1 (List.length a0 : Int) n 0).bind fun o1 =>
  (Sum.elim (fun o1 => some (-1)) (fun o1 => some o1)) o1
theorem ok_slices_Index_string_string (n : Nat) (a0 : List (List UInt8)) (a1 : List UInt8) (r : Int) (h : slices_Index_string_string n a0 a1 = some r) : CallsX Try.prog 56 [.recs (α := List UInt8) [] E_string a0, .str a1] (.val (.int .i64 r)) := by
  unfold slices_Index_string_string at h
  refine callsX_of (fn := Try.f56) (by kernel_rfl) rfl (by kernel_rfl) (Nat.le_of_ble_eq_true (by kernel_rfl)) fun F0 w0 _ => ?_
  refine Wp.keep (kk := [0, 1]) (kl := []) (K' := [(0, .recs (α := List UInt8) [] E_string a0), (1, .str a1)]) (L' := []) (by kernel_rfl) (by kernel_rfl) ?_
  refine Wp.seq ?_
  refine Wp.region hΓ [] [] [] [0, 1] [] (K' := [(0, .recs (α := List UInt8) [] E_string a0), (1, .str a1)]) (L' := []) (ob := []) (by kernel_rfl) AllP.nil ?_
  refine To.thenN ?_
  refine Wp.seq ?_
  refine Wp.seq ?_
  refine Wp.region hΓ [] [] [] [0, 1, 7, 8] [] (K' := [(0, .recs (α := List UInt8) [] E_string a0), (1, .str a1), (7, .val (.int .i64 (List.length a0 : Int))), (8, .val (.int .i64 0))]) (L' := []) (ob := []) (by kernel_rfl) AllP.nil ?_
  refine To.thenN ?_
  refine Wp.block ?_
  obtain ⟨o1, ho1, h⟩ := bind_of h
  refine Wp.keep (kk := [0, 1, 7, 8]) (kl := []) (K' := [(0, .recs (α := List UInt8) [] E_string a0), (1, .str a1), (7, .val (.int .i64 (List.length a0 : Int))), (8, .val (.int .i64 0))]) (L' := []) (by kernel_rfl) (by kernel_rfl) ?_
  refine Wp.loopL ?_
  refine ok_slices_Index_string_string_l1 n a0 a1 (List.length a0 : Int) n 0 o1 ho1 ?_
  rcases o1 with o1 | o1
  · replace h := sum_l h
    refine To.blockX ?_
    refine To.thenN ?_
    refine Wp.seq ?_
    refine Wp.region hΓ [] [] [] [4] [] (K' := [(4, .val (.int .i64 (-1)))]) (L' := []) (ob := []) (by kernel_rfl) AllP.nil ?_
    refine To.thenN ?_
    refine Wp.ret ?_
    refine To.keep (kk := [4]) (kl := []) (K' := [(4, .val (.int .i64 (-1)))]) (L' := []) (by kernel_rfl) (by kernel_rfl) ?_
    cases h
    exact To.done hΓ (by kernel_rfl)
  · replace h := sum_r h
    refine To.blockR ?_
    refine To.thenR ?_
    refine To.keep (kk := [4]) (kl := []) (K' := [(4, .val (.int .i64 o1))]) (L' := []) (by kernel_rfl) (by kernel_rfl) ?_
    cases h
    exact To.done hΓ (by kernel_rfl)
def name_At (n : Nat) (a0 : List (List UInt8)) (a1 : List UInt8) : Option (Int) :=
  (slices_Index_string_string n a0 a1).bind fun r1 =>
  some r1
theorem ok_name_At (n : Nat) (a0 : List (List UInt8)) (a1 : List UInt8) (r : Int) (h : name_At n a0 a1 = some r) : CallsX Try.prog 50 [.recs (α := List UInt8) [] E_string a0, .str a1] (.val (.int .i64 r)) := by
  unfold name_At at h
  refine callsX_of (fn := Try.f50) (by kernel_rfl) rfl (by kernel_rfl) (Nat.le_of_ble_eq_true (by kernel_rfl)) fun F0 w0 _ => ?_
  refine Wp.keep (kk := [0, 1]) (kl := []) (K' := [(0, .recs (α := List UInt8) [] E_string a0), (1, .str a1)]) (L' := []) (by kernel_rfl) (by kernel_rfl) ?_
  refine Wp.seq ?_
  refine Wp.region hΓ [] [] [] [0, 1] [] (K' := [(0, .recs (α := List UInt8) [] E_string a0), (1, .str a1)]) (L' := []) (ob := []) (by kernel_rfl) AllP.nil ?_
  refine To.thenN ?_
  refine Wp.seq ?_
  obtain ⟨r1, hr1, h⟩ := bind_of h
  refine Wp.region hΓ [] [(2, .val (.int .i64 r1))] [] [4] [] (K' := [(4, .val (.int .i64 r1))]) (L' := []) (ob := [(true = true → CX Try.prog 56 [.recs (α := List UInt8) [] E_string a0, .str a1] (.val (.int .i64 r1)))]) (by kernel_rfl) (AllP.cons (fun _ => cx (ok_slices_Index_string_string n a0 a1 _ hr1)) AllP.nil) ?_
  refine To.thenN ?_
  refine Wp.ret ?_
  refine To.keep (kk := [4]) (kl := []) (K' := [(4, .val (.int .i64 r1))]) (L' := []) (by kernel_rfl) (by kernel_rfl) ?_
  cases h
  exact To.done hΓ (by kernel_rfl)
def node_place (n : Nat) (a0 : S_api_Node) (a1 : List UInt8) : Option (Int) :=
  if (bif (a0.f_Kind != 3) then true else ((List.length a0.f_Keys : Int) != (List.length a0.f_Kids : Int))) = true then (some (-1))
  else ((name_At n a0.f_Keys a1).bind fun r1 =>
  some r1)
theorem ok_node_place (n : Nat) (a0 : S_api_Node) (a1 : List UInt8) (r : Int) (h : node_place n a0 a1 = some r) : CallsX Try.prog 40 [.agg [.val (.int .i64 a0.f_Kind), .str a0.f_Text, .recs (α := List UInt8) [] E_string a0.f_Keys, .tree (α := S_api_Node) (S_api_Node.mk 0 [] [] []) pre_S_api_Node kids_S_api_Node a0.f_Kids], .str a1] (.val (.int .i64 r)) := by
  unfold node_place at h
  refine callsX_of (fn := Try.f40) (by kernel_rfl) rfl (by kernel_rfl) (Nat.le_of_ble_eq_true (by kernel_rfl)) fun F0 w0 _ => ?_
  refine Wp.keep (kk := [0, 1]) (kl := []) (K' := [(0, .agg [.val (.int .i64 a0.f_Kind), .str a0.f_Text, .recs (α := List UInt8) [] E_string a0.f_Keys, .tree (α := S_api_Node) (S_api_Node.mk 0 [] [] []) pre_S_api_Node kids_S_api_Node a0.f_Kids]), (1, .str a1)]) (L' := []) (by kernel_rfl) (by kernel_rfl) ?_
  refine Wp.seq ?_
  refine Wp.region hΓ [] [] [] [1, 2] [2] (K' := [(1, .str a1), (2, .own 2 0)]) (L' := [(2, 25, [.val (.int .i64 a0.f_Kind), .str a0.f_Text, .recs (α := List UInt8) [] E_string a0.f_Keys, .tree (α := S_api_Node) (S_api_Node.mk 0 [] [] []) pre_S_api_Node kids_S_api_Node a0.f_Kids])]) (ob := []) (by kernel_rfl) AllP.nil ?_
  refine To.thenN ?_
  refine Wp.seq ?_
  refine Wp.seq ?_
  refine Wp.region hΓ [] [] [] [1, 2, 16] [2] (K' := [(1, .str a1), (2, .own 2 0), (16, .val (.bool (bif (a0.f_Kind != 3) then true else ((List.length a0.f_Keys : Int) != (List.length a0.f_Kids : Int)))))]) (L' := [(2, 25, [.val (.int .i64 a0.f_Kind), .str a0.f_Text, .recs (α := List UInt8) [] E_string a0.f_Keys, .tree (α := S_api_Node) (S_api_Node.mk 0 [] [] []) pre_S_api_Node kids_S_api_Node a0.f_Kids])]) (ob := []) (by kernel_rfl) AllP.nil ?_
  refine To.thenN ?_
  refine Wp.cond (b := (bif (a0.f_Kind != 3) then true else ((List.length a0.f_Keys : Int) != (List.length a0.f_Kids : Int)))) (by kernel_rfl) (fun hb => ?_) (fun hb => ?_)
  · replace h := if_t hb h
    refine Wp.seq ?_
    refine Wp.region hΓ [] [] [] [4] [] (K' := [(4, .val (.int .i64 (-1)))]) (L' := []) (ob := []) (by kernel_rfl) AllP.nil ?_
    refine To.thenN ?_
    refine Wp.ret ?_
    refine To.thenR ?_
    refine To.keep (kk := [4]) (kl := []) (K' := [(4, .val (.int .i64 (-1)))]) (L' := []) (by kernel_rfl) (by kernel_rfl) ?_
    cases h
    exact To.done hΓ (by kernel_rfl)
  · replace h := if_f hb h
    refine Wp.skip ?_
    refine To.thenN ?_
    refine Wp.seq ?_
    obtain ⟨r1, hr1, h⟩ := bind_of h
    refine Wp.region hΓ [] [(3, .val (.int .i64 r1))] [] [4] [] (K' := [(4, .val (.int .i64 r1))]) (L' := []) (ob := [(true = true → CX Try.prog 50 [.recs (α := List UInt8) [] E_string a0.f_Keys, .str a1] (.val (.int .i64 r1)))]) (by kernel_rfl) (AllP.cons (fun _ => cx (ok_name_At n a0.f_Keys a1 _ hr1)) AllP.nil) ?_
    refine To.thenN ?_
    refine Wp.ret ?_
    refine To.keep (kk := [4]) (kl := []) (K' := [(4, .val (.int .i64 r1))]) (L' := []) (by kernel_rfl) (by kernel_rfl) ?_
    cases h
    exact To.done hΓ (by kernel_rfl)
def node_Get (n : Nat) (a0 : S_api_Node) (a1 : List UInt8) : Option (S_api_Node × Bool) :=
  (node_place n a0 a1).bind fun r1 =>
  if (decide (r1 < 0)) = true then (some ((S_api_Node.mk 0 [] [] []), false))
  else (if (decide (0 ≤ r1 ∧ r1 < (List.length a0.f_Kids : Int))) = true then (some ((S_api_Node.mk (((a0.f_Kids)[Int.toNat r1]?.getD (S_api_Node.mk 0 [] [] [])).f_Kind) (((a0.f_Kids)[Int.toNat r1]?.getD (S_api_Node.mk 0 [] [] [])).f_Text) (((a0.f_Kids)[Int.toNat r1]?.getD (S_api_Node.mk 0 [] [] [])).f_Keys) (((a0.f_Kids)[Int.toNat r1]?.getD (S_api_Node.mk 0 [] [] [])).f_Kids)), true)) else none)
theorem ok_node_Get (n : Nat) (a0 : S_api_Node) (a1 : List UInt8) (r : S_api_Node × Bool) (h : node_Get n a0 a1 = some r) : CallsX Try.prog 17 [.agg [.val (.int .i64 a0.f_Kind), .str a0.f_Text, .recs (α := List UInt8) [] E_string a0.f_Keys, .tree (α := S_api_Node) (S_api_Node.mk 0 [] [] []) pre_S_api_Node kids_S_api_Node a0.f_Kids], .str a1] (.tup [.agg [.val (.int .i64 r.1.f_Kind), .str r.1.f_Text, .recs (α := List UInt8) [] E_string r.1.f_Keys, .tree (α := S_api_Node) (S_api_Node.mk 0 [] [] []) pre_S_api_Node kids_S_api_Node r.1.f_Kids], .val (.bool r.2)]) := by
  unfold node_Get at h
  refine callsX_of (fn := Try.f17) (by kernel_rfl) rfl (by kernel_rfl) (Nat.le_of_ble_eq_true (by kernel_rfl)) fun F0 w0 _ => ?_
  refine Wp.keep (kk := [0, 1]) (kl := []) (K' := [(0, .agg [.val (.int .i64 a0.f_Kind), .str a0.f_Text, .recs (α := List UInt8) [] E_string a0.f_Keys, .tree (α := S_api_Node) (S_api_Node.mk 0 [] [] []) pre_S_api_Node kids_S_api_Node a0.f_Kids]), (1, .str a1)]) (L' := []) (by kernel_rfl) (by kernel_rfl) ?_
  refine Wp.seq ?_
  refine Wp.region hΓ [] [] [] [1, 2, 4] [2, 4] (K' := [(1, .str a1), (2, .own 2 0), (4, .own 4 0)]) (L' := [(2, 25, [.val (.int .i64 a0.f_Kind), .str a0.f_Text, .recs (α := List UInt8) [] E_string a0.f_Keys, .tree (α := S_api_Node) (S_api_Node.mk 0 [] [] []) pre_S_api_Node kids_S_api_Node a0.f_Kids]), (4, 25, [.val (.int .i64 0), .str [], .val (.slice none 0 0), .val (.slice none 0 0)])]) (ob := []) (by kernel_rfl) AllP.nil ?_
  refine To.thenN ?_
  refine Wp.seq ?_
  obtain ⟨r1, hr1, h⟩ := bind_of h
  refine Wp.region hΓ [] [(2, .val (.int .i64 r1))] [] [2, 4, 6] [2, 4] (K' := [(2, .own 2 0), (4, .own 4 0), (6, .val (.int .i64 r1))]) (L' := [(2, 25, [.val (.int .i64 a0.f_Kind), .str a0.f_Text, .recs (α := List UInt8) [] E_string a0.f_Keys, .tree (α := S_api_Node) (S_api_Node.mk 0 [] [] []) pre_S_api_Node kids_S_api_Node a0.f_Kids]), (4, 25, [.val (.int .i64 0), .str [], .val (.slice none 0 0), .val (.slice none 0 0)])]) (ob := [(true = true → CX Try.prog 40 [.agg [.val (.int .i64 a0.f_Kind), .str a0.f_Text, .recs (α := List UInt8) [] E_string a0.f_Keys, .tree (α := S_api_Node) (S_api_Node.mk 0 [] [] []) pre_S_api_Node kids_S_api_Node a0.f_Kids], .str a1] (.val (.int .i64 r1)))]) (by kernel_rfl) (AllP.cons (fun _ => cx (ok_node_place n a0 a1 _ hr1)) AllP.nil) ?_
  refine To.thenN ?_
  refine Wp.seq ?_
  refine Wp.seq ?_
  refine Wp.region hΓ [] [] [] [2, 4, 6, 11] [2, 4] (K' := [(2, .own 2 0), (4, .own 4 0), (6, .val (.int .i64 r1)), (11, .val (.bool (decide (r1 < 0))))]) (L' := [(2, 25, [.val (.int .i64 a0.f_Kind), .str a0.f_Text, .recs (α := List UInt8) [] E_string a0.f_Keys, .tree (α := S_api_Node) (S_api_Node.mk 0 [] [] []) pre_S_api_Node kids_S_api_Node a0.f_Kids]), (4, 25, [.val (.int .i64 0), .str [], .val (.slice none 0 0), .val (.slice none 0 0)])]) (ob := []) (by kernel_rfl) AllP.nil ?_
  refine To.thenN ?_
  refine Wp.cond (b := (decide (r1 < 0))) (by kernel_rfl) (fun hb => ?_) (fun hb => ?_)
  · replace h := if_t hb h
    refine Wp.seq ?_
    refine Wp.region hΓ [] [] [] [4, 5] [4] (K' := [(4, .own 4 0), (5, .val (.bool false))]) (L' := [(4, 25, [.val (.int .i64 0), .str [], .val (.slice none 0 0), .val (.slice none 0 0)])]) (ob := []) (by kernel_rfl) AllP.nil ?_
    refine To.thenN ?_
    refine Wp.ret ?_
    refine To.thenR ?_
    refine To.keep (kk := [4, 5]) (kl := [4]) (K' := [(4, .own 4 0), (5, .val (.bool false))]) (L' := [(4, 25, [.val (.int .i64 0), .str [], .val (.slice none 0 0), .val (.slice none 0 0)])]) (by kernel_rfl) (by kernel_rfl) ?_
    refine To.weak (K' := [(4, .own 4 0), (5, .val (.bool false))]) (L' := [(4, 25, [.val (.int .i64 0), .str [], .recs (α := List UInt8) [] E_string [], .tree (α := S_api_Node) (S_api_Node.mk 0 [] [] []) pre_S_api_Node kids_S_api_Node []])]) (.cons (.refl _) (.cons (.refl _) .nil)) (.cons (.cons (.refl _) (.cons (.refl _) (.cons (.zero _ _) (.cons (.zeroT _ _ _) .nil)))) .nil) ?_
    cases h
    exact To.done hΓ (by kernel_rfl)
  · replace h := if_f hb h
    refine Wp.skip ?_
    refine To.thenN ?_
    refine Wp.seq ?_
    obtain ⟨hc2, h⟩ := chk_of h
    refine Wp.region hΓ [] [] [] [4, 5] [4] (K' := [(4, .own 4 0), (5, .val (.bool true))]) (L' := [(4, 25, [.val (.int .i64 (((a0.f_Kids)[Int.toNat r1]?.getD (S_api_Node.mk 0 [] [] [])).f_Kind)), .str (((a0.f_Kids)[Int.toNat r1]?.getD (S_api_Node.mk 0 [] [] [])).f_Text), .recs (α := List UInt8) [] E_string (((a0.f_Kids)[Int.toNat r1]?.getD (S_api_Node.mk 0 [] [] [])).f_Keys), .tree (α := S_api_Node) (S_api_Node.mk 0 [] [] []) pre_S_api_Node kids_S_api_Node (((a0.f_Kids)[Int.toNat r1]?.getD (S_api_Node.mk 0 [] [] [])).f_Kids)])]) (ob := [(decide (0 ≤ r1 ∧ r1 < (List.length a0.f_Kids : Int))) = true]) (by kernel_rfl) (AllP.cons hc2 AllP.nil) ?_
    refine To.thenN ?_
    refine Wp.ret ?_
    refine To.keep (kk := [4, 5]) (kl := [4]) (K' := [(4, .own 4 0), (5, .val (.bool true))]) (L' := [(4, 25, [.val (.int .i64 (((a0.f_Kids)[Int.toNat r1]?.getD (S_api_Node.mk 0 [] [] [])).f_Kind)), .str (((a0.f_Kids)[Int.toNat r1]?.getD (S_api_Node.mk 0 [] [] [])).f_Text), .recs (α := List UInt8) [] E_string (((a0.f_Kids)[Int.toNat r1]?.getD (S_api_Node.mk 0 [] [] [])).f_Keys), .tree (α := S_api_Node) (S_api_Node.mk 0 [] [] []) pre_S_api_Node kids_S_api_Node (((a0.f_Kids)[Int.toNat r1]?.getD (S_api_Node.mk 0 [] [] [])).f_Kids)])]) (by kernel_rfl) (by kernel_rfl) ?_
    cases h
    exact To.done hΓ (by kernel_rfl)
def node_At_j2 (n : Nat) (v12 : List (List UInt8)) (v13 : Int) (v14 : Int) (b2 : S_api_Node) (b4 : S_api_Node) : Option (Sum (S_api_Node × S_api_Node) (Bool × S_api_Node)) :=
  if (decide (0 ≤ v14 ∧ v14 < (List.length v12 : Int))) = true then (if (b2.f_Kind == 2) = true then ((digit_Count n ((v12)[Int.toNat v14]?.getD []) (List.length b2.f_Kids : Int)).bind fun r1 =>
  if (bif (r1.2 != 0) then true else (r1.1 == (List.length b2.f_Kids : Int))) = true then (some (.inr (false, (S_api_Node.mk 0 [] [] []))))
  else (if (decide (0 ≤ r1.1 ∧ r1.1 < (List.length b2.f_Kids : Int))) = true then (some (.inl ((S_api_Node.mk (((b2.f_Kids)[Int.toNat r1.1]?.getD (S_api_Node.mk 0 [] [] [])).f_Kind) (((b2.f_Kids)[Int.toNat r1.1]?.getD (S_api_Node.mk 0 [] [] [])).f_Text) (((b2.f_Kids)[Int.toNat r1.1]?.getD (S_api_Node.mk 0 [] [] [])).f_Keys) (((b2.f_Kids)[Int.toNat r1.1]?.getD (S_api_Node.mk 0 [] [] [])).f_Kids)), b4))) else none))
  else ((node_Get n b2 ((v12)[Int.toNat v14]?.getD [])).bind fun r3 =>
  if (!r3.2) = true then (some (.inr (false, (S_api_Node.mk 0 [] [] []))))
  else (some (.inl (r3.1, b4))))) else none
theorem ok_node_At_j2 (n : Nat) (v12 : List (List UInt8)) (v13 : Int) (v14 : Int) (b2 : S_api_Node) (b4 : S_api_Node) (o : Sum (S_api_Node × S_api_Node) (Bool × S_api_Node)) (h : node_At_j2 n v12 v13 v14 b2 b4 = some o) {F0 : Fz} {w0 : Pt Try.prog} {Q : Exit → Act → World → Prop} (hQ : (Sum.elim (fun s => To 56 F0 w0 [(2, .own 2 0), (4, .own 4 0), (12, .recs (α := List UInt8) [] E_string v12), (13, .val (.int .i64 v13)), (14, .val (.int .i64 v14))] [(2, 25, [.val (.int .i64 s.1.f_Kind), .str s.1.f_Text, .recs (α := List UInt8) [] E_string s.1.f_Keys, .tree (α := S_api_Node) (S_api_Node.mk 0 [] [] []) pre_S_api_Node kids_S_api_Node s.1.f_Kids]), (4, 25, [.val (.int .i64 s.2.f_Kind), .str s.2.f_Text, .recs (α := List UInt8) [] E_string s.2.f_Keys, .tree (α := S_api_Node) (S_api_Node.mk 0 [] [] []) pre_S_api_Node kids_S_api_Node s.2.f_Kids])] .normal Q) (fun s => To 56 F0 w0 [(4, .own 4 0), (5, .val (.bool s.1))] [(4, 25, [.val (.int .i64 s.2.f_Kind), .str s.2.f_Text, .recs (α := List UInt8) [] E_string s.2.f_Keys, .tree (α := S_api_Node) (S_api_Node.mk 0 [] [] []) pre_S_api_Node kids_S_api_Node s.2.f_Kids])] .ret Q)) o) : Wp Try.prog 56 F0 w0 [(2, .own 2 0), (4, .own 4 0), (12, .recs (α := List UInt8) [] E_string v12), (13, .val (.int .i64 v13)), (14, .val (.int .i64 v14))] [(2, 25, [.val (.int .i64 b2.f_Kind), .str b2.f_Text, .recs (α := List UInt8) [] E_string b2.f_Keys, .tree (α := S_api_Node) (S_api_Node.mk 0 [] [] []) pre_S_api_Node kids_S_api_Node b2.f_Kids]), (4, 25, [.val (.int .i64 b4.f_Kind), .str b4.f_Text, .recs (α := List UInt8) [] E_string b4.f_Keys, .tree (α := S_api_Node) (S_api_Node.mk 0 [] [] []) pre_S_api_Node kids_S_api_Node b4.f_Kids])] (cA (cB (cB (cI (cI (cB (cA (cB (cF Try.f14))))))))) Q := by
  unfold node_At_j2 at h
  refine Wp.block ?_
  refine Wp.seq ?_
  obtain ⟨hc4, h⟩ := chk_of h
  refine Wp.region hΓ [] [] [] [2, 4, 7, 12, 13, 14] [2, 4] (K' := [(2, .own 2 0), (4, .own 4 0), (7, .str ((v12)[Int.toNat v14]?.getD [])), (12, .recs (α := List UInt8) [] E_string v12), (13, .val (.int .i64 v13)), (14, .val (.int .i64 v14))]) (L' := [(2, 25, [.val (.int .i64 b2.f_Kind), .str b2.f_Text, .recs (α := List UInt8) [] E_string b2.f_Keys, .tree (α := S_api_Node) (S_api_Node.mk 0 [] [] []) pre_S_api_Node kids_S_api_Node b2.f_Kids]), (4, 25, [.val (.int .i64 b4.f_Kind), .str b4.f_Text, .recs (α := List UInt8) [] E_string b4.f_Keys, .tree (α := S_api_Node) (S_api_Node.mk 0 [] [] []) pre_S_api_Node kids_S_api_Node b4.f_Kids])]) (ob := [(decide (0 ≤ v14 ∧ v14 < (List.length v12 : Int))) = true]) (by kernel_rfl) (AllP.cons hc4 AllP.nil) ?_
  refine To.thenN ?_
  refine Wp.seq ?_
  refine Wp.seq ?_
  refine Wp.region hΓ [] [] [] [2, 4, 7, 12, 13, 14, 20] [2, 4] (K' := [(2, .own 2 0), (4, .own 4 0), (7, .str ((v12)[Int.toNat v14]?.getD [])), (12, .recs (α := List UInt8) [] E_string v12), (13, .val (.int .i64 v13)), (14, .val (.int .i64 v14)), (20, .val (.bool (b2.f_Kind == 2)))]) (L' := [(2, 25, [.val (.int .i64 b2.f_Kind), .str b2.f_Text, .recs (α := List UInt8) [] E_string b2.f_Keys, .tree (α := S_api_Node) (S_api_Node.mk 0 [] [] []) pre_S_api_Node kids_S_api_Node b2.f_Kids]), (4, 25, [.val (.int .i64 b4.f_Kind), .str b4.f_Text, .recs (α := List UInt8) [] E_string b4.f_Keys, .tree (α := S_api_Node) (S_api_Node.mk 0 [] [] []) pre_S_api_Node kids_S_api_Node b4.f_Kids])]) (ob := []) (by kernel_rfl) AllP.nil ?_
  refine To.thenN ?_
  refine Wp.cond (b := (b2.f_Kind == 2)) (by kernel_rfl) (fun hb => ?_) (fun hb => ?_)
  · replace h := if_t hb h
    refine Wp.seq ?_
    obtain ⟨r1, hr1, h⟩ := bind_of h
    refine Wp.region hΓ [] [(4, .tup [.val (.int .i64 r1.1), .val (.int .i64 r1.2)])] [] [2, 4, 8, 9, 12, 13, 14] [2, 4] (K' := [(2, .own 2 0), (4, .own 4 0), (8, .val (.int .i64 r1.1)), (9, .val (.int .i64 r1.2)), (12, .recs (α := List UInt8) [] E_string v12), (13, .val (.int .i64 v13)), (14, .val (.int .i64 v14))]) (L' := [(2, 25, [.val (.int .i64 b2.f_Kind), .str b2.f_Text, .recs (α := List UInt8) [] E_string b2.f_Keys, .tree (α := S_api_Node) (S_api_Node.mk 0 [] [] []) pre_S_api_Node kids_S_api_Node b2.f_Kids]), (4, 25, [.val (.int .i64 b4.f_Kind), .str b4.f_Text, .recs (α := List UInt8) [] E_string b4.f_Keys, .tree (α := S_api_Node) (S_api_Node.mk 0 [] [] []) pre_S_api_Node kids_S_api_Node b4.f_Kids])]) (ob := [(true = true → CX Try.prog 36 [.str ((v12)[Int.toNat v14]?.getD []), .val (.int .i64 (List.length b2.f_Kids : Int))] (.tup [.val (.int .i64 r1.1), .val (.int .i64 r1.2)]))]) (by kernel_rfl) (AllP.cons (fun _ => cx (ok_digit_Count n ((v12)[Int.toNat v14]?.getD []) (List.length b2.f_Kids : Int) _ hr1)) AllP.nil) ?_
    refine To.thenN ?_
    refine Wp.seq ?_
    refine Wp.seq ?_
    refine Wp.region hΓ [] [] [] [2, 4, 8, 12, 13, 14, 37] [2, 4] (K' := [(2, .own 2 0), (4, .own 4 0), (8, .val (.int .i64 r1.1)), (12, .recs (α := List UInt8) [] E_string v12), (13, .val (.int .i64 v13)), (14, .val (.int .i64 v14)), (37, .val (.bool (bif (r1.2 != 0) then true else (r1.1 == (List.length b2.f_Kids : Int)))))]) (L' := [(2, 25, [.val (.int .i64 b2.f_Kind), .str b2.f_Text, .recs (α := List UInt8) [] E_string b2.f_Keys, .tree (α := S_api_Node) (S_api_Node.mk 0 [] [] []) pre_S_api_Node kids_S_api_Node b2.f_Kids]), (4, 25, [.val (.int .i64 b4.f_Kind), .str b4.f_Text, .recs (α := List UInt8) [] E_string b4.f_Keys, .tree (α := S_api_Node) (S_api_Node.mk 0 [] [] []) pre_S_api_Node kids_S_api_Node b4.f_Kids])]) (ob := []) (by kernel_rfl) AllP.nil ?_
    refine To.thenN ?_
    refine Wp.cond (b := (bif (r1.2 != 0) then true else (r1.1 == (List.length b2.f_Kids : Int)))) (by kernel_rfl) (fun hb => ?_) (fun hb => ?_)
    · replace h := if_t hb h
      refine Wp.seq ?_
      refine Wp.region hΓ [] [] [] [4, 5] [4] (K' := [(4, .own 4 0), (5, .val (.bool false))]) (L' := [(4, 25, [.val (.int .i64 0), .str [], .val (.slice none 0 0), .val (.slice none 0 0)])]) (ob := []) (by kernel_rfl) AllP.nil ?_
      refine To.thenN ?_
      refine Wp.ret ?_
      refine To.thenR ?_
      refine To.thenR ?_
      refine To.blockR ?_
      refine To.keep (kk := [4, 5]) (kl := [4]) (K' := [(4, .own 4 0), (5, .val (.bool false))]) (L' := [(4, 25, [.val (.int .i64 0), .str [], .val (.slice none 0 0), .val (.slice none 0 0)])]) (by kernel_rfl) (by kernel_rfl) ?_
      refine To.weak (K' := [(4, .own 4 0), (5, .val (.bool false))]) (L' := [(4, 25, [.val (.int .i64 0), .str [], .recs (α := List UInt8) [] E_string [], .tree (α := S_api_Node) (S_api_Node.mk 0 [] [] []) pre_S_api_Node kids_S_api_Node []])]) (.cons (.refl _) (.cons (.refl _) .nil)) (.cons (.cons (.refl _) (.cons (.refl _) (.cons (.zero _ _) (.cons (.zeroT _ _ _) .nil)))) .nil) ?_
      cases h
      exact hQ
    · replace h := if_f hb h
      refine Wp.skip ?_
      refine To.thenN ?_
      refine Wp.seq ?_
      obtain ⟨hc2, h⟩ := chk_of h
      refine Wp.region hΓ [] [] [] [2, 4, 12, 13, 14] [2, 4] (K' := [(2, .own 2 0), (4, .own 4 0), (12, .recs (α := List UInt8) [] E_string v12), (13, .val (.int .i64 v13)), (14, .val (.int .i64 v14))]) (L' := [(2, 25, [.val (.int .i64 (((b2.f_Kids)[Int.toNat r1.1]?.getD (S_api_Node.mk 0 [] [] [])).f_Kind)), .str (((b2.f_Kids)[Int.toNat r1.1]?.getD (S_api_Node.mk 0 [] [] [])).f_Text), .recs (α := List UInt8) [] E_string (((b2.f_Kids)[Int.toNat r1.1]?.getD (S_api_Node.mk 0 [] [] [])).f_Keys), .tree (α := S_api_Node) (S_api_Node.mk 0 [] [] []) pre_S_api_Node kids_S_api_Node (((b2.f_Kids)[Int.toNat r1.1]?.getD (S_api_Node.mk 0 [] [] [])).f_Kids)]), (4, 25, [.val (.int .i64 b4.f_Kind), .str b4.f_Text, .recs (α := List UInt8) [] E_string b4.f_Keys, .tree (α := S_api_Node) (S_api_Node.mk 0 [] [] []) pre_S_api_Node kids_S_api_Node b4.f_Kids])]) (ob := [(decide (0 ≤ r1.1 ∧ r1.1 < (List.length b2.f_Kids : Int))) = true]) (by kernel_rfl) (AllP.cons hc2 AllP.nil) ?_
      refine To.thenN ?_
      refine Wp.exit ?_
      refine To.thenX ?_
      refine To.blockX ?_
      refine To.keep (kk := [2, 4, 12, 13, 14]) (kl := [2, 4]) (K' := [(2, .own 2 0), (4, .own 4 0), (12, .recs (α := List UInt8) [] E_string v12), (13, .val (.int .i64 v13)), (14, .val (.int .i64 v14))]) (L' := [(2, 25, [.val (.int .i64 (((b2.f_Kids)[Int.toNat r1.1]?.getD (S_api_Node.mk 0 [] [] [])).f_Kind)), .str (((b2.f_Kids)[Int.toNat r1.1]?.getD (S_api_Node.mk 0 [] [] [])).f_Text), .recs (α := List UInt8) [] E_string (((b2.f_Kids)[Int.toNat r1.1]?.getD (S_api_Node.mk 0 [] [] [])).f_Keys), .tree (α := S_api_Node) (S_api_Node.mk 0 [] [] []) pre_S_api_Node kids_S_api_Node (((b2.f_Kids)[Int.toNat r1.1]?.getD (S_api_Node.mk 0 [] [] [])).f_Kids)]), (4, 25, [.val (.int .i64 b4.f_Kind), .str b4.f_Text, .recs (α := List UInt8) [] E_string b4.f_Keys, .tree (α := S_api_Node) (S_api_Node.mk 0 [] [] []) pre_S_api_Node kids_S_api_Node b4.f_Kids])]) (by kernel_rfl) (by kernel_rfl) ?_
      cases h
      exact hQ
  · replace h := if_f hb h
    refine Wp.skip ?_
    refine To.thenN ?_
    refine Wp.seq ?_
    obtain ⟨r3, hr3, h⟩ := bind_of h
    refine Wp.region hΓ [] [(2, .tup [.agg [.val (.int .i64 r3.1.f_Kind), .str r3.1.f_Text, .recs (α := List UInt8) [] E_string r3.1.f_Keys, .tree (α := S_api_Node) (S_api_Node.mk 0 [] [] []) pre_S_api_Node kids_S_api_Node r3.1.f_Kids], .val (.bool r3.2)])] [] [2, 4, 10, 11, 12, 13, 14] [2, 4, 10] (K' := [(2, .own 2 0), (4, .own 4 0), (10, .own 10 0), (11, .val (.bool r3.2)), (12, .recs (α := List UInt8) [] E_string v12), (13, .val (.int .i64 v13)), (14, .val (.int .i64 v14))]) (L' := [(2, 25, [.val (.int .i64 b2.f_Kind), .str b2.f_Text, .recs (α := List UInt8) [] E_string b2.f_Keys, .tree (α := S_api_Node) (S_api_Node.mk 0 [] [] []) pre_S_api_Node kids_S_api_Node b2.f_Kids]), (4, 25, [.val (.int .i64 b4.f_Kind), .str b4.f_Text, .recs (α := List UInt8) [] E_string b4.f_Keys, .tree (α := S_api_Node) (S_api_Node.mk 0 [] [] []) pre_S_api_Node kids_S_api_Node b4.f_Kids]), (10, 25, [.val (.int .i64 r3.1.f_Kind), .str r3.1.f_Text, .recs (α := List UInt8) [] E_string r3.1.f_Keys, .tree (α := S_api_Node) (S_api_Node.mk 0 [] [] []) pre_S_api_Node kids_S_api_Node r3.1.f_Kids])]) (ob := [(true = true → CX Try.prog 17 [.agg [.val (.int .i64 b2.f_Kind), .str b2.f_Text, .recs (α := List UInt8) [] E_string b2.f_Keys, .tree (α := S_api_Node) (S_api_Node.mk 0 [] [] []) pre_S_api_Node kids_S_api_Node b2.f_Kids], .str ((v12)[Int.toNat v14]?.getD [])] (.tup [.agg [.val (.int .i64 r3.1.f_Kind), .str r3.1.f_Text, .recs (α := List UInt8) [] E_string r3.1.f_Keys, .tree (α := S_api_Node) (S_api_Node.mk 0 [] [] []) pre_S_api_Node kids_S_api_Node r3.1.f_Kids], .val (.bool r3.2)]))]) (by kernel_rfl) (AllP.cons (fun _ => cx (ok_node_Get n b2 ((v12)[Int.toNat v14]?.getD []) _ hr3)) AllP.nil) ?_
    refine To.thenN ?_
    refine Wp.seq ?_
    refine Wp.seq ?_
    refine Wp.region hΓ [] [] [] [2, 4, 10, 12, 13, 14, 51] [2, 4, 10] (K' := [(2, .own 2 0), (4, .own 4 0), (10, .own 10 0), (12, .recs (α := List UInt8) [] E_string v12), (13, .val (.int .i64 v13)), (14, .val (.int .i64 v14)), (51, .val (.bool (!r3.2)))]) (L' := [(2, 25, [.val (.int .i64 b2.f_Kind), .str b2.f_Text, .recs (α := List UInt8) [] E_string b2.f_Keys, .tree (α := S_api_Node) (S_api_Node.mk 0 [] [] []) pre_S_api_Node kids_S_api_Node b2.f_Kids]), (4, 25, [.val (.int .i64 b4.f_Kind), .str b4.f_Text, .recs (α := List UInt8) [] E_string b4.f_Keys, .tree (α := S_api_Node) (S_api_Node.mk 0 [] [] []) pre_S_api_Node kids_S_api_Node b4.f_Kids]), (10, 25, [.val (.int .i64 r3.1.f_Kind), .str r3.1.f_Text, .recs (α := List UInt8) [] E_string r3.1.f_Keys, .tree (α := S_api_Node) (S_api_Node.mk 0 [] [] []) pre_S_api_Node kids_S_api_Node r3.1.f_Kids])]) (ob := []) (by kernel_rfl) AllP.nil ?_
    refine To.thenN ?_
    refine Wp.cond (b := (!r3.2)) (by kernel_rfl) (fun hb => ?_) (fun hb => ?_)
    · replace h := if_t hb h
      refine Wp.seq ?_
      refine Wp.region hΓ [] [] [] [4, 5] [4] (K' := [(4, .own 4 0), (5, .val (.bool false))]) (L' := [(4, 25, [.val (.int .i64 0), .str [], .val (.slice none 0 0), .val (.slice none 0 0)])]) (ob := []) (by kernel_rfl) AllP.nil ?_
      refine To.thenN ?_
      refine Wp.ret ?_
      refine To.thenR ?_
      refine To.blockR ?_
      refine To.keep (kk := [4, 5]) (kl := [4]) (K' := [(4, .own 4 0), (5, .val (.bool false))]) (L' := [(4, 25, [.val (.int .i64 0), .str [], .val (.slice none 0 0), .val (.slice none 0 0)])]) (by kernel_rfl) (by kernel_rfl) ?_
      refine To.weak (K' := [(4, .own 4 0), (5, .val (.bool false))]) (L' := [(4, 25, [.val (.int .i64 0), .str [], .recs (α := List UInt8) [] E_string [], .tree (α := S_api_Node) (S_api_Node.mk 0 [] [] []) pre_S_api_Node kids_S_api_Node []])]) (.cons (.refl _) (.cons (.refl _) .nil)) (.cons (.cons (.refl _) (.cons (.refl _) (.cons (.zero _ _) (.cons (.zeroT _ _ _) .nil)))) .nil) ?_
      cases h
      exact hQ
    · replace h := if_f hb h
      refine Wp.skip ?_
      refine To.thenN ?_
      refine Wp.region hΓ [] [] [] [2, 4, 12, 13, 14] [2, 4] (K' := [(2, .own 2 0), (4, .own 4 0), (12, .recs (α := List UInt8) [] E_string v12), (13, .val (.int .i64 v13)), (14, .val (.int .i64 v14))]) (L' := [(2, 25, [.val (.int .i64 r3.1.f_Kind), .str r3.1.f_Text, .recs (α := List UInt8) [] E_string r3.1.f_Keys, .tree (α := S_api_Node) (S_api_Node.mk 0 [] [] []) pre_S_api_Node kids_S_api_Node r3.1.f_Kids]), (4, 25, [.val (.int .i64 b4.f_Kind), .str b4.f_Text, .recs (α := List UInt8) [] E_string b4.f_Keys, .tree (α := S_api_Node) (S_api_Node.mk 0 [] [] []) pre_S_api_Node kids_S_api_Node b4.f_Kids])]) (ob := []) (by kernel_rfl) AllP.nil ?_
      refine To.blockN ?_
      refine To.keep (kk := [2, 4, 12, 13, 14]) (kl := [2, 4]) (K' := [(2, .own 2 0), (4, .own 4 0), (12, .recs (α := List UInt8) [] E_string v12), (13, .val (.int .i64 v13)), (14, .val (.int .i64 v14))]) (L' := [(2, 25, [.val (.int .i64 r3.1.f_Kind), .str r3.1.f_Text, .recs (α := List UInt8) [] E_string r3.1.f_Keys, .tree (α := S_api_Node) (S_api_Node.mk 0 [] [] []) pre_S_api_Node kids_S_api_Node r3.1.f_Kids]), (4, 25, [.val (.int .i64 b4.f_Kind), .str b4.f_Text, .recs (α := List UInt8) [] E_string b4.f_Keys, .tree (α := S_api_Node) (S_api_Node.mk 0 [] [] []) pre_S_api_Node kids_S_api_Node b4.f_Kids])]) (by kernel_rfl) (by kernel_rfl) ?_
      cases h
      exact hQ
def node_At_l1 (n : Nat) (v12 : List (List UInt8)) (v13 : Int) : Nat → Int → S_api_Node → S_api_Node → Option (Sum (S_api_Node × S_api_Node) (Bool × S_api_Node))
  | 0, _, _, _ => none
  | k + 1, v14, b2, b4 => if (decide (v14 < v13)) = true then ((node_At_j2 n v12 v13 v14 b2 b4).bind fun o1 =>
  (Sum.elim (fun o1 => node_At_l1 n v12 v13 k (IntKind.wrap .i64 (v14 + 1)) o1.1 o1.2) (fun o1 => some (.inr (o1.1, o1.2)))) o1)
  else (some (.inl (b2, b4)))
theorem ok_node_At_l1 (n : Nat) (v12 : List (List UInt8)) (v13 : Int) {F0 : Fz} {w0 : Pt Try.prog} {Q : Exit → Act → World → Prop} (k : Nat) : ∀ (v14 : Int) (b2 : S_api_Node) (b4 : S_api_Node) (o : Sum (S_api_Node × S_api_Node) (Bool × S_api_Node)), node_At_l1 n v12 v13 k v14 b2 b4 = some o → (Sum.elim (fun s => To 56 F0 w0 [(2, .own 2 0), (4, .own 4 0)] [(2, 25, [.val (.int .i64 s.1.f_Kind), .str s.1.f_Text, .recs (α := List UInt8) [] E_string s.1.f_Keys, .tree (α := S_api_Node) (S_api_Node.mk 0 [] [] []) pre_S_api_Node kids_S_api_Node s.1.f_Kids]), (4, 25, [.val (.int .i64 s.2.f_Kind), .str s.2.f_Text, .recs (α := List UInt8) [] E_string s.2.f_Keys, .tree (α := S_api_Node) (S_api_Node.mk 0 [] [] []) pre_S_api_Node kids_S_api_Node s.2.f_Kids])] (.exit 0) Q) (fun s => To 56 F0 w0 [(4, .own 4 0), (5, .val (.bool s.1))] [(4, 25, [.val (.int .i64 s.2.f_Kind), .str s.2.f_Text, .recs (α := List UInt8) [] E_string s.2.f_Keys, .tree (α := S_api_Node) (S_api_Node.mk 0 [] [] []) pre_S_api_Node kids_S_api_Node s.2.f_Kids])] .ret Q)) o → WL Try.prog 56 F0 w0 [(2, .own 2 0), (4, .own 4 0), (12, .recs (α := List UInt8) [] E_string v12), (13, .val (.int .i64 v13)), (14, .val (.int .i64 v14))] [(2, 25, [.val (.int .i64 b2.f_Kind), .str b2.f_Text, .recs (α := List UInt8) [] E_string b2.f_Keys, .tree (α := S_api_Node) (S_api_Node.mk 0 [] [] []) pre_S_api_Node kids_S_api_Node b2.f_Kids]), (4, 25, [.val (.int .i64 b4.f_Kind), .str b4.f_Text, .recs (α := List UInt8) [] E_string b4.f_Keys, .tree (α := S_api_Node) (S_api_Node.mk 0 [] [] []) pre_S_api_Node kids_S_api_Node b4.f_Kids])] (cI (cI (cB (cA (cB (cF Try.f14)))))) Q := by
  induction k with
  | zero => intro v14 b2 b4 o h; cases h
  | succ k ih =>
    intro v14 b2 b4 o h hQ
    rw [node_At_l1] at h
    refine WL.round ?_
    refine Wp.seq ?_
    refine Wp.region hΓ [] [] [] [2, 4, 12, 13, 14, 15] [2, 4] (K' := [(2, .own 2 0), (4, .own 4 0), (12, .recs (α := List UInt8) [] E_string v12), (13, .val (.int .i64 v13)), (14, .val (.int .i64 v14)), (15, .val (.bool (decide (v14 < v13))))]) (L' := [(2, 25, [.val (.int .i64 b2.f_Kind), .str b2.f_Text, .recs (α := List UInt8) [] E_string b2.f_Keys, .tree (α := S_api_Node) (S_api_Node.mk 0 [] [] []) pre_S_api_Node kids_S_api_Node b2.f_Kids]), (4, 25, [.val (.int .i64 b4.f_Kind), .str b4.f_Text, .recs (α := List UInt8) [] E_string b4.f_Keys, .tree (α := S_api_Node) (S_api_Node.mk 0 [] [] []) pre_S_api_Node kids_S_api_Node b4.f_Kids])]) (ob := []) (by kernel_rfl) AllP.nil ?_
    refine To.thenN ?_
    refine Wp.seq ?_
    refine Wp.cond (b := (decide (v14 < v13))) (by kernel_rfl) (fun hb => ?_) (fun hb => ?_)
    · replace h := if_t hb h
      refine Wp.skip ?_
      refine To.thenN ?_
      refine Wp.seq ?_
      obtain ⟨o1, ho1, h⟩ := bind_of h
      refine Wp.keep (kk := [2, 4, 12, 13, 14]) (kl := [2, 4]) (K' := [(2, .own 2 0), (4, .own 4 0), (12, .recs (α := List UInt8) [] E_string v12), (13, .val (.int .i64 v13)), (14, .val (.int .i64 v14))]) (L' := [(2, 25, [.val (.int .i64 b2.f_Kind), .str b2.f_Text, .recs (α := List UInt8) [] E_string b2.f_Keys, .tree (α := S_api_Node) (S_api_Node.mk 0 [] [] []) pre_S_api_Node kids_S_api_Node b2.f_Kids]), (4, 25, [.val (.int .i64 b4.f_Kind), .str b4.f_Text, .recs (α := List UInt8) [] E_string b4.f_Keys, .tree (α := S_api_Node) (S_api_Node.mk 0 [] [] []) pre_S_api_Node kids_S_api_Node b4.f_Kids])]) (by kernel_rfl) (by kernel_rfl) ?_
      refine ok_node_At_j2 n v12 v13 v14 b2 b4 o1 ho1 ?_
      rcases o1 with o1 | o1
      · replace h := sum_l h
        refine To.thenN ?_
        refine Wp.region hΓ [] [] [] [2, 4, 12, 13, 14] [2, 4] (K' := [(2, .own 2 0), (4, .own 4 0), (12, .recs (α := List UInt8) [] E_string v12), (13, .val (.int .i64 v13)), (14, .val (.int .i64 (IntKind.wrap .i64 (v14 + 1))))]) (L' := [(2, 25, [.val (.int .i64 o1.1.f_Kind), .str o1.1.f_Text, .recs (α := List UInt8) [] E_string o1.1.f_Keys, .tree (α := S_api_Node) (S_api_Node.mk 0 [] [] []) pre_S_api_Node kids_S_api_Node o1.1.f_Kids]), (4, 25, [.val (.int .i64 o1.2.f_Kind), .str o1.2.f_Text, .recs (α := List UInt8) [] E_string o1.2.f_Keys, .tree (α := S_api_Node) (S_api_Node.mk 0 [] [] []) pre_S_api_Node kids_S_api_Node o1.2.f_Kids])]) (ob := []) (by kernel_rfl) AllP.nil ?_
        refine To.keep (kk := [2, 4, 12, 13, 14]) (kl := [2, 4]) (K' := [(2, .own 2 0), (4, .own 4 0), (12, .recs (α := List UInt8) [] E_string v12), (13, .val (.int .i64 v13)), (14, .val (.int .i64 (IntKind.wrap .i64 (v14 + 1))))]) (L' := [(2, 25, [.val (.int .i64 o1.1.f_Kind), .str o1.1.f_Text, .recs (α := List UInt8) [] E_string o1.1.f_Keys, .tree (α := S_api_Node) (S_api_Node.mk 0 [] [] []) pre_S_api_Node kids_S_api_Node o1.1.f_Kids]), (4, 25, [.val (.int .i64 o1.2.f_Kind), .str o1.2.f_Text, .recs (α := List UInt8) [] E_string o1.2.f_Keys, .tree (α := S_api_Node) (S_api_Node.mk 0 [] [] []) pre_S_api_Node kids_S_api_Node o1.2.f_Kids])]) (by kernel_rfl) (by kernel_rfl) ?_
        refine To.again ?_
        exact ih (IntKind.wrap .i64 (v14 + 1)) o1.1 o1.2 _ h hQ
      · replace h := sum_r h
        refine To.thenR ?_
        refine To.thenR ?_
        refine To.keep (kk := [4, 5]) (kl := [4]) (K' := [(4, .own 4 0), (5, .val (.bool o1.1))]) (L' := [(4, 25, [.val (.int .i64 o1.2.f_Kind), .str o1.2.f_Text, .recs (α := List UInt8) [] E_string o1.2.f_Keys, .tree (α := S_api_Node) (S_api_Node.mk 0 [] [] []) pre_S_api_Node kids_S_api_Node o1.2.f_Kids])]) (by kernel_rfl) (by kernel_rfl) ?_
        cases h
        exact hQ
    · replace h := if_f hb h
      refine Wp.exit ?_
      refine To.thenX ?_
      refine To.thenX ?_
      refine To.keep (kk := [2, 4]) (kl := [2, 4]) (K' := [(2, .own 2 0), (4, .own 4 0)]) (L' := [(2, 25, [.val (.int .i64 b2.f_Kind), .str b2.f_Text, .recs (α := List UInt8) [] E_string b2.f_Keys, .tree (α := S_api_Node) (S_api_Node.mk 0 [] [] []) pre_S_api_Node kids_S_api_Node b2.f_Kids]), (4, 25, [.val (.int .i64 b4.f_Kind), .str b4.f_Text, .recs (α := List UInt8) [] E_string b4.f_Keys, .tree (α := S_api_Node) (S_api_Node.mk 0 [] [] []) pre_S_api_Node kids_S_api_Node b4.f_Kids])]) (by kernel_rfl) (by kernel_rfl) ?_
      cases h
      exact hQ
def node_At (n : Nat) (a0 : S_api_Node) (a1 : List (List UInt8)) : Option (S_api_Node × Bool) :=
  (node_At_l1 n a1 (List.length a1 : Int) n 0 a0 (S_api_Node.mk 0 [] [] [])).bind fun o1 =>
  (Sum.elim (fun o1 => some (o1.1, true)) (fun o1 => some (o1.2, o1.1))) o1
theorem ok_node_At (n : Nat) (a0 : S_api_Node) (a1 : List (List UInt8)) (r : S_api_Node × Bool) (h : node_At n a0 a1 = some r) : CallsX Try.prog 14 [.agg [.val (.int .i64 a0.f_Kind), .str a0.f_Text, .recs (α := List UInt8) [] E_string a0.f_Keys, .tree (α := S_api_Node) (S_api_Node.mk 0 [] [] []) pre_S_api_Node kids_S_api_Node a0.f_Kids], .recs (α := List UInt8) [] E_string a1] (.tup [.agg [.val (.int .i64 r.1.f_Kind), .str r.1.f_Text, .recs (α := List UInt8) [] E_string r.1.f_Keys, .tree (α := S_api_Node) (S_api_Node.mk 0 [] [] []) pre_S_api_Node kids_S_api_Node r.1.f_Kids], .val (.bool r.2)]) := by
  unfold node_At at h
  refine callsX_of (fn := Try.f14) (by kernel_rfl) rfl (by kernel_rfl) (Nat.le_of_ble_eq_true (by kernel_rfl)) fun F0 w0 _ => ?_
  refine Wp.keep (kk := [0, 1]) (kl := []) (K' := [(0, .agg [.val (.int .i64 a0.f_Kind), .str a0.f_Text, .recs (α := List UInt8) [] E_string a0.f_Keys, .tree (α := S_api_Node) (S_api_Node.mk 0 [] [] []) pre_S_api_Node kids_S_api_Node a0.f_Kids]), (1, .recs (α := List UInt8) [] E_string a1)]) (L' := []) (by kernel_rfl) (by kernel_rfl) ?_
  refine Wp.seq ?_
  refine Wp.region hΓ [] [] [] [1, 2, 4] [2, 4] (K' := [(1, .recs (α := List UInt8) [] E_string a1), (2, .own 2 0), (4, .own 4 0)]) (L' := [(2, 25, [.val (.int .i64 a0.f_Kind), .str a0.f_Text, .recs (α := List UInt8) [] E_string a0.f_Keys, .tree (α := S_api_Node) (S_api_Node.mk 0 [] [] []) pre_S_api_Node kids_S_api_Node a0.f_Kids]), (4, 25, [.val (.int .i64 0), .str [], .val (.slice none 0 0), .val (.slice none 0 0)])]) (ob := []) (by kernel_rfl) AllP.nil ?_
  refine To.thenN ?_
  refine Wp.seq ?_
  refine Wp.seq ?_
  refine Wp.region hΓ [] [] [] [2, 4, 12, 13, 14] [2, 4] (K' := [(2, .own 2 0), (4, .own 4 0), (12, .recs (α := List UInt8) [] E_string a1), (13, .val (.int .i64 (List.length a1 : Int))), (14, .val (.int .i64 0))]) (L' := [(2, 25, [.val (.int .i64 a0.f_Kind), .str a0.f_Text, .recs (α := List UInt8) [] E_string a0.f_Keys, .tree (α := S_api_Node) (S_api_Node.mk 0 [] [] []) pre_S_api_Node kids_S_api_Node a0.f_Kids]), (4, 25, [.val (.int .i64 0), .str [], .val (.slice none 0 0), .val (.slice none 0 0)])]) (ob := []) (by kernel_rfl) AllP.nil ?_
  refine To.thenN ?_
  refine Wp.block ?_
  obtain ⟨o1, ho1, h⟩ := bind_of h
  refine Wp.keep (kk := [2, 4, 12, 13, 14]) (kl := [2, 4]) (K' := [(2, .own 2 0), (4, .own 4 0), (12, .recs (α := List UInt8) [] E_string a1), (13, .val (.int .i64 (List.length a1 : Int))), (14, .val (.int .i64 0))]) (L' := [(2, 25, [.val (.int .i64 a0.f_Kind), .str a0.f_Text, .recs (α := List UInt8) [] E_string a0.f_Keys, .tree (α := S_api_Node) (S_api_Node.mk 0 [] [] []) pre_S_api_Node kids_S_api_Node a0.f_Kids]), (4, 25, [.val (.int .i64 0), .str [], .val (.slice none 0 0), .val (.slice none 0 0)])]) (by kernel_rfl) (by kernel_rfl) ?_
  refine Wp.weak (K' := [(2, .own 2 0), (4, .own 4 0), (12, .recs (α := List UInt8) [] E_string a1), (13, .val (.int .i64 (List.length a1 : Int))), (14, .val (.int .i64 0))]) (L' := [(2, 25, [.val (.int .i64 a0.f_Kind), .str a0.f_Text, .recs (α := List UInt8) [] E_string a0.f_Keys, .tree (α := S_api_Node) (S_api_Node.mk 0 [] [] []) pre_S_api_Node kids_S_api_Node a0.f_Kids]), (4, 25, [.val (.int .i64 0), .str [], .recs (α := List UInt8) [] E_string [], .tree (α := S_api_Node) (S_api_Node.mk 0 [] [] []) pre_S_api_Node kids_S_api_Node []])]) (.cons (.refl _) (.cons (.refl _) (.cons (.refl _) (.cons (.refl _) (.cons (.refl _) .nil))))) (.cons (.cons (.refl _) (.cons (.refl _) (.cons (.refl _) (.cons (.refl _) .nil)))) (.cons (.cons (.refl _) (.cons (.refl _) (.cons (.zero _ _) (.cons (.zeroT _ _ _) .nil)))) .nil)) ?_
  refine Wp.loopL ?_
  refine ok_node_At_l1 n a1 (List.length a1 : Int) n 0 a0 (S_api_Node.mk 0 [] [] []) o1 ho1 ?_
  rcases o1 with o1 | o1
  · replace h := sum_l h
    refine To.blockX ?_
    refine To.thenN ?_
    refine Wp.seq ?_
    refine Wp.region hΓ [] [] [] [4, 5] [4] (K' := [(4, .own 4 0), (5, .val (.bool true))]) (L' := [(4, 25, [.val (.int .i64 o1.1.f_Kind), .str o1.1.f_Text, .recs (α := List UInt8) [] E_string o1.1.f_Keys, .tree (α := S_api_Node) (S_api_Node.mk 0 [] [] []) pre_S_api_Node kids_S_api_Node o1.1.f_Kids])]) (ob := []) (by kernel_rfl) AllP.nil ?_
    refine To.thenN ?_
    refine Wp.ret ?_
    refine To.keep (kk := [4, 5]) (kl := [4]) (K' := [(4, .own 4 0), (5, .val (.bool true))]) (L' := [(4, 25, [.val (.int .i64 o1.1.f_Kind), .str o1.1.f_Text, .recs (α := List UInt8) [] E_string o1.1.f_Keys, .tree (α := S_api_Node) (S_api_Node.mk 0 [] [] []) pre_S_api_Node kids_S_api_Node o1.1.f_Kids])]) (by kernel_rfl) (by kernel_rfl) ?_
    cases h
    exact To.done hΓ (by kernel_rfl)
  · replace h := sum_r h
    refine To.blockR ?_
    refine To.thenR ?_
    refine To.keep (kk := [4, 5]) (kl := [4]) (K' := [(4, .own 4 0), (5, .val (.bool o1.1))]) (L' := [(4, 25, [.val (.int .i64 o1.2.f_Kind), .str o1.2.f_Text, .recs (α := List UInt8) [] E_string o1.2.f_Keys, .tree (α := S_api_Node) (S_api_Node.mk 0 [] [] []) pre_S_api_Node kids_S_api_Node o1.2.f_Kids])]) (by kernel_rfl) (by kernel_rfl) ?_
    cases h
    exact To.done hΓ (by kernel_rfl)
def node_Deep_l1 (R_node_Deep : S_api_Node → Option (Int)) (n : Nat) (v7 : List (S_api_Node)) (v8 : Int) : Nat → Int → Int → Option (Int)
  | 0, _, _ => none
  | k + 1, v3, v9 => if (decide (v9 < v8)) = true then (if (decide (0 ≤ v9 ∧ v9 < (List.length v7 : Int))) = true then ((R_node_Deep (S_api_Node.mk (((v7)[Int.toNat v9]?.getD (S_api_Node.mk 0 [] [] [])).f_Kind) (((v7)[Int.toNat v9]?.getD (S_api_Node.mk 0 [] [] [])).f_Text) (((v7)[Int.toNat v9]?.getD (S_api_Node.mk 0 [] [] [])).f_Keys) (((v7)[Int.toNat v9]?.getD (S_api_Node.mk 0 [] [] [])).f_Kids))).bind fun r1 =>
  node_Deep_l1 R_node_Deep n v7 v8 k (if r1 > v3 then r1 else v3) (IntKind.wrap .i64 (v9 + 1))) else none)
  else some v3
theorem ok_node_Deep_l1 (R_node_Deep : S_api_Node → Option (Int)) (hR_node_Deep : ∀ (a0 : S_api_Node) (r : Int), R_node_Deep a0 = some r → CallsX Try.prog 21 [.agg [.val (.int .i64 a0.f_Kind), .str a0.f_Text, .recs (α := List UInt8) [] E_string a0.f_Keys, .tree (α := S_api_Node) (S_api_Node.mk 0 [] [] []) pre_S_api_Node kids_S_api_Node a0.f_Kids]] (.val (.int .i64 r))) (n : Nat) (v7 : List (S_api_Node)) (v8 : Int) {F0 : Fz} {w0 : Pt Try.prog} {Q : Exit → Act → World → Prop} (k : Nat) : ∀ (v3 : Int) (v9 : Int) (o : Int), node_Deep_l1 R_node_Deep n v7 v8 k v3 v9 = some o → To 20 F0 w0 [(3, .val (.int .i64 o))] [] (.exit 0) Q → WL Try.prog 20 F0 w0 [(3, .val (.int .i64 v3)), (7, .recs (α := S_api_Node) (S_api_Node.mk 0 [] [] []) E_api_Node v7), (8, .val (.int .i64 v8)), (9, .val (.int .i64 v9))] [] (cI (cI (cB (cA (cB (cB (cF Try.f21))))))) Q := by
  induction k with
  | zero => intro v3 v9 o h; cases h
  | succ k ih =>
    intro v3 v9 o h hQ
    rw [node_Deep_l1] at h
    refine WL.round ?_
    refine Wp.seq ?_
    refine Wp.region hΓ [] [] [] [3, 7, 8, 9, 10] [] (K' := [(3, .val (.int .i64 v3)), (7, .recs (α := S_api_Node) (S_api_Node.mk 0 [] [] []) E_api_Node v7), (8, .val (.int .i64 v8)), (9, .val (.int .i64 v9)), (10, .val (.bool (decide (v9 < v8))))]) (L' := []) (ob := []) (by kernel_rfl) AllP.nil ?_
    refine To.thenN ?_
    refine Wp.seq ?_
    refine Wp.cond (b := (decide (v9 < v8))) (by kernel_rfl) (fun hb => ?_) (fun hb => ?_)
    · replace h := if_t hb h
      refine Wp.skip ?_
      refine To.thenN ?_
      refine Wp.seq ?_
      refine Wp.block ?_
      refine Wp.seq ?_
      obtain ⟨hc2, h⟩ := chk_of h
      refine Wp.region hΓ [] [] [] [3, 5, 7, 8, 9] [5] (K' := [(3, .val (.int .i64 v3)), (5, .own 5 0), (7, .recs (α := S_api_Node) (S_api_Node.mk 0 [] [] []) E_api_Node v7), (8, .val (.int .i64 v8)), (9, .val (.int .i64 v9))]) (L' := [(5, 25, [.val (.int .i64 (((v7)[Int.toNat v9]?.getD (S_api_Node.mk 0 [] [] [])).f_Kind)), .str (((v7)[Int.toNat v9]?.getD (S_api_Node.mk 0 [] [] [])).f_Text), .recs (α := List UInt8) [] E_string (((v7)[Int.toNat v9]?.getD (S_api_Node.mk 0 [] [] [])).f_Keys), .tree (α := S_api_Node) (S_api_Node.mk 0 [] [] []) pre_S_api_Node kids_S_api_Node (((v7)[Int.toNat v9]?.getD (S_api_Node.mk 0 [] [] [])).f_Kids)])]) (ob := [(decide (0 ≤ v9 ∧ v9 < (List.length v7 : Int))) = true]) (by kernel_rfl) (AllP.cons hc2 AllP.nil) ?_
      refine To.thenN ?_
      obtain ⟨r1, hr1, h⟩ := bind_of h
      refine Wp.region hΓ [] [(2, .val (.int .i64 r1))] [] [3, 7, 8, 9] [] (K' := [(3, .val (.int .i64 (if r1 > v3 then r1 else v3))), (7, .recs (α := S_api_Node) (S_api_Node.mk 0 [] [] []) E_api_Node v7), (8, .val (.int .i64 v8)), (9, .val (.int .i64 v9))]) (L' := []) (ob := [(true = true → CX Try.prog 21 [.agg [.val (.int .i64 (((v7)[Int.toNat v9]?.getD (S_api_Node.mk 0 [] [] [])).f_Kind)), .str (((v7)[Int.toNat v9]?.getD (S_api_Node.mk 0 [] [] [])).f_Text), .recs (α := List UInt8) [] E_string (((v7)[Int.toNat v9]?.getD (S_api_Node.mk 0 [] [] [])).f_Keys), .tree (α := S_api_Node) (S_api_Node.mk 0 [] [] []) pre_S_api_Node kids_S_api_Node (((v7)[Int.toNat v9]?.getD (S_api_Node.mk 0 [] [] [])).f_Kids)]] (.val (.int .i64 r1)))]) (by kernel_rfl) (AllP.cons (fun _ => cx (hR_node_Deep (S_api_Node.mk (((v7)[Int.toNat v9]?.getD (S_api_Node.mk 0 [] [] [])).f_Kind) (((v7)[Int.toNat v9]?.getD (S_api_Node.mk 0 [] [] [])).f_Text) (((v7)[Int.toNat v9]?.getD (S_api_Node.mk 0 [] [] [])).f_Keys) (((v7)[Int.toNat v9]?.getD (S_api_Node.mk 0 [] [] [])).f_Kids)) _ hr1)) AllP.nil) ?_
      refine To.blockN ?_
      refine To.thenN ?_
      refine Wp.region hΓ [] [] [] [3, 7, 8, 9] [] (K' := [(3, .val (.int .i64 (if r1 > v3 then r1 else v3))), (7, .recs (α := S_api_Node) (S_api_Node.mk 0 [] [] []) E_api_Node v7), (8, .val (.int .i64 v8)), (9, .val (.int .i64 (IntKind.wrap .i64 (v9 + 1))))]) (L' := []) (ob := []) (by kernel_rfl) AllP.nil ?_
      refine To.keep (kk := [3, 7, 8, 9]) (kl := []) (K' := [(3, .val (.int .i64 (if r1 > v3 then r1 else v3))), (7, .recs (α := S_api_Node) (S_api_Node.mk 0 [] [] []) E_api_Node v7), (8, .val (.int .i64 v8)), (9, .val (.int .i64 (IntKind.wrap .i64 (v9 + 1))))]) (L' := []) (by kernel_rfl) (by kernel_rfl) ?_
      refine To.again ?_
      exact ih (if r1 > v3 then r1 else v3) (IntKind.wrap .i64 (v9 + 1)) _ h hQ
    · replace h := if_f hb h
      refine Wp.exit ?_
      refine To.thenX ?_
      refine To.thenX ?_
      refine To.keep (kk := [3]) (kl := []) (K' := [(3, .val (.int .i64 v3))]) (L' := []) (by kernel_rfl) (by kernel_rfl) ?_
      cases h
      exact hQ
def node_Deep_b (R_node_Deep : S_api_Node → Option (Int)) (n : Nat) (a0 : S_api_Node) : Option (Int) :=
  (node_Deep_l1 R_node_Deep n a0.f_Kids (List.length a0.f_Kids : Int) n 0 0).bind fun o1 =>
  some (IntKind.wrap .i64 (o1 + 1))
theorem ok_node_Deep_b (R_node_Deep : S_api_Node → Option (Int)) (hR_node_Deep : ∀ (a0 : S_api_Node) (r : Int), R_node_Deep a0 = some r → CallsX Try.prog 21 [.agg [.val (.int .i64 a0.f_Kind), .str a0.f_Text, .recs (α := List UInt8) [] E_string a0.f_Keys, .tree (α := S_api_Node) (S_api_Node.mk 0 [] [] []) pre_S_api_Node kids_S_api_Node a0.f_Kids]] (.val (.int .i64 r))) (n : Nat) (a0 : S_api_Node) (r : Int) (h : node_Deep_b R_node_Deep n a0 = some r) : CallsX Try.prog 21 [.agg [.val (.int .i64 a0.f_Kind), .str a0.f_Text, .recs (α := List UInt8) [] E_string a0.f_Keys, .tree (α := S_api_Node) (S_api_Node.mk 0 [] [] []) pre_S_api_Node kids_S_api_Node a0.f_Kids]] (.val (.int .i64 r)) := by
  unfold node_Deep_b at h
  refine callsX_of (fn := Try.f21) (by kernel_rfl) rfl (by kernel_rfl) (Nat.le_of_ble_eq_true (by kernel_rfl)) fun F0 w0 _ => ?_
  refine Wp.keep (kk := [0]) (kl := []) (K' := [(0, .agg [.val (.int .i64 a0.f_Kind), .str a0.f_Text, .recs (α := List UInt8) [] E_string a0.f_Keys, .tree (α := S_api_Node) (S_api_Node.mk 0 [] [] []) pre_S_api_Node kids_S_api_Node a0.f_Kids])]) (L' := []) (by kernel_rfl) (by kernel_rfl) ?_
  refine Wp.seq ?_
  refine Wp.region hΓ [] [] [] [1] [1] (K' := [(1, .own 1 0)]) (L' := [(1, 25, [.val (.int .i64 a0.f_Kind), .str a0.f_Text, .recs (α := List UInt8) [] E_string a0.f_Keys, .tree (α := S_api_Node) (S_api_Node.mk 0 [] [] []) pre_S_api_Node kids_S_api_Node a0.f_Kids])]) (ob := []) (by kernel_rfl) AllP.nil ?_
  refine To.thenN ?_
  refine Wp.seq ?_
  refine Wp.region hΓ [] [] [] [1, 3] [1] (K' := [(1, .own 1 0), (3, .val (.int .i64 0))]) (L' := [(1, 25, [.val (.int .i64 a0.f_Kind), .str a0.f_Text, .recs (α := List UInt8) [] E_string a0.f_Keys, .tree (α := S_api_Node) (S_api_Node.mk 0 [] [] []) pre_S_api_Node kids_S_api_Node a0.f_Kids])]) (ob := []) (by kernel_rfl) AllP.nil ?_
  refine To.thenN ?_
  refine Wp.seq ?_
  refine Wp.seq ?_
  refine Wp.region hΓ [] [] [] [3, 7, 8, 9] [] (K' := [(3, .val (.int .i64 0)), (7, .tree (α := S_api_Node) (S_api_Node.mk 0 [] [] []) pre_S_api_Node kids_S_api_Node a0.f_Kids), (8, .val (.int .i64 (List.length a0.f_Kids : Int))), (9, .val (.int .i64 0))]) (L' := []) (ob := []) (by kernel_rfl) AllP.nil ?_
  refine To.thenN ?_
  refine Wp.block ?_
  obtain ⟨o1, ho1, h⟩ := bind_of h
  refine Wp.keep (kk := [3, 7, 8, 9]) (kl := []) (K' := [(3, .val (.int .i64 0)), (7, .tree (α := S_api_Node) (S_api_Node.mk 0 [] [] []) pre_S_api_Node kids_S_api_Node a0.f_Kids), (8, .val (.int .i64 (List.length a0.f_Kids : Int))), (9, .val (.int .i64 0))]) (L' := []) (by kernel_rfl) (by kernel_rfl) ?_
  refine Wp.weak (K' := [(3, .val (.int .i64 0)), (7, .recs (α := S_api_Node) (S_api_Node.mk 0 [] [] []) E_api_Node a0.f_Kids), (8, .val (.int .i64 (List.length a0.f_Kids : Int))), (9, .val (.int .i64 0))]) (L' := []) (.cons (.refl _) (.cons (.opn _ _ _ _) (.cons (.refl _) (.cons (.refl _) .nil)))) .nil ?_
  refine Wp.loopL ?_
  refine ok_node_Deep_l1 R_node_Deep hR_node_Deep n a0.f_Kids (List.length a0.f_Kids : Int) n 0 0 o1 ho1 ?_
  refine To.blockX ?_
  refine To.thenN ?_
  refine Wp.seq ?_
  refine Wp.region hΓ [] [] [] [2] [] (K' := [(2, .val (.int .i64 (IntKind.wrap .i64 (o1 + 1))))]) (L' := []) (ob := []) (by kernel_rfl) AllP.nil ?_
  refine To.thenN ?_
  refine Wp.ret ?_
  refine To.keep (kk := [2]) (kl := []) (K' := [(2, .val (.int .i64 (IntKind.wrap .i64 (o1 + 1))))]) (L' := []) (by kernel_rfl) (by kernel_rfl) ?_
  cases h
  exact To.done hΓ (by kernel_rfl)
def node_Deep : Nat → S_api_Node → Option (Int)
  | 0 => fun _ => none
  | n + 1 => node_Deep_b (node_Deep n) n
theorem ok_node_Deep (n : Nat) : ∀ (a0 : S_api_Node) (r : Int), node_Deep n a0 = some r → CallsX Try.prog 21 [.agg [.val (.int .i64 a0.f_Kind), .str a0.f_Text, .recs (α := List UInt8) [] E_string a0.f_Keys, .tree (α := S_api_Node) (S_api_Node.mk 0 [] [] []) pre_S_api_Node kids_S_api_Node a0.f_Kids]] (.val (.int .i64 r)) := by
  induction n with
  | zero => intro a0 r h; cases h
  | succ n ih => exact fun a0 r h => ok_node_Deep_b (node_Deep n) ih n a0 r h
def node_Count_l1 (R_node_Count : S_api_Node → Option (Int)) (n : Nat) (v7 : List (S_api_Node)) (v8 : Int) : Nat → Int → Int → Option (Int)
  | 0, _, _ => none
  | k + 1, v3, v9 => if (decide (v9 < v8)) = true then (if (decide (0 ≤ v9 ∧ v9 < (List.length v7 : Int))) = true then ((R_node_Count (S_api_Node.mk (((v7)[Int.toNat v9]?.getD (S_api_Node.mk 0 [] [] [])).f_Kind) (((v7)[Int.toNat v9]?.getD (S_api_Node.mk 0 [] [] [])).f_Text) (((v7)[Int.toNat v9]?.getD (S_api_Node.mk 0 [] [] [])).f_Keys) (((v7)[Int.toNat v9]?.getD (S_api_Node.mk 0 [] [] [])).f_Kids))).bind fun r1 =>
  node_Count_l1 R_node_Count n v7 v8 k (IntKind.wrap .i64 (v3 + r1)) (IntKind.wrap .i64 (v9 + 1))) else none)
  else some v3
theorem ok_node_Count_l1 (R_node_Count : S_api_Node → Option (Int)) (hR_node_Count : ∀ (a0 : S_api_Node) (r : Int), R_node_Count a0 = some r → CallsX Try.prog 20 [.agg [.val (.int .i64 a0.f_Kind), .str a0.f_Text, .recs (α := List UInt8) [] E_string a0.f_Keys, .tree (α := S_api_Node) (S_api_Node.mk 0 [] [] []) pre_S_api_Node kids_S_api_Node a0.f_Kids]] (.val (.int .i64 r))) (n : Nat) (v7 : List (S_api_Node)) (v8 : Int) {F0 : Fz} {w0 : Pt Try.prog} {Q : Exit → Act → World → Prop} (k : Nat) : ∀ (v3 : Int) (v9 : Int) (o : Int), node_Count_l1 R_node_Count n v7 v8 k v3 v9 = some o → To 19 F0 w0 [(3, .val (.int .i64 o))] [] (.exit 0) Q → WL Try.prog 19 F0 w0 [(3, .val (.int .i64 v3)), (7, .recs (α := S_api_Node) (S_api_Node.mk 0 [] [] []) E_api_Node v7), (8, .val (.int .i64 v8)), (9, .val (.int .i64 v9))] [] (cI (cI (cB (cA (cB (cB (cF Try.f20))))))) Q := by
  induction k with
  | zero => intro v3 v9 o h; cases h
  | succ k ih =>
    intro v3 v9 o h hQ
    rw [node_Count_l1] at h
    refine WL.round ?_
    refine Wp.seq ?_
    refine Wp.region hΓ [] [] [] [3, 7, 8, 9, 10] [] (K' := [(3, .val (.int .i64 v3)), (7, .recs (α := S_api_Node) (S_api_Node.mk 0 [] [] []) E_api_Node v7), (8, .val (.int .i64 v8)), (9, .val (.int .i64 v9)), (10, .val (.bool (decide (v9 < v8))))]) (L' := []) (ob := []) (by kernel_rfl) AllP.nil ?_
    refine To.thenN ?_
    refine Wp.seq ?_
    refine Wp.cond (b := (decide (v9 < v8))) (by kernel_rfl) (fun hb => ?_) (fun hb => ?_)
    · replace h := if_t hb h
      refine Wp.skip ?_
      refine To.thenN ?_
      refine Wp.seq ?_
      refine Wp.block ?_
      refine Wp.seq ?_
      obtain ⟨hc2, h⟩ := chk_of h
      refine Wp.region hΓ [] [] [] [3, 5, 7, 8, 9] [5] (K' := [(3, .val (.int .i64 v3)), (5, .own 5 0), (7, .recs (α := S_api_Node) (S_api_Node.mk 0 [] [] []) E_api_Node v7), (8, .val (.int .i64 v8)), (9, .val (.int .i64 v9))]) (L' := [(5, 25, [.val (.int .i64 (((v7)[Int.toNat v9]?.getD (S_api_Node.mk 0 [] [] [])).f_Kind)), .str (((v7)[Int.toNat v9]?.getD (S_api_Node.mk 0 [] [] [])).f_Text), .recs (α := List UInt8) [] E_string (((v7)[Int.toNat v9]?.getD (S_api_Node.mk 0 [] [] [])).f_Keys), .tree (α := S_api_Node) (S_api_Node.mk 0 [] [] []) pre_S_api_Node kids_S_api_Node (((v7)[Int.toNat v9]?.getD (S_api_Node.mk 0 [] [] [])).f_Kids)])]) (ob := [(decide (0 ≤ v9 ∧ v9 < (List.length v7 : Int))) = true]) (by kernel_rfl) (AllP.cons hc2 AllP.nil) ?_
      refine To.thenN ?_
      obtain ⟨r1, hr1, h⟩ := bind_of h
      refine Wp.region hΓ [] [(2, .val (.int .i64 r1))] [] [3, 7, 8, 9] [] (K' := [(3, .val (.int .i64 (IntKind.wrap .i64 (v3 + r1)))), (7, .recs (α := S_api_Node) (S_api_Node.mk 0 [] [] []) E_api_Node v7), (8, .val (.int .i64 v8)), (9, .val (.int .i64 v9))]) (L' := []) (ob := [(true = true → CX Try.prog 20 [.agg [.val (.int .i64 (((v7)[Int.toNat v9]?.getD (S_api_Node.mk 0 [] [] [])).f_Kind)), .str (((v7)[Int.toNat v9]?.getD (S_api_Node.mk 0 [] [] [])).f_Text), .recs (α := List UInt8) [] E_string (((v7)[Int.toNat v9]?.getD (S_api_Node.mk 0 [] [] [])).f_Keys), .tree (α := S_api_Node) (S_api_Node.mk 0 [] [] []) pre_S_api_Node kids_S_api_Node (((v7)[Int.toNat v9]?.getD (S_api_Node.mk 0 [] [] [])).f_Kids)]] (.val (.int .i64 r1)))]) (by kernel_rfl) (AllP.cons (fun _ => cx (hR_node_Count (S_api_Node.mk (((v7)[Int.toNat v9]?.getD (S_api_Node.mk 0 [] [] [])).f_Kind) (((v7)[Int.toNat v9]?.getD (S_api_Node.mk 0 [] [] [])).f_Text) (((v7)[Int.toNat v9]?.getD (S_api_Node.mk 0 [] [] [])).f_Keys) (((v7)[Int.toNat v9]?.getD (S_api_Node.mk 0 [] [] [])).f_Kids)) _ hr1)) AllP.nil) ?_
      refine To.blockN ?_
      refine To.thenN ?_
      refine Wp.region hΓ [] [] [] [3, 7, 8, 9] [] (K' := [(3, .val (.int .i64 (IntKind.wrap .i64 (v3 + r1)))), (7, .recs (α := S_api_Node) (S_api_Node.mk 0 [] [] []) E_api_Node v7), (8, .val (.int .i64 v8)), (9, .val (.int .i64 (IntKind.wrap .i64 (v9 + 1))))]) (L' := []) (ob := []) (by kernel_rfl) AllP.nil ?_
      refine To.keep (kk := [3, 7, 8, 9]) (kl := []) (K' := [(3, .val (.int .i64 (IntKind.wrap .i64 (v3 + r1)))), (7, .recs (α := S_api_Node) (S_api_Node.mk 0 [] [] []) E_api_Node v7), (8, .val (.int .i64 v8)), (9, .val (.int .i64 (IntKind.wrap .i64 (v9 + 1))))]) (L' := []) (by kernel_rfl) (by kernel_rfl) ?_
      refine To.again ?_
      exact ih (IntKind.wrap .i64 (v3 + r1)) (IntKind.wrap .i64 (v9 + 1)) _ h hQ
    · replace h := if_f hb h
      refine Wp.exit ?_
      refine To.thenX ?_
      refine To.thenX ?_
      refine To.keep (kk := [3]) (kl := []) (K' := [(3, .val (.int .i64 v3))]) (L' := []) (by kernel_rfl) (by kernel_rfl) ?_
      cases h
      exact hQ
def node_Count_b (R_node_Count : S_api_Node → Option (Int)) (n : Nat) (a0 : S_api_Node) : Option (Int) :=
  (node_Count_l1 R_node_Count n a0.f_Kids (List.length a0.f_Kids : Int) n 1 0).bind fun o1 =>
  some o1
theorem ok_node_Count_b (R_node_Count : S_api_Node → Option (Int)) (hR_node_Count : ∀ (a0 : S_api_Node) (r : Int), R_node_Count a0 = some r → CallsX Try.prog 20 [.agg [.val (.int .i64 a0.f_Kind), .str a0.f_Text, .recs (α := List UInt8) [] E_string a0.f_Keys, .tree (α := S_api_Node) (S_api_Node.mk 0 [] [] []) pre_S_api_Node kids_S_api_Node a0.f_Kids]] (.val (.int .i64 r))) (n : Nat) (a0 : S_api_Node) (r : Int) (h : node_Count_b R_node_Count n a0 = some r) : CallsX Try.prog 20 [.agg [.val (.int .i64 a0.f_Kind), .str a0.f_Text, .recs (α := List UInt8) [] E_string a0.f_Keys, .tree (α := S_api_Node) (S_api_Node.mk 0 [] [] []) pre_S_api_Node kids_S_api_Node a0.f_Kids]] (.val (.int .i64 r)) := by
  unfold node_Count_b at h
  refine callsX_of (fn := Try.f20) (by kernel_rfl) rfl (by kernel_rfl) (Nat.le_of_ble_eq_true (by kernel_rfl)) fun F0 w0 _ => ?_
  refine Wp.keep (kk := [0]) (kl := []) (K' := [(0, .agg [.val (.int .i64 a0.f_Kind), .str a0.f_Text, .recs (α := List UInt8) [] E_string a0.f_Keys, .tree (α := S_api_Node) (S_api_Node.mk 0 [] [] []) pre_S_api_Node kids_S_api_Node a0.f_Kids])]) (L' := []) (by kernel_rfl) (by kernel_rfl) ?_
  refine Wp.seq ?_
  refine Wp.region hΓ [] [] [] [1] [1] (K' := [(1, .own 1 0)]) (L' := [(1, 25, [.val (.int .i64 a0.f_Kind), .str a0.f_Text, .recs (α := List UInt8) [] E_string a0.f_Keys, .tree (α := S_api_Node) (S_api_Node.mk 0 [] [] []) pre_S_api_Node kids_S_api_Node a0.f_Kids])]) (ob := []) (by kernel_rfl) AllP.nil ?_
  refine To.thenN ?_
  refine Wp.seq ?_
  refine Wp.region hΓ [] [] [] [1, 3] [1] (K' := [(1, .own 1 0), (3, .val (.int .i64 1))]) (L' := [(1, 25, [.val (.int .i64 a0.f_Kind), .str a0.f_Text, .recs (α := List UInt8) [] E_string a0.f_Keys, .tree (α := S_api_Node) (S_api_Node.mk 0 [] [] []) pre_S_api_Node kids_S_api_Node a0.f_Kids])]) (ob := []) (by kernel_rfl) AllP.nil ?_
  refine To.thenN ?_
  refine Wp.seq ?_
  refine Wp.seq ?_
  refine Wp.region hΓ [] [] [] [3, 7, 8, 9] [] (K' := [(3, .val (.int .i64 1)), (7, .tree (α := S_api_Node) (S_api_Node.mk 0 [] [] []) pre_S_api_Node kids_S_api_Node a0.f_Kids), (8, .val (.int .i64 (List.length a0.f_Kids : Int))), (9, .val (.int .i64 0))]) (L' := []) (ob := []) (by kernel_rfl) AllP.nil ?_
  refine To.thenN ?_
  refine Wp.block ?_
  obtain ⟨o1, ho1, h⟩ := bind_of h
  refine Wp.keep (kk := [3, 7, 8, 9]) (kl := []) (K' := [(3, .val (.int .i64 1)), (7, .tree (α := S_api_Node) (S_api_Node.mk 0 [] [] []) pre_S_api_Node kids_S_api_Node a0.f_Kids), (8, .val (.int .i64 (List.length a0.f_Kids : Int))), (9, .val (.int .i64 0))]) (L' := []) (by kernel_rfl) (by kernel_rfl) ?_
  refine Wp.weak (K' := [(3, .val (.int .i64 1)), (7, .recs (α := S_api_Node) (S_api_Node.mk 0 [] [] []) E_api_Node a0.f_Kids), (8, .val (.int .i64 (List.length a0.f_Kids : Int))), (9, .val (.int .i64 0))]) (L' := []) (.cons (.refl _) (.cons (.opn _ _ _ _) (.cons (.refl _) (.cons (.refl _) .nil)))) .nil ?_
  refine Wp.loopL ?_
  refine ok_node_Count_l1 R_node_Count hR_node_Count n a0.f_Kids (List.length a0.f_Kids : Int) n 1 0 o1 ho1 ?_
  refine To.blockX ?_
  refine To.thenN ?_
  refine Wp.seq ?_
  refine Wp.region hΓ [] [] [] [2] [] (K' := [(2, .val (.int .i64 o1))]) (L' := []) (ob := []) (by kernel_rfl) AllP.nil ?_
  refine To.thenN ?_
  refine Wp.ret ?_
  refine To.keep (kk := [2]) (kl := []) (K' := [(2, .val (.int .i64 o1))]) (L' := []) (by kernel_rfl) (by kernel_rfl) ?_
  cases h
  exact To.done hΓ (by kernel_rfl)
def node_Count : Nat → S_api_Node → Option (Int)
  | 0 => fun _ => none
  | n + 1 => node_Count_b (node_Count n) n
theorem ok_node_Count (n : Nat) : ∀ (a0 : S_api_Node) (r : Int), node_Count n a0 = some r → CallsX Try.prog 20 [.agg [.val (.int .i64 a0.f_Kind), .str a0.f_Text, .recs (α := List UInt8) [] E_string a0.f_Keys, .tree (α := S_api_Node) (S_api_Node.mk 0 [] [] []) pre_S_api_Node kids_S_api_Node a0.f_Kids]] (.val (.int .i64 r)) := by
  induction n with
  | zero => intro a0 r h; cases h
  | succ n ih => exact fun a0 r h => ok_node_Count_b (node_Count n) ih n a0 r h
def law08_awake (n : Nat) : Option (Bool) :=
  lett (node_Text [120]) fun r1 =>
  lett (node_Text [121]) fun r2 =>
  (node_Map n ([[98]]) [r2]).bind fun r3 =>
  (node_Seq n [r1, r3]).bind fun r4 =>
  (node_Map n ([[97]]) [r4]).bind fun r5 =>
  (node_At n r5 ([[97], [49], [98]])).bind fun r6 =>
  ((if ((bif r6.2 then (r6.1.f_Text == [121]) else false) == true) = true then node_Deep n r5 else some 0)).bind fun r7 =>
  ((if ((bif (bif r6.2 then (r6.1.f_Text == [121]) else false) then (r7 == 4) else false) == true) = true then node_Count n r5 else some 0)).bind fun r8 =>
  ((if ((bif (bif (bif r6.2 then (r6.1.f_Text == [121]) else false) then (r7 == 4) else false) then (r8 == 5) else false) == true) = true then node_Right n r5 else some false)).bind fun r9 =>
  lett ((bif (bif (bif (bif r6.2 then (r6.1.f_Text == [121]) else false) then (r7 == 4) else false) then (r8 == 5) else false) then r9 else false) : Bool) fun x10 =>
  some x10
theorem ok_law08_awake (n : Nat) (r : Bool) (h : law08_awake n = some r) : CallsX Try.prog 7 [] (.val (.bool r)) := by
  unfold law08_awake at h
  refine callsX_of (fn := Try.f7) (by kernel_rfl) rfl (by kernel_rfl) (Nat.le_of_ble_eq_true (by kernel_rfl)) fun F0 w0 _ => ?_
  refine Wp.keep (kk := []) (kl := []) (K' := []) (L' := []) (by kernel_rfl) (by kernel_rfl) ?_
  refine Wp.seq ?_
  refine Wp.region hΓ [] [] [] [] [] (K' := []) (L' := []) (ob := []) (by kernel_rfl) AllP.nil ?_
  refine To.thenN ?_
  refine Wp.seq ?_
  obtain ⟨r1, hr1, h⟩ := lett_of h
  obtain ⟨r2, hr2, h⟩ := lett_of h
  obtain ⟨r3, hr3, h⟩ := bind_of h
  obtain ⟨r4, hr4, h⟩ := bind_of h
  obtain ⟨r5, hr5, h⟩ := bind_of h
  refine Wp.region hΓ [(5, [6, 8]), (7, [10]), (9, [4, 12])] [(0, .recs (α := List UInt8) [] E_string ([[97]])), (1, .agg [.val (.int .i64 r1.f_Kind), .str r1.f_Text, .recs (α := List UInt8) [] E_string r1.f_Keys, .tree (α := S_api_Node) (S_api_Node.mk 0 [] [] []) pre_S_api_Node kids_S_api_Node r1.f_Kids]), (2, .recs (α := List UInt8) [] E_string ([[98]])), (3, .agg [.val (.int .i64 r2.f_Kind), .str r2.f_Text, .recs (α := List UInt8) [] E_string r2.f_Keys, .tree (α := S_api_Node) (S_api_Node.mk 0 [] [] []) pre_S_api_Node kids_S_api_Node r2.f_Kids]), (4, .recs (α := S_api_Node) (S_api_Node.mk 0 [] [] []) E_api_Node [r2]), (5, .agg [.val (.int .i64 r3.f_Kind), .str r3.f_Text, .recs (α := List UInt8) [] E_string r3.f_Keys, .tree (α := S_api_Node) (S_api_Node.mk 0 [] [] []) pre_S_api_Node kids_S_api_Node r3.f_Kids]), (6, .recs (α := S_api_Node) (S_api_Node.mk 0 [] [] []) E_api_Node [r1, r3]), (7, .agg [.val (.int .i64 r4.f_Kind), .str r4.f_Text, .recs (α := List UInt8) [] E_string r4.f_Keys, .tree (α := S_api_Node) (S_api_Node.mk 0 [] [] []) pre_S_api_Node kids_S_api_Node r4.f_Kids]), (8, .recs (α := S_api_Node) (S_api_Node.mk 0 [] [] []) E_api_Node [r4]), (9, .agg [.val (.int .i64 r5.f_Kind), .str r5.f_Text, .recs (α := List UInt8) [] E_string r5.f_Keys, .tree (α := S_api_Node) (S_api_Node.mk 0 [] [] []) pre_S_api_Node kids_S_api_Node r5.f_Kids])] [] [1] [1] (K' := [(1, .own 1 0)]) (L' := [(1, 25, [.val (.int .i64 r5.f_Kind), .str r5.f_Text, .recs (α := List UInt8) [] E_string r5.f_Keys, .tree (α := S_api_Node) (S_api_Node.mk 0 [] [] []) pre_S_api_Node kids_S_api_Node r5.f_Kids])]) (ob := [(MkOb 1 [.str [97]] 1 (.recs (α := List UInt8) [] E_string ([[97]])) ∧ GoodR (.recs (α := List UInt8) [] E_string ([[97]]))), (true = true → CX Try.prog 32 [.str [120]] (.agg [.val (.int .i64 r1.f_Kind), .str r1.f_Text, .recs (α := List UInt8) [] E_string r1.f_Keys, .tree (α := S_api_Node) (S_api_Node.mk 0 [] [] []) pre_S_api_Node kids_S_api_Node r1.f_Kids])), (MkOb 1 [.str [98]] 1 (.recs (α := List UInt8) [] E_string ([[98]])) ∧ GoodR (.recs (α := List UInt8) [] E_string ([[98]]))), (true = true → CX Try.prog 32 [.str [121]] (.agg [.val (.int .i64 r2.f_Kind), .str r2.f_Text, .recs (α := List UInt8) [] E_string r2.f_Keys, .tree (α := S_api_Node) (S_api_Node.mk 0 [] [] []) pre_S_api_Node kids_S_api_Node r2.f_Kids])), (MkOb 4 [.val (.int .i64 r2.f_Kind), .str r2.f_Text, .recs (α := List UInt8) [] E_string r2.f_Keys, .tree (α := S_api_Node) (S_api_Node.mk 0 [] [] []) pre_S_api_Node kids_S_api_Node r2.f_Kids] 1 (.recs (α := S_api_Node) (S_api_Node.mk 0 [] [] []) E_api_Node [r2]) ∧ GoodR (.recs (α := S_api_Node) (S_api_Node.mk 0 [] [] []) E_api_Node [r2])), (true = true → CX Try.prog 31 [.recs (α := List UInt8) [] E_string ([[98]]), .recs (α := S_api_Node) (S_api_Node.mk 0 [] [] []) E_api_Node [r2]] (.agg [.val (.int .i64 r3.f_Kind), .str r3.f_Text, .recs (α := List UInt8) [] E_string r3.f_Keys, .tree (α := S_api_Node) (S_api_Node.mk 0 [] [] []) pre_S_api_Node kids_S_api_Node r3.f_Kids])), (MkOb 4 [.val (.int .i64 r1.f_Kind), .str r1.f_Text, .recs (α := List UInt8) [] E_string r1.f_Keys, .tree (α := S_api_Node) (S_api_Node.mk 0 [] [] []) pre_S_api_Node kids_S_api_Node r1.f_Kids, .val (.int .i64 r3.f_Kind), .str r3.f_Text, .recs (α := List UInt8) [] E_string r3.f_Keys, .tree (α := S_api_Node) (S_api_Node.mk 0 [] [] []) pre_S_api_Node kids_S_api_Node r3.f_Kids] 2 (.recs (α := S_api_Node) (S_api_Node.mk 0 [] [] []) E_api_Node [r1, r3]) ∧ GoodR (.recs (α := S_api_Node) (S_api_Node.mk 0 [] [] []) E_api_Node [r1, r3])), (true = true → CX Try.prog 27 [.recs (α := S_api_Node) (S_api_Node.mk 0 [] [] []) E_api_Node [r1, r3]] (.agg [.val (.int .i64 r4.f_Kind), .str r4.f_Text, .recs (α := List UInt8) [] E_string r4.f_Keys, .tree (α := S_api_Node) (S_api_Node.mk 0 [] [] []) pre_S_api_Node kids_S_api_Node r4.f_Kids])), (MkOb 4 [.val (.int .i64 r4.f_Kind), .str r4.f_Text, .recs (α := List UInt8) [] E_string r4.f_Keys, .tree (α := S_api_Node) (S_api_Node.mk 0 [] [] []) pre_S_api_Node kids_S_api_Node r4.f_Kids] 1 (.recs (α := S_api_Node) (S_api_Node.mk 0 [] [] []) E_api_Node [r4]) ∧ GoodR (.recs (α := S_api_Node) (S_api_Node.mk 0 [] [] []) E_api_Node [r4])), (true = true → CX Try.prog 31 [.recs (α := List UInt8) [] E_string ([[97]]), .recs (α := S_api_Node) (S_api_Node.mk 0 [] [] []) E_api_Node [r4]] (.agg [.val (.int .i64 r5.f_Kind), .str r5.f_Text, .recs (α := List UInt8) [] E_string r5.f_Keys, .tree (α := S_api_Node) (S_api_Node.mk 0 [] [] []) pre_S_api_Node kids_S_api_Node r5.f_Kids]))]) (by kernel_rfl) (AllP.cons (mkOb (by kernel_rfl) rfl (by kernel_rfl) (good_E_string _)) (AllP.cons (fun _ => cx (ok_node_Text [120] _ hr1)) (AllP.cons (mkOb (by kernel_rfl) rfl (by kernel_rfl) (good_E_string _)) (AllP.cons (fun _ => cx (ok_node_Text [121] _ hr2)) (AllP.cons (mkOb (by kernel_rfl) rfl (by kernel_rfl) (good_E_api_Node _)) (AllP.cons (fun _ => cx (ok_node_Map n ([[98]]) [r2] _ hr3)) (AllP.cons (mkOb (by kernel_rfl) rfl (by kernel_rfl) (good_E_api_Node _)) (AllP.cons (fun _ => cx (ok_node_Seq n [r1, r3] _ hr4)) (AllP.cons (mkOb (by kernel_rfl) rfl (by kernel_rfl) (good_E_api_Node _)) (AllP.cons (fun _ => cx (ok_node_Map n ([[97]]) [r4] _ hr5)) AllP.nil)))))))))) ?_
  refine To.thenN ?_
  refine Wp.seq ?_
  obtain ⟨r6, hr6, h⟩ := bind_of h
  refine Wp.region hΓ [(2, [16])] [(1, .recs (α := List UInt8) [] E_string ([[97], [49], [98]])), (2, .tup [.agg [.val (.int .i64 r6.1.f_Kind), .str r6.1.f_Text, .recs (α := List UInt8) [] E_string r6.1.f_Keys, .tree (α := S_api_Node) (S_api_Node.mk 0 [] [] []) pre_S_api_Node kids_S_api_Node r6.1.f_Kids], .val (.bool r6.2)])] [] [1, 2, 3] [1, 2] (K' := [(1, .own 1 0), (2, .own 2 0), (3, .val (.bool r6.2))]) (L' := [(1, 25, [.val (.int .i64 r5.f_Kind), .str r5.f_Text, .recs (α := List UInt8) [] E_string r5.f_Keys, .tree (α := S_api_Node) (S_api_Node.mk 0 [] [] []) pre_S_api_Node kids_S_api_Node r5.f_Kids]), (2, 25, [.val (.int .i64 r6.1.f_Kind), .str r6.1.f_Text, .recs (α := List UInt8) [] E_string r6.1.f_Keys, .tree (α := S_api_Node) (S_api_Node.mk 0 [] [] []) pre_S_api_Node kids_S_api_Node r6.1.f_Kids])]) (ob := [(MkOb 1 [.str [97], .str [49], .str [98]] 3 (.recs (α := List UInt8) [] E_string ([[97], [49], [98]])) ∧ GoodR (.recs (α := List UInt8) [] E_string ([[97], [49], [98]]))), (true = true → CX Try.prog 14 [.agg [.val (.int .i64 r5.f_Kind), .str r5.f_Text, .recs (α := List UInt8) [] E_string r5.f_Keys, .tree (α := S_api_Node) (S_api_Node.mk 0 [] [] []) pre_S_api_Node kids_S_api_Node r5.f_Kids], .recs (α := List UInt8) [] E_string ([[97], [49], [98]])] (.tup [.agg [.val (.int .i64 r6.1.f_Kind), .str r6.1.f_Text, .recs (α := List UInt8) [] E_string r6.1.f_Keys, .tree (α := S_api_Node) (S_api_Node.mk 0 [] [] []) pre_S_api_Node kids_S_api_Node r6.1.f_Kids], .val (.bool r6.2)]))]) (by kernel_rfl) (AllP.cons (mkOb (by kernel_rfl) rfl (by kernel_rfl) (good_E_string _)) (AllP.cons (fun _ => cx (ok_node_At n r5 ([[97], [49], [98]]) _ hr6)) AllP.nil)) ?_
  refine To.thenN ?_
  refine Wp.seq ?_
  obtain ⟨r7, hr7, h⟩ := bind_of h
  obtain ⟨r8, hr8, h⟩ := bind_of h
  obtain ⟨r9, hr9, h⟩ := bind_of h
  obtain ⟨x10, hx10, h⟩ := lett_of h
  refine Wp.region hΓ [] [(8, .val (.int .i64 r7)), (13, .val (.int .i64 r8)), (18, .val (.bool r9))] [] [0] [] (K' := [(0, .val (.bool (bif (bif (bif (bif r6.2 then (r6.1.f_Text == [121]) else false) then (r7 == 4) else false) then (r8 == 5) else false) then r9 else false)))]) (L' := []) (ob := [(((bif r6.2 then (r6.1.f_Text == [121]) else false) == true) = true → CX Try.prog 21 [.agg [.val (.int .i64 r5.f_Kind), .str r5.f_Text, .recs (α := List UInt8) [] E_string r5.f_Keys, .tree (α := S_api_Node) (S_api_Node.mk 0 [] [] []) pre_S_api_Node kids_S_api_Node r5.f_Kids]] (.val (.int .i64 r7))), (((bif (bif r6.2 then (r6.1.f_Text == [121]) else false) then (r7 == 4) else false) == true) = true → CX Try.prog 20 [.agg [.val (.int .i64 r5.f_Kind), .str r5.f_Text, .recs (α := List UInt8) [] E_string r5.f_Keys, .tree (α := S_api_Node) (S_api_Node.mk 0 [] [] []) pre_S_api_Node kids_S_api_Node r5.f_Kids]] (.val (.int .i64 r8))), (((bif (bif (bif r6.2 then (r6.1.f_Text == [121]) else false) then (r7 == 4) else false) then (r8 == 5) else false) == true) = true → CX Try.prog 33 [.agg [.val (.int .i64 r5.f_Kind), .str r5.f_Text, .recs (α := List UInt8) [] E_string r5.f_Keys, .tree (α := S_api_Node) (S_api_Node.mk 0 [] [] []) pre_S_api_Node kids_S_api_Node r5.f_Kids]] (.val (.bool r9)))]) (by kernel_rfl) (AllP.cons (fun hg => cx (ok_node_Deep n r5 _ (if_t hg hr7))) (AllP.cons (fun hg => cx (ok_node_Count n r5 _ (if_t hg hr8))) (AllP.cons (fun hg => cx (ok_node_Right n r5 _ (if_t hg hr9))) AllP.nil))) ?_
  refine To.eq (K' := [(0, .val (.bool x10))]) (L' := []) (by cases hx10; rfl) (by cases hx10; rfl) ?_
  refine To.thenN ?_
  refine Wp.ret ?_
  refine To.keep (kk := [0]) (kl := []) (K' := [(0, .val (.bool x10))]) (L' := []) (by kernel_rfl) (by kernel_rfl) ?_
  cases h
  exact To.done hΓ (by kernel_rfl)
def ref08_Get_l2 (n : Nat) (v1 : List UInt8) (b2 : S_api_Node) : Nat → Int → S_api_Node → Option (Sum (S_api_Node) (Bool × S_api_Node))
  | 0, _, _ => none
  | k + 1, v6, b4 => if (decide (v6 < (List.length b2.f_Keys : Int))) = true then (if (decide (0 ≤ v6 ∧ v6 < (List.length b2.f_Keys : Int))) = true then (if (((b2.f_Keys)[Int.toNat v6]?.getD []) == v1) = true then (if (decide (0 ≤ v6 ∧ v6 < (List.length b2.f_Kids : Int))) = true then (some (.inr (true, (S_api_Node.mk (((b2.f_Kids)[Int.toNat v6]?.getD (S_api_Node.mk 0 [] [] [])).f_Kind) (((b2.f_Kids)[Int.toNat v6]?.getD (S_api_Node.mk 0 [] [] [])).f_Text) (((b2.f_Kids)[Int.toNat v6]?.getD (S_api_Node.mk 0 [] [] [])).f_Keys) (((b2.f_Kids)[Int.toNat v6]?.getD (S_api_Node.mk 0 [] [] [])).f_Kids))))) else none)
  else (ref08_Get_l2 n v1 b2 k (IntKind.wrap .i64 (v6 + 1)) b4)) else none)
  else (some (.inl b4))
end Go.Proofs.Ytjicbelggepaiaa.M
