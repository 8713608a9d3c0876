/-
  Printed by wip/tools/gen.py: models and walks of functions.
-/
import Derived.Test.YtonjhkefnijlhaaDoorRxArgs
import Derived.Test.YtonjhkefnijlhaaDoorRxGoto
import Derived.Test.YtonjhkefnijlhaaDoorSh16
import Derived.Test.YtonjhkefnijlhaaDoorProg
namespace Go.Proofs.YtonjhkefnijlhaaDoor.M
open Go.RowKit Go.Proofs.YtonjhkefnijlhaaDoor.RX
set_option maxRecDepth 100000
def tab : List (Nat × TI) := [
  (3, { agg := false, size := 1, zero := [.int .i64 0], kind := .int .i64, eqs := [] }),
  (4, { agg := false, size := 1, zero := [.bool false], kind := .bool, eqs := [] }),
  (5, { agg := false, size := 1, zero := [.int .u8 0], kind := .int .u8, eqs := [] }),
  (9, { agg := false, size := 1, zero := [.string ⟨#[]⟩], kind := .str, eqs := [] }),
  (24, { agg := true, size := 4, zero := [.string ⟨#[]⟩, .int .i64 0, .int .i64 0, .string ⟨#[]⟩], kind := .struct [(0, 1, false), (1, 1, false), (2, 1, false), (3, 1, false)], eqs := [2, 0, 0, 2] }),
  (31, { agg := false, size := 1, zero := [.slice none 0 0], kind := .slice 1 false, elt := 9, eb := 16, ez := [.string ⟨#[]⟩], ek := none, eqs := [] }),
  (54, { agg := false, size := 1, zero := [.slice none 0 0], kind := .slice 1 false, elt := 5, eb := 1, ez := [.int .u8 0], ek := some .u8, eqs := [] }),
  (65, { agg := false, size := 1, zero := [.int .u64 0], kind := .int .u64, eqs := [] }),
  (67, { agg := true, size := 20, zero := [.int .u8 0, .int .u8 0, .int .u8 0, .int .u8 0, .int .u8 0, .int .u8 0, .int .u8 0, .int .u8 0, .int .u8 0, .int .u8 0, .int .u8 0, .int .u8 0, .int .u8 0, .int .u8 0, .int .u8 0, .int .u8 0, .int .u8 0, .int .u8 0, .int .u8 0, .int .u8 0], kind := .array 20 1 false, eqs := [] })]
theorem tabOK : TabOK Tryd.prog tab := ⟨⟨by kernel_rfl, fun h => absurd rfl h⟩, ⟨by kernel_rfl, fun h => absurd rfl h⟩, ⟨by kernel_rfl, fun h => absurd rfl h⟩, ⟨by kernel_rfl, fun h => absurd rfl h⟩, ⟨by kernel_rfl, fun _ => eqCells_of (by kernel_rfl)⟩, ⟨by kernel_rfl, fun h => absurd rfl h⟩, ⟨by kernel_rfl, fun h => absurd rfl h⟩, ⟨by kernel_rfl, fun h => absurd rfl h⟩, ⟨by kernel_rfl, fun h => absurd rfl h⟩, trivial⟩
theorem hΓ : ΓOK Tryd.prog (tabΓ tab) := ΓOK.of tabOK
theorem hm : Tryd.prog.follows .mixedOrders = true := by kernel_rfl
structure S_api_Port where
  f_Host : List UInt8
  f_Out : Int
  f_In : Int
  f_Proto : List UInt8
def E_string : List UInt8 → List D := fun x => [.str x]
def digit_whole_j2 (n : Nat) (v0 : List UInt8) (v1 : Int) (v6 : Int) (v7 : Bool) (v23 : Int) (v24 : Int) : Option (Sum (Int × Bool) (Int × Int)) :=
  if (decide (0 ≤ v24 ∧ v24 < (List.length v0 : Int))) = true then (lett ((bif (decide ((IntKind.wrap .i64 ((IntKind.wrap .i64 ((((v0)[Int.toNat v24]?.getD 0).toNat : Int))) - 48)) < 0)) then true else (decide ((IntKind.wrap .i64 ((IntKind.wrap .i64 ((((v0)[Int.toNat v24]?.getD 0).toNat : Int))) - 48)) > 9))) : Bool) fun x2 =>
  if x2 = true then (some (.inr (0, 3)))
  else (if ((!(v7 == false) || (10 != 0))) = true then (lett ((bif (bif v7 then true else (decide (v6 > (IntKind.wrap .i64 (Int.tdiv (IntKind.wrap .i64 (v1 - (IntKind.wrap .i64 ((IntKind.wrap .i64 ((((v0)[Int.toNat v24]?.getD 0).toNat : Int))) - 48)))) 10))))) then true else (decide (v1 < (IntKind.wrap .i64 ((IntKind.wrap .i64 ((((v0)[Int.toNat v24]?.getD 0).toNat : Int))) - 48))))) : Bool) fun x3 =>
  if (!x3) = true then (lett ((IntKind.wrap .i64 ((IntKind.wrap .i64 (v6 * 10)) + (IntKind.wrap .i64 ((IntKind.wrap .i64 ((((v0)[Int.toNat v24]?.getD 0).toNat : Int))) - 48)))) : Int) fun x4 =>
  some (.inl (x4, x3)))
  else (some (.inl (v6, x3)))) else none)) else none
theorem ok_digit_whole_j2 (n : Nat) (v0 : List UInt8) (v1 : Int) (v6 : Int) (v7 : Bool) (v23 : Int) (v24 : Int) (o : Sum (Int × Bool) (Int × Int)) (h : digit_whole_j2 n v0 v1 v6 v7 v23 v24 = some o) {F0 : Fz} {w0 : Pt Tryd.prog} {Q : Exit → Act → World → Prop} (hQ : (Sum.elim (fun s => To 61 F0 w0 [(0, .str v0), (1, .val (.int .i64 v1)), (6, .val (.int .i64 s.1)), (7, .val (.bool s.2)), (23, .val (.int .i64 v23)), (24, .val (.int .i64 v24))] [] .normal Q) (fun s => To 61 F0 w0 [(4, .val (.int .i64 s.1)), (5, .val (.int .i64 s.2))] [] .ret Q)) o) : Wp Tryd.prog 61 F0 w0 [(0, .str v0), (1, .val (.int .i64 v1)), (6, .val (.int .i64 v6)), (7, .val (.bool v7)), (23, .val (.int .i64 v23)), (24, .val (.int .i64 v24))] [] (cA (cB (cB (cI (cI (cB (cA (cB (cB (cB (cF Tryd.f75))))))))))) Q := by
  unfold digit_whole_j2 at h
  refine Wp.block ?_
  refine Wp.seq ?_
  refine Wp.region hΓ [] [] [] [0, 1, 6, 7, 8, 23, 24] [] (K' := [(0, .str v0), (1, .val (.int .i64 v1)), (6, .val (.int .i64 v6)), (7, .val (.bool v7)), (8, .val (.int .i64 v24)), (23, .val (.int .i64 v23)), (24, .val (.int .i64 v24))]) (L' := []) (ob := []) (by kernel_rfl) AllP.nil ?_
  refine To.thenN ?_
  refine Wp.seq ?_
  obtain ⟨hc6, h⟩ := chk_of h
  refine Wp.region hΓ [] [] [] [0, 1, 6, 7, 9, 23, 24] [] (K' := [(0, .str v0), (1, .val (.int .i64 v1)), (6, .val (.int .i64 v6)), (7, .val (.bool v7)), (9, .val (.int .i64 (IntKind.wrap .i64 ((IntKind.wrap .i64 ((((v0)[Int.toNat v24]?.getD 0).toNat : Int))) - 48)))), (23, .val (.int .i64 v23)), (24, .val (.int .i64 v24))]) (L' := []) (ob := [(decide (0 ≤ v24 ∧ v24 < (List.length v0 : Int))) = true]) (by kernel_rfl) (AllP.cons hc6 AllP.nil) ?_
  refine To.thenN ?_
  refine Wp.seq ?_
  refine Wp.seq ?_
  obtain ⟨x2, hx2, h⟩ := lett_of h
  refine Wp.region hΓ [] [] [] [0, 1, 6, 7, 9, 23, 24, 37] [] (K' := [(0, .str v0), (1, .val (.int .i64 v1)), (6, .val (.int .i64 v6)), (7, .val (.bool v7)), (9, .val (.int .i64 (IntKind.wrap .i64 ((IntKind.wrap .i64 ((((v0)[Int.toNat v24]?.getD 0).toNat : Int))) - 48)))), (23, .val (.int .i64 v23)), (24, .val (.int .i64 v24)), (37, .val (.bool (bif (decide ((IntKind.wrap .i64 ((IntKind.wrap .i64 ((((v0)[Int.toNat v24]?.getD 0).toNat : Int))) - 48)) < 0)) then true else (decide ((IntKind.wrap .i64 ((IntKind.wrap .i64 ((((v0)[Int.toNat v24]?.getD 0).toNat : Int))) - 48)) > 9)))))]) (L' := []) (ob := []) (by kernel_rfl) AllP.nil ?_
  refine To.eq (K' := [(0, .str v0), (1, .val (.int .i64 v1)), (6, .val (.int .i64 v6)), (7, .val (.bool v7)), (9, .val (.int .i64 (IntKind.wrap .i64 ((IntKind.wrap .i64 ((((v0)[Int.toNat v24]?.getD 0).toNat : Int))) - 48)))), (23, .val (.int .i64 v23)), (24, .val (.int .i64 v24)), (37, .val (.bool x2))]) (L' := []) (by cases hx2; rfl) (by cases hx2; rfl) ?_
  refine To.thenN ?_
  refine Wp.cond (b := x2) (by kernel_rfl) (fun hb => ?_) (fun hb => ?_)
  · replace h := if_t hb h
    refine Wp.seq ?_
    refine Wp.region hΓ [] [] [] [4, 5] [] (K' := [(4, .val (.int .i64 0)), (5, .val (.int .i64 3))]) (L' := []) (ob := []) (by kernel_rfl) AllP.nil ?_
    refine To.thenN ?_
    refine Wp.ret ?_
    refine To.thenR ?_
    refine To.blockR ?_
    refine To.keep (kk := [4, 5]) (kl := []) (K' := [(4, .val (.int .i64 0)), (5, .val (.int .i64 3))]) (L' := []) (by kernel_rfl) (by kernel_rfl) ?_
    cases h
    exact hQ
  · replace h := if_f hb h
    refine Wp.skip ?_
    refine To.thenN ?_
    refine Wp.seq ?_
    obtain ⟨hc5, h⟩ := chk_of h
    obtain ⟨x3, hx3, h⟩ := lett_of h
    refine Wp.region hΓ [] [] [] [0, 1, 6, 7, 9, 23, 24] [] (K' := [(0, .str v0), (1, .val (.int .i64 v1)), (6, .val (.int .i64 v6)), (7, .val (.bool (bif (bif v7 then true else (decide (v6 > (IntKind.wrap .i64 (Int.tdiv (IntKind.wrap .i64 (v1 - (IntKind.wrap .i64 ((IntKind.wrap .i64 ((((v0)[Int.toNat v24]?.getD 0).toNat : Int))) - 48)))) 10))))) then true else (decide (v1 < (IntKind.wrap .i64 ((IntKind.wrap .i64 ((((v0)[Int.toNat v24]?.getD 0).toNat : Int))) - 48))))))), (9, .val (.int .i64 (IntKind.wrap .i64 ((IntKind.wrap .i64 ((((v0)[Int.toNat v24]?.getD 0).toNat : Int))) - 48)))), (23, .val (.int .i64 v23)), (24, .val (.int .i64 v24))]) (L' := []) (ob := [(!(v7 == false) || (10 != 0)) = true]) (by kernel_rfl) (AllP.cons hc5 AllP.nil) ?_
    refine To.eq (K' := [(0, .str v0), (1, .val (.int .i64 v1)), (6, .val (.int .i64 v6)), (7, .val (.bool x3)), (9, .val (.int .i64 (IntKind.wrap .i64 ((IntKind.wrap .i64 ((((v0)[Int.toNat v24]?.getD 0).toNat : Int))) - 48)))), (23, .val (.int .i64 v23)), (24, .val (.int .i64 v24))]) (L' := []) (by cases hx3; rfl) (by cases hx3; rfl) ?_
    refine To.thenN ?_
    refine Wp.seq ?_
    refine Wp.region hΓ [] [] [] [0, 1, 6, 7, 9, 23, 24, 53] [] (K' := [(0, .str v0), (1, .val (.int .i64 v1)), (6, .val (.int .i64 v6)), (7, .val (.bool x3)), (9, .val (.int .i64 (IntKind.wrap .i64 ((IntKind.wrap .i64 ((((v0)[Int.toNat v24]?.getD 0).toNat : Int))) - 48)))), (23, .val (.int .i64 v23)), (24, .val (.int .i64 v24)), (53, .val (.bool (!x3)))]) (L' := []) (ob := []) (by kernel_rfl) AllP.nil ?_
    refine To.thenN ?_
    refine Wp.cond (b := (!x3)) (by kernel_rfl) (fun hb => ?_) (fun hb => ?_)
    · replace h := if_t hb h
      obtain ⟨x4, hx4, h⟩ := lett_of h
      refine Wp.region hΓ [] [] [] [0, 1, 6, 7, 23, 24] [] (K' := [(0, .str v0), (1, .val (.int .i64 v1)), (6, .val (.int .i64 (IntKind.wrap .i64 ((IntKind.wrap .i64 (v6 * 10)) + (IntKind.wrap .i64 ((IntKind.wrap .i64 ((((v0)[Int.toNat v24]?.getD 0).toNat : Int))) - 48)))))), (7, .val (.bool x3)), (23, .val (.int .i64 v23)), (24, .val (.int .i64 v24))]) (L' := []) (ob := []) (by kernel_rfl) AllP.nil ?_
      refine To.eq (K' := [(0, .str v0), (1, .val (.int .i64 v1)), (6, .val (.int .i64 x4)), (7, .val (.bool x3)), (23, .val (.int .i64 v23)), (24, .val (.int .i64 v24))]) (L' := []) (by cases hx4; rfl) (by cases hx4; rfl) ?_
      refine To.blockN ?_
      refine To.keep (kk := [0, 1, 6, 7, 23, 24]) (kl := []) (K' := [(0, .str v0), (1, .val (.int .i64 v1)), (6, .val (.int .i64 x4)), (7, .val (.bool x3)), (23, .val (.int .i64 v23)), (24, .val (.int .i64 v24))]) (L' := []) (by kernel_rfl) (by kernel_rfl) ?_
      cases h
      exact hQ
    · replace h := if_f hb h
      refine Wp.skip ?_
      refine To.blockN ?_
      refine To.keep (kk := [0, 1, 6, 7, 23, 24]) (kl := []) (K' := [(0, .str v0), (1, .val (.int .i64 v1)), (6, .val (.int .i64 v6)), (7, .val (.bool x3)), (23, .val (.int .i64 v23)), (24, .val (.int .i64 v24))]) (L' := []) (by kernel_rfl) (by kernel_rfl) ?_
      cases h
      exact hQ
def digit_whole_l1 (n : Nat) (v0 : List UInt8) (v1 : Int) (v23 : Int) : Nat → Int → Bool → Int → Option (Sum (Int × Bool) (Int × Int))
  | 0, _, _, _ => none
  | k + 1, v6, v7, v24 => if (decide (v24 < v23)) = true then ((digit_whole_j2 n v0 v1 v6 v7 v23 v24).bind fun o2 =>
  (Sum.elim (fun o2 => digit_whole_l1 n v0 v1 v23 k o2.1 o2.2 (IntKind.wrap .i64 (v24 + 1))) (fun o2 => some (.inr (o2.1, o2.2)))) o2)
  else (some (.inl (v6, v7)))
theorem ok_digit_whole_l1 (n : Nat) (v0 : List UInt8) (v1 : Int) (v23 : Int) {F0 : Fz} {w0 : Pt Tryd.prog} {Q : Exit → Act → World → Prop} (k : Nat) : ∀ (v6 : Int) (v7 : Bool) (v24 : Int) (o : Sum (Int × Bool) (Int × Int)), digit_whole_l1 n v0 v1 v23 k v6 v7 v24 = some o → (Sum.elim (fun s => To 61 F0 w0 [(6, .val (.int .i64 s.1)), (7, .val (.bool s.2))] [] (.exit 0) Q) (fun s => To 61 F0 w0 [(4, .val (.int .i64 s.1)), (5, .val (.int .i64 s.2))] [] .ret Q)) o → WL Tryd.prog 61 F0 w0 [(0, .str v0), (1, .val (.int .i64 v1)), (6, .val (.int .i64 v6)), (7, .val (.bool v7)), (23, .val (.int .i64 v23)), (24, .val (.int .i64 v24))] [] (cI (cI (cB (cA (cB (cB (cB (cF Tryd.f75)))))))) Q := by
  induction k with
  | zero => intro v6 v7 v24 o h; cases h
  | succ k ih =>
    intro v6 v7 v24 o h hQ
    rw [digit_whole_l1] at h
    refine WL.round ?_
    refine Wp.seq ?_
    refine Wp.region hΓ [] [] [] [0, 1, 6, 7, 23, 24, 25] [] (K' := [(0, .str v0), (1, .val (.int .i64 v1)), (6, .val (.int .i64 v6)), (7, .val (.bool v7)), (23, .val (.int .i64 v23)), (24, .val (.int .i64 v24)), (25, .val (.bool (decide (v24 < v23))))]) (L' := []) (ob := []) (by kernel_rfl) AllP.nil ?_
    refine To.thenN ?_
    refine Wp.seq ?_
    refine Wp.cond (b := (decide (v24 < v23))) (by kernel_rfl) (fun hb => ?_) (fun hb => ?_)
    · replace h := if_t hb h
      refine Wp.skip ?_
      refine To.thenN ?_
      refine Wp.seq ?_
      obtain ⟨o2, ho2, h⟩ := bind_of h
      refine Wp.keep (kk := [0, 1, 6, 7, 23, 24]) (kl := []) (K' := [(0, .str v0), (1, .val (.int .i64 v1)), (6, .val (.int .i64 v6)), (7, .val (.bool v7)), (23, .val (.int .i64 v23)), (24, .val (.int .i64 v24))]) (L' := []) (by kernel_rfl) (by kernel_rfl) ?_
      refine ok_digit_whole_j2 n v0 v1 v6 v7 v23 v24 o2 ho2 ?_
      rcases o2 with o2 | o2
      · replace h := sum_l h
        refine To.thenN ?_
        refine Wp.region hΓ [] [] [] [0, 1, 6, 7, 23, 24] [] (K' := [(0, .str v0), (1, .val (.int .i64 v1)), (6, .val (.int .i64 o2.1)), (7, .val (.bool o2.2)), (23, .val (.int .i64 v23)), (24, .val (.int .i64 (IntKind.wrap .i64 (v24 + 1))))]) (L' := []) (ob := []) (by kernel_rfl) AllP.nil ?_
        refine To.keep (kk := [0, 1, 6, 7, 23, 24]) (kl := []) (K' := [(0, .str v0), (1, .val (.int .i64 v1)), (6, .val (.int .i64 o2.1)), (7, .val (.bool o2.2)), (23, .val (.int .i64 v23)), (24, .val (.int .i64 (IntKind.wrap .i64 (v24 + 1))))]) (L' := []) (by kernel_rfl) (by kernel_rfl) ?_
        refine To.again ?_
        exact ih o2.1 o2.2 (IntKind.wrap .i64 (v24 + 1)) _ h hQ
      · replace h := sum_r h
        refine To.thenR ?_
        refine To.thenR ?_
        refine To.keep (kk := [4, 5]) (kl := []) (K' := [(4, .val (.int .i64 o2.1)), (5, .val (.int .i64 o2.2))]) (L' := []) (by kernel_rfl) (by kernel_rfl) ?_
        cases h
        exact hQ
    · replace h := if_f hb h
      refine Wp.exit ?_
      refine To.thenX ?_
      refine To.thenX ?_
      refine To.keep (kk := [6, 7]) (kl := []) (K' := [(6, .val (.int .i64 v6)), (7, .val (.bool v7))]) (L' := []) (by kernel_rfl) (by kernel_rfl) ?_
      cases h
      exact hQ
def digit_whole (n : Nat) (a0 : List UInt8) (a1 : Int) : Option (Int × Int) :=
  if ((!(((decide ((List.length a0 : Int) > 1)) == true) && ((a0 == []) == false)) || decide (0 ≤ (0 : Int) ∧ (0 : Int) < (List.length a0 : Int)))) = true then (lett ((bif (a0 == []) then true else (bif (decide ((List.length a0 : Int) > 1)) then ((((a0)[Int.toNat 0]?.getD 0).toNat : Int) == 48) else false)) : Bool) fun x1 =>
  if x1 = true then (some (0, 3))
  else ((digit_whole_l1 n a0 a1 (List.length a0 : Int) n 0 false 0).bind fun o2 =>
  (Sum.elim (fun o2 => if o2.2 = true then (some (0, 9))
  else (some (o2.1, 0))) (fun o2 => some (o2.1, o2.2))) o2)) else none
theorem ok_digit_whole (n : Nat) (a0 : List UInt8) (a1 : Int) (r : Int × Int) (h : digit_whole n a0 a1 = some r) : CallsX Tryd.prog 75 [.str a0, .val (.int .i64 a1)] (.tup [.val (.int .i64 r.1), .val (.int .i64 r.2)]) := by
  unfold digit_whole at h
  refine callsX_of (fn := Tryd.f75) (by kernel_rfl) rfl (by kernel_rfl) (Nat.le_of_ble_eq_true (by kernel_rfl)) fun F0 w0 _ => ?_
  refine Wp.keep (kk := [0, 1]) (kl := []) (K' := [(0, .str a0), (1, .val (.int .i64 a1))]) (L' := []) (by kernel_rfl) (by kernel_rfl) ?_
  refine Wp.seq ?_
  refine Wp.region hΓ [] [] [] [0, 1] [] (K' := [(0, .str a0), (1, .val (.int .i64 a1))]) (L' := []) (ob := []) (by kernel_rfl) AllP.nil ?_
  refine To.thenN ?_
  refine Wp.seq ?_
  refine Wp.seq ?_
  obtain ⟨hc3, h⟩ := chk_of h
  obtain ⟨x1, hx1, h⟩ := lett_of h
  refine Wp.region hΓ [] [] [] [0, 1, 21] [] (K' := [(0, .str a0), (1, .val (.int .i64 a1)), (21, .val (.bool (bif (a0 == []) then true else (bif (decide ((List.length a0 : Int) > 1)) then ((((a0)[Int.toNat 0]?.getD 0).toNat : Int) == 48) else false))))]) (L' := []) (ob := [(!(((decide ((List.length a0 : Int) > 1)) == true) && ((a0 == []) == false)) || decide (0 ≤ (0 : Int) ∧ (0 : Int) < (List.length a0 : Int))) = true]) (by kernel_rfl) (AllP.cons hc3 AllP.nil) ?_
  refine To.eq (K' := [(0, .str a0), (1, .val (.int .i64 a1)), (21, .val (.bool x1))]) (L' := []) (by cases hx1; rfl) (by cases hx1; rfl) ?_
  refine To.thenN ?_
  refine Wp.cond (b := x1) (by kernel_rfl) (fun hb => ?_) (fun hb => ?_)
  · replace h := if_t hb h
    refine Wp.seq ?_
    refine Wp.region hΓ [] [] [] [4, 5] [] (K' := [(4, .val (.int .i64 0)), (5, .val (.int .i64 3))]) (L' := []) (ob := []) (by kernel_rfl) AllP.nil ?_
    refine To.thenN ?_
    refine Wp.ret ?_
    refine To.thenR ?_
    refine To.keep (kk := [4, 5]) (kl := []) (K' := [(4, .val (.int .i64 0)), (5, .val (.int .i64 3))]) (L' := []) (by kernel_rfl) (by kernel_rfl) ?_
    cases h
    exact To.done hΓ (by kernel_rfl)
  · replace h := if_f hb h
    refine Wp.skip ?_
    refine To.thenN ?_
    refine Wp.seq ?_
    refine Wp.region hΓ [] [] [] [0, 1, 6, 7] [] (K' := [(0, .str a0), (1, .val (.int .i64 a1)), (6, .val (.int .i64 0)), (7, .val (.bool false))]) (L' := []) (ob := []) (by kernel_rfl) AllP.nil ?_
    refine To.thenN ?_
    refine Wp.seq ?_
    refine Wp.seq ?_
    refine Wp.region hΓ [] [] [] [0, 1, 6, 7, 23, 24] [] (K' := [(0, .str a0), (1, .val (.int .i64 a1)), (6, .val (.int .i64 0)), (7, .val (.bool false)), (23, .val (.int .i64 (List.length a0 : Int))), (24, .val (.int .i64 0))]) (L' := []) (ob := []) (by kernel_rfl) AllP.nil ?_
    refine To.thenN ?_
    refine Wp.block ?_
    obtain ⟨o2, ho2, h⟩ := bind_of h
    refine Wp.keep (kk := [0, 1, 6, 7, 23, 24]) (kl := []) (K' := [(0, .str a0), (1, .val (.int .i64 a1)), (6, .val (.int .i64 0)), (7, .val (.bool false)), (23, .val (.int .i64 (List.length a0 : Int))), (24, .val (.int .i64 0))]) (L' := []) (by kernel_rfl) (by kernel_rfl) ?_
    refine Wp.loopL ?_
    refine ok_digit_whole_l1 n a0 a1 (List.length a0 : Int) n 0 false 0 o2 ho2 ?_
    rcases o2 with o2 | o2
    · replace h := sum_l h
      refine To.blockX ?_
      refine To.thenN ?_
      refine Wp.seq ?_
      refine Wp.seq ?_
      refine Wp.region hΓ [] [] [] [6, 59] [] (K' := [(6, .val (.int .i64 o2.1)), (59, .val (.bool o2.2))]) (L' := []) (ob := []) (by kernel_rfl) AllP.nil ?_
      refine To.thenN ?_
      refine Wp.cond (b := o2.2) (by kernel_rfl) (fun hb => ?_) (fun hb => ?_)
      · replace h := if_t hb h
        refine Wp.seq ?_
        refine Wp.region hΓ [] [] [] [4, 5] [] (K' := [(4, .val (.int .i64 0)), (5, .val (.int .i64 9))]) (L' := []) (ob := []) (by kernel_rfl) AllP.nil ?_
        refine To.thenN ?_
        refine Wp.ret ?_
        refine To.thenR ?_
        refine To.keep (kk := [4, 5]) (kl := []) (K' := [(4, .val (.int .i64 0)), (5, .val (.int .i64 9))]) (L' := []) (by kernel_rfl) (by kernel_rfl) ?_
        cases h
        exact To.done hΓ (by kernel_rfl)
      · replace h := if_f hb h
        refine Wp.skip ?_
        refine To.thenN ?_
        refine Wp.seq ?_
        refine Wp.region hΓ [] [] [] [4, 5] [] (K' := [(4, .val (.int .i64 o2.1)), (5, .val (.int .i64 0))]) (L' := []) (ob := []) (by kernel_rfl) AllP.nil ?_
        refine To.thenN ?_
        refine Wp.ret ?_
        refine To.keep (kk := [4, 5]) (kl := []) (K' := [(4, .val (.int .i64 o2.1)), (5, .val (.int .i64 0))]) (L' := []) (by kernel_rfl) (by kernel_rfl) ?_
        cases h
        exact To.done hΓ (by kernel_rfl)
    · replace h := sum_r h
      refine To.blockR ?_
      refine To.thenR ?_
      refine To.keep (kk := [4, 5]) (kl := []) (K' := [(4, .val (.int .i64 o2.1)), (5, .val (.int .i64 o2.2))]) (L' := []) (by kernel_rfl) (by kernel_rfl) ?_
      cases h
      exact To.done hΓ (by kernel_rfl)
def digit_Count (n : Nat) (a0 : List UInt8) (a1 : Int) : Option (Int × Int) :=
  if (decide (a1 < 0)) = true then (some (0, 2))
  else ((digit_whole n a0 a1).bind fun r1 =>
  some (r1.1, r1.2))
theorem ok_digit_Count (n : Nat) (a0 : List UInt8) (a1 : Int) (r : Int × Int) (h : digit_Count n a0 a1 = some r) : CallsX Tryd.prog 56 [.str a0, .val (.int .i64 a1)] (.tup [.val (.int .i64 r.1), .val (.int .i64 r.2)]) := by
  unfold digit_Count at h
  refine callsX_of (fn := Tryd.f56) (by kernel_rfl) rfl (by kernel_rfl) (Nat.le_of_ble_eq_true (by kernel_rfl)) fun F0 w0 _ => ?_
  refine Wp.keep (kk := [0, 1]) (kl := []) (K' := [(0, .str a0), (1, .val (.int .i64 a1))]) (L' := []) (by kernel_rfl) (by kernel_rfl) ?_
  refine Wp.seq ?_
  refine Wp.region hΓ [] [] [] [0, 1] [] (K' := [(0, .str a0), (1, .val (.int .i64 a1))]) (L' := []) (ob := []) (by kernel_rfl) AllP.nil ?_
  refine To.thenN ?_
  refine Wp.seq ?_
  refine Wp.seq ?_
  refine Wp.region hΓ [] [] [] [0, 1, 7] [] (K' := [(0, .str a0), (1, .val (.int .i64 a1)), (7, .val (.bool (decide (a1 < 0))))]) (L' := []) (ob := []) (by kernel_rfl) AllP.nil ?_
  refine To.thenN ?_
  refine Wp.cond (b := (decide (a1 < 0))) (by kernel_rfl) (fun hb => ?_) (fun hb => ?_)
  · replace h := if_t hb h
    refine Wp.seq ?_
    refine Wp.region hΓ [] [] [] [4, 5] [] (K' := [(4, .val (.int .i64 0)), (5, .val (.int .i64 2))]) (L' := []) (ob := []) (by kernel_rfl) AllP.nil ?_
    refine To.thenN ?_
    refine Wp.ret ?_
    refine To.thenR ?_
    refine To.keep (kk := [4, 5]) (kl := []) (K' := [(4, .val (.int .i64 0)), (5, .val (.int .i64 2))]) (L' := []) (by kernel_rfl) (by kernel_rfl) ?_
    cases h
    exact To.done hΓ (by kernel_rfl)
  · replace h := if_f hb h
    refine Wp.skip ?_
    refine To.thenN ?_
    refine Wp.seq ?_
    obtain ⟨r1, hr1, h⟩ := bind_of h
    refine Wp.region hΓ [] [(2, .tup [.val (.int .i64 r1.1), .val (.int .i64 r1.2)])] [] [4, 5] [] (K' := [(4, .val (.int .i64 r1.1)), (5, .val (.int .i64 r1.2))]) (L' := []) (ob := [(true = true → CX Tryd.prog 75 [.str a0, .val (.int .i64 a1)] (.tup [.val (.int .i64 r1.1), .val (.int .i64 r1.2)]))]) (by kernel_rfl) (AllP.cons (fun _ => cx (ok_digit_whole n a0 a1 _ hr1)) AllP.nil) ?_
    refine To.thenN ?_
    refine Wp.ret ?_
    refine To.keep (kk := [4, 5]) (kl := []) (K' := [(4, .val (.int .i64 r1.1)), (5, .val (.int .i64 r1.2))]) (L' := []) (by kernel_rfl) (by kernel_rfl) ?_
    cases h
    exact To.done hΓ (by kernel_rfl)
def port_number (n : Nat) (a0 : List UInt8) : Option (Int) :=
  (digit_Count n a0 65535).bind fun r1 =>
  if (bif (r1.2 != 0) then true else (r1.1 == 0)) = true then (some (-1))
  else some r1.1
theorem ok_port_number (n : Nat) (a0 : List UInt8) (r : Int) (h : port_number n a0 = some r) : CallsX Tryd.prog 34 [.str a0] (.val (.int .i64 r)) := by
  unfold port_number at h
  refine callsX_of (fn := Tryd.f34) (by kernel_rfl) rfl (by kernel_rfl) (Nat.le_of_ble_eq_true (by kernel_rfl)) fun F0 w0 _ => ?_
  refine Wp.keep (kk := [0]) (kl := []) (K' := [(0, .str a0)]) (L' := []) (by kernel_rfl) (by kernel_rfl) ?_
  refine Wp.seq ?_
  refine Wp.region hΓ [] [] [] [0] [] (K' := [(0, .str a0)]) (L' := []) (ob := []) (by kernel_rfl) AllP.nil ?_
  refine To.thenN ?_
  refine Wp.seq ?_
  obtain ⟨r1, hr1, h⟩ := bind_of h
  refine Wp.region hΓ [] [(1, .tup [.val (.int .i64 r1.1), .val (.int .i64 r1.2)])] [] [3, 4] [] (K' := [(3, .val (.int .i64 r1.1)), (4, .val (.int .i64 r1.2))]) (L' := []) (ob := [(true = true → CX Tryd.prog 56 [.str a0, .val (.int .i64 65535)] (.tup [.val (.int .i64 r1.1), .val (.int .i64 r1.2)]))]) (by kernel_rfl) (AllP.cons (fun _ => cx (ok_digit_Count n a0 65535 _ hr1)) AllP.nil) ?_
  refine To.thenN ?_
  refine Wp.seq ?_
  refine Wp.seq ?_
  refine Wp.region hΓ [] [] [] [3, 15] [] (K' := [(3, .val (.int .i64 r1.1)), (15, .val (.bool (bif (r1.2 != 0) then true else (r1.1 == 0))))]) (L' := []) (ob := []) (by kernel_rfl) AllP.nil ?_
  refine To.thenN ?_
  refine Wp.cond (b := (bif (r1.2 != 0) then true else (r1.1 == 0))) (by kernel_rfl) (fun hb => ?_) (fun hb => ?_)
  · replace h := if_t hb h
    refine Wp.seq ?_
    refine Wp.region hΓ [] [] [] [2] [] (K' := [(2, .val (.int .i64 (-1)))]) (L' := []) (ob := []) (by kernel_rfl) AllP.nil ?_
    refine To.thenN ?_
    refine Wp.ret ?_
    refine To.thenR ?_
    refine To.keep (kk := [2]) (kl := []) (K' := [(2, .val (.int .i64 (-1)))]) (L' := []) (by kernel_rfl) (by kernel_rfl) ?_
    cases h
    exact To.done hΓ (by kernel_rfl)
  · replace h := if_f hb h
    refine Wp.skip ?_
    refine To.thenN ?_
    refine Wp.seq ?_
    refine Wp.region hΓ [] [] [] [2] [] (K' := [(2, .val (.int .i64 r1.1))]) (L' := []) (ob := []) (by kernel_rfl) AllP.nil ?_
    refine To.thenN ?_
    refine Wp.ret ?_
    refine To.keep (kk := [2]) (kl := []) (K' := [(2, .val (.int .i64 r1.1))]) (L' := []) (by kernel_rfl) (by kernel_rfl) ?_
    cases h
    exact To.done hΓ (by kernel_rfl)
def port_address_1 (n : Nat) (a0 : List UInt8) : Option (Bool) :=
  (digit_Count n a0 255).bind fun r1 =>
  some (r1.2 != 0)
theorem ok_port_address_1 (n : Nat) (a0 : List UInt8) (r : Bool) (h : port_address_1 n a0 = some r) : CallsX Tryd.prog 59 [.str a0] (.val (.bool r)) := by
  unfold port_address_1 at h
  refine callsX_of (fn := Tryd.f59) (by kernel_rfl) rfl (by kernel_rfl) (Nat.le_of_ble_eq_true (by kernel_rfl)) fun F0 w0 _ => ?_
  refine Wp.keep (kk := [0]) (kl := []) (K' := [(0, .str a0)]) (L' := []) (by kernel_rfl) (by kernel_rfl) ?_
  refine Wp.seq ?_
  refine Wp.region hΓ [] [] [] [0] [] (K' := [(0, .str a0)]) (L' := []) (ob := []) (by kernel_rfl) AllP.nil ?_
  refine To.thenN ?_
  refine Wp.seq ?_
  obtain ⟨r1, hr1, h⟩ := bind_of h
  refine Wp.region hΓ [] [(1, .tup [.val (.int .i64 r1.1), .val (.int .i64 r1.2)])] [] [4] [] (K' := [(4, .val (.int .i64 r1.2))]) (L' := []) (ob := [(true = true → CX Tryd.prog 56 [.str a0, .val (.int .i64 255)] (.tup [.val (.int .i64 r1.1), .val (.int .i64 r1.2)]))]) (by kernel_rfl) (AllP.cons (fun _ => cx (ok_digit_Count n a0 255 _ hr1)) AllP.nil) ?_
  refine To.thenN ?_
  refine Wp.seq ?_
  refine Wp.region hΓ [] [] [] [2] [] (K' := [(2, .val (.bool (r1.2 != 0)))]) (L' := []) (ob := []) (by kernel_rfl) AllP.nil ?_
  refine To.thenN ?_
  refine Wp.ret ?_
  refine To.keep (kk := [2]) (kl := []) (K' := [(2, .val (.bool (r1.2 != 0)))]) (L' := []) (by kernel_rfl) (by kernel_rfl) ?_
  cases h
  exact To.done hΓ (by kernel_rfl)
def slices_IndexFunc_string_string__port_address_1_l1 (n : Nat) (v0 : List (List UInt8)) (v7 : Int) : Nat → Int → Option (Sum (Unit) (Int))
  | 0, _ => none
  | k + 1, v8 => if (decide (v8 < v7)) = true then (if (decide (0 ≤ v8 ∧ v8 < (List.length v0 : Int))) = true then ((port_address_1 n ((v0)[Int.toNat v8]?.getD [])).bind fun r1 =>
  if r1 = true then (some (.inr v8))
  else (slices_IndexFunc_string_string__port_address_1_l1 n v0 v7 k (IntKind.wrap .i64 (v8 + 1)))) else none)
  else (some (.inl ()))
theorem ok_slices_IndexFunc_string_string__port_address_1_l1 (n : Nat) (v0 : List (List UInt8)) (v7 : Int) {F0 : Fz} {w0 : Pt Tryd.prog} {Q : Exit → Act → World → Prop} (k : Nat) : ∀ (v8 : Int) (o : Sum (Unit) (Int)), slices_IndexFunc_string_string__port_address_1_l1 n v0 v7 k v8 = some o → (Sum.elim (fun s => To 19 F0 w0 [] [] (.exit 0) Q) (fun s => To 19 F0 w0 [(4, .val (.int .i64 s))] [] .ret Q)) o → WL Tryd.prog 19 F0 w0 [(0, .recs (α := List UInt8) [] E_string v0), (1, .fn 59 []), (7, .val (.int .i64 v7)), (8, .val (.int .i64 v8))] [] (cI (cI (cB (cA (cB (cF Tryd.f76)))))) Q := by
  induction k with
  | zero => intro v8 o h; cases h
  | succ k ih =>
    intro v8 o h hQ
    rw [slices_IndexFunc_string_string__port_address_1_l1] at h
    refine WL.round ?_
    refine Wp.seq ?_
    refine Wp.region hΓ [] [] [] [0, 1, 7, 8, 9] [] (K' := [(0, .recs (α := List UInt8) [] E_string v0), (1, .fn 59 []), (7, .val (.int .i64 v7)), (8, .val (.int .i64 v8)), (9, .val (.bool (decide (v8 < v7))))]) (L' := []) (ob := []) (by kernel_rfl) AllP.nil ?_
    refine To.thenN ?_
    refine Wp.seq ?_
    refine Wp.cond (b := (decide (v8 < v7))) (by kernel_rfl) (fun hb => ?_) (fun hb => ?_)
    · replace h := if_t hb h
      refine Wp.skip ?_
      refine To.thenN ?_
      refine Wp.seq ?_
      refine Wp.block ?_
      refine Wp.seq ?_
      refine Wp.region hΓ [] [] [] [0, 1, 5, 7, 8] [] (K' := [(0, .recs (α := List UInt8) [] E_string v0), (1, .fn 59 []), (5, .val (.int .i64 v8)), (7, .val (.int .i64 v7)), (8, .val (.int .i64 v8))]) (L' := []) (ob := []) (by kernel_rfl) AllP.nil ?_
      refine To.thenN ?_
      refine Wp.seq ?_
      obtain ⟨hc2, h⟩ := chk_of h
      obtain ⟨r1, hr1, h⟩ := bind_of h
      refine Wp.region hΓ [] [(5, .val (.bool r1))] [] [0, 1, 5, 7, 8, 16] [] (K' := [(0, .recs (α := List UInt8) [] E_string v0), (1, .fn 59 []), (5, .val (.int .i64 v8)), (7, .val (.int .i64 v7)), (8, .val (.int .i64 v8)), (16, .val (.bool r1))]) (L' := []) (ob := [(decide (0 ≤ v8 ∧ v8 < (List.length v0 : Int))) = true, (true = true → CX Tryd.prog 59 [.str ((v0)[Int.toNat v8]?.getD [])] (.val (.bool r1)))]) (by kernel_rfl) (AllP.cons hc2 (AllP.cons (fun _ => cx (ok_port_address_1 n ((v0)[Int.toNat v8]?.getD []) _ hr1)) AllP.nil)) ?_
      refine To.thenN ?_
      refine Wp.cond (b := r1) (by kernel_rfl) (fun hb => ?_) (fun hb => ?_)
      · replace h := if_t hb h
        refine Wp.seq ?_
        refine Wp.region hΓ [] [] [] [4] [] (K' := [(4, .val (.int .i64 v8))]) (L' := []) (ob := []) (by kernel_rfl) AllP.nil ?_
        refine To.thenN ?_
        refine Wp.ret ?_
        refine To.blockR ?_
        refine To.thenR ?_
        refine To.thenR ?_
        refine To.keep (kk := [4]) (kl := []) (K' := [(4, .val (.int .i64 v8))]) (L' := []) (by kernel_rfl) (by kernel_rfl) ?_
        cases h
        exact hQ
      · replace h := if_f hb h
        refine Wp.skip ?_
        refine To.blockN ?_
        refine To.thenN ?_
        refine Wp.region hΓ [] [] [] [0, 1, 7, 8] [] (K' := [(0, .recs (α := List UInt8) [] E_string v0), (1, .fn 59 []), (7, .val (.int .i64 v7)), (8, .val (.int .i64 (IntKind.wrap .i64 (v8 + 1))))]) (L' := []) (ob := []) (by kernel_rfl) AllP.nil ?_
        refine To.keep (kk := [0, 1, 7, 8]) (kl := []) (K' := [(0, .recs (α := List UInt8) [] E_string v0), (1, .fn 59 []), (7, .val (.int .i64 v7)), (8, .val (.int .i64 (IntKind.wrap .i64 (v8 + 1))))]) (L' := []) (by kernel_rfl) (by kernel_rfl) ?_
        refine To.again ?_
        exact ih (IntKind.wrap .i64 (v8 + 1)) _ h hQ
    · replace h := if_f hb h
      refine Wp.exit ?_
      refine To.thenX ?_
      refine To.thenX ?_
      refine To.keep (kk := []) (kl := []) (K' := []) (L' := []) (by kernel_rfl) (by kernel_rfl) ?_
      cases h
      exact hQ
def slices_IndexFunc_string_string__port_address_1 (n : Nat) (a0 : List (List UInt8)) : Option (Int) :=
  (slices_IndexFunc_string_string__port_address_1_l1 n a0 (List.length a0 : Int) n 0).bind fun o1 =>
  (Sum.elim (fun o1 => some (-1)) (fun o1 => some o1)) o1
theorem ok_slices_IndexFunc_string_string__port_address_1 (n : Nat) (a0 : List (List UInt8)) (r : Int) (h : slices_IndexFunc_string_string__port_address_1 n a0 = some r) : CallsX Tryd.prog 76 [.recs (α := List UInt8) [] E_string a0, .fn 59 []] (.val (.int .i64 r)) := by
  unfold slices_IndexFunc_string_string__port_address_1 at h
  refine callsX_of (fn := Tryd.f76) (by kernel_rfl) rfl (by kernel_rfl) (Nat.le_of_ble_eq_true (by kernel_rfl)) fun F0 w0 _ => ?_
  refine Wp.keep (kk := [0, 1]) (kl := []) (K' := [(0, .recs (α := List UInt8) [] E_string a0), (1, .fn 59 [])]) (L' := []) (by kernel_rfl) (by kernel_rfl) ?_
  refine Wp.seq ?_
  refine Wp.region hΓ [] [] [] [0, 1] [] (K' := [(0, .recs (α := List UInt8) [] E_string a0), (1, .fn 59 [])]) (L' := []) (ob := []) (by kernel_rfl) AllP.nil ?_
  refine To.thenN ?_
  refine Wp.seq ?_
  refine Wp.seq ?_
  refine Wp.region hΓ [] [] [] [0, 1, 7, 8] [] (K' := [(0, .recs (α := List UInt8) [] E_string a0), (1, .fn 59 []), (7, .val (.int .i64 (List.length a0 : Int))), (8, .val (.int .i64 0))]) (L' := []) (ob := []) (by kernel_rfl) AllP.nil ?_
  refine To.thenN ?_
  refine Wp.block ?_
  obtain ⟨o1, ho1, h⟩ := bind_of h
  refine Wp.keep (kk := [0, 1, 7, 8]) (kl := []) (K' := [(0, .recs (α := List UInt8) [] E_string a0), (1, .fn 59 []), (7, .val (.int .i64 (List.length a0 : Int))), (8, .val (.int .i64 0))]) (L' := []) (by kernel_rfl) (by kernel_rfl) ?_
  refine Wp.loopL ?_
  refine ok_slices_IndexFunc_string_string__port_address_1_l1 n a0 (List.length a0 : Int) n 0 o1 ho1 ?_
  rcases o1 with o1 | o1
  · replace h := sum_l h
    refine To.blockX ?_
    refine To.thenN ?_
    refine Wp.seq ?_
    refine Wp.region hΓ [] [] [] [4] [] (K' := [(4, .val (.int .i64 (-1)))]) (L' := []) (ob := []) (by kernel_rfl) AllP.nil ?_
    refine To.thenN ?_
    refine Wp.ret ?_
    refine To.keep (kk := [4]) (kl := []) (K' := [(4, .val (.int .i64 (-1)))]) (L' := []) (by kernel_rfl) (by kernel_rfl) ?_
    cases h
    exact To.done hΓ (by kernel_rfl)
  · replace h := sum_r h
    refine To.blockR ?_
    refine To.thenR ?_
    refine To.keep (kk := [4]) (kl := []) (K' := [(4, .val (.int .i64 o1))]) (L' := []) (by kernel_rfl) (by kernel_rfl) ?_
    cases h
    exact To.done hΓ (by kernel_rfl)
def slices_ContainsFunc_string_string__port_address_1 (n : Nat) (a0 : List (List UInt8)) : Option (Bool) :=
  (slices_IndexFunc_string_string__port_address_1 n a0).bind fun r1 =>
  some (decide (r1 ≥ 0))
theorem ok_slices_ContainsFunc_string_string__port_address_1 (n : Nat) (a0 : List (List UInt8)) (r : Bool) (h : slices_ContainsFunc_string_string__port_address_1 n a0 = some r) : CallsX Tryd.prog 58 [.recs (α := List UInt8) [] E_string a0, .fn 59 []] (.val (.bool r)) := by
  unfold slices_ContainsFunc_string_string__port_address_1 at h
  refine callsX_of (fn := Tryd.f58) (by kernel_rfl) rfl (by kernel_rfl) (Nat.le_of_ble_eq_true (by kernel_rfl)) fun F0 w0 _ => ?_
  refine Wp.keep (kk := [0, 1]) (kl := []) (K' := [(0, .recs (α := List UInt8) [] E_string a0), (1, .fn 59 [])]) (L' := []) (by kernel_rfl) (by kernel_rfl) ?_
  refine Wp.seq ?_
  refine Wp.region hΓ [] [] [] [0, 1] [] (K' := [(0, .recs (α := List UInt8) [] E_string a0), (1, .fn 59 [])]) (L' := []) (ob := []) (by kernel_rfl) AllP.nil ?_
  refine To.thenN ?_
  refine Wp.seq ?_
  obtain ⟨r1, hr1, h⟩ := bind_of h
  refine Wp.region hΓ [] [(2, .val (.int .i64 r1))] [] [4] [] (K' := [(4, .val (.bool (decide (r1 ≥ 0))))]) (L' := []) (ob := [(true = true → CX Tryd.prog 76 [.recs (α := List UInt8) [] E_string a0, .fn 59 []] (.val (.int .i64 r1)))]) (by kernel_rfl) (AllP.cons (fun _ => cx (ok_slices_IndexFunc_string_string__port_address_1 n a0 _ hr1)) AllP.nil) ?_
  refine To.thenN ?_
  refine Wp.ret ?_
  refine To.keep (kk := [4]) (kl := []) (K' := [(4, .val (.bool (decide (r1 ≥ 0))))]) (L' := []) (by kernel_rfl) (by kernel_rfl) ?_
  cases h
  exact To.done hΓ (by kernel_rfl)
def port_address (n : Nat) (a0 : List UInt8) : Option (Bool) :=
  if (decide (List.length a0 < 4294967281 ∧ 1 ≤ List.length ([46] : List UInt8))) = true then (((if (((List.length (splitL a0 ([46] : List UInt8)) : Int) == 4) == true) = true then slices_ContainsFunc_string_string__port_address_1 n (splitL a0 ([46] : List UInt8)) else some false)).bind fun r2 =>
  some (bif ((List.length (splitL a0 ([46] : List UInt8)) : Int) == 4) then (!r2) else false)) else none
theorem ok_port_address (n : Nat) (a0 : List UInt8) (r : Bool) (h : port_address n a0 = some r) : CallsX Tryd.prog 37 [.str a0] (.val (.bool r)) := by
  unfold port_address at h
  refine callsX_of (fn := Tryd.f37) (by kernel_rfl) rfl (by kernel_rfl) (Nat.le_of_ble_eq_true (by kernel_rfl)) fun F0 w0 _ => ?_
  refine Wp.keep (kk := [0]) (kl := []) (K' := [(0, .str a0)]) (L' := []) (by kernel_rfl) (by kernel_rfl) ?_
  refine Wp.seq ?_
  refine Wp.region hΓ [] [] [] [0] [] (K' := [(0, .str a0)]) (L' := []) (ob := []) (by kernel_rfl) AllP.nil ?_
  refine To.thenN ?_
  refine Wp.seq ?_
  obtain ⟨u1, h⟩ := chk_of h
  refine Wp.region hΓ [] [(1, .recs (α := List UInt8) [] E_string (splitL a0 ([46] : List UInt8)))] [] [3] [] (K' := [(3, .recs (α := List UInt8) [] E_string (splitL a0 ([46] : List UInt8)))]) (L' := []) (ob := [(true = true → CX Tryd.prog 33 [.str a0, .str [46]] (.recs (α := List UInt8) [] E_string (splitL a0 ([46] : List UInt8))))]) (by kernel_rfl) (AllP.cons (fun _ => cx (Sh.split33 u1)) AllP.nil) ?_
  refine To.thenN ?_
  refine Wp.seq ?_
  obtain ⟨r2, hr2, h⟩ := bind_of h
  refine Wp.region hΓ [] [(5, .val (.bool r2))] [] [2] [] (K' := [(2, .val (.bool (bif ((List.length (splitL a0 ([46] : List UInt8)) : Int) == 4) then (!r2) else false)))]) (L' := []) (ob := [((((List.length (splitL a0 ([46] : List UInt8)) : Int) == 4) == true) = true → CX Tryd.prog 58 [.recs (α := List UInt8) [] E_string (splitL a0 ([46] : List UInt8)), .fn 59 []] (.val (.bool r2)))]) (by kernel_rfl) (AllP.cons (fun hg => cx (ok_slices_ContainsFunc_string_string__port_address_1 n (splitL a0 ([46] : List UInt8)) _ (if_t hg hr2))) AllP.nil) ?_
  refine To.thenN ?_
  refine Wp.ret ?_
  refine To.keep (kk := [2]) (kl := []) (K' := [(2, .val (.bool (bif ((List.length (splitL a0 ([46] : List UInt8)) : Int) == 4) then (!r2) else false)))]) (L' := []) (by kernel_rfl) (by kernel_rfl) ?_
  cases h
  exact To.done hΓ (by kernel_rfl)
def port_Right (n : Nat) (a0 : S_api_Port) : Option (Bool) :=
  ((if (((a0.f_Host == []) == false) && ((bif (bif (bif (bif (decide (a0.f_In ≥ 1)) then (decide (a0.f_In ≤ 65535)) else false) then (decide (a0.f_Out ≥ 0)) else false) then (decide (a0.f_Out ≤ 65535)) else false) then (bif (a0.f_Proto == [116, 99, 112]) then true else (a0.f_Proto == [117, 100, 112])) else false) == true)) = true then port_address n a0.f_Host else some false)).bind fun r1 =>
  lett ((bif (bif (bif (bif (bif (decide (a0.f_In ≥ 1)) then (decide (a0.f_In ≤ 65535)) else false) then (decide (a0.f_Out ≥ 0)) else false) then (decide (a0.f_Out ≤ 65535)) else false) then (bif (a0.f_Proto == [116, 99, 112]) then true else (a0.f_Proto == [117, 100, 112])) else false) then (bif (a0.f_Host == []) then true else r1) else false) : Bool) fun x2 =>
  some x2
theorem ok_port_Right (n : Nat) (a0 : S_api_Port) (r : Bool) (h : port_Right n a0 = some r) : CallsX Tryd.prog 12 [.agg [.str a0.f_Host, .val (.int .i64 a0.f_Out), .val (.int .i64 a0.f_In), .str a0.f_Proto]] (.val (.bool r)) := by
  unfold port_Right at h
  refine callsX_of (fn := Tryd.f12) (by kernel_rfl) rfl (by kernel_rfl) (Nat.le_of_ble_eq_true (by kernel_rfl)) fun F0 w0 _ => ?_
  refine Wp.keep (kk := [0]) (kl := []) (K' := [(0, .agg [.str a0.f_Host, .val (.int .i64 a0.f_Out), .val (.int .i64 a0.f_In), .str a0.f_Proto])]) (L' := []) (by kernel_rfl) (by kernel_rfl) ?_
  refine Wp.seq ?_
  refine Wp.region hΓ [] [] [] [1] [1] (K' := [(1, .own 1 0)]) (L' := [(1, 24, [.str a0.f_Host, .val (.int .i64 a0.f_Out), .val (.int .i64 a0.f_In), .str a0.f_Proto])]) (ob := []) (by kernel_rfl) AllP.nil ?_
  refine To.thenN ?_
  refine Wp.seq ?_
  obtain ⟨r1, hr1, h⟩ := bind_of h
  obtain ⟨x2, hx2, h⟩ := lett_of h
  refine Wp.region hΓ [] [(35, .val (.bool r1))] [] [2] [] (K' := [(2, .val (.bool (bif (bif (bif (bif (bif (decide (a0.f_In ≥ 1)) then (decide (a0.f_In ≤ 65535)) else false) then (decide (a0.f_Out ≥ 0)) else false) then (decide (a0.f_Out ≤ 65535)) else false) then (bif (a0.f_Proto == [116, 99, 112]) then true else (a0.f_Proto == [117, 100, 112])) else false) then (bif (a0.f_Host == []) then true else r1) else false)))]) (L' := []) (ob := [((((a0.f_Host == []) == false) && ((bif (bif (bif (bif (decide (a0.f_In ≥ 1)) then (decide (a0.f_In ≤ 65535)) else false) then (decide (a0.f_Out ≥ 0)) else false) then (decide (a0.f_Out ≤ 65535)) else false) then (bif (a0.f_Proto == [116, 99, 112]) then true else (a0.f_Proto == [117, 100, 112])) else false) == true)) = true → CX Tryd.prog 37 [.str a0.f_Host] (.val (.bool r1)))]) (by kernel_rfl) (AllP.cons (fun hg => cx (ok_port_address n a0.f_Host _ (if_t hg hr1))) AllP.nil) ?_
  refine To.eq (K' := [(2, .val (.bool x2))]) (L' := []) (by cases hx2; rfl) (by cases hx2; rfl) ?_
  refine To.thenN ?_
  refine Wp.ret ?_
  refine To.keep (kk := [2]) (kl := []) (K' := [(2, .val (.bool x2))]) (L' := []) (by kernel_rfl) (by kernel_rfl) ?_
  cases h
  exact To.done hΓ (by kernel_rfl)
def port_Parse_j1 (n : Nat) (v0 : List UInt8) (v5 : List UInt8) (v6 : List UInt8) (v17 : Bool) (b2 : S_api_Port) (b4 : S_api_Port) : Option ((List UInt8) × S_api_Port) :=
  if v17 = true then (some (v5, (S_api_Port.mk b4.f_Host b4.f_Out b4.f_In v6)))
  else (some (v0, b4))
theorem ok_port_Parse_j1 (n : Nat) (v0 : List UInt8) (v5 : List UInt8) (v6 : List UInt8) (v17 : Bool) (b2 : S_api_Port) (b4 : S_api_Port) (o : (List UInt8) × S_api_Port) (h : port_Parse_j1 n v0 v5 v6 v17 b2 b4 = some o) {F0 : Fz} {w0 : Pt Tryd.prog} {Q : Exit → Act → World → Prop} (hQ : To 67 F0 w0 [(0, .str o.1), (2, .own 2 0), (4, .own 4 0)] [(2, 24, [.str b2.f_Host, .val (.int .i64 b2.f_Out), .val (.int .i64 b2.f_In), .str b2.f_Proto]), (4, 24, [.str o.2.f_Host, .val (.int .i64 o.2.f_Out), .val (.int .i64 o.2.f_In), .str o.2.f_Proto])] .normal Q) : Wp Tryd.prog 67 F0 w0 [(0, .str v0), (2, .own 2 0), (4, .own 4 0), (5, .str v5), (6, .str v6), (17, .val (.bool v17))] [(2, 24, [.str b2.f_Host, .val (.int .i64 b2.f_Out), .val (.int .i64 b2.f_In), .str b2.f_Proto]), (4, 24, [.str b4.f_Host, .val (.int .i64 b4.f_Out), .val (.int .i64 b4.f_In), .str b4.f_Proto])] (cB (cB (cA (cB (cB (cF Tryd.f10)))))) Q := by
  unfold port_Parse_j1 at h
  refine Wp.cond (b := v17) (by kernel_rfl) (fun hb => ?_) (fun hb => ?_)
  · replace h := if_t hb h
    refine Wp.region hΓ [] [] [] [0, 2, 4] [2, 4] (K' := [(0, .str v5), (2, .own 2 0), (4, .own 4 0)]) (L' := [(2, 24, [.str b2.f_Host, .val (.int .i64 b2.f_Out), .val (.int .i64 b2.f_In), .str b2.f_Proto]), (4, 24, [.str b4.f_Host, .val (.int .i64 b4.f_Out), .val (.int .i64 b4.f_In), .str v6])]) (ob := []) (by kernel_rfl) AllP.nil ?_
    refine To.keep (kk := [0, 2, 4]) (kl := [2, 4]) (K' := [(0, .str v5), (2, .own 2 0), (4, .own 4 0)]) (L' := [(2, 24, [.str b2.f_Host, .val (.int .i64 b2.f_Out), .val (.int .i64 b2.f_In), .str b2.f_Proto]), (4, 24, [.str b4.f_Host, .val (.int .i64 b4.f_Out), .val (.int .i64 b4.f_In), .str v6])]) (by kernel_rfl) (by kernel_rfl) ?_
    cases h
    exact hQ
  · replace h := if_f hb h
    refine Wp.skip ?_
    refine To.keep (kk := [0, 2, 4]) (kl := [2, 4]) (K' := [(0, .str v0), (2, .own 2 0), (4, .own 4 0)]) (L' := [(2, 24, [.str b2.f_Host, .val (.int .i64 b2.f_Out), .val (.int .i64 b2.f_In), .str b2.f_Proto]), (4, 24, [.str b4.f_Host, .val (.int .i64 b4.f_Out), .val (.int .i64 b4.f_In), .str b4.f_Proto])]) (by kernel_rfl) (by kernel_rfl) ?_
    cases h
    exact hQ
def port_Parse_j2 (n : Nat) (v8 : List (List UInt8)) (v32 : Int) (b2 : S_api_Port) (b4 : S_api_Port) : Option (Sum (S_api_Port × S_api_Port) (Int × S_api_Port)) :=
  if (v32 == 1) = true then (some (.inl (b2, b4)))
  else (if (v32 == 2) = true then (if (decide (0 ≤ (0 : Int) ∧ (0 : Int) < (List.length v8 : Int))) = true then ((port_number n ((v8)[Int.toNat 0]?.getD [])).bind fun r5 =>
  some (.inl (b2, (S_api_Port.mk b4.f_Host r5 b4.f_In b4.f_Proto)))) else none)
  else (if (v32 == 3) = true then (if (decide (0 ≤ (0 : Int) ∧ (0 : Int) < (List.length v8 : Int))) = true then (if (((v8)[Int.toNat 0]?.getD []) == []) = true then (some (.inr (3, (S_api_Port.mk [] 0 0 []))))
  else (if (decide (0 ≤ (1 : Int) ∧ (1 : Int) < (List.length v8 : Int))) = true then (if (!(((v8)[Int.toNat 1]?.getD []) == [])) = true then (if (decide (0 ≤ (1 : Int) ∧ (1 : Int) < (List.length v8 : Int))) = true then ((port_number n ((v8)[Int.toNat 1]?.getD [])).bind fun r7 =>
  some (.inl (b2, (S_api_Port.mk ((v8)[Int.toNat 0]?.getD []) r7 b4.f_In b4.f_Proto)))) else none)
  else (some (.inl (b2, (S_api_Port.mk ((v8)[Int.toNat 0]?.getD []) b4.f_Out b4.f_In b4.f_Proto))))) else none)) else none)
  else (some (.inr (3, (S_api_Port.mk [] 0 0 []))))))
theorem ok_port_Parse_j2 (n : Nat) (v8 : List (List UInt8)) (v32 : Int) (b2 : S_api_Port) (b4 : S_api_Port) (o : Sum (S_api_Port × S_api_Port) (Int × S_api_Port)) (h : port_Parse_j2 n v8 v32 b2 b4 = some o) {F0 : Fz} {w0 : Pt Tryd.prog} {Q : Exit → Act → World → Prop} (hQ : (Sum.elim (fun s => To 67 F0 w0 [(2, .own 2 0), (4, .own 4 0)] [(2, 24, [.str s.1.f_Host, .val (.int .i64 s.1.f_Out), .val (.int .i64 s.1.f_In), .str s.1.f_Proto]), (4, 24, [.str s.2.f_Host, .val (.int .i64 s.2.f_Out), .val (.int .i64 s.2.f_In), .str s.2.f_Proto])] .normal Q) (fun s => To 67 F0 w0 [(2, .own 2 0), (3, .val (.int .i64 s.1))] [(2, 24, [.str s.2.f_Host, .val (.int .i64 s.2.f_Out), .val (.int .i64 s.2.f_In), .str s.2.f_Proto])] .ret Q)) o) : Wp Tryd.prog 67 F0 w0 [(2, .own 2 0), (4, .own 4 0), (8, .recs (α := List UInt8) [] E_string v8), (32, .val (.int .i64 v32))] [(2, 24, [.str b2.f_Host, .val (.int .i64 b2.f_Out), .val (.int .i64 b2.f_In), .str b2.f_Proto]), (4, 24, [.str b4.f_Host, .val (.int .i64 b4.f_Out), .val (.int .i64 b4.f_In), .str b4.f_Proto])] (cB (cA (cB (cB (cB (cB (cB (cB (cF Tryd.f10))))))))) Q := by
  unfold port_Parse_j2 at h
  refine Wp.block ?_
  refine Wp.seq ?_
  refine Wp.region hΓ [] [] [] [2, 4, 8, 32, 34] [2, 4] (K' := [(2, .own 2 0), (4, .own 4 0), (8, .recs (α := List UInt8) [] E_string v8), (32, .val (.int .i64 v32)), (34, .val (.bool (v32 == 1)))]) (L' := [(2, 24, [.str b2.f_Host, .val (.int .i64 b2.f_Out), .val (.int .i64 b2.f_In), .str b2.f_Proto]), (4, 24, [.str b4.f_Host, .val (.int .i64 b4.f_Out), .val (.int .i64 b4.f_In), .str b4.f_Proto])]) (ob := []) (by kernel_rfl) AllP.nil ?_
  refine To.thenN ?_
  refine Wp.cond (b := (v32 == 1)) (by kernel_rfl) (fun hb => ?_) (fun hb => ?_)
  · replace h := if_t hb h
    refine Wp.skip ?_
    refine To.blockN ?_
    refine To.keep (kk := [2, 4]) (kl := [2, 4]) (K' := [(2, .own 2 0), (4, .own 4 0)]) (L' := [(2, 24, [.str b2.f_Host, .val (.int .i64 b2.f_Out), .val (.int .i64 b2.f_In), .str b2.f_Proto]), (4, 24, [.str b4.f_Host, .val (.int .i64 b4.f_Out), .val (.int .i64 b4.f_In), .str b4.f_Proto])]) (by kernel_rfl) (by kernel_rfl) ?_
    cases h
    exact hQ
  · replace h := if_f hb h
    refine Wp.seq ?_
    refine Wp.region hΓ [] [] [] [2, 4, 8, 32, 36] [2, 4] (K' := [(2, .own 2 0), (4, .own 4 0), (8, .recs (α := List UInt8) [] E_string v8), (32, .val (.int .i64 v32)), (36, .val (.bool (v32 == 2)))]) (L' := [(2, 24, [.str b2.f_Host, .val (.int .i64 b2.f_Out), .val (.int .i64 b2.f_In), .str b2.f_Proto]), (4, 24, [.str b4.f_Host, .val (.int .i64 b4.f_Out), .val (.int .i64 b4.f_In), .str b4.f_Proto])]) (ob := []) (by kernel_rfl) AllP.nil ?_
    refine To.thenN ?_
    refine Wp.cond (b := (v32 == 2)) (by kernel_rfl) (fun hb => ?_) (fun hb => ?_)
    · replace h := if_t hb h
      obtain ⟨hc6, h⟩ := chk_of h
      obtain ⟨r5, hr5, h⟩ := bind_of h
      refine Wp.region hΓ [] [(3, .val (.int .i64 r5))] [] [2, 4] [2, 4] (K' := [(2, .own 2 0), (4, .own 4 0)]) (L' := [(2, 24, [.str b2.f_Host, .val (.int .i64 b2.f_Out), .val (.int .i64 b2.f_In), .str b2.f_Proto]), (4, 24, [.str b4.f_Host, .val (.int .i64 r5), .val (.int .i64 b4.f_In), .str b4.f_Proto])]) (ob := [(decide (0 ≤ (0 : Int) ∧ (0 : Int) < (List.length v8 : Int))) = true, (true = true → CX Tryd.prog 34 [.str ((v8)[Int.toNat 0]?.getD [])] (.val (.int .i64 r5)))]) (by kernel_rfl) (AllP.cons hc6 (AllP.cons (fun _ => cx (ok_port_number n ((v8)[Int.toNat 0]?.getD []) _ hr5)) AllP.nil)) ?_
      refine To.blockN ?_
      refine To.keep (kk := [2, 4]) (kl := [2, 4]) (K' := [(2, .own 2 0), (4, .own 4 0)]) (L' := [(2, 24, [.str b2.f_Host, .val (.int .i64 b2.f_Out), .val (.int .i64 b2.f_In), .str b2.f_Proto]), (4, 24, [.str b4.f_Host, .val (.int .i64 r5), .val (.int .i64 b4.f_In), .str b4.f_Proto])]) (by kernel_rfl) (by kernel_rfl) ?_
      cases h
      exact hQ
    · replace h := if_f hb h
      refine Wp.seq ?_
      refine Wp.region hΓ [] [] [] [2, 4, 8, 43] [2, 4] (K' := [(2, .own 2 0), (4, .own 4 0), (8, .recs (α := List UInt8) [] E_string v8), (43, .val (.bool (v32 == 3)))]) (L' := [(2, 24, [.str b2.f_Host, .val (.int .i64 b2.f_Out), .val (.int .i64 b2.f_In), .str b2.f_Proto]), (4, 24, [.str b4.f_Host, .val (.int .i64 b4.f_Out), .val (.int .i64 b4.f_In), .str b4.f_Proto])]) (ob := []) (by kernel_rfl) AllP.nil ?_
      refine To.thenN ?_
      refine Wp.cond (b := (v32 == 3)) (by kernel_rfl) (fun hb => ?_) (fun hb => ?_)
      · replace h := if_t hb h
        refine Wp.seq ?_
        refine Wp.seq ?_
        obtain ⟨hc10, h⟩ := chk_of h
        refine Wp.region hΓ [] [] [] [2, 4, 8] [2, 4] (K' := [(2, .own 2 0), (4, .own 4 0), (8, .recs (α := List UInt8) [] E_string v8)]) (L' := [(2, 24, [.str b2.f_Host, .val (.int .i64 b2.f_Out), .val (.int .i64 b2.f_In), .str b2.f_Proto]), (4, 24, [.str ((v8)[Int.toNat 0]?.getD []), .val (.int .i64 b4.f_Out), .val (.int .i64 b4.f_In), .str b4.f_Proto])]) (ob := [(decide (0 ≤ (0 : Int) ∧ (0 : Int) < (List.length v8 : Int))) = true]) (by kernel_rfl) (AllP.cons hc10 AllP.nil) ?_
        refine To.thenN ?_
        refine Wp.seq ?_
        refine Wp.region hΓ [] [] [] [2, 4, 8, 51] [2, 4] (K' := [(2, .own 2 0), (4, .own 4 0), (8, .recs (α := List UInt8) [] E_string v8), (51, .val (.bool (((v8)[Int.toNat 0]?.getD []) == [])))]) (L' := [(2, 24, [.str b2.f_Host, .val (.int .i64 b2.f_Out), .val (.int .i64 b2.f_In), .str b2.f_Proto]), (4, 24, [.str ((v8)[Int.toNat 0]?.getD []), .val (.int .i64 b4.f_Out), .val (.int .i64 b4.f_In), .str b4.f_Proto])]) (ob := []) (by kernel_rfl) AllP.nil ?_
        refine To.thenN ?_
        refine Wp.cond (b := (((v8)[Int.toNat 0]?.getD []) == [])) (by kernel_rfl) (fun hb => ?_) (fun hb => ?_)
        · replace h := if_t hb h
          refine Wp.seq ?_
          refine Wp.region hΓ [] [] [] [2, 3] [2] (K' := [(2, .own 2 0), (3, .val (.int .i64 3))]) (L' := [(2, 24, [.str [], .val (.int .i64 0), .val (.int .i64 0), .str []])]) (ob := []) (by kernel_rfl) AllP.nil ?_
          refine To.thenN ?_
          refine Wp.ret ?_
          refine To.thenR ?_
          refine To.blockR ?_
          refine To.keep (kk := [2, 3]) (kl := [2]) (K' := [(2, .own 2 0), (3, .val (.int .i64 3))]) (L' := [(2, 24, [.str [], .val (.int .i64 0), .val (.int .i64 0), .str []])]) (by kernel_rfl) (by kernel_rfl) ?_
          cases h
          exact hQ
        · replace h := if_f hb h
          refine Wp.skip ?_
          refine To.thenN ?_
          refine Wp.seq ?_
          obtain ⟨hc9, h⟩ := chk_of h
          refine Wp.region hΓ [] [] [] [2, 4, 8, 56] [2, 4] (K' := [(2, .own 2 0), (4, .own 4 0), (8, .recs (α := List UInt8) [] E_string v8), (56, .val (.bool (!(((v8)[Int.toNat 1]?.getD []) == []))))]) (L' := [(2, 24, [.str b2.f_Host, .val (.int .i64 b2.f_Out), .val (.int .i64 b2.f_In), .str b2.f_Proto]), (4, 24, [.str ((v8)[Int.toNat 0]?.getD []), .val (.int .i64 b4.f_Out), .val (.int .i64 b4.f_In), .str b4.f_Proto])]) (ob := [(decide (0 ≤ (1 : Int) ∧ (1 : Int) < (List.length v8 : Int))) = true]) (by kernel_rfl) (AllP.cons hc9 AllP.nil) ?_
          refine To.thenN ?_
          refine Wp.cond (b := (!(((v8)[Int.toNat 1]?.getD []) == []))) (by kernel_rfl) (fun hb => ?_) (fun hb => ?_)
          · replace h := if_t hb h
            obtain ⟨hc8, h⟩ := chk_of h
            obtain ⟨r7, hr7, h⟩ := bind_of h
            refine Wp.region hΓ [] [(3, .val (.int .i64 r7))] [] [2, 4] [2, 4] (K' := [(2, .own 2 0), (4, .own 4 0)]) (L' := [(2, 24, [.str b2.f_Host, .val (.int .i64 b2.f_Out), .val (.int .i64 b2.f_In), .str b2.f_Proto]), (4, 24, [.str ((v8)[Int.toNat 0]?.getD []), .val (.int .i64 r7), .val (.int .i64 b4.f_In), .str b4.f_Proto])]) (ob := [(decide (0 ≤ (1 : Int) ∧ (1 : Int) < (List.length v8 : Int))) = true, (true = true → CX Tryd.prog 34 [.str ((v8)[Int.toNat 1]?.getD [])] (.val (.int .i64 r7)))]) (by kernel_rfl) (AllP.cons hc8 (AllP.cons (fun _ => cx (ok_port_number n ((v8)[Int.toNat 1]?.getD []) _ hr7)) AllP.nil)) ?_
            refine To.blockN ?_
            refine To.keep (kk := [2, 4]) (kl := [2, 4]) (K' := [(2, .own 2 0), (4, .own 4 0)]) (L' := [(2, 24, [.str b2.f_Host, .val (.int .i64 b2.f_Out), .val (.int .i64 b2.f_In), .str b2.f_Proto]), (4, 24, [.str ((v8)[Int.toNat 0]?.getD []), .val (.int .i64 r7), .val (.int .i64 b4.f_In), .str b4.f_Proto])]) (by kernel_rfl) (by kernel_rfl) ?_
            cases h
            exact hQ
          · replace h := if_f hb h
            refine Wp.skip ?_
            refine To.blockN ?_
            refine To.keep (kk := [2, 4]) (kl := [2, 4]) (K' := [(2, .own 2 0), (4, .own 4 0)]) (L' := [(2, 24, [.str b2.f_Host, .val (.int .i64 b2.f_Out), .val (.int .i64 b2.f_In), .str b2.f_Proto]), (4, 24, [.str ((v8)[Int.toNat 0]?.getD []), .val (.int .i64 b4.f_Out), .val (.int .i64 b4.f_In), .str b4.f_Proto])]) (by kernel_rfl) (by kernel_rfl) ?_
            cases h
            exact hQ
      · replace h := if_f hb h
        refine Wp.seq ?_
        refine Wp.region hΓ [] [] [] [2, 3] [2] (K' := [(2, .own 2 0), (3, .val (.int .i64 3))]) (L' := [(2, 24, [.str [], .val (.int .i64 0), .val (.int .i64 0), .str []])]) (ob := []) (by kernel_rfl) AllP.nil ?_
        refine To.thenN ?_
        refine Wp.ret ?_
        refine To.blockR ?_
        refine To.keep (kk := [2, 3]) (kl := [2]) (K' := [(2, .own 2 0), (3, .val (.int .i64 3))]) (L' := [(2, 24, [.str [], .val (.int .i64 0), .val (.int .i64 0), .str []])]) (by kernel_rfl) (by kernel_rfl) ?_
        cases h
        exact hQ
def port_Parse (n : Nat) (a0 : List UInt8) : Option (S_api_Port × Int) :=
  if (decide (List.length a0 < 4294967281)) = true then ((port_Parse_j1 n a0 ((Lib.cut a0 ([47] : List UInt8)).1) ((Lib.cut a0 ([47] : List UInt8)).2.1) ((Lib.cut a0 ([47] : List UInt8)).2.2) (S_api_Port.mk [] 0 0 []) (S_api_Port.mk [] 0 0 [116, 99, 112])).bind fun o2 =>
  if (decide (List.length o2.1 < 4294967281 ∧ 1 ≤ List.length ([58] : List UInt8))) = true then (if (decide (0 ≤ (IntKind.wrap .i64 ((List.length (splitL o2.1 ([58] : List UInt8)) : Int) - 1)) ∧ (IntKind.wrap .i64 ((List.length (splitL o2.1 ([58] : List UInt8)) : Int) - 1)) < (List.length (splitL o2.1 ([58] : List UInt8)) : Int))) = true then ((port_number n (((splitL o2.1 ([58] : List UInt8)))[Int.toNat (IntKind.wrap .i64 ((List.length (splitL o2.1 ([58] : List UInt8)) : Int) - 1))]?.getD [])).bind fun r4 =>
  (port_Parse_j2 n (splitL o2.1 ([58] : List UInt8)) (List.length (splitL o2.1 ([58] : List UInt8)) : Int) (S_api_Port.mk [] 0 0 []) (S_api_Port.mk o2.2.f_Host o2.2.f_Out r4 o2.2.f_Proto)).bind fun o5 =>
  (Sum.elim (fun o5 => (port_Right n o5.2).bind fun r6 =>
  if (!r6) = true then (some ((S_api_Port.mk [] 0 0 []), 3))
  else (some (o5.2, 0))) (fun o5 => some (o5.2, o5.1))) o5) else none) else none) else none
theorem ok_port_Parse (n : Nat) (a0 : List UInt8) (r : S_api_Port × Int) (h : port_Parse n a0 = some r) : CallsX Tryd.prog 10 [.str a0] (.tup [.agg [.str r.1.f_Host, .val (.int .i64 r.1.f_Out), .val (.int .i64 r.1.f_In), .str r.1.f_Proto], .val (.int .i64 r.2)]) := by
  unfold port_Parse at h
  refine callsX_of (fn := Tryd.f10) (by kernel_rfl) rfl (by kernel_rfl) (Nat.le_of_ble_eq_true (by kernel_rfl)) fun F0 w0 _ => ?_
  refine Wp.keep (kk := [0]) (kl := []) (K' := [(0, .str a0)]) (L' := []) (by kernel_rfl) (by kernel_rfl) ?_
  refine Wp.seq ?_
  refine Wp.region hΓ [] [] [] [0, 2] [2] (K' := [(0, .str a0), (2, .own 2 0)]) (L' := [(2, 24, [.str [], .val (.int .i64 0), .val (.int .i64 0), .str []])]) (ob := []) (by kernel_rfl) AllP.nil ?_
  refine To.thenN ?_
  refine Wp.seq ?_
  refine Wp.region hΓ [] [] [] [0, 2, 4] [2, 4] (K' := [(0, .str a0), (2, .own 2 0), (4, .own 4 0)]) (L' := [(2, 24, [.str [], .val (.int .i64 0), .val (.int .i64 0), .str []]), (4, 24, [.str [], .val (.int .i64 0), .val (.int .i64 0), .str [116, 99, 112]])]) (ob := []) (by kernel_rfl) AllP.nil ?_
  refine To.thenN ?_
  refine Wp.seq ?_
  refine Wp.seq ?_
  obtain ⟨u1, h⟩ := chk_of h
  refine Wp.region hΓ [] [(1, .tup [.str ((Lib.cut a0 ([47] : List UInt8)).1), .str ((Lib.cut a0 ([47] : List UInt8)).2.1), .val (.bool ((Lib.cut a0 ([47] : List UInt8)).2.2))])] [] [0, 2, 4, 5, 6, 7] [2, 4] (K' := [(0, .str a0), (2, .own 2 0), (4, .own 4 0), (5, .str ((Lib.cut a0 ([47] : List UInt8)).1)), (6, .str ((Lib.cut a0 ([47] : List UInt8)).2.1)), (7, .val (.bool ((Lib.cut a0 ([47] : List UInt8)).2.2)))]) (L' := [(2, 24, [.str [], .val (.int .i64 0), .val (.int .i64 0), .str []]), (4, 24, [.str [], .val (.int .i64 0), .val (.int .i64 0), .str [116, 99, 112]])]) (ob := [(true = true → CX Tryd.prog 32 [.str a0, .str [47]] (.tup [.str ((Lib.cut a0 ([47] : List UInt8)).1), .str ((Lib.cut a0 ([47] : List UInt8)).2.1), .val (.bool ((Lib.cut a0 ([47] : List UInt8)).2.2))]))]) (by kernel_rfl) (AllP.cons (fun _ => cx (Sh.cut32 u1)) AllP.nil) ?_
  refine To.thenN ?_
  refine Wp.seq ?_
  refine Wp.region hΓ [] [] [] [0, 2, 4, 5, 6, 17] [2, 4] (K' := [(0, .str a0), (2, .own 2 0), (4, .own 4 0), (5, .str ((Lib.cut a0 ([47] : List UInt8)).1)), (6, .str ((Lib.cut a0 ([47] : List UInt8)).2.1)), (17, .val (.bool ((Lib.cut a0 ([47] : List UInt8)).2.2)))]) (L' := [(2, 24, [.str [], .val (.int .i64 0), .val (.int .i64 0), .str []]), (4, 24, [.str [], .val (.int .i64 0), .val (.int .i64 0), .str [116, 99, 112]])]) (ob := []) (by kernel_rfl) AllP.nil ?_
  refine To.thenN ?_
  obtain ⟨o2, ho2, h⟩ := bind_of h
  refine Wp.keep (kk := [0, 2, 4, 5, 6, 17]) (kl := [2, 4]) (K' := [(0, .str a0), (2, .own 2 0), (4, .own 4 0), (5, .str ((Lib.cut a0 ([47] : List UInt8)).1)), (6, .str ((Lib.cut a0 ([47] : List UInt8)).2.1)), (17, .val (.bool ((Lib.cut a0 ([47] : List UInt8)).2.2)))]) (L' := [(2, 24, [.str [], .val (.int .i64 0), .val (.int .i64 0), .str []]), (4, 24, [.str [], .val (.int .i64 0), .val (.int .i64 0), .str [116, 99, 112]])]) (by kernel_rfl) (by kernel_rfl) ?_
  refine ok_port_Parse_j1 n a0 ((Lib.cut a0 ([47] : List UInt8)).1) ((Lib.cut a0 ([47] : List UInt8)).2.1) ((Lib.cut a0 ([47] : List UInt8)).2.2) (S_api_Port.mk [] 0 0 []) (S_api_Port.mk [] 0 0 [116, 99, 112]) o2 ho2 ?_
  refine To.thenN ?_
  refine Wp.seq ?_
  obtain ⟨u3, h⟩ := chk_of h
  refine Wp.region hΓ [] [(1, .recs (α := List UInt8) [] E_string (splitL o2.1 ([58] : List UInt8)))] [] [2, 4, 8] [2, 4] (K' := [(2, .own 2 0), (4, .own 4 0), (8, .recs (α := List UInt8) [] E_string (splitL o2.1 ([58] : List UInt8)))]) (L' := [(2, 24, [.str [], .val (.int .i64 0), .val (.int .i64 0), .str []]), (4, 24, [.str o2.2.f_Host, .val (.int .i64 o2.2.f_Out), .val (.int .i64 o2.2.f_In), .str o2.2.f_Proto])]) (ob := [(true = true → CX Tryd.prog 33 [.str o2.1, .str [58]] (.recs (α := List UInt8) [] E_string (splitL o2.1 ([58] : List UInt8))))]) (by kernel_rfl) (AllP.cons (fun _ => cx (Sh.split33 u3)) AllP.nil) ?_
  refine To.thenN ?_
  refine Wp.seq ?_
  refine Wp.region hΓ [] [] [] [2, 4, 8, 9] [2, 4] (K' := [(2, .own 2 0), (4, .own 4 0), (8, .recs (α := List UInt8) [] E_string (splitL o2.1 ([58] : List UInt8))), (9, .val (.int .i64 (List.length (splitL o2.1 ([58] : List UInt8)) : Int)))]) (L' := [(2, 24, [.str [], .val (.int .i64 0), .val (.int .i64 0), .str []]), (4, 24, [.str o2.2.f_Host, .val (.int .i64 o2.2.f_Out), .val (.int .i64 o2.2.f_In), .str o2.2.f_Proto])]) (ob := []) (by kernel_rfl) AllP.nil ?_
  refine To.thenN ?_
  refine Wp.seq ?_
  obtain ⟨hc7, h⟩ := chk_of h
  obtain ⟨r4, hr4, h⟩ := bind_of h
  refine Wp.region hΓ [] [(5, .val (.int .i64 r4))] [] [2, 4, 8, 9] [2, 4] (K' := [(2, .own 2 0), (4, .own 4 0), (8, .recs (α := List UInt8) [] E_string (splitL o2.1 ([58] : List UInt8))), (9, .val (.int .i64 (List.length (splitL o2.1 ([58] : List UInt8)) : Int)))]) (L' := [(2, 24, [.str [], .val (.int .i64 0), .val (.int .i64 0), .str []]), (4, 24, [.str o2.2.f_Host, .val (.int .i64 o2.2.f_Out), .val (.int .i64 r4), .str o2.2.f_Proto])]) (ob := [(decide (0 ≤ (IntKind.wrap .i64 ((List.length (splitL o2.1 ([58] : List UInt8)) : Int) - 1)) ∧ (IntKind.wrap .i64 ((List.length (splitL o2.1 ([58] : List UInt8)) : Int) - 1)) < (List.length (splitL o2.1 ([58] : List UInt8)) : Int))) = true, (true = true → CX Tryd.prog 34 [.str (((splitL o2.1 ([58] : List UInt8)))[Int.toNat (IntKind.wrap .i64 ((List.length (splitL o2.1 ([58] : List UInt8)) : Int) - 1))]?.getD [])] (.val (.int .i64 r4)))]) (by kernel_rfl) (AllP.cons hc7 (AllP.cons (fun _ => cx (ok_port_number n (((splitL o2.1 ([58] : List UInt8)))[Int.toNat (IntKind.wrap .i64 ((List.length (splitL o2.1 ([58] : List UInt8)) : Int) - 1))]?.getD []) _ hr4)) AllP.nil)) ?_
  refine To.thenN ?_
  refine Wp.seq ?_
  refine Wp.seq ?_
  refine Wp.region hΓ [] [] [] [2, 4, 8, 32] [2, 4] (K' := [(2, .own 2 0), (4, .own 4 0), (8, .recs (α := List UInt8) [] E_string (splitL o2.1 ([58] : List UInt8))), (32, .val (.int .i64 (List.length (splitL o2.1 ([58] : List UInt8)) : Int)))]) (L' := [(2, 24, [.str [], .val (.int .i64 0), .val (.int .i64 0), .str []]), (4, 24, [.str o2.2.f_Host, .val (.int .i64 o2.2.f_Out), .val (.int .i64 r4), .str o2.2.f_Proto])]) (ob := []) (by kernel_rfl) AllP.nil ?_
  refine To.thenN ?_
  obtain ⟨o5, ho5, h⟩ := bind_of h
  refine Wp.keep (kk := [2, 4, 8, 32]) (kl := [2, 4]) (K' := [(2, .own 2 0), (4, .own 4 0), (8, .recs (α := List UInt8) [] E_string (splitL o2.1 ([58] : List UInt8))), (32, .val (.int .i64 (List.length (splitL o2.1 ([58] : List UInt8)) : Int)))]) (L' := [(2, 24, [.str [], .val (.int .i64 0), .val (.int .i64 0), .str []]), (4, 24, [.str o2.2.f_Host, .val (.int .i64 o2.2.f_Out), .val (.int .i64 r4), .str o2.2.f_Proto])]) (by kernel_rfl) (by kernel_rfl) ?_
  refine ok_port_Parse_j2 n (splitL o2.1 ([58] : List UInt8)) (List.length (splitL o2.1 ([58] : List UInt8)) : Int) (S_api_Port.mk [] 0 0 []) (S_api_Port.mk o2.2.f_Host o2.2.f_Out r4 o2.2.f_Proto) o5 ho5 ?_
  rcases o5 with o5 | o5
  · replace h := sum_l h
    refine To.thenN ?_
    refine Wp.seq ?_
    refine Wp.seq ?_
    obtain ⟨r6, hr6, h⟩ := bind_of h
    refine Wp.region hΓ [] [(1, .val (.bool r6))] [] [2, 4, 64] [2, 4] (K' := [(2, .own 2 0), (4, .own 4 0), (64, .val (.bool (!r6)))]) (L' := [(2, 24, [.str o5.1.f_Host, .val (.int .i64 o5.1.f_Out), .val (.int .i64 o5.1.f_In), .str o5.1.f_Proto]), (4, 24, [.str o5.2.f_Host, .val (.int .i64 o5.2.f_Out), .val (.int .i64 o5.2.f_In), .str o5.2.f_Proto])]) (ob := [(true = true → CX Tryd.prog 12 [.agg [.str o5.2.f_Host, .val (.int .i64 o5.2.f_Out), .val (.int .i64 o5.2.f_In), .str o5.2.f_Proto]] (.val (.bool r6)))]) (by kernel_rfl) (AllP.cons (fun _ => cx (ok_port_Right n o5.2 _ hr6)) AllP.nil) ?_
    refine To.thenN ?_
    refine Wp.cond (b := (!r6)) (by kernel_rfl) (fun hb => ?_) (fun hb => ?_)
    · replace h := if_t hb h
      refine Wp.seq ?_
      refine Wp.region hΓ [] [] [] [2, 3] [2] (K' := [(2, .own 2 0), (3, .val (.int .i64 3))]) (L' := [(2, 24, [.str [], .val (.int .i64 0), .val (.int .i64 0), .str []])]) (ob := []) (by kernel_rfl) AllP.nil ?_
      refine To.thenN ?_
      refine Wp.ret ?_
      refine To.thenR ?_
      refine To.keep (kk := [2, 3]) (kl := [2]) (K' := [(2, .own 2 0), (3, .val (.int .i64 3))]) (L' := [(2, 24, [.str [], .val (.int .i64 0), .val (.int .i64 0), .str []])]) (by kernel_rfl) (by kernel_rfl) ?_
      cases h
      exact To.done hΓ (by kernel_rfl)
    · replace h := if_f hb h
      refine Wp.skip ?_
      refine To.thenN ?_
      refine Wp.seq ?_
      refine Wp.region hΓ [] [] [] [2, 3] [2] (K' := [(2, .own 2 0), (3, .val (.int .i64 0))]) (L' := [(2, 24, [.str o5.2.f_Host, .val (.int .i64 o5.2.f_Out), .val (.int .i64 o5.2.f_In), .str o5.2.f_Proto])]) (ob := []) (by kernel_rfl) AllP.nil ?_
      refine To.thenN ?_
      refine Wp.ret ?_
      refine To.keep (kk := [2, 3]) (kl := [2]) (K' := [(2, .own 2 0), (3, .val (.int .i64 0))]) (L' := [(2, 24, [.str o5.2.f_Host, .val (.int .i64 o5.2.f_Out), .val (.int .i64 o5.2.f_In), .str o5.2.f_Proto])]) (by kernel_rfl) (by kernel_rfl) ?_
      cases h
      exact To.done hΓ (by kernel_rfl)
  · replace h := sum_r h
    refine To.thenR ?_
    refine To.keep (kk := [2, 3]) (kl := [2]) (K' := [(2, .own 2 0), (3, .val (.int .i64 o5.1))]) (L' := [(2, 24, [.str o5.2.f_Host, .val (.int .i64 o5.2.f_Out), .val (.int .i64 o5.2.f_In), .str o5.2.f_Proto])]) (by kernel_rfl) (by kernel_rfl) ?_
    cases h
    exact To.done hΓ (by kernel_rfl)
def digit_Text_j1 (n : Nat) (v4 : Int) (v5 : Bool) (v6 : Int) (v11 : Bool) (b3 : List (UInt8)) : Option (Int) :=
  if v11 = true then (some (IntKind.wrap .u64 (0 - v6)))
  else some v6
theorem ok_digit_Text_j1 (n : Nat) (v4 : Int) (v5 : Bool) (v6 : Int) (v11 : Bool) (b3 : List (UInt8)) (o : Int) (h : digit_Text_j1 n v4 v5 v6 v11 b3 = some o) {F0 : Fz} {w0 : Pt Tryd.prog} {Q : Exit → Act → World → Prop} (hQ : To 34 F0 w0 [(3, .elm 3 0 1 0), (4, .val (.int .i64 v4)), (5, .val (.bool v5)), (6, .val (.int .u64 o))] [(3, 67, [.rowc false (α := UInt8) 0 e8 b3])] .normal Q) : Wp Tryd.prog 34 F0 w0 [(3, .elm 3 0 1 0), (4, .val (.int .i64 v4)), (5, .val (.bool v5)), (6, .val (.int .u64 v6)), (11, .val (.bool v11))] [(3, 67, [.rowc false (α := UInt8) 0 e8 b3])] (cB (cA (cB (cB (cB (cB (cF Tryd.f38))))))) Q := by
  unfold digit_Text_j1 at h
  refine Wp.cond (b := v11) (by kernel_rfl) (fun hb => ?_) (fun hb => ?_)
  · replace h := if_t hb h
    refine Wp.region hΓ [] [] [] [3, 4, 5, 6] [3] (K' := [(3, .elm 3 0 1 0), (4, .val (.int .i64 v4)), (5, .val (.bool v5)), (6, .val (.int .u64 (IntKind.wrap .u64 (0 - v6))))]) (L' := [(3, 67, [.rowc false (α := UInt8) 0 e8 b3])]) (ob := []) (by kernel_rfl) AllP.nil ?_
    refine To.keep (kk := [3, 4, 5, 6]) (kl := [3]) (K' := [(3, .elm 3 0 1 0), (4, .val (.int .i64 v4)), (5, .val (.bool v5)), (6, .val (.int .u64 (IntKind.wrap .u64 (0 - v6))))]) (L' := [(3, 67, [.rowc false (α := UInt8) 0 e8 b3])]) (by kernel_rfl) (by kernel_rfl) ?_
    cases h
    exact hQ
  · replace h := if_f hb h
    refine Wp.skip ?_
    refine To.keep (kk := [3, 4, 5, 6]) (kl := [3]) (K' := [(3, .elm 3 0 1 0), (4, .val (.int .i64 v4)), (5, .val (.bool v5)), (6, .val (.int .u64 v6))]) (L' := [(3, 67, [.rowc false (α := UInt8) 0 e8 b3])]) (by kernel_rfl) (by kernel_rfl) ?_
    cases h
    exact hQ
def digit_Text_l2 (n : Nat) (v5 : Bool) : Nat → Int → Int → (List (UInt8)) → Option (Int × (List (UInt8)))
  | 0, _, _, _ => none
  | k + 1, v4, v6, b3 => if ((10 != 0)) = true then (if (decide (0 ≤ (IntKind.wrap .i64 (v4 - 1)) ∧ (IntKind.wrap .i64 (v4 - 1)) < (20 : Int))) = true then (if (decide (0 ≤ (IntKind.wrap .u8 ((IntKind.wrap .u64 (48 + (Int.tmod v6 10))))) ∧ (IntKind.wrap .u8 ((IntKind.wrap .u64 (48 + (Int.tmod v6 10))))) < 256)) = true then (if (decide (0 ≤ (IntKind.wrap .i64 (v4 - 1)) ∧ (IntKind.wrap .i64 (v4 - 1)) < (List.length b3 : Int))) = true then (lett ((List.set b3 (Int.toNat (IntKind.wrap .i64 (v4 - 1))) (UInt8.ofNat (Int.toNat (IntKind.wrap .u8 ((IntKind.wrap .u64 (48 + (Int.tmod v6 10)))))))) : List (UInt8)) fun x3 =>
  if ((10 != 0)) = true then (if ((IntKind.wrap .u64 (Int.tdiv v6 10)) == 0) = true then (some ((IntKind.wrap .i64 (v4 - 1)), x3))
  else (digit_Text_l2 n v5 k (IntKind.wrap .i64 (v4 - 1)) (IntKind.wrap .u64 (Int.tdiv v6 10)) x3)) else none) else none) else none) else none) else none
theorem ok_digit_Text_l2 (n : Nat) (v5 : Bool) {F0 : Fz} {w0 : Pt Tryd.prog} {Q : Exit → Act → World → Prop} (k : Nat) : ∀ (v4 : Int) (v6 : Int) (b3 : List (UInt8)) (o : Int × (List (UInt8))), digit_Text_l2 n v5 k v4 v6 b3 = some o → To 34 F0 w0 [(3, .elm 3 0 1 0), (4, .val (.int .i64 o.1)), (5, .val (.bool v5))] [(3, 67, [.rowc false (α := UInt8) 0 e8 o.2])] (.exit 0) Q → WL Tryd.prog 34 F0 w0 [(3, .elm 3 0 1 0), (4, .val (.int .i64 v4)), (5, .val (.bool v5)), (6, .val (.int .u64 v6))] [(3, 67, [.rowc false (α := UInt8) 0 e8 b3])] (cI (cI (cA (cB (cB (cB (cB (cB (cF Tryd.f38))))))))) Q := by
  induction k with
  | zero => intro v4 v6 b3 o h; cases h
  | succ k ih =>
    intro v4 v6 b3 o h hQ
    rw [digit_Text_l2] at h
    refine WL.round ?_
    refine Wp.block ?_
    refine Wp.seq ?_
    refine Wp.region hΓ [] [] [] [3, 4, 5, 6] [3] (K' := [(3, .elm 3 0 1 0), (4, .val (.int .i64 (IntKind.wrap .i64 (v4 - 1)))), (5, .val (.bool v5)), (6, .val (.int .u64 v6))]) (L' := [(3, 67, [.rowc false (α := UInt8) 0 e8 b3])]) (ob := []) (by kernel_rfl) AllP.nil ?_
    refine To.thenN ?_
    refine Wp.seq ?_
    obtain ⟨hc5, h⟩ := chk_of h
    obtain ⟨hc6, h⟩ := chk_of h
    obtain ⟨u2, h⟩ := chk_of h
    obtain ⟨hc7, h⟩ := chk_of h
    obtain ⟨x3, hx3, h⟩ := lett_of h
    refine Wp.region hΓ [] [(6, .recs (α := UInt8) 0 e8 (List.set b3 (Int.toNat (IntKind.wrap .i64 (v4 - 1))) (UInt8.ofNat (Int.toNat (IntKind.wrap .u8 ((IntKind.wrap .u64 (48 + (Int.tmod v6 10)))))))))] [] [3, 4, 5, 6] [3] (K' := [(3, .elm 3 0 1 0), (4, .val (.int .i64 (IntKind.wrap .i64 (v4 - 1)))), (5, .val (.bool v5)), (6, .val (.int .u64 v6))]) (L' := [(3, 67, [.rowc false (α := UInt8) 0 e8 (List.set b3 (Int.toNat (IntKind.wrap .i64 (v4 - 1))) (UInt8.ofNat (Int.toNat (IntKind.wrap .u8 ((IntKind.wrap .u64 (48 + (Int.tmod v6 10))))))))])]) (ob := [((10 != 0)) = true, (decide (0 ≤ (IntKind.wrap .i64 (v4 - 1)) ∧ (IntKind.wrap .i64 (v4 - 1)) < (20 : Int))) = true, (decide (0 ≤ (IntKind.wrap .i64 (v4 - 1)) ∧ (IntKind.wrap .i64 (v4 - 1)) < (List.length b3 : Int))) = true, UpdOb 0 e8 b3 (IntKind.wrap .i64 (v4 - 1)) 0 [.val (.int .u8 (IntKind.wrap .u8 ((IntKind.wrap .u64 (48 + (Int.tmod v6 10))))))] (.recs (α := UInt8) 0 e8 (List.set b3 (Int.toNat (IntKind.wrap .i64 (v4 - 1))) (UInt8.ofNat (Int.toNat (IntKind.wrap .u8 ((IntKind.wrap .u64 (48 + (Int.tmod v6 10)))))))))]) (by kernel_rfl) (AllP.cons hc5 (AllP.cons hc6 (AllP.cons hc7 (AllP.cons (upd8 (u8_of u2)) AllP.nil)))) ?_
    refine To.eq (K' := [(3, .elm 3 0 1 0), (4, .val (.int .i64 (IntKind.wrap .i64 (v4 - 1)))), (5, .val (.bool v5)), (6, .val (.int .u64 v6))]) (L' := [(3, 67, [.rowc false (α := UInt8) 0 e8 x3])]) (by cases hx3; rfl) (by cases hx3; rfl) ?_
    refine To.thenN ?_
    refine Wp.seq ?_
    obtain ⟨hc4, h⟩ := chk_of h
    refine Wp.region hΓ [] [] [] [3, 4, 5, 6] [3] (K' := [(3, .elm 3 0 1 0), (4, .val (.int .i64 (IntKind.wrap .i64 (v4 - 1)))), (5, .val (.bool v5)), (6, .val (.int .u64 (IntKind.wrap .u64 (Int.tdiv v6 10))))]) (L' := [(3, 67, [.rowc false (α := UInt8) 0 e8 x3])]) (ob := [((10 != 0)) = true]) (by kernel_rfl) (AllP.cons hc4 AllP.nil) ?_
    refine To.thenN ?_
    refine Wp.seq ?_
    refine Wp.region hΓ [] [] [] [3, 4, 5, 6, 25] [3] (K' := [(3, .elm 3 0 1 0), (4, .val (.int .i64 (IntKind.wrap .i64 (v4 - 1)))), (5, .val (.bool v5)), (6, .val (.int .u64 (IntKind.wrap .u64 (Int.tdiv v6 10)))), (25, .val (.bool ((IntKind.wrap .u64 (Int.tdiv v6 10)) == 0)))]) (L' := [(3, 67, [.rowc false (α := UInt8) 0 e8 x3])]) (ob := []) (by kernel_rfl) AllP.nil ?_
    refine To.thenN ?_
    refine Wp.cond (b := ((IntKind.wrap .u64 (Int.tdiv v6 10)) == 0)) (by kernel_rfl) (fun hb => ?_) (fun hb => ?_)
    · replace h := if_t hb h
      refine Wp.exit ?_
      refine To.blockO (by decide) ?_
      refine To.thenX ?_
      refine To.keep (kk := [3, 4, 5]) (kl := [3]) (K' := [(3, .elm 3 0 1 0), (4, .val (.int .i64 (IntKind.wrap .i64 (v4 - 1)))), (5, .val (.bool v5))]) (L' := [(3, 67, [.rowc false (α := UInt8) 0 e8 x3])]) (by kernel_rfl) (by kernel_rfl) ?_
      cases h
      exact hQ
    · replace h := if_f hb h
      refine Wp.skip ?_
      refine To.blockN ?_
      refine To.keep (kk := [3, 4, 5, 6]) (kl := [3]) (K' := [(3, .elm 3 0 1 0), (4, .val (.int .i64 (IntKind.wrap .i64 (v4 - 1)))), (5, .val (.bool v5)), (6, .val (.int .u64 (IntKind.wrap .u64 (Int.tdiv v6 10))))]) (L' := [(3, 67, [.rowc false (α := UInt8) 0 e8 x3])]) (by kernel_rfl) (by kernel_rfl) ?_
      refine To.again ?_
      exact ih (IntKind.wrap .i64 (v4 - 1)) (IntKind.wrap .u64 (Int.tdiv v6 10)) x3 _ h hQ
def digit_Text_j3 (n : Nat) (v4 : Int) (v26 : Bool) (b3 : List (UInt8)) : Option (Int × (List (UInt8))) :=
  if v26 = true then (if (decide (0 ≤ (IntKind.wrap .i64 (v4 - 1)) ∧ (IntKind.wrap .i64 (v4 - 1)) < (20 : Int))) = true then (if (decide (0 ≤ (IntKind.wrap .i64 (v4 - 1)) ∧ (IntKind.wrap .i64 (v4 - 1)) < (List.length b3 : Int))) = true then (some ((IntKind.wrap .i64 (v4 - 1)), (List.set b3 (Int.toNat (IntKind.wrap .i64 (v4 - 1))) 45))) else none) else none)
  else (some (v4, b3))
theorem ok_digit_Text_j3 (n : Nat) (v4 : Int) (v26 : Bool) (b3 : List (UInt8)) (o : Int × (List (UInt8))) (h : digit_Text_j3 n v4 v26 b3 = some o) {F0 : Fz} {w0 : Pt Tryd.prog} {Q : Exit → Act → World → Prop} (hQ : To 34 F0 w0 [(3, .elm 3 0 1 0), (4, .val (.int .i64 o.1))] [(3, 67, [.rowc false (α := UInt8) 0 e8 o.2])] .normal Q) : Wp Tryd.prog 34 F0 w0 [(3, .elm 3 0 1 0), (4, .val (.int .i64 v4)), (26, .val (.bool v26))] [(3, 67, [.rowc false (α := UInt8) 0 e8 b3])] (cB (cA (cB (cB (cB (cB (cB (cB (cF Tryd.f38))))))))) Q := by
  unfold digit_Text_j3 at h
  refine Wp.cond (b := v26) (by kernel_rfl) (fun hb => ?_) (fun hb => ?_)
  · replace h := if_t hb h
    refine Wp.seq ?_
    refine Wp.region hΓ [] [] [] [3, 4] [3] (K' := [(3, .elm 3 0 1 0), (4, .val (.int .i64 (IntKind.wrap .i64 (v4 - 1))))]) (L' := [(3, 67, [.rowc false (α := UInt8) 0 e8 b3])]) (ob := []) (by kernel_rfl) AllP.nil ?_
    refine To.thenN ?_
    obtain ⟨hc3, h⟩ := chk_of h
    obtain ⟨hc4, h⟩ := chk_of h
    refine Wp.region hΓ [] [(2, .recs (α := UInt8) 0 e8 (List.set b3 (Int.toNat (IntKind.wrap .i64 (v4 - 1))) 45))] [] [3, 4] [3] (K' := [(3, .elm 3 0 1 0), (4, .val (.int .i64 (IntKind.wrap .i64 (v4 - 1))))]) (L' := [(3, 67, [.rowc false (α := UInt8) 0 e8 (List.set b3 (Int.toNat (IntKind.wrap .i64 (v4 - 1))) 45)])]) (ob := [(decide (0 ≤ (IntKind.wrap .i64 (v4 - 1)) ∧ (IntKind.wrap .i64 (v4 - 1)) < (20 : Int))) = true, (decide (0 ≤ (IntKind.wrap .i64 (v4 - 1)) ∧ (IntKind.wrap .i64 (v4 - 1)) < (List.length b3 : Int))) = true, UpdOb 0 e8 b3 (IntKind.wrap .i64 (v4 - 1)) 0 [.val (.int .u8 45)] (.recs (α := UInt8) 0 e8 (List.set b3 (Int.toNat (IntKind.wrap .i64 (v4 - 1))) 45))]) (by kernel_rfl) (AllP.cons hc3 (AllP.cons hc4 (AllP.cons (upd8 rfl) AllP.nil))) ?_
    refine To.keep (kk := [3, 4]) (kl := [3]) (K' := [(3, .elm 3 0 1 0), (4, .val (.int .i64 (IntKind.wrap .i64 (v4 - 1))))]) (L' := [(3, 67, [.rowc false (α := UInt8) 0 e8 (List.set b3 (Int.toNat (IntKind.wrap .i64 (v4 - 1))) 45)])]) (by kernel_rfl) (by kernel_rfl) ?_
    cases h
    exact hQ
  · replace h := if_f hb h
    refine Wp.skip ?_
    refine To.keep (kk := [3, 4]) (kl := [3]) (K' := [(3, .elm 3 0 1 0), (4, .val (.int .i64 v4))]) (L' := [(3, 67, [.rowc false (α := UInt8) 0 e8 b3])]) (by kernel_rfl) (by kernel_rfl) ?_
    cases h
    exact hQ
def digit_Text (n : Nat) (a0 : Int) : Option ((List UInt8)) :=
  (digit_Text_j1 n 20 (decide (a0 < 0)) (IntKind.wrap .u64 (a0)) (decide (a0 < 0)) (List.replicate 20 0)).bind fun o1 =>
  (digit_Text_l2 n (decide (a0 < 0)) n 20 o1 (List.replicate 20 0)).bind fun o2 =>
  (digit_Text_j3 n o2.1 (decide (a0 < 0)) o2.2).bind fun o3 =>
  if (decide (List.length o3.2 = 20)) = true then (if (decide (0 ≤ o3.1 ∧ o3.1 ≤ (List.length o3.2 : Int))) = true then (some (List.drop (Int.toNat o3.1) o3.2)) else none) else none
theorem ok_digit_Text (n : Nat) (a0 : Int) (r : (List UInt8)) (h : digit_Text n a0 = some r) : CallsX Tryd.prog 38 [.val (.int .i64 a0)] (.str r) := by
  unfold digit_Text at h
  refine callsX_of (fn := Tryd.f38) (by kernel_rfl) rfl (by kernel_rfl) (Nat.le_of_ble_eq_true (by kernel_rfl)) fun F0 w0 _ => ?_
  refine Wp.keep (kk := [0]) (kl := []) (K' := [(0, .val (.int .i64 a0))]) (L' := []) (by kernel_rfl) (by kernel_rfl) ?_
  refine Wp.seq ?_
  refine Wp.region hΓ [] [] [] [0] [] (K' := [(0, .val (.int .i64 a0))]) (L' := []) (ob := []) (by kernel_rfl) AllP.nil ?_
  refine To.thenN ?_
  refine Wp.seq ?_
  refine Wp.region hΓ [] [] [] [0, 3] [3] (K' := [(0, .val (.int .i64 a0)), (3, .own 3 0)]) (L' := [(3, 67, [.val (.int .u8 0), .val (.int .u8 0), .val (.int .u8 0), .val (.int .u8 0), .val (.int .u8 0), .val (.int .u8 0), .val (.int .u8 0), .val (.int .u8 0), .val (.int .u8 0), .val (.int .u8 0), .val (.int .u8 0), .val (.int .u8 0), .val (.int .u8 0), .val (.int .u8 0), .val (.int .u8 0), .val (.int .u8 0), .val (.int .u8 0), .val (.int .u8 0), .val (.int .u8 0), .val (.int .u8 0)])]) (ob := []) (by kernel_rfl) AllP.nil ?_
  refine To.pre (St.toRow (t := 67) (l := (List.replicate 20 0)) 3 1 20 (by decide) (by decide) (good8 _) (by kernel_rfl) (by kernel_rfl) (by kernel_rfl) (by kernel_rfl) (K' := [(0, .val (.int .i64 a0)), (3, .elm 3 0 1 0)]) (L' := [(3, 67, [.rowc false (α := UInt8) 0 e8 (List.replicate 20 0)])]) (by kernel_rfl) (by kernel_rfl)) ?_
  refine To.thenN ?_
  refine Wp.seq ?_
  refine Wp.region hΓ [] [] [] [0, 3, 4, 5] [3] (K' := [(0, .val (.int .i64 a0)), (3, .elm 3 0 1 0), (4, .val (.int .i64 20)), (5, .val (.bool (decide (a0 < 0))))]) (L' := [(3, 67, [.rowc false (α := UInt8) 0 e8 (List.replicate 20 0)])]) (ob := []) (by kernel_rfl) AllP.nil ?_
  refine To.thenN ?_
  refine Wp.seq ?_
  refine Wp.region hΓ [] [] [] [3, 4, 5, 6] [3] (K' := [(3, .elm 3 0 1 0), (4, .val (.int .i64 20)), (5, .val (.bool (decide (a0 < 0)))), (6, .val (.int .u64 (IntKind.wrap .u64 (a0))))]) (L' := [(3, 67, [.rowc false (α := UInt8) 0 e8 (List.replicate 20 0)])]) (ob := []) (by kernel_rfl) AllP.nil ?_
  refine To.thenN ?_
  refine Wp.seq ?_
  refine Wp.seq ?_
  refine Wp.region hΓ [] [] [] [3, 4, 5, 6, 11] [3] (K' := [(3, .elm 3 0 1 0), (4, .val (.int .i64 20)), (5, .val (.bool (decide (a0 < 0)))), (6, .val (.int .u64 (IntKind.wrap .u64 (a0)))), (11, .val (.bool (decide (a0 < 0))))]) (L' := [(3, 67, [.rowc false (α := UInt8) 0 e8 (List.replicate 20 0)])]) (ob := []) (by kernel_rfl) AllP.nil ?_
  refine To.thenN ?_
  obtain ⟨o1, ho1, h⟩ := bind_of h
  refine Wp.keep (kk := [3, 4, 5, 6, 11]) (kl := [3]) (K' := [(3, .elm 3 0 1 0), (4, .val (.int .i64 20)), (5, .val (.bool (decide (a0 < 0)))), (6, .val (.int .u64 (IntKind.wrap .u64 (a0)))), (11, .val (.bool (decide (a0 < 0))))]) (L' := [(3, 67, [.rowc false (α := UInt8) 0 e8 (List.replicate 20 0)])]) (by kernel_rfl) (by kernel_rfl) ?_
  refine ok_digit_Text_j1 n 20 (decide (a0 < 0)) (IntKind.wrap .u64 (a0)) (decide (a0 < 0)) (List.replicate 20 0) o1 ho1 ?_
  refine To.thenN ?_
  refine Wp.seq ?_
  refine Wp.block ?_
  obtain ⟨o2, ho2, h⟩ := bind_of h
  refine Wp.keep (kk := [3, 4, 5, 6]) (kl := [3]) (K' := [(3, .elm 3 0 1 0), (4, .val (.int .i64 20)), (5, .val (.bool (decide (a0 < 0)))), (6, .val (.int .u64 o1))]) (L' := [(3, 67, [.rowc false (α := UInt8) 0 e8 (List.replicate 20 0)])]) (by kernel_rfl) (by kernel_rfl) ?_
  refine Wp.loopL ?_
  refine ok_digit_Text_l2 n (decide (a0 < 0)) n 20 o1 (List.replicate 20 0) o2 ho2 ?_
  refine To.blockX ?_
  refine To.thenN ?_
  refine Wp.seq ?_
  refine Wp.seq ?_
  refine Wp.region hΓ [] [] [] [3, 4, 26] [3] (K' := [(3, .elm 3 0 1 0), (4, .val (.int .i64 o2.1)), (26, .val (.bool (decide (a0 < 0))))]) (L' := [(3, 67, [.rowc false (α := UInt8) 0 e8 o2.2])]) (ob := []) (by kernel_rfl) AllP.nil ?_
  refine To.thenN ?_
  obtain ⟨o3, ho3, h⟩ := bind_of h
  refine Wp.keep (kk := [3, 4, 26]) (kl := [3]) (K' := [(3, .elm 3 0 1 0), (4, .val (.int .i64 o2.1)), (26, .val (.bool (decide (a0 < 0))))]) (L' := [(3, 67, [.rowc false (α := UInt8) 0 e8 o2.2])]) (by kernel_rfl) (by kernel_rfl) ?_
  refine ok_digit_Text_j3 n o2.1 (decide (a0 < 0)) o2.2 o3 ho3 ?_
  refine To.thenN ?_
  refine Wp.seq ?_
  obtain ⟨hc4, h⟩ := chk_of h
  obtain ⟨hc5, h⟩ := chk_of h
  refine Wp.region hΓ [(1, [3])] [(2, .str (List.drop (Int.toNat o3.1) o3.2))] [] [2] [] (K' := [(2, .str (List.drop (Int.toNat o3.1) o3.2))]) (L' := []) (ob := [(decide (List.length o3.2 = 20)) = true, (decide (0 ≤ o3.1 ∧ o3.1 ≤ (List.length o3.2 : Int))) = true, (true = true → StrOb (List.flatMap e8 (List.drop (Int.toNat o3.1) o3.2)) (.str (List.drop (Int.toNat o3.1) o3.2)))]) (by kernel_rfl) (AllP.cons hc4 (AllP.cons hc5 (AllP.cons (fun _ => strOb (flat8 _)) AllP.nil))) ?_
  refine To.thenN ?_
  refine Wp.ret ?_
  refine To.keep (kk := [2]) (kl := []) (K' := [(2, .str (List.drop (Int.toNat o3.1) o3.2))]) (L' := []) (by kernel_rfl) (by kernel_rfl) ?_
  cases h
  exact To.done hΓ (by kernel_rfl)
def port_Text_j1 (n : Nat) (v3 : List UInt8) (v9 : Bool) (b1 : S_api_Port) : Option ((List UInt8)) :=
  if v9 = true then ((digit_Text n b1.f_Out).bind fun r2 =>
  some r2)
  else some v3
theorem ok_port_Text_j1 (n : Nat) (v3 : List UInt8) (v9 : Bool) (b1 : S_api_Port) (o : (List UInt8)) (h : port_Text_j1 n v3 v9 b1 = some o) {F0 : Fz} {w0 : Pt Tryd.prog} {Q : Exit → Act → World → Prop} (hQ : To 36 F0 w0 [(1, .own 1 0), (3, .str o)] [(1, 24, [.str b1.f_Host, .val (.int .i64 b1.f_Out), .val (.int .i64 b1.f_In), .str b1.f_Proto])] .normal Q) : Wp Tryd.prog 36 F0 w0 [(1, .own 1 0), (3, .str v3), (9, .val (.bool v9))] [(1, 24, [.str b1.f_Host, .val (.int .i64 b1.f_Out), .val (.int .i64 b1.f_In), .str b1.f_Proto])] (cB (cA (cB (cB (cB (cF Tryd.f13)))))) Q := by
  unfold port_Text_j1 at h
  refine Wp.cond (b := v9) (by kernel_rfl) (fun hb => ?_) (fun hb => ?_)
  · replace h := if_t hb h
    obtain ⟨r2, hr2, h⟩ := bind_of h
    refine Wp.region hΓ [] [(2, .str r2)] [] [1, 3] [1] (K' := [(1, .own 1 0), (3, .str r2)]) (L' := [(1, 24, [.str b1.f_Host, .val (.int .i64 b1.f_Out), .val (.int .i64 b1.f_In), .str b1.f_Proto])]) (ob := [(true = true → CX Tryd.prog 38 [.val (.int .i64 b1.f_Out)] (.str r2))]) (by kernel_rfl) (AllP.cons (fun _ => cx (ok_digit_Text n b1.f_Out _ hr2)) AllP.nil) ?_
    refine To.keep (kk := [1, 3]) (kl := [1]) (K' := [(1, .own 1 0), (3, .str r2)]) (L' := [(1, 24, [.str b1.f_Host, .val (.int .i64 b1.f_Out), .val (.int .i64 b1.f_In), .str b1.f_Proto])]) (by kernel_rfl) (by kernel_rfl) ?_
    cases h
    exact hQ
  · replace h := if_f hb h
    refine Wp.skip ?_
    refine To.keep (kk := [1, 3]) (kl := [1]) (K' := [(1, .own 1 0), (3, .str v3)]) (L' := [(1, 24, [.str b1.f_Host, .val (.int .i64 b1.f_Out), .val (.int .i64 b1.f_In), .str b1.f_Proto])]) (by kernel_rfl) (by kernel_rfl) ?_
    cases h
    exact hQ
def port_Text_j2 (n : Nat) (v3 : List UInt8) (v15 : Bool) (b1 : S_api_Port) : Option ((List UInt8)) :=
  if v15 = true then (if (decide (((List.length b1.f_Host + List.length ([58] : List UInt8) : Nat) : Int) ≤ 9223372036854775807)) = true then (if (decide (((List.length (b1.f_Host ++ [58]) + List.length v3 : Nat) : Int) ≤ 9223372036854775807)) = true then (some ((b1.f_Host ++ [58]) ++ v3)) else none) else none)
  else some v3
theorem ok_port_Text_j2 (n : Nat) (v3 : List UInt8) (v15 : Bool) (b1 : S_api_Port) (o : (List UInt8)) (h : port_Text_j2 n v3 v15 b1 = some o) {F0 : Fz} {w0 : Pt Tryd.prog} {Q : Exit → Act → World → Prop} (hQ : To 36 F0 w0 [(1, .own 1 0), (3, .str o)] [(1, 24, [.str b1.f_Host, .val (.int .i64 b1.f_Out), .val (.int .i64 b1.f_In), .str b1.f_Proto])] .normal Q) : Wp Tryd.prog 36 F0 w0 [(1, .own 1 0), (3, .str v3), (15, .val (.bool v15))] [(1, 24, [.str b1.f_Host, .val (.int .i64 b1.f_Out), .val (.int .i64 b1.f_In), .str b1.f_Proto])] (cB (cA (cB (cB (cB (cB (cF Tryd.f13))))))) Q := by
  unfold port_Text_j2 at h
  refine Wp.cond (b := v15) (by kernel_rfl) (fun hb => ?_) (fun hb => ?_)
  · replace h := if_t hb h
    obtain ⟨hc3, h⟩ := chk_of h
    obtain ⟨hc4, h⟩ := chk_of h
    refine Wp.region hΓ [] [] [] [1, 3] [1] (K' := [(1, .own 1 0), (3, .str ((b1.f_Host ++ [58]) ++ v3))]) (L' := [(1, 24, [.str b1.f_Host, .val (.int .i64 b1.f_Out), .val (.int .i64 b1.f_In), .str b1.f_Proto])]) (ob := [(decide (((List.length b1.f_Host + List.length ([58] : List UInt8) : Nat) : Int) ≤ 9223372036854775807)) = true, (decide (((List.length (b1.f_Host ++ [58]) + List.length v3 : Nat) : Int) ≤ 9223372036854775807)) = true]) (by kernel_rfl) (AllP.cons hc3 (AllP.cons hc4 AllP.nil)) ?_
    refine To.keep (kk := [1, 3]) (kl := [1]) (K' := [(1, .own 1 0), (3, .str ((b1.f_Host ++ [58]) ++ v3))]) (L' := [(1, 24, [.str b1.f_Host, .val (.int .i64 b1.f_Out), .val (.int .i64 b1.f_In), .str b1.f_Proto])]) (by kernel_rfl) (by kernel_rfl) ?_
    cases h
    exact hQ
  · replace h := if_f hb h
    refine Wp.skip ?_
    refine To.keep (kk := [1, 3]) (kl := [1]) (K' := [(1, .own 1 0), (3, .str v3)]) (L' := [(1, 24, [.str b1.f_Host, .val (.int .i64 b1.f_Out), .val (.int .i64 b1.f_In), .str b1.f_Proto])]) (by kernel_rfl) (by kernel_rfl) ?_
    cases h
    exact hQ
def port_Text_j3 (n : Nat) (v3 : List UInt8) (v22 : Bool) (b1 : S_api_Port) : Option ((List UInt8)) :=
  if v22 = true then (if (decide (((List.length v3 + List.length ([58] : List UInt8) : Nat) : Int) ≤ 9223372036854775807)) = true then (some (v3 ++ [58])) else none)
  else some v3
theorem ok_port_Text_j3 (n : Nat) (v3 : List UInt8) (v22 : Bool) (b1 : S_api_Port) (o : (List UInt8)) (h : port_Text_j3 n v3 v22 b1 = some o) {F0 : Fz} {w0 : Pt Tryd.prog} {Q : Exit → Act → World → Prop} (hQ : To 36 F0 w0 [(1, .own 1 0), (3, .str o)] [(1, 24, [.str b1.f_Host, .val (.int .i64 b1.f_Out), .val (.int .i64 b1.f_In), .str b1.f_Proto])] .normal Q) : Wp Tryd.prog 36 F0 w0 [(1, .own 1 0), (3, .str v3), (22, .val (.bool v22))] [(1, 24, [.str b1.f_Host, .val (.int .i64 b1.f_Out), .val (.int .i64 b1.f_In), .str b1.f_Proto])] (cB (cA (cB (cB (cB (cB (cB (cF Tryd.f13)))))))) Q := by
  unfold port_Text_j3 at h
  refine Wp.cond (b := v22) (by kernel_rfl) (fun hb => ?_) (fun hb => ?_)
  · replace h := if_t hb h
    obtain ⟨hc4, h⟩ := chk_of h
    refine Wp.region hΓ [] [] [] [1, 3] [1] (K' := [(1, .own 1 0), (3, .str (v3 ++ [58]))]) (L' := [(1, 24, [.str b1.f_Host, .val (.int .i64 b1.f_Out), .val (.int .i64 b1.f_In), .str b1.f_Proto])]) (ob := [(decide (((List.length v3 + List.length ([58] : List UInt8) : Nat) : Int) ≤ 9223372036854775807)) = true]) (by kernel_rfl) (AllP.cons hc4 AllP.nil) ?_
    refine To.keep (kk := [1, 3]) (kl := [1]) (K' := [(1, .own 1 0), (3, .str (v3 ++ [58]))]) (L' := [(1, 24, [.str b1.f_Host, .val (.int .i64 b1.f_Out), .val (.int .i64 b1.f_In), .str b1.f_Proto])]) (by kernel_rfl) (by kernel_rfl) ?_
    cases h
    exact hQ
  · replace h := if_f hb h
    refine Wp.skip ?_
    refine To.keep (kk := [1, 3]) (kl := [1]) (K' := [(1, .own 1 0), (3, .str v3)]) (L' := [(1, 24, [.str b1.f_Host, .val (.int .i64 b1.f_Out), .val (.int .i64 b1.f_In), .str b1.f_Proto])]) (by kernel_rfl) (by kernel_rfl) ?_
    cases h
    exact hQ
def port_Text_j4 (n : Nat) (v3 : List UInt8) (v32 : Bool) : Option ((List UInt8)) :=
  if v32 = true then (if (decide (((List.length v3 + List.length ([47, 117, 100, 112] : List UInt8) : Nat) : Int) ≤ 9223372036854775807)) = true then (some (v3 ++ [47, 117, 100, 112])) else none)
  else some v3
theorem ok_port_Text_j4 (n : Nat) (v3 : List UInt8) (v32 : Bool) (o : (List UInt8)) (h : port_Text_j4 n v3 v32 = some o) {F0 : Fz} {w0 : Pt Tryd.prog} {Q : Exit → Act → World → Prop} (hQ : To 36 F0 w0 [(3, .str o)] [] .normal Q) : Wp Tryd.prog 36 F0 w0 [(3, .str v3), (32, .val (.bool v32))] [] (cB (cA (cB (cB (cB (cB (cB (cB (cB (cF Tryd.f13)))))))))) Q := by
  unfold port_Text_j4 at h
  refine Wp.cond (b := v32) (by kernel_rfl) (fun hb => ?_) (fun hb => ?_)
  · replace h := if_t hb h
    obtain ⟨hc6, h⟩ := chk_of h
    refine Wp.region hΓ [] [] [] [3] [] (K' := [(3, .str (v3 ++ [47, 117, 100, 112]))]) (L' := []) (ob := [(decide (((List.length v3 + List.length ([47, 117, 100, 112] : List UInt8) : Nat) : Int) ≤ 9223372036854775807)) = true]) (by kernel_rfl) (AllP.cons hc6 AllP.nil) ?_
    refine To.keep (kk := [3]) (kl := []) (K' := [(3, .str (v3 ++ [47, 117, 100, 112]))]) (L' := []) (by kernel_rfl) (by kernel_rfl) ?_
    cases h
    exact hQ
  · replace h := if_f hb h
    refine Wp.skip ?_
    refine To.keep (kk := [3]) (kl := []) (K' := [(3, .str v3)]) (L' := []) (by kernel_rfl) (by kernel_rfl) ?_
    cases h
    exact hQ
def port_Text (n : Nat) (a0 : S_api_Port) : Option ((List UInt8)) :=
  (port_Right n a0).bind fun r1 =>
  if (!r1) = true then (some [])
  else ((port_Text_j1 n [] (decide (a0.f_Out > 0)) a0).bind fun o2 =>
  (port_Text_j2 n o2 (!(a0.f_Host == [])) a0).bind fun o3 =>
  (port_Text_j3 n o3 (!(o3 == [])) a0).bind fun o4 =>
  (digit_Text n a0.f_In).bind fun r5 =>
  if (decide (((List.length o4 + List.length r5 : Nat) : Int) ≤ 9223372036854775807)) = true then ((port_Text_j4 n (o4 ++ r5) (a0.f_Proto == [117, 100, 112])).bind fun o6 =>
  some o6) else none)
theorem ok_port_Text (n : Nat) (a0 : S_api_Port) (r : (List UInt8)) (h : port_Text n a0 = some r) : CallsX Tryd.prog 13 [.agg [.str a0.f_Host, .val (.int .i64 a0.f_Out), .val (.int .i64 a0.f_In), .str a0.f_Proto]] (.str r) := by
  unfold port_Text at h
  refine callsX_of (fn := Tryd.f13) (by kernel_rfl) rfl (by kernel_rfl) (Nat.le_of_ble_eq_true (by kernel_rfl)) fun F0 w0 _ => ?_
  refine Wp.keep (kk := [0]) (kl := []) (K' := [(0, .agg [.str a0.f_Host, .val (.int .i64 a0.f_Out), .val (.int .i64 a0.f_In), .str a0.f_Proto])]) (L' := []) (by kernel_rfl) (by kernel_rfl) ?_
  refine Wp.seq ?_
  refine Wp.region hΓ [] [] [] [1] [1] (K' := [(1, .own 1 0)]) (L' := [(1, 24, [.str a0.f_Host, .val (.int .i64 a0.f_Out), .val (.int .i64 a0.f_In), .str a0.f_Proto])]) (ob := []) (by kernel_rfl) AllP.nil ?_
  refine To.thenN ?_
  refine Wp.seq ?_
  refine Wp.seq ?_
  obtain ⟨r1, hr1, h⟩ := bind_of h
  refine Wp.region hΓ [] [(1, .val (.bool r1))] [] [1, 6] [1] (K' := [(1, .own 1 0), (6, .val (.bool (!r1)))]) (L' := [(1, 24, [.str a0.f_Host, .val (.int .i64 a0.f_Out), .val (.int .i64 a0.f_In), .str a0.f_Proto])]) (ob := [(true = true → CX Tryd.prog 12 [.agg [.str a0.f_Host, .val (.int .i64 a0.f_Out), .val (.int .i64 a0.f_In), .str a0.f_Proto]] (.val (.bool r1)))]) (by kernel_rfl) (AllP.cons (fun _ => cx (ok_port_Right n a0 _ hr1)) AllP.nil) ?_
  refine To.thenN ?_
  refine Wp.cond (b := (!r1)) (by kernel_rfl) (fun hb => ?_) (fun hb => ?_)
  · replace h := if_t hb h
    refine Wp.seq ?_
    refine Wp.region hΓ [] [] [] [2] [] (K' := [(2, .str [])]) (L' := []) (ob := []) (by kernel_rfl) AllP.nil ?_
    refine To.thenN ?_
    refine Wp.ret ?_
    refine To.thenR ?_
    refine To.keep (kk := [2]) (kl := []) (K' := [(2, .str [])]) (L' := []) (by kernel_rfl) (by kernel_rfl) ?_
    cases h
    exact To.done hΓ (by kernel_rfl)
  · replace h := if_f hb h
    refine Wp.skip ?_
    refine To.thenN ?_
    refine Wp.seq ?_
    refine Wp.region hΓ [] [] [] [1, 3] [1] (K' := [(1, .own 1 0), (3, .str [])]) (L' := [(1, 24, [.str a0.f_Host, .val (.int .i64 a0.f_Out), .val (.int .i64 a0.f_In), .str a0.f_Proto])]) (ob := []) (by kernel_rfl) AllP.nil ?_
    refine To.thenN ?_
    refine Wp.seq ?_
    refine Wp.seq ?_
    refine Wp.region hΓ [] [] [] [1, 3, 9] [1] (K' := [(1, .own 1 0), (3, .str []), (9, .val (.bool (decide (a0.f_Out > 0))))]) (L' := [(1, 24, [.str a0.f_Host, .val (.int .i64 a0.f_Out), .val (.int .i64 a0.f_In), .str a0.f_Proto])]) (ob := []) (by kernel_rfl) AllP.nil ?_
    refine To.thenN ?_
    obtain ⟨o2, ho2, h⟩ := bind_of h
    refine Wp.keep (kk := [1, 3, 9]) (kl := [1]) (K' := [(1, .own 1 0), (3, .str []), (9, .val (.bool (decide (a0.f_Out > 0))))]) (L' := [(1, 24, [.str a0.f_Host, .val (.int .i64 a0.f_Out), .val (.int .i64 a0.f_In), .str a0.f_Proto])]) (by kernel_rfl) (by kernel_rfl) ?_
    refine ok_port_Text_j1 n [] (decide (a0.f_Out > 0)) a0 o2 ho2 ?_
    refine To.thenN ?_
    refine Wp.seq ?_
    refine Wp.seq ?_
    refine Wp.region hΓ [] [] [] [1, 3, 15] [1] (K' := [(1, .own 1 0), (3, .str o2), (15, .val (.bool (!(a0.f_Host == []))))]) (L' := [(1, 24, [.str a0.f_Host, .val (.int .i64 a0.f_Out), .val (.int .i64 a0.f_In), .str a0.f_Proto])]) (ob := []) (by kernel_rfl) AllP.nil ?_
    refine To.thenN ?_
    obtain ⟨o3, ho3, h⟩ := bind_of h
    refine Wp.keep (kk := [1, 3, 15]) (kl := [1]) (K' := [(1, .own 1 0), (3, .str o2), (15, .val (.bool (!(a0.f_Host == []))))]) (L' := [(1, 24, [.str a0.f_Host, .val (.int .i64 a0.f_Out), .val (.int .i64 a0.f_In), .str a0.f_Proto])]) (by kernel_rfl) (by kernel_rfl) ?_
    refine ok_port_Text_j2 n o2 (!(a0.f_Host == [])) a0 o3 ho3 ?_
    refine To.thenN ?_
    refine Wp.seq ?_
    refine Wp.seq ?_
    refine Wp.region hΓ [] [] [] [1, 3, 22] [1] (K' := [(1, .own 1 0), (3, .str o3), (22, .val (.bool (!(o3 == []))))]) (L' := [(1, 24, [.str a0.f_Host, .val (.int .i64 a0.f_Out), .val (.int .i64 a0.f_In), .str a0.f_Proto])]) (ob := []) (by kernel_rfl) AllP.nil ?_
    refine To.thenN ?_
    obtain ⟨o4, ho4, h⟩ := bind_of h
    refine Wp.keep (kk := [1, 3, 22]) (kl := [1]) (K' := [(1, .own 1 0), (3, .str o3), (22, .val (.bool (!(o3 == []))))]) (L' := [(1, 24, [.str a0.f_Host, .val (.int .i64 a0.f_Out), .val (.int .i64 a0.f_In), .str a0.f_Proto])]) (by kernel_rfl) (by kernel_rfl) ?_
    refine ok_port_Text_j3 n o3 (!(o3 == [])) a0 o4 ho4 ?_
    refine To.thenN ?_
    refine Wp.seq ?_
    obtain ⟨r5, hr5, h⟩ := bind_of h
    obtain ⟨hc7, h⟩ := chk_of h
    refine Wp.region hΓ [] [(3, .str r5)] [] [1, 3] [1] (K' := [(1, .own 1 0), (3, .str (o4 ++ r5))]) (L' := [(1, 24, [.str a0.f_Host, .val (.int .i64 a0.f_Out), .val (.int .i64 a0.f_In), .str a0.f_Proto])]) (ob := [(true = true → CX Tryd.prog 38 [.val (.int .i64 a0.f_In)] (.str r5)), (decide (((List.length o4 + List.length r5 : Nat) : Int) ≤ 9223372036854775807)) = true]) (by kernel_rfl) (AllP.cons (fun _ => cx (ok_digit_Text n a0.f_In _ hr5)) (AllP.cons hc7 AllP.nil)) ?_
    refine To.thenN ?_
    refine Wp.seq ?_
    refine Wp.seq ?_
    refine Wp.region hΓ [] [] [] [3, 32] [] (K' := [(3, .str (o4 ++ r5)), (32, .val (.bool (a0.f_Proto == [117, 100, 112])))]) (L' := []) (ob := []) (by kernel_rfl) AllP.nil ?_
    refine To.thenN ?_
    obtain ⟨o6, ho6, h⟩ := bind_of h
    refine Wp.keep (kk := [3, 32]) (kl := []) (K' := [(3, .str (o4 ++ r5)), (32, .val (.bool (a0.f_Proto == [117, 100, 112])))]) (L' := []) (by kernel_rfl) (by kernel_rfl) ?_
    refine ok_port_Text_j4 n (o4 ++ r5) (a0.f_Proto == [117, 100, 112]) o6 ho6 ?_
    refine To.thenN ?_
    refine Wp.seq ?_
    refine Wp.region hΓ [] [] [] [2] [] (K' := [(2, .str o6)]) (L' := []) (ob := []) (by kernel_rfl) AllP.nil ?_
    refine To.thenN ?_
    refine Wp.ret ?_
    refine To.keep (kk := [2]) (kl := []) (K' := [(2, .str o6)]) (L' := []) (by kernel_rfl) (by kernel_rfl) ?_
    cases h
    exact To.done hΓ (by kernel_rfl)
def law16_awake (n : Nat) : Option (Bool) :=
  (port_Parse n [49, 50, 55, 46, 48, 46, 48, 46, 49, 58, 56, 48, 56, 48, 58, 56, 48, 47, 117, 100, 112]).bind fun r1 =>
  ((if ((bif (r1.2 == 0) then ((r1.1.f_Host == [49, 50, 55, 46, 48, 46, 48, 46, 49]) && ((r1.1.f_Out == 8080) && ((r1.1.f_In == 80) && (r1.1.f_Proto == [117, 100, 112])))) else false) == true) = true then port_Text n r1.1 else some [])).bind fun r2 =>
  ((if ((bif (bif (r1.2 == 0) then ((r1.1.f_Host == [49, 50, 55, 46, 48, 46, 48, 46, 49]) && ((r1.1.f_Out == 8080) && ((r1.1.f_In == 80) && (r1.1.f_Proto == [117, 100, 112])))) else false) then (r2 == [49, 50, 55, 46, 48, 46, 48, 46, 49, 58, 56, 48, 56, 48, 58, 56, 48, 47, 117, 100, 112]) else false) == true) = true then port_Right n r1.1 else some false)).bind fun r3 =>
  lett ((bif (bif (bif (r1.2 == 0) then ((r1.1.f_Host == [49, 50, 55, 46, 48, 46, 48, 46, 49]) && ((r1.1.f_Out == 8080) && ((r1.1.f_In == 80) && (r1.1.f_Proto == [117, 100, 112])))) else false) then (r2 == [49, 50, 55, 46, 48, 46, 48, 46, 49, 58, 56, 48, 56, 48, 58, 56, 48, 47, 117, 100, 112]) else false) then r3 else false) : Bool) fun x4 =>
  some x4
theorem ok_law16_awake (n : Nat) (r : Bool) (h : law16_awake n = some r) : CallsX Tryd.prog 9 [] (.val (.bool r)) := by
  unfold law16_awake at h
  refine callsX_of (fn := Tryd.f9) (by kernel_rfl) rfl (by kernel_rfl) (Nat.le_of_ble_eq_true (by kernel_rfl)) fun F0 w0 _ => ?_
  refine Wp.keep (kk := []) (kl := []) (K' := []) (L' := []) (by kernel_rfl) (by kernel_rfl) ?_
  refine Wp.seq ?_
  refine Wp.region hΓ [] [] [] [] [] (K' := []) (L' := []) (ob := []) (by kernel_rfl) AllP.nil ?_
  refine To.thenN ?_
  refine Wp.seq ?_
  obtain ⟨r1, hr1, h⟩ := bind_of h
  refine Wp.region hΓ [] [(0, .tup [.agg [.str r1.1.f_Host, .val (.int .i64 r1.1.f_Out), .val (.int .i64 r1.1.f_In), .str r1.1.f_Proto], .val (.int .i64 r1.2)])] [] [1, 2] [1] (K' := [(1, .own 1 0), (2, .val (.int .i64 r1.2))]) (L' := [(1, 24, [.str r1.1.f_Host, .val (.int .i64 r1.1.f_Out), .val (.int .i64 r1.1.f_In), .str r1.1.f_Proto])]) (ob := [(true = true → CX Tryd.prog 10 [.str [49, 50, 55, 46, 48, 46, 48, 46, 49, 58, 56, 48, 56, 48, 58, 56, 48, 47, 117, 100, 112]] (.tup [.agg [.str r1.1.f_Host, .val (.int .i64 r1.1.f_Out), .val (.int .i64 r1.1.f_In), .str r1.1.f_Proto], .val (.int .i64 r1.2)]))]) (by kernel_rfl) (AllP.cons (fun _ => cx (ok_port_Parse n [49, 50, 55, 46, 48, 46, 48, 46, 49, 58, 56, 48, 56, 48, 58, 56, 48, 47, 117, 100, 112] _ hr1)) AllP.nil) ?_
  refine To.thenN ?_
  refine Wp.seq ?_
  obtain ⟨r2, hr2, h⟩ := bind_of h
  obtain ⟨r3, hr3, h⟩ := bind_of h
  obtain ⟨x4, hx4, h⟩ := lett_of h
  refine Wp.region hΓ [] [(9, .str r2), (14, .val (.bool r3))] [] [0] [] (K' := [(0, .val (.bool (bif (bif (bif (r1.2 == 0) then ((r1.1.f_Host == [49, 50, 55, 46, 48, 46, 48, 46, 49]) && ((r1.1.f_Out == 8080) && ((r1.1.f_In == 80) && (r1.1.f_Proto == [117, 100, 112])))) else false) then (r2 == [49, 50, 55, 46, 48, 46, 48, 46, 49, 58, 56, 48, 56, 48, 58, 56, 48, 47, 117, 100, 112]) else false) then r3 else false)))]) (L' := []) (ob := [(((bif (r1.2 == 0) then ((r1.1.f_Host == [49, 50, 55, 46, 48, 46, 48, 46, 49]) && ((r1.1.f_Out == 8080) && ((r1.1.f_In == 80) && (r1.1.f_Proto == [117, 100, 112])))) else false) == true) = true → CX Tryd.prog 13 [.agg [.str r1.1.f_Host, .val (.int .i64 r1.1.f_Out), .val (.int .i64 r1.1.f_In), .str r1.1.f_Proto]] (.str r2)), (((bif (bif (r1.2 == 0) then ((r1.1.f_Host == [49, 50, 55, 46, 48, 46, 48, 46, 49]) && ((r1.1.f_Out == 8080) && ((r1.1.f_In == 80) && (r1.1.f_Proto == [117, 100, 112])))) else false) then (r2 == [49, 50, 55, 46, 48, 46, 48, 46, 49, 58, 56, 48, 56, 48, 58, 56, 48, 47, 117, 100, 112]) else false) == true) = true → CX Tryd.prog 12 [.agg [.str r1.1.f_Host, .val (.int .i64 r1.1.f_Out), .val (.int .i64 r1.1.f_In), .str r1.1.f_Proto]] (.val (.bool r3)))]) (by kernel_rfl) (AllP.cons (fun hg => cx (ok_port_Text n r1.1 _ (if_t hg hr2))) (AllP.cons (fun hg => cx (ok_port_Right n r1.1 _ (if_t hg hr3))) AllP.nil)) ?_
  refine To.eq (K' := [(0, .val (.bool x4))]) (L' := []) (by cases hx4; rfl) (by cases hx4; rfl) ?_
  refine To.thenN ?_
  refine Wp.ret ?_
  refine To.keep (kk := [0]) (kl := []) (K' := [(0, .val (.bool x4))]) (L' := []) (by kernel_rfl) (by kernel_rfl) ?_
  cases h
  exact To.done hΓ (by kernel_rfl)
theorem good_E_string (l : List (List UInt8)) : GoodR (.recs [] E_string l) := ⟨Nat.le_of_ble_eq_true (by kernel_rfl), fun _ => ⟨rfl, rfl⟩⟩
def ref16_cut_j2 (n : Nat) (v0 : List UInt8) (v1 : Int) (v5 : List (List UInt8)) (v6 : Int) (v7 : Int) : Option ((List (List UInt8)) × Int) :=
  if (decide (0 ≤ v7 ∧ v7 < (List.length v0 : Int))) = true then (if ((((v0)[Int.toNat v7]?.getD 0).toNat : Int) == v1) = true then (if (decide (0 ≤ v7 ∧ v7 ≤ (List.length v0 : Int))) = true then (if (decide (0 ≤ v6 ∧ v6 ≤ v7)) = true then (if (decide ((List.length v5 + List.length ([(List.take (Int.toNat v7 - Int.toNat v6) (List.drop (Int.toNat v6) v0))] : List (List UInt8))) * (16 + 1) ≤ limit)) = true then (some ((v5 ++ ([(List.take (Int.toNat v7 - Int.toNat v6) (List.drop (Int.toNat v6) v0))] : List (List UInt8))), (IntKind.wrap .i64 (v7 + 1)))) else none) else none) else none)
  else (some (v5, v6))) else none
theorem ok_ref16_cut_j2 (n : Nat) (v0 : List UInt8) (v1 : Int) (v5 : List (List UInt8)) (v6 : Int) (v7 : Int) (o : (List (List UInt8)) × Int) (h : ref16_cut_j2 n v0 v1 v5 v6 v7 = some o) {F0 : Fz} {w0 : Pt Tryd.prog} {Q : Exit → Act → World → Prop} (hQ : To 35 F0 w0 [(0, .str v0), (1, .val (.int .u8 v1)), (5, .row 1005), (6, .val (.int .i64 o.2)), (7, .val (.int .i64 v7))] [(1005, 9, [.rowc false (α := List UInt8) [] E_string o.1])] .normal Q) : Wp Tryd.prog 35 F0 w0 [(0, .str v0), (1, .val (.int .u8 v1)), (5, .row 1005), (6, .val (.int .i64 v6)), (7, .val (.int .i64 v7))] [(1005, 9, [.rowc false (α := List UInt8) [] E_string v5])] (cA (cB (cI (cI (cB (cA (cB (cB (cB (cF Tryd.f35)))))))))) Q := by
  unfold ref16_cut_j2 at h
  refine Wp.block ?_
  refine Wp.seq ?_
  obtain ⟨hc4, h⟩ := chk_of h
  refine Wp.region hΓ [] [] [] [0, 1, 5, 6, 7, 19] [1005] (K' := [(0, .str v0), (1, .val (.int .u8 v1)), (5, .row 1005), (6, .val (.int .i64 v6)), (7, .val (.int .i64 v7)), (19, .val (.bool ((((v0)[Int.toNat v7]?.getD 0).toNat : Int) == v1)))]) (L' := [(1005, 9, [.rowc false (α := List UInt8) [] E_string v5])]) (ob := [(decide (0 ≤ v7 ∧ v7 < (List.length v0 : Int))) = true]) (by kernel_rfl) (AllP.cons hc4 AllP.nil) ?_
  refine To.thenN ?_
  refine Wp.cond (b := ((((v0)[Int.toNat v7]?.getD 0).toNat : Int) == v1)) (by kernel_rfl) (fun hb => ?_) (fun hb => ?_)
  · replace h := if_t hb h
    refine Wp.seq ?_
    obtain ⟨hc1, h⟩ := chk_of h
    obtain ⟨hc2, h⟩ := chk_of h
    obtain ⟨hc3, h⟩ := chk_of h
    refine Wp.region hΓ [] [(5, .recs (α := List UInt8) [] E_string [(List.take (Int.toNat v7 - Int.toNat v6) (List.drop (Int.toNat v6) v0))]), (6, .recs (α := List UInt8) [] E_string (v5 ++ ([(List.take (Int.toNat v7 - Int.toNat v6) (List.drop (Int.toNat v6) v0))] : List (List UInt8))))] [] [0, 1, 5, 7] [26] (K' := [(0, .str v0), (1, .val (.int .u8 v1)), (5, .row 26), (7, .val (.int .i64 v7))]) (L' := [(26, 9, [.rowc false (α := List UInt8) [] E_string (v5 ++ ([(List.take (Int.toNat v7 - Int.toNat v6) (List.drop (Int.toNat v6) v0))] : List (List UInt8)))])]) (ob := [(decide (0 ≤ v7 ∧ v7 ≤ (List.length v0 : Int))) = true, (decide (0 ≤ v6 ∧ v6 ≤ v7)) = true, (MkOb 1 [.str (List.take (Int.toNat v7 - Int.toNat v6) (List.drop (Int.toNat v6) v0))] 1 (.recs (α := List UInt8) [] E_string [(List.take (Int.toNat v7 - Int.toNat v6) (List.drop (Int.toNat v6) v0))]) ∧ GoodR (.recs (α := List UInt8) [] E_string [(List.take (Int.toNat v7 - Int.toNat v6) (List.drop (Int.toNat v6) v0))])), (decide ((List.length v5 + List.length ([(List.take (Int.toNat v7 - Int.toNat v6) (List.drop (Int.toNat v6) v0))] : List (List UInt8))) * (16 + 1) ≤ limit)) = true, (AppOb [] E_string v5 (List.flatMap E_string ([(List.take (Int.toNat v7 - Int.toNat v6) (List.drop (Int.toNat v6) v0))] : List (List UInt8))) (List.length ([(List.take (Int.toNat v7 - Int.toNat v6) (List.drop (Int.toNat v6) v0))] : List (List UInt8))) (.recs (α := List UInt8) [] E_string (v5 ++ ([(List.take (Int.toNat v7 - Int.toNat v6) (List.drop (Int.toNat v6) v0))] : List (List UInt8)))) ∧ GoodR (.recs (α := List UInt8) [] E_string (v5 ++ ([(List.take (Int.toNat v7 - Int.toNat v6) (List.drop (Int.toNat v6) v0))] : List (List UInt8)))))]) (by kernel_rfl) (AllP.cons hc1 (AllP.cons hc2 (AllP.cons (mkOb (by kernel_rfl) rfl (by kernel_rfl) (good_E_string _)) (AllP.cons hc3 (AllP.cons (appOb rfl rfl (good_E_string _)) AllP.nil))))) ?_
    refine To.thenN ?_
    refine Wp.region hΓ [] [] [] [0, 1, 5, 6, 7] [26] (K' := [(0, .str v0), (1, .val (.int .u8 v1)), (5, .row 26), (6, .val (.int .i64 (IntKind.wrap .i64 (v7 + 1)))), (7, .val (.int .i64 v7))]) (L' := [(26, 9, [.rowc false (α := List UInt8) [] E_string (v5 ++ ([(List.take (Int.toNat v7 - Int.toNat v6) (List.drop (Int.toNat v6) v0))] : List (List UInt8)))])]) (ob := []) (by kernel_rfl) AllP.nil ?_
    refine To.blockN ?_
    refine To.keep (kk := [0, 1, 5, 6, 7]) (kl := [26]) (K' := [(0, .str v0), (1, .val (.int .u8 v1)), (5, .row 26), (6, .val (.int .i64 (IntKind.wrap .i64 (v7 + 1)))), (7, .val (.int .i64 v7))]) (L' := [(26, 9, [.rowc false (α := List UInt8) [] E_string (v5 ++ ([(List.take (Int.toNat v7 - Int.toNat v6) (List.drop (Int.toNat v6) v0))] : List (List UInt8)))])]) (by kernel_rfl) (by kernel_rfl) ?_
    refine To.pre (St.rename 26 1005 (by decide) (K' := [(0, .str v0), (1, .val (.int .u8 v1)), (5, .row 1005), (6, .val (.int .i64 (IntKind.wrap .i64 (v7 + 1)))), (7, .val (.int .i64 v7))]) (L' := [(1005, 9, [.rowc false (α := List UInt8) [] E_string (v5 ++ ([(List.take (Int.toNat v7 - Int.toNat v6) (List.drop (Int.toNat v6) v0))] : List (List UInt8)))])]) (by kernel_rfl) (by kernel_rfl) (by kernel_rfl)) ?_
    refine To.keep (kk := [0, 1, 5, 6, 7]) (kl := [1005]) (K' := [(0, .str v0), (1, .val (.int .u8 v1)), (5, .row 1005), (6, .val (.int .i64 (IntKind.wrap .i64 (v7 + 1)))), (7, .val (.int .i64 v7))]) (L' := [(1005, 9, [.rowc false (α := List UInt8) [] E_string (v5 ++ ([(List.take (Int.toNat v7 - Int.toNat v6) (List.drop (Int.toNat v6) v0))] : List (List UInt8)))])]) (by kernel_rfl) (by kernel_rfl) ?_
    cases h
    exact hQ
  · replace h := if_f hb h
    refine Wp.skip ?_
    refine To.blockN ?_
    refine To.keep (kk := [0, 1, 5, 6, 7]) (kl := [1005]) (K' := [(0, .str v0), (1, .val (.int .u8 v1)), (5, .row 1005), (6, .val (.int .i64 v6)), (7, .val (.int .i64 v7))]) (L' := [(1005, 9, [.rowc false (α := List UInt8) [] E_string v5])]) (by kernel_rfl) (by kernel_rfl) ?_
    cases h
    exact hQ
def ref16_cut_l1 (n : Nat) (v0 : List UInt8) (v1 : Int) : Nat → (List (List UInt8)) → Int → Int → Option ((List (List UInt8)) × Int)
  | 0, _, _, _ => none
  | k + 1, v5, v6, v7 => if (decide (v7 < (List.length v0 : Int))) = true then ((ref16_cut_j2 n v0 v1 v5 v6 v7).bind fun o1 =>
  ref16_cut_l1 n v0 v1 k o1.1 o1.2 (IntKind.wrap .i64 (v7 + 1)))
  else (some (v5, v6))
theorem ok_ref16_cut_l1 (n : Nat) (v0 : List UInt8) (v1 : Int) {F0 : Fz} {w0 : Pt Tryd.prog} {Q : Exit → Act → World → Prop} (k : Nat) : ∀ (v5 : List (List UInt8)) (v6 : Int) (v7 : Int) (o : (List (List UInt8)) × Int), ref16_cut_l1 n v0 v1 k v5 v6 v7 = some o → To 35 F0 w0 [(0, .str v0), (5, .row 1005), (6, .val (.int .i64 o.2))] [(1005, 9, [.rowc false (α := List UInt8) [] E_string o.1])] (.exit 0) Q → WL Tryd.prog 35 F0 w0 [(0, .str v0), (1, .val (.int .u8 v1)), (5, .row 1005), (6, .val (.int .i64 v6)), (7, .val (.int .i64 v7))] [(1005, 9, [.rowc false (α := List UInt8) [] E_string v5])] (cI (cI (cB (cA (cB (cB (cB (cF Tryd.f35)))))))) Q := by
  induction k with
  | zero => intro v5 v6 v7 o h; cases h
  | succ k ih =>
    intro v5 v6 v7 o h hQ
    rw [ref16_cut_l1] at h
    refine WL.round ?_
    refine Wp.seq ?_
    refine Wp.seq ?_
    refine Wp.region hΓ [] [] [] [0, 1, 5, 6, 7, 12] [1005] (K' := [(0, .str v0), (1, .val (.int .u8 v1)), (5, .row 1005), (6, .val (.int .i64 v6)), (7, .val (.int .i64 v7)), (12, .val (.bool (decide (v7 < (List.length v0 : Int)))))]) (L' := [(1005, 9, [.rowc false (α := List UInt8) [] E_string v5])]) (ob := []) (by kernel_rfl) AllP.nil ?_
    refine To.thenN ?_
    refine Wp.cond (b := (decide (v7 < (List.length v0 : Int)))) (by kernel_rfl) (fun hb => ?_) (fun hb => ?_)
    · replace h := if_t hb h
      refine Wp.skip ?_
      refine To.thenN ?_
      refine Wp.seq ?_
      obtain ⟨o1, ho1, h⟩ := bind_of h
      refine Wp.keep (kk := [0, 1, 5, 6, 7]) (kl := [1005]) (K' := [(0, .str v0), (1, .val (.int .u8 v1)), (5, .row 1005), (6, .val (.int .i64 v6)), (7, .val (.int .i64 v7))]) (L' := [(1005, 9, [.rowc false (α := List UInt8) [] E_string v5])]) (by kernel_rfl) (by kernel_rfl) ?_
      refine ok_ref16_cut_j2 n v0 v1 v5 v6 v7 o1 ho1 ?_
      refine To.thenN ?_
      refine Wp.region hΓ [] [] [] [0, 1, 5, 6, 7] [1005] (K' := [(0, .str v0), (1, .val (.int .u8 v1)), (5, .row 1005), (6, .val (.int .i64 o1.2)), (7, .val (.int .i64 (IntKind.wrap .i64 (v7 + 1))))]) (L' := [(1005, 9, [.rowc false (α := List UInt8) [] E_string o1.1])]) (ob := []) (by kernel_rfl) AllP.nil ?_
      refine To.keep (kk := [0, 1, 5, 6, 7]) (kl := [1005]) (K' := [(0, .str v0), (1, .val (.int .u8 v1)), (5, .row 1005), (6, .val (.int .i64 o1.2)), (7, .val (.int .i64 (IntKind.wrap .i64 (v7 + 1))))]) (L' := [(1005, 9, [.rowc false (α := List UInt8) [] E_string o1.1])]) (by kernel_rfl) (by kernel_rfl) ?_
      refine To.again ?_
      exact ih o1.1 o1.2 (IntKind.wrap .i64 (v7 + 1)) _ h hQ
    · replace h := if_f hb h
      refine Wp.exit ?_
      refine To.thenX ?_
      refine To.thenX ?_
      refine To.keep (kk := [0, 5, 6]) (kl := [1005]) (K' := [(0, .str v0), (5, .row 1005), (6, .val (.int .i64 v6))]) (L' := [(1005, 9, [.rowc false (α := List UInt8) [] E_string v5])]) (by kernel_rfl) (by kernel_rfl) ?_
      cases h
      exact hQ
def ref16_cut (n : Nat) (a0 : List UInt8) (a1 : Int) : Option ((List (List UInt8))) :=
  (ref16_cut_l1 n a0 a1 n ([] : List (List UInt8)) 0 0).bind fun o1 =>
  if (decide (0 ≤ o1.2 ∧ o1.2 ≤ (List.length a0 : Int))) = true then (if (decide ((List.length o1.1 + List.length ([(List.drop (Int.toNat o1.2) a0)] : List (List UInt8))) * (16 + 1) ≤ limit)) = true then (some (o1.1 ++ ([(List.drop (Int.toNat o1.2) a0)] : List (List UInt8)))) else none) else none
theorem ok_ref16_cut (n : Nat) (a0 : List UInt8) (a1 : Int) (r : (List (List UInt8))) (h : ref16_cut n a0 a1 = some r) : CallsX Tryd.prog 35 [.str a0, .val (.int .u8 a1)] (.recs (α := List UInt8) [] E_string r) := by
  unfold ref16_cut at h
  refine callsX_of (fn := Tryd.f35) (by kernel_rfl) rfl (by kernel_rfl) (Nat.le_of_ble_eq_true (by kernel_rfl)) fun F0 w0 _ => ?_
  refine Wp.keep (kk := [0, 1]) (kl := []) (K' := [(0, .str a0), (1, .val (.int .u8 a1))]) (L' := []) (by kernel_rfl) (by kernel_rfl) ?_
  refine Wp.seq ?_
  refine Wp.region hΓ [] [] [] [0, 1] [] (K' := [(0, .str a0), (1, .val (.int .u8 a1))]) (L' := []) (ob := []) (by kernel_rfl) AllP.nil ?_
  refine To.thenN ?_
  refine Wp.seq ?_
  refine Wp.region hΓ [] [(0, .recs (α := List UInt8) [] E_string [])] [] [0, 1, 5] [8] (K' := [(0, .str a0), (1, .val (.int .u8 a1)), (5, .row 8)]) (L' := [(8, 9, [.rowc false (α := List UInt8) [] E_string []])]) (ob := [(MkOb 1 [] 0 (.recs (α := List UInt8) [] E_string []) ∧ GoodR (.recs (α := List UInt8) [] E_string []))]) (by kernel_rfl) (AllP.cons (mkOb (by kernel_rfl) rfl (by kernel_rfl) (good_E_string _)) AllP.nil) ?_
  refine To.thenN ?_
  refine Wp.seq ?_
  refine Wp.region hΓ [] [] [] [0, 1, 5, 6] [8] (K' := [(0, .str a0), (1, .val (.int .u8 a1)), (5, .row 8), (6, .val (.int .i64 0))]) (L' := [(8, 9, [.rowc false (α := List UInt8) [] E_string []])]) (ob := []) (by kernel_rfl) AllP.nil ?_
  refine To.thenN ?_
  refine Wp.seq ?_
  refine Wp.seq ?_
  refine Wp.region hΓ [] [] [] [0, 1, 5, 6, 7] [8] (K' := [(0, .str a0), (1, .val (.int .u8 a1)), (5, .row 8), (6, .val (.int .i64 0)), (7, .val (.int .i64 0))]) (L' := [(8, 9, [.rowc false (α := List UInt8) [] E_string []])]) (ob := []) (by kernel_rfl) AllP.nil ?_
  refine To.thenN ?_
  refine Wp.block ?_
  obtain ⟨o1, ho1, h⟩ := bind_of h
  refine Wp.keep (kk := [0, 1, 5, 6, 7]) (kl := [8]) (K' := [(0, .str a0), (1, .val (.int .u8 a1)), (5, .row 8), (6, .val (.int .i64 0)), (7, .val (.int .i64 0))]) (L' := [(8, 9, [.rowc false (α := List UInt8) [] E_string []])]) (by kernel_rfl) (by kernel_rfl) ?_
  refine Wp.pre (St.rename 8 1005 (by decide) (K' := [(0, .str a0), (1, .val (.int .u8 a1)), (5, .row 1005), (6, .val (.int .i64 0)), (7, .val (.int .i64 0))]) (L' := [(1005, 9, [.rowc false (α := List UInt8) [] E_string []])]) (by kernel_rfl) (by kernel_rfl) (by kernel_rfl)) ?_
  refine Wp.keep (kk := [0, 1, 5, 6, 7]) (kl := [1005]) (K' := [(0, .str a0), (1, .val (.int .u8 a1)), (5, .row 1005), (6, .val (.int .i64 0)), (7, .val (.int .i64 0))]) (L' := [(1005, 9, [.rowc false (α := List UInt8) [] E_string []])]) (by kernel_rfl) (by kernel_rfl) ?_
  refine Wp.loopL ?_
  refine ok_ref16_cut_l1 n a0 a1 n ([] : List (List UInt8)) 0 0 o1 ho1 ?_
  refine To.blockX ?_
  refine To.thenN ?_
  refine Wp.seq ?_
  obtain ⟨hc2, h⟩ := chk_of h
  obtain ⟨hc3, h⟩ := chk_of h
  refine Wp.region hΓ [] [(4, .recs (α := List UInt8) [] E_string [(List.drop (Int.toNat o1.2) a0)]), (5, .recs (α := List UInt8) [] E_string (o1.1 ++ ([(List.drop (Int.toNat o1.2) a0)] : List (List UInt8))))] [] [4] [34] (K' := [(4, .row 34)]) (L' := [(34, 9, [.rowc false (α := List UInt8) [] E_string (o1.1 ++ ([(List.drop (Int.toNat o1.2) a0)] : List (List UInt8)))])]) (ob := [(decide (0 ≤ o1.2 ∧ o1.2 ≤ (List.length a0 : Int))) = true, (MkOb 1 [.str (List.drop (Int.toNat o1.2) a0)] 1 (.recs (α := List UInt8) [] E_string [(List.drop (Int.toNat o1.2) a0)]) ∧ GoodR (.recs (α := List UInt8) [] E_string [(List.drop (Int.toNat o1.2) a0)])), (decide ((List.length o1.1 + List.length ([(List.drop (Int.toNat o1.2) a0)] : List (List UInt8))) * (16 + 1) ≤ limit)) = true, (AppOb [] E_string o1.1 (List.flatMap E_string ([(List.drop (Int.toNat o1.2) a0)] : List (List UInt8))) (List.length ([(List.drop (Int.toNat o1.2) a0)] : List (List UInt8))) (.recs (α := List UInt8) [] E_string (o1.1 ++ ([(List.drop (Int.toNat o1.2) a0)] : List (List UInt8)))) ∧ GoodR (.recs (α := List UInt8) [] E_string (o1.1 ++ ([(List.drop (Int.toNat o1.2) a0)] : List (List UInt8)))))]) (by kernel_rfl) (AllP.cons hc2 (AllP.cons (mkOb (by kernel_rfl) rfl (by kernel_rfl) (good_E_string _)) (AllP.cons hc3 (AllP.cons (appOb rfl rfl (good_E_string _)) AllP.nil)))) ?_
  refine To.thenN ?_
  refine Wp.ret ?_
  refine To.keep (kk := [4]) (kl := [34]) (K' := [(4, .row 34)]) (L' := [(34, 9, [.rowc false (α := List UInt8) [] E_string (o1.1 ++ ([(List.drop (Int.toNat o1.2) a0)] : List (List UInt8)))])]) (by kernel_rfl) (by kernel_rfl) ?_
  refine To.pre (St.settle (ks := [34]) (kk := [4]) (kl := [34]) (K' := [(4, .row 34)]) (L' := [(34, 9, [.rowc true (α := List UInt8) [] E_string (o1.1 ++ ([(List.drop (Int.toNat o1.2) a0)] : List (List UInt8)))])]) (by kernel_rfl)) ?_
  refine To.pre (St.sealK [4] (K' := [(4, .recs (α := List UInt8) [] E_string (o1.1 ++ ([(List.drop (Int.toNat o1.2) a0)] : List (List UInt8))))]) (by kernel_rfl)) ?_
  refine To.keep (kk := [4]) (kl := []) (K' := [(4, .recs (α := List UInt8) [] E_string (o1.1 ++ ([(List.drop (Int.toNat o1.2) a0)] : List (List UInt8))))]) (L' := []) (by kernel_rfl) (by kernel_rfl) ?_
  cases h
  exact To.done hΓ (by kernel_rfl)
def ref01_Whole_l1 (n : Nat) (v0 : List UInt8) : Nat → Int → Option (Sum (Unit) (Bool))
  | 0, _ => none
  | k + 1, v3 => if (decide (v3 < (List.length v0 : Int))) = true then (if (decide (0 ≤ v3 ∧ v3 < (List.length v0 : Int))) = true then (if ((!((decide ((((v0)[Int.toNat v3]?.getD 0).toNat : Int) < 48)) == false) || decide (0 ≤ v3 ∧ v3 < (List.length v0 : Int)))) = true then (lett ((bif (decide ((((v0)[Int.toNat v3]?.getD 0).toNat : Int) < 48)) then true else (decide ((((v0)[Int.toNat v3]?.getD 0).toNat : Int) > 57))) : Bool) fun x2 =>
  if x2 = true then (some (.inr false))
  else (ref01_Whole_l1 n v0 k (IntKind.wrap .i64 (v3 + 1)))) else none) else none)
  else (some (.inl ()))
theorem ok_ref01_Whole_l1 (n : Nat) (v0 : List UInt8) {F0 : Fz} {w0 : Pt Tryd.prog} {Q : Exit → Act → World → Prop} (k : Nat) : ∀ (v3 : Int) (o : Sum (Unit) (Bool)), ref01_Whole_l1 n v0 k v3 = some o → (Sum.elim (fun s => To 33 F0 w0 [] [] (.exit 0) Q) (fun s => To 33 F0 w0 [(2, .val (.bool s))] [] .ret Q)) o → WL Tryd.prog 33 F0 w0 [(0, .str v0), (3, .val (.int .i64 v3))] [] (cI (cI (cB (cA (cB (cB (cF Tryd.f57))))))) Q := by
  induction k with
  | zero => intro v3 o h; cases h
  | succ k ih =>
    intro v3 o h hQ
    rw [ref01_Whole_l1] at h
    refine WL.round ?_
    refine Wp.seq ?_
    refine Wp.seq ?_
    refine Wp.region hΓ [] [] [] [0, 3, 20] [] (K' := [(0, .str v0), (3, .val (.int .i64 v3)), (20, .val (.bool (decide (v3 < (List.length v0 : Int)))))]) (L' := []) (ob := []) (by kernel_rfl) AllP.nil ?_
    refine To.thenN ?_
    refine Wp.cond (b := (decide (v3 < (List.length v0 : Int)))) (by kernel_rfl) (fun hb => ?_) (fun hb => ?_)
    · replace h := if_t hb h
      refine Wp.skip ?_
      refine To.thenN ?_
      refine Wp.seq ?_
      refine Wp.block ?_
      refine Wp.seq ?_
      obtain ⟨hc3, h⟩ := chk_of h
      obtain ⟨hc4, h⟩ := chk_of h
      obtain ⟨x2, hx2, h⟩ := lett_of h
      refine Wp.region hΓ [] [] [] [0, 3, 32] [] (K' := [(0, .str v0), (3, .val (.int .i64 v3)), (32, .val (.bool (bif (decide ((((v0)[Int.toNat v3]?.getD 0).toNat : Int) < 48)) then true else (decide ((((v0)[Int.toNat v3]?.getD 0).toNat : Int) > 57)))))]) (L' := []) (ob := [(decide (0 ≤ v3 ∧ v3 < (List.length v0 : Int))) = true, (!((decide ((((v0)[Int.toNat v3]?.getD 0).toNat : Int) < 48)) == false) || decide (0 ≤ v3 ∧ v3 < (List.length v0 : Int))) = true]) (by kernel_rfl) (AllP.cons hc3 (AllP.cons hc4 AllP.nil)) ?_
      refine To.eq (K' := [(0, .str v0), (3, .val (.int .i64 v3)), (32, .val (.bool x2))]) (L' := []) (by cases hx2; rfl) (by cases hx2; rfl) ?_
      refine To.thenN ?_
      refine Wp.cond (b := x2) (by kernel_rfl) (fun hb => ?_) (fun hb => ?_)
      · replace h := if_t hb h
        refine Wp.seq ?_
        refine Wp.region hΓ [] [] [] [2] [] (K' := [(2, .val (.bool false))]) (L' := []) (ob := []) (by kernel_rfl) AllP.nil ?_
        refine To.thenN ?_
        refine Wp.ret ?_
        refine To.blockR ?_
        refine To.thenR ?_
        refine To.thenR ?_
        refine To.keep (kk := [2]) (kl := []) (K' := [(2, .val (.bool false))]) (L' := []) (by kernel_rfl) (by kernel_rfl) ?_
        cases h
        exact hQ
      · replace h := if_f hb h
        refine Wp.skip ?_
        refine To.blockN ?_
        refine To.thenN ?_
        refine Wp.region hΓ [] [] [] [0, 3] [] (K' := [(0, .str v0), (3, .val (.int .i64 (IntKind.wrap .i64 (v3 + 1))))]) (L' := []) (ob := []) (by kernel_rfl) AllP.nil ?_
        refine To.keep (kk := [0, 3]) (kl := []) (K' := [(0, .str v0), (3, .val (.int .i64 (IntKind.wrap .i64 (v3 + 1))))]) (L' := []) (by kernel_rfl) (by kernel_rfl) ?_
        refine To.again ?_
        exact ih (IntKind.wrap .i64 (v3 + 1)) _ h hQ
    · replace h := if_f hb h
      refine Wp.exit ?_
      refine To.thenX ?_
      refine To.thenX ?_
      refine To.keep (kk := []) (kl := []) (K' := []) (L' := []) (by kernel_rfl) (by kernel_rfl) ?_
      cases h
      exact hQ
def ref01_Whole (n : Nat) (a0 : List UInt8) : Option (Bool) :=
  if ((!(((decide ((List.length a0 : Int) > 1)) == true) && (((List.length a0 : Int) == 0) == false)) || decide (0 ≤ (0 : Int) ∧ (0 : Int) < (List.length a0 : Int)))) = true then (lett ((bif ((List.length a0 : Int) == 0) then true else (bif (decide ((List.length a0 : Int) > 1)) then ((((a0)[Int.toNat 0]?.getD 0).toNat : Int) == 48) else false)) : Bool) fun x1 =>
  if x1 = true then some false
  else ((ref01_Whole_l1 n a0 n 0).bind fun o2 =>
  (Sum.elim (fun o2 => some true) (fun o2 => some o2)) o2)) else none
theorem ok_ref01_Whole (n : Nat) (a0 : List UInt8) (r : Bool) (h : ref01_Whole n a0 = some r) : CallsX Tryd.prog 57 [.str a0] (.val (.bool r)) := by
  unfold ref01_Whole at h
  refine callsX_of (fn := Tryd.f57) (by kernel_rfl) rfl (by kernel_rfl) (Nat.le_of_ble_eq_true (by kernel_rfl)) fun F0 w0 _ => ?_
  refine Wp.keep (kk := [0]) (kl := []) (K' := [(0, .str a0)]) (L' := []) (by kernel_rfl) (by kernel_rfl) ?_
  refine Wp.seq ?_
  refine Wp.region hΓ [] [] [] [0] [] (K' := [(0, .str a0)]) (L' := []) (ob := []) (by kernel_rfl) AllP.nil ?_
  refine To.thenN ?_
  refine Wp.seq ?_
  refine Wp.seq ?_
  obtain ⟨hc3, h⟩ := chk_of h
  obtain ⟨x1, hx1, h⟩ := lett_of h
  refine Wp.region hΓ [] [] [] [0, 16] [] (K' := [(0, .str a0), (16, .val (.bool (bif ((List.length a0 : Int) == 0) then true else (bif (decide ((List.length a0 : Int) > 1)) then ((((a0)[Int.toNat 0]?.getD 0).toNat : Int) == 48) else false))))]) (L' := []) (ob := [(!(((decide ((List.length a0 : Int) > 1)) == true) && (((List.length a0 : Int) == 0) == false)) || decide (0 ≤ (0 : Int) ∧ (0 : Int) < (List.length a0 : Int))) = true]) (by kernel_rfl) (AllP.cons hc3 AllP.nil) ?_
  refine To.eq (K' := [(0, .str a0), (16, .val (.bool x1))]) (L' := []) (by cases hx1; rfl) (by cases hx1; rfl) ?_
  refine To.thenN ?_
  refine Wp.cond (b := x1) (by kernel_rfl) (fun hb => ?_) (fun hb => ?_)
  · replace h := if_t hb h
    refine Wp.seq ?_
    refine Wp.region hΓ [] [] [] [2] [] (K' := [(2, .val (.bool false))]) (L' := []) (ob := []) (by kernel_rfl) AllP.nil ?_
    refine To.thenN ?_
    refine Wp.ret ?_
    refine To.thenR ?_
    refine To.keep (kk := [2]) (kl := []) (K' := [(2, .val (.bool false))]) (L' := []) (by kernel_rfl) (by kernel_rfl) ?_
    cases h
    exact To.done hΓ (by kernel_rfl)
  · replace h := if_f hb h
    refine Wp.skip ?_
    refine To.thenN ?_
    refine Wp.seq ?_
    refine Wp.seq ?_
    refine Wp.region hΓ [] [] [] [0, 3] [] (K' := [(0, .str a0), (3, .val (.int .i64 0))]) (L' := []) (ob := []) (by kernel_rfl) AllP.nil ?_
    refine To.thenN ?_
    refine Wp.block ?_
    obtain ⟨o2, ho2, h⟩ := bind_of h
    refine Wp.keep (kk := [0, 3]) (kl := []) (K' := [(0, .str a0), (3, .val (.int .i64 0))]) (L' := []) (by kernel_rfl) (by kernel_rfl) ?_
    refine Wp.loopL ?_
    refine ok_ref01_Whole_l1 n a0 n 0 o2 ho2 ?_
    rcases o2 with o2 | o2
    · replace h := sum_l h
      refine To.blockX ?_
      refine To.thenN ?_
      refine Wp.seq ?_
      refine Wp.region hΓ [] [] [] [2] [] (K' := [(2, .val (.bool true))]) (L' := []) (ob := []) (by kernel_rfl) AllP.nil ?_
      refine To.thenN ?_
      refine Wp.ret ?_
      refine To.keep (kk := [2]) (kl := []) (K' := [(2, .val (.bool true))]) (L' := []) (by kernel_rfl) (by kernel_rfl) ?_
      cases h
      exact To.done hΓ (by kernel_rfl)
    · replace h := sum_r h
      refine To.blockR ?_
      refine To.thenR ?_
      refine To.keep (kk := [2]) (kl := []) (K' := [(2, .val (.bool o2))]) (L' := []) (by kernel_rfl) (by kernel_rfl) ?_
      cases h
      exact To.done hΓ (by kernel_rfl)
def ref01_Count_l1 (n : Nat) (v0 : List UInt8) (v1 : Int) : Nat → Int → Int → Option (Int)
  | 0, _, _ => none
  | k + 1, v6, v7 => if (decide (v7 < (List.length v0 : Int))) = true then (if (decide (0 ≤ v7 ∧ v7 < (List.length v0 : Int))) = true then (lett ((IntKind.wrap .u64 ((IntKind.wrap .u64 ((IntKind.wrap .u64 (v6 * 10)) + (IntKind.wrap .u64 ((((v0)[Int.toNat v7]?.getD 0).toNat : Int))))) - 48)) : Int) fun x2 =>
  ref01_Count_l1 n v0 v1 k x2 (IntKind.wrap .i64 (v7 + 1))) else none)
  else some v6
theorem ok_ref01_Count_l1 (n : Nat) (v0 : List UInt8) (v1 : Int) {F0 : Fz} {w0 : Pt Tryd.prog} {Q : Exit → Act → World → Prop} (k : Nat) : ∀ (v6 : Int) (v7 : Int) (o : Int), ref01_Count_l1 n v0 v1 k v6 v7 = some o → To 36 F0 w0 [(1, .val (.int .i64 v1)), (6, .val (.int .u64 o))] [] (.exit 0) Q → WL Tryd.prog 36 F0 w0 [(0, .str v0), (1, .val (.int .i64 v1)), (6, .val (.int .u64 v6)), (7, .val (.int .i64 v7))] [] (cI (cI (cB (cA (cB (cB (cB (cB (cB (cF Tryd.f36)))))))))) Q := by
  induction k with
  | zero => intro v6 v7 o h; cases h
  | succ k ih =>
    intro v6 v7 o h hQ
    rw [ref01_Count_l1] at h
    refine WL.round ?_
    refine Wp.seq ?_
    refine Wp.seq ?_
    refine Wp.region hΓ [] [] [] [0, 1, 6, 7, 19] [] (K' := [(0, .str v0), (1, .val (.int .i64 v1)), (6, .val (.int .u64 v6)), (7, .val (.int .i64 v7)), (19, .val (.bool (decide (v7 < (List.length v0 : Int)))))]) (L' := []) (ob := []) (by kernel_rfl) AllP.nil ?_
    refine To.thenN ?_
    refine Wp.cond (b := (decide (v7 < (List.length v0 : Int)))) (by kernel_rfl) (fun hb => ?_) (fun hb => ?_)
    · replace h := if_t hb h
      refine Wp.skip ?_
      refine To.thenN ?_
      refine Wp.seq ?_
      refine Wp.block ?_
      obtain ⟨hc3, h⟩ := chk_of h
      obtain ⟨x2, hx2, h⟩ := lett_of h
      refine Wp.region hΓ [] [] [] [0, 1, 6, 7] [] (K' := [(0, .str v0), (1, .val (.int .i64 v1)), (6, .val (.int .u64 (IntKind.wrap .u64 ((IntKind.wrap .u64 ((IntKind.wrap .u64 (v6 * 10)) + (IntKind.wrap .u64 ((((v0)[Int.toNat v7]?.getD 0).toNat : Int))))) - 48)))), (7, .val (.int .i64 v7))]) (L' := []) (ob := [(decide (0 ≤ v7 ∧ v7 < (List.length v0 : Int))) = true]) (by kernel_rfl) (AllP.cons hc3 AllP.nil) ?_
      refine To.eq (K' := [(0, .str v0), (1, .val (.int .i64 v1)), (6, .val (.int .u64 x2)), (7, .val (.int .i64 v7))]) (L' := []) (by cases hx2; rfl) (by cases hx2; rfl) ?_
      refine To.blockN ?_
      refine To.thenN ?_
      refine Wp.region hΓ [] [] [] [0, 1, 6, 7] [] (K' := [(0, .str v0), (1, .val (.int .i64 v1)), (6, .val (.int .u64 x2)), (7, .val (.int .i64 (IntKind.wrap .i64 (v7 + 1))))]) (L' := []) (ob := []) (by kernel_rfl) AllP.nil ?_
      refine To.keep (kk := [0, 1, 6, 7]) (kl := []) (K' := [(0, .str v0), (1, .val (.int .i64 v1)), (6, .val (.int .u64 x2)), (7, .val (.int .i64 (IntKind.wrap .i64 (v7 + 1))))]) (L' := []) (by kernel_rfl) (by kernel_rfl) ?_
      refine To.again ?_
      exact ih x2 (IntKind.wrap .i64 (v7 + 1)) _ h hQ
    · replace h := if_f hb h
      refine Wp.exit ?_
      refine To.thenX ?_
      refine To.thenX ?_
      refine To.keep (kk := [1, 6]) (kl := []) (K' := [(1, .val (.int .i64 v1)), (6, .val (.int .u64 v6))]) (L' := []) (by kernel_rfl) (by kernel_rfl) ?_
      cases h
      exact hQ
def ref01_Count (n : Nat) (a0 : List UInt8) (a1 : Int) : Option (Int × Int) :=
  if (decide (a1 < 0)) = true then (some (0, 2))
  else ((ref01_Whole n a0).bind fun r1 =>
  if (!r1) = true then (some (0, 3))
  else (if (decide ((List.length a0 : Int) > 19)) = true then (some (0, 9))
  else ((ref01_Count_l1 n a0 a1 n 0 0).bind fun o2 =>
  if (decide (o2 > (IntKind.wrap .u64 (a1)))) = true then (some (0, 9))
  else (some ((IntKind.wrap .i64 (o2)), 0)))))
theorem ok_ref01_Count (n : Nat) (a0 : List UInt8) (a1 : Int) (r : Int × Int) (h : ref01_Count n a0 a1 = some r) : CallsX Tryd.prog 36 [.str a0, .val (.int .i64 a1)] (.tup [.val (.int .i64 r.1), .val (.int .i64 r.2)]) := by
  unfold ref01_Count at h
  refine callsX_of (fn := Tryd.f36) (by kernel_rfl) rfl (by kernel_rfl) (Nat.le_of_ble_eq_true (by kernel_rfl)) fun F0 w0 _ => ?_
  refine Wp.keep (kk := [0, 1]) (kl := []) (K' := [(0, .str a0), (1, .val (.int .i64 a1))]) (L' := []) (by kernel_rfl) (by kernel_rfl) ?_
  refine Wp.seq ?_
  refine Wp.region hΓ [] [] [] [0, 1] [] (K' := [(0, .str a0), (1, .val (.int .i64 a1))]) (L' := []) (ob := []) (by kernel_rfl) AllP.nil ?_
  refine To.thenN ?_
  refine Wp.seq ?_
  refine Wp.seq ?_
  refine Wp.region hΓ [] [] [] [0, 1, 9] [] (K' := [(0, .str a0), (1, .val (.int .i64 a1)), (9, .val (.bool (decide (a1 < 0))))]) (L' := []) (ob := []) (by kernel_rfl) AllP.nil ?_
  refine To.thenN ?_
  refine Wp.cond (b := (decide (a1 < 0))) (by kernel_rfl) (fun hb => ?_) (fun hb => ?_)
  · replace h := if_t hb h
    refine Wp.seq ?_
    refine Wp.region hΓ [] [] [] [4, 5] [] (K' := [(4, .val (.int .i64 0)), (5, .val (.int .i64 2))]) (L' := []) (ob := []) (by kernel_rfl) AllP.nil ?_
    refine To.thenN ?_
    refine Wp.ret ?_
    refine To.thenR ?_
    refine To.keep (kk := [4, 5]) (kl := []) (K' := [(4, .val (.int .i64 0)), (5, .val (.int .i64 2))]) (L' := []) (by kernel_rfl) (by kernel_rfl) ?_
    cases h
    exact To.done hΓ (by kernel_rfl)
  · replace h := if_f hb h
    refine Wp.skip ?_
    refine To.thenN ?_
    refine Wp.seq ?_
    refine Wp.seq ?_
    obtain ⟨r1, hr1, h⟩ := bind_of h
    refine Wp.region hΓ [] [(1, .val (.bool r1))] [] [0, 1, 12] [] (K' := [(0, .str a0), (1, .val (.int .i64 a1)), (12, .val (.bool (!r1)))]) (L' := []) (ob := [(true = true → CX Tryd.prog 57 [.str a0] (.val (.bool r1)))]) (by kernel_rfl) (AllP.cons (fun _ => cx (ok_ref01_Whole n a0 _ hr1)) AllP.nil) ?_
    refine To.thenN ?_
    refine Wp.cond (b := (!r1)) (by kernel_rfl) (fun hb => ?_) (fun hb => ?_)
    · replace h := if_t hb h
      refine Wp.seq ?_
      refine Wp.region hΓ [] [] [] [4, 5] [] (K' := [(4, .val (.int .i64 0)), (5, .val (.int .i64 3))]) (L' := []) (ob := []) (by kernel_rfl) AllP.nil ?_
      refine To.thenN ?_
      refine Wp.ret ?_
      refine To.thenR ?_
      refine To.keep (kk := [4, 5]) (kl := []) (K' := [(4, .val (.int .i64 0)), (5, .val (.int .i64 3))]) (L' := []) (by kernel_rfl) (by kernel_rfl) ?_
      cases h
      exact To.done hΓ (by kernel_rfl)
    · replace h := if_f hb h
      refine Wp.skip ?_
      refine To.thenN ?_
      refine Wp.seq ?_
      refine Wp.seq ?_
      refine Wp.region hΓ [] [] [] [0, 1, 15] [] (K' := [(0, .str a0), (1, .val (.int .i64 a1)), (15, .val (.bool (decide ((List.length a0 : Int) > 19))))]) (L' := []) (ob := []) (by kernel_rfl) AllP.nil ?_
      refine To.thenN ?_
      refine Wp.cond (b := (decide ((List.length a0 : Int) > 19))) (by kernel_rfl) (fun hb => ?_) (fun hb => ?_)
      · replace h := if_t hb h
        refine Wp.seq ?_
        refine Wp.region hΓ [] [] [] [4, 5] [] (K' := [(4, .val (.int .i64 0)), (5, .val (.int .i64 9))]) (L' := []) (ob := []) (by kernel_rfl) AllP.nil ?_
        refine To.thenN ?_
        refine Wp.ret ?_
        refine To.thenR ?_
        refine To.keep (kk := [4, 5]) (kl := []) (K' := [(4, .val (.int .i64 0)), (5, .val (.int .i64 9))]) (L' := []) (by kernel_rfl) (by kernel_rfl) ?_
        cases h
        exact To.done hΓ (by kernel_rfl)
      · replace h := if_f hb h
        refine Wp.skip ?_
        refine To.thenN ?_
        refine Wp.seq ?_
        refine Wp.region hΓ [] [] [] [0, 1, 6] [] (K' := [(0, .str a0), (1, .val (.int .i64 a1)), (6, .val (.int .u64 0))]) (L' := []) (ob := []) (by kernel_rfl) AllP.nil ?_
        refine To.thenN ?_
        refine Wp.seq ?_
        refine Wp.seq ?_
        refine Wp.region hΓ [] [] [] [0, 1, 6, 7] [] (K' := [(0, .str a0), (1, .val (.int .i64 a1)), (6, .val (.int .u64 0)), (7, .val (.int .i64 0))]) (L' := []) (ob := []) (by kernel_rfl) AllP.nil ?_
        refine To.thenN ?_
        refine Wp.block ?_
        obtain ⟨o2, ho2, h⟩ := bind_of h
        refine Wp.keep (kk := [0, 1, 6, 7]) (kl := []) (K' := [(0, .str a0), (1, .val (.int .i64 a1)), (6, .val (.int .u64 0)), (7, .val (.int .i64 0))]) (L' := []) (by kernel_rfl) (by kernel_rfl) ?_
        refine Wp.loopL ?_
        refine ok_ref01_Count_l1 n a0 a1 n 0 0 o2 ho2 ?_
        refine To.blockX ?_
        refine To.thenN ?_
        refine Wp.seq ?_
        refine Wp.seq ?_
        refine Wp.region hΓ [] [] [] [6, 33] [] (K' := [(6, .val (.int .u64 o2)), (33, .val (.bool (decide (o2 > (IntKind.wrap .u64 (a1))))))]) (L' := []) (ob := []) (by kernel_rfl) AllP.nil ?_
        refine To.thenN ?_
        refine Wp.cond (b := (decide (o2 > (IntKind.wrap .u64 (a1))))) (by kernel_rfl) (fun hb => ?_) (fun hb => ?_)
        · replace h := if_t hb h
          refine Wp.seq ?_
          refine Wp.region hΓ [] [] [] [4, 5] [] (K' := [(4, .val (.int .i64 0)), (5, .val (.int .i64 9))]) (L' := []) (ob := []) (by kernel_rfl) AllP.nil ?_
          refine To.thenN ?_
          refine Wp.ret ?_
          refine To.thenR ?_
          refine To.keep (kk := [4, 5]) (kl := []) (K' := [(4, .val (.int .i64 0)), (5, .val (.int .i64 9))]) (L' := []) (by kernel_rfl) (by kernel_rfl) ?_
          cases h
          exact To.done hΓ (by kernel_rfl)
        · replace h := if_f hb h
          refine Wp.skip ?_
          refine To.thenN ?_
          refine Wp.seq ?_
          refine Wp.region hΓ [] [] [] [4, 5] [] (K' := [(4, .val (.int .i64 (IntKind.wrap .i64 (o2)))), (5, .val (.int .i64 0))]) (L' := []) (ob := []) (by kernel_rfl) AllP.nil ?_
          refine To.thenN ?_
          refine Wp.ret ?_
          refine To.keep (kk := [4, 5]) (kl := []) (K' := [(4, .val (.int .i64 (IntKind.wrap .i64 (o2)))), (5, .val (.int .i64 0))]) (L' := []) (by kernel_rfl) (by kernel_rfl) ?_
          cases h
          exact To.done hΓ (by kernel_rfl)
def ref16_address_l1 (n : Nat) (v3 : List (List UInt8)) : Nat → Int → Option (Sum (Unit) (Bool))
  | 0, _ => none
  | k + 1, v4 => if (decide (v4 < 4)) = true then (if (decide (0 ≤ v4 ∧ v4 < (List.length v3 : Int))) = true then ((ref01_Count n ((v3)[Int.toNat v4]?.getD []) 255).bind fun r2 =>
  if (r2.2 != 0) = true then (some (.inr false))
  else (ref16_address_l1 n v3 k (IntKind.wrap .i64 (v4 + 1)))) else none)
  else (some (.inl ()))
theorem ok_ref16_address_l1 (n : Nat) (v3 : List (List UInt8)) {F0 : Fz} {w0 : Pt Tryd.prog} {Q : Exit → Act → World → Prop} (k : Nat) : ∀ (v4 : Int) (o : Sum (Unit) (Bool)), ref16_address_l1 n v3 k v4 = some o → (Sum.elim (fun s => To 26 F0 w0 [] [] (.exit 0) Q) (fun s => To 26 F0 w0 [(2, .val (.bool s))] [] .ret Q)) o → WL Tryd.prog 26 F0 w0 [(3, .recs (α := List UInt8) [] E_string v3), (4, .val (.int .i64 v4))] [] (cI (cI (cB (cA (cB (cB (cB (cF Tryd.f39)))))))) Q := by
  induction k with
  | zero => intro v4 o h; cases h
  | succ k ih =>
    intro v4 o h hQ
    rw [ref16_address_l1] at h
    refine WL.round ?_
    refine Wp.seq ?_
    refine Wp.seq ?_
    refine Wp.region hΓ [] [] [] [3, 4, 13] [] (K' := [(3, .recs (α := List UInt8) [] E_string v3), (4, .val (.int .i64 v4)), (13, .val (.bool (decide (v4 < 4))))]) (L' := []) (ob := []) (by kernel_rfl) AllP.nil ?_
    refine To.thenN ?_
    refine Wp.cond (b := (decide (v4 < 4))) (by kernel_rfl) (fun hb => ?_) (fun hb => ?_)
    · replace h := if_t hb h
      refine Wp.skip ?_
      refine To.thenN ?_
      refine Wp.seq ?_
      refine Wp.block ?_
      refine Wp.seq ?_
      obtain ⟨hc3, h⟩ := chk_of h
      obtain ⟨r2, hr2, h⟩ := bind_of h
      refine Wp.region hΓ [] [(4, .tup [.val (.int .i64 r2.1), .val (.int .i64 r2.2)])] [] [3, 4, 6] [] (K' := [(3, .recs (α := List UInt8) [] E_string v3), (4, .val (.int .i64 v4)), (6, .val (.int .i64 r2.2))]) (L' := []) (ob := [(decide (0 ≤ v4 ∧ v4 < (List.length v3 : Int))) = true, (true = true → CX Tryd.prog 36 [.str ((v3)[Int.toNat v4]?.getD []), .val (.int .i64 255)] (.tup [.val (.int .i64 r2.1), .val (.int .i64 r2.2)]))]) (by kernel_rfl) (AllP.cons hc3 (AllP.cons (fun _ => cx (ok_ref01_Count n ((v3)[Int.toNat v4]?.getD []) 255 _ hr2)) AllP.nil)) ?_
      refine To.thenN ?_
      refine Wp.seq ?_
      refine Wp.region hΓ [] [] [] [3, 4, 25] [] (K' := [(3, .recs (α := List UInt8) [] E_string v3), (4, .val (.int .i64 v4)), (25, .val (.bool (r2.2 != 0)))]) (L' := []) (ob := []) (by kernel_rfl) AllP.nil ?_
      refine To.thenN ?_
      refine Wp.cond (b := (r2.2 != 0)) (by kernel_rfl) (fun hb => ?_) (fun hb => ?_)
      · replace h := if_t hb h
        refine Wp.seq ?_
        refine Wp.region hΓ [] [] [] [2] [] (K' := [(2, .val (.bool false))]) (L' := []) (ob := []) (by kernel_rfl) AllP.nil ?_
        refine To.thenN ?_
        refine Wp.ret ?_
        refine To.blockR ?_
        refine To.thenR ?_
        refine To.thenR ?_
        refine To.keep (kk := [2]) (kl := []) (K' := [(2, .val (.bool false))]) (L' := []) (by kernel_rfl) (by kernel_rfl) ?_
        cases h
        exact hQ
      · replace h := if_f hb h
        refine Wp.skip ?_
        refine To.blockN ?_
        refine To.thenN ?_
        refine Wp.region hΓ [] [] [] [3, 4] [] (K' := [(3, .recs (α := List UInt8) [] E_string v3), (4, .val (.int .i64 (IntKind.wrap .i64 (v4 + 1))))]) (L' := []) (ob := []) (by kernel_rfl) AllP.nil ?_
        refine To.keep (kk := [3, 4]) (kl := []) (K' := [(3, .recs (α := List UInt8) [] E_string v3), (4, .val (.int .i64 (IntKind.wrap .i64 (v4 + 1))))]) (L' := []) (by kernel_rfl) (by kernel_rfl) ?_
        refine To.again ?_
        exact ih (IntKind.wrap .i64 (v4 + 1)) _ h hQ
    · replace h := if_f hb h
      refine Wp.exit ?_
      refine To.thenX ?_
      refine To.thenX ?_
      refine To.keep (kk := []) (kl := []) (K' := []) (L' := []) (by kernel_rfl) (by kernel_rfl) ?_
      cases h
      exact hQ
def ref16_address (n : Nat) (a0 : List UInt8) : Option (Bool) :=
  (ref16_cut n a0 46).bind fun r1 =>
  if ((List.length r1 : Int) != 4) = true then some false
  else ((ref16_address_l1 n r1 n 0).bind fun o2 =>
  (Sum.elim (fun o2 => some true) (fun o2 => some o2)) o2)
theorem ok_ref16_address (n : Nat) (a0 : List UInt8) (r : Bool) (h : ref16_address n a0 = some r) : CallsX Tryd.prog 39 [.str a0] (.val (.bool r)) := by
  unfold ref16_address at h
  refine callsX_of (fn := Tryd.f39) (by kernel_rfl) rfl (by kernel_rfl) (Nat.le_of_ble_eq_true (by kernel_rfl)) fun F0 w0 _ => ?_
  refine Wp.keep (kk := [0]) (kl := []) (K' := [(0, .str a0)]) (L' := []) (by kernel_rfl) (by kernel_rfl) ?_
  refine Wp.seq ?_
  refine Wp.region hΓ [] [] [] [0] [] (K' := [(0, .str a0)]) (L' := []) (ob := []) (by kernel_rfl) AllP.nil ?_
  refine To.thenN ?_
  refine Wp.seq ?_
  obtain ⟨r1, hr1, h⟩ := bind_of h
  refine Wp.region hΓ [] [(1, .recs (α := List UInt8) [] E_string r1)] [] [3] [] (K' := [(3, .recs (α := List UInt8) [] E_string r1)]) (L' := []) (ob := [(true = true → CX Tryd.prog 35 [.str a0, .val (.int .u8 46)] (.recs (α := List UInt8) [] E_string r1))]) (by kernel_rfl) (AllP.cons (fun _ => cx (ok_ref16_cut n a0 46 _ hr1)) AllP.nil) ?_
  refine To.thenN ?_
  refine Wp.seq ?_
  refine Wp.seq ?_
  refine Wp.region hΓ [] [] [] [3, 11] [] (K' := [(3, .recs (α := List UInt8) [] E_string r1), (11, .val (.bool ((List.length r1 : Int) != 4)))]) (L' := []) (ob := []) (by kernel_rfl) AllP.nil ?_
  refine To.thenN ?_
  refine Wp.cond (b := ((List.length r1 : Int) != 4)) (by kernel_rfl) (fun hb => ?_) (fun hb => ?_)
  · replace h := if_t hb h
    refine Wp.seq ?_
    refine Wp.region hΓ [] [] [] [2] [] (K' := [(2, .val (.bool false))]) (L' := []) (ob := []) (by kernel_rfl) AllP.nil ?_
    refine To.thenN ?_
    refine Wp.ret ?_
    refine To.thenR ?_
    refine To.keep (kk := [2]) (kl := []) (K' := [(2, .val (.bool false))]) (L' := []) (by kernel_rfl) (by kernel_rfl) ?_
    cases h
    exact To.done hΓ (by kernel_rfl)
  · replace h := if_f hb h
    refine Wp.skip ?_
    refine To.thenN ?_
    refine Wp.seq ?_
    refine Wp.seq ?_
    refine Wp.region hΓ [] [] [] [3, 4] [] (K' := [(3, .recs (α := List UInt8) [] E_string r1), (4, .val (.int .i64 0))]) (L' := []) (ob := []) (by kernel_rfl) AllP.nil ?_
    refine To.thenN ?_
    refine Wp.block ?_
    obtain ⟨o2, ho2, h⟩ := bind_of h
    refine Wp.keep (kk := [3, 4]) (kl := []) (K' := [(3, .recs (α := List UInt8) [] E_string r1), (4, .val (.int .i64 0))]) (L' := []) (by kernel_rfl) (by kernel_rfl) ?_
    refine Wp.loopL ?_
    refine ok_ref16_address_l1 n r1 n 0 o2 ho2 ?_
    rcases o2 with o2 | o2
    · replace h := sum_l h
      refine To.blockX ?_
      refine To.thenN ?_
      refine Wp.seq ?_
      refine Wp.region hΓ [] [] [] [2] [] (K' := [(2, .val (.bool true))]) (L' := []) (ob := []) (by kernel_rfl) AllP.nil ?_
      refine To.thenN ?_
      refine Wp.ret ?_
      refine To.keep (kk := [2]) (kl := []) (K' := [(2, .val (.bool true))]) (L' := []) (by kernel_rfl) (by kernel_rfl) ?_
      cases h
      exact To.done hΓ (by kernel_rfl)
    · replace h := sum_r h
      refine To.blockR ?_
      refine To.thenR ?_
      refine To.keep (kk := [2]) (kl := []) (K' := [(2, .val (.bool o2))]) (L' := []) (by kernel_rfl) (by kernel_rfl) ?_
      cases h
      exact To.done hΓ (by kernel_rfl)
def ref16_Right (n : Nat) (a0 : S_api_Port) : Option (Bool) :=
  lett ((bif (bif (bif (decide (a0.f_In < 1)) then true else (decide (a0.f_In > 65535))) then true else (decide (a0.f_Out < 0))) then true else (decide (a0.f_Out > 65535))) : Bool) fun x1 =>
  if x1 = true then some false
  else (if (bif (!(a0.f_Proto == [116, 99, 112])) then (!(a0.f_Proto == [117, 100, 112])) else false) = true then some false
  else (((if (((List.length a0.f_Host : Int) == 0) == false) = true then ref16_address n a0.f_Host else some false)).bind fun r2 =>
  some (bif ((List.length a0.f_Host : Int) == 0) then true else r2)))
theorem ok_ref16_Right (n : Nat) (a0 : S_api_Port) (r : Bool) (h : ref16_Right n a0 = some r) : CallsX Tryd.prog 14 [.agg [.str a0.f_Host, .val (.int .i64 a0.f_Out), .val (.int .i64 a0.f_In), .str a0.f_Proto]] (.val (.bool r)) := by
  unfold ref16_Right at h
  refine callsX_of (fn := Tryd.f14) (by kernel_rfl) rfl (by kernel_rfl) (Nat.le_of_ble_eq_true (by kernel_rfl)) fun F0 w0 _ => ?_
  refine Wp.keep (kk := [0]) (kl := []) (K' := [(0, .agg [.str a0.f_Host, .val (.int .i64 a0.f_Out), .val (.int .i64 a0.f_In), .str a0.f_Proto])]) (L' := []) (by kernel_rfl) (by kernel_rfl) ?_
  refine Wp.seq ?_
  refine Wp.region hΓ [] [] [] [1] [1] (K' := [(1, .own 1 0)]) (L' := [(1, 24, [.str a0.f_Host, .val (.int .i64 a0.f_Out), .val (.int .i64 a0.f_In), .str a0.f_Proto])]) (ob := []) (by kernel_rfl) AllP.nil ?_
  refine To.thenN ?_
  refine Wp.seq ?_
  refine Wp.seq ?_
  obtain ⟨x1, hx1, h⟩ := lett_of h
  refine Wp.region hΓ [] [] [] [1, 20] [1] (K' := [(1, .own 1 0), (20, .val (.bool (bif (bif (bif (decide (a0.f_In < 1)) then true else (decide (a0.f_In > 65535))) then true else (decide (a0.f_Out < 0))) then true else (decide (a0.f_Out > 65535)))))]) (L' := [(1, 24, [.str a0.f_Host, .val (.int .i64 a0.f_Out), .val (.int .i64 a0.f_In), .str a0.f_Proto])]) (ob := []) (by kernel_rfl) AllP.nil ?_
  refine To.eq (K' := [(1, .own 1 0), (20, .val (.bool x1))]) (L' := [(1, 24, [.str a0.f_Host, .val (.int .i64 a0.f_Out), .val (.int .i64 a0.f_In), .str a0.f_Proto])]) (by cases hx1; rfl) (by cases hx1; rfl) ?_
  refine To.thenN ?_
  refine Wp.cond (b := x1) (by kernel_rfl) (fun hb => ?_) (fun hb => ?_)
  · replace h := if_t hb h
    refine Wp.seq ?_
    refine Wp.region hΓ [] [] [] [2] [] (K' := [(2, .val (.bool false))]) (L' := []) (ob := []) (by kernel_rfl) AllP.nil ?_
    refine To.thenN ?_
    refine Wp.ret ?_
    refine To.thenR ?_
    refine To.keep (kk := [2]) (kl := []) (K' := [(2, .val (.bool false))]) (L' := []) (by kernel_rfl) (by kernel_rfl) ?_
    cases h
    exact To.done hΓ (by kernel_rfl)
  · replace h := if_f hb h
    refine Wp.skip ?_
    refine To.thenN ?_
    refine Wp.seq ?_
    refine Wp.seq ?_
    refine Wp.region hΓ [] [] [] [1, 28] [1] (K' := [(1, .own 1 0), (28, .val (.bool (bif (!(a0.f_Proto == [116, 99, 112])) then (!(a0.f_Proto == [117, 100, 112])) else false)))]) (L' := [(1, 24, [.str a0.f_Host, .val (.int .i64 a0.f_Out), .val (.int .i64 a0.f_In), .str a0.f_Proto])]) (ob := []) (by kernel_rfl) AllP.nil ?_
    refine To.thenN ?_
    refine Wp.cond (b := (bif (!(a0.f_Proto == [116, 99, 112])) then (!(a0.f_Proto == [117, 100, 112])) else false)) (by kernel_rfl) (fun hb => ?_) (fun hb => ?_)
    · replace h := if_t hb h
      refine Wp.seq ?_
      refine Wp.region hΓ [] [] [] [2] [] (K' := [(2, .val (.bool false))]) (L' := []) (ob := []) (by kernel_rfl) AllP.nil ?_
      refine To.thenN ?_
      refine Wp.ret ?_
      refine To.thenR ?_
      refine To.keep (kk := [2]) (kl := []) (K' := [(2, .val (.bool false))]) (L' := []) (by kernel_rfl) (by kernel_rfl) ?_
      cases h
      exact To.done hΓ (by kernel_rfl)
    · replace h := if_f hb h
      refine Wp.skip ?_
      refine To.thenN ?_
      refine Wp.seq ?_
      obtain ⟨r2, hr2, h⟩ := bind_of h
      refine Wp.region hΓ [] [(7, .val (.bool r2))] [] [2] [] (K' := [(2, .val (.bool (bif ((List.length a0.f_Host : Int) == 0) then true else r2)))]) (L' := []) (ob := [((((List.length a0.f_Host : Int) == 0) == false) = true → CX Tryd.prog 39 [.str a0.f_Host] (.val (.bool r2)))]) (by kernel_rfl) (AllP.cons (fun hg => cx (ok_ref16_address n a0.f_Host _ (if_t hg hr2))) AllP.nil) ?_
      refine To.thenN ?_
      refine Wp.ret ?_
      refine To.keep (kk := [2]) (kl := []) (K' := [(2, .val (.bool (bif ((List.length a0.f_Host : Int) == 0) then true else r2)))]) (L' := []) (by kernel_rfl) (by kernel_rfl) ?_
      cases h
      exact To.done hΓ (by kernel_rfl)
def ref16_Parse_j1 (n : Nat) (v0 : List UInt8) (v5 : Int) (v34 : Bool) (b2 : S_api_Port) (b4 : S_api_Port) : Option ((List UInt8) × S_api_Port) :=
  if v34 = true then (if (decide (0 ≤ (IntKind.wrap .i64 (v5 - 3)) ∧ (IntKind.wrap .i64 (v5 - 3)) ≤ (List.length v0 : Int))) = true then (if (decide (0 ≤ (IntKind.wrap .i64 (v5 - 4)) ∧ (IntKind.wrap .i64 (v5 - 4)) ≤ (List.length v0 : Int))) = true then (some ((List.take (Int.toNat (IntKind.wrap .i64 (v5 - 4))) v0), (S_api_Port.mk b4.f_Host b4.f_Out b4.f_In (List.drop (Int.toNat (IntKind.wrap .i64 (v5 - 3))) v0)))) else none) else none)
  else (some (v0, b4))
theorem ok_ref16_Parse_j1 (n : Nat) (v0 : List UInt8) (v5 : Int) (v34 : Bool) (b2 : S_api_Port) (b4 : S_api_Port) (o : (List UInt8) × S_api_Port) (h : ref16_Parse_j1 n v0 v5 v34 b2 b4 = some o) {F0 : Fz} {w0 : Pt Tryd.prog} {Q : Exit → Act → World → Prop} (hQ : To 119 F0 w0 [(0, .str o.1), (2, .own 2 0), (4, .own 4 0)] [(2, 24, [.str b2.f_Host, .val (.int .i64 b2.f_Out), .val (.int .i64 b2.f_In), .str b2.f_Proto]), (4, 24, [.str o.2.f_Host, .val (.int .i64 o.2.f_Out), .val (.int .i64 o.2.f_In), .str o.2.f_Proto])] .normal Q) : Wp Tryd.prog 119 F0 w0 [(0, .str v0), (2, .own 2 0), (4, .own 4 0), (5, .val (.int .i64 v5)), (34, .val (.bool v34))] [(2, 24, [.str b2.f_Host, .val (.int .i64 b2.f_Out), .val (.int .i64 b2.f_In), .str b2.f_Proto]), (4, 24, [.str b4.f_Host, .val (.int .i64 b4.f_Out), .val (.int .i64 b4.f_In), .str b4.f_Proto])] (cB (cA (cB (cB (cB (cF Tryd.f11)))))) Q := by
  unfold ref16_Parse_j1 at h
  refine Wp.cond (b := v34) (by kernel_rfl) (fun hb => ?_) (fun hb => ?_)
  · replace h := if_t hb h
    refine Wp.seq ?_
    obtain ⟨hc3, h⟩ := chk_of h
    refine Wp.region hΓ [] [] [] [0, 2, 4, 5] [2, 4] (K' := [(0, .str v0), (2, .own 2 0), (4, .own 4 0), (5, .val (.int .i64 v5))]) (L' := [(2, 24, [.str b2.f_Host, .val (.int .i64 b2.f_Out), .val (.int .i64 b2.f_In), .str b2.f_Proto]), (4, 24, [.str b4.f_Host, .val (.int .i64 b4.f_Out), .val (.int .i64 b4.f_In), .str (List.drop (Int.toNat (IntKind.wrap .i64 (v5 - 3))) v0)])]) (ob := [(decide (0 ≤ (IntKind.wrap .i64 (v5 - 3)) ∧ (IntKind.wrap .i64 (v5 - 3)) ≤ (List.length v0 : Int))) = true]) (by kernel_rfl) (AllP.cons hc3 AllP.nil) ?_
    refine To.thenN ?_
    obtain ⟨hc2, h⟩ := chk_of h
    refine Wp.region hΓ [] [] [] [0, 2, 4] [2, 4] (K' := [(0, .str (List.take (Int.toNat (IntKind.wrap .i64 (v5 - 4))) v0)), (2, .own 2 0), (4, .own 4 0)]) (L' := [(2, 24, [.str b2.f_Host, .val (.int .i64 b2.f_Out), .val (.int .i64 b2.f_In), .str b2.f_Proto]), (4, 24, [.str b4.f_Host, .val (.int .i64 b4.f_Out), .val (.int .i64 b4.f_In), .str (List.drop (Int.toNat (IntKind.wrap .i64 (v5 - 3))) v0)])]) (ob := [(decide (0 ≤ (IntKind.wrap .i64 (v5 - 4)) ∧ (IntKind.wrap .i64 (v5 - 4)) ≤ (List.length v0 : Int))) = true]) (by kernel_rfl) (AllP.cons hc2 AllP.nil) ?_
    refine To.keep (kk := [0, 2, 4]) (kl := [2, 4]) (K' := [(0, .str (List.take (Int.toNat (IntKind.wrap .i64 (v5 - 4))) v0)), (2, .own 2 0), (4, .own 4 0)]) (L' := [(2, 24, [.str b2.f_Host, .val (.int .i64 b2.f_Out), .val (.int .i64 b2.f_In), .str b2.f_Proto]), (4, 24, [.str b4.f_Host, .val (.int .i64 b4.f_Out), .val (.int .i64 b4.f_In), .str (List.drop (Int.toNat (IntKind.wrap .i64 (v5 - 3))) v0)])]) (by kernel_rfl) (by kernel_rfl) ?_
    cases h
    exact hQ
  · replace h := if_f hb h
    refine Wp.skip ?_
    refine To.keep (kk := [0, 2, 4]) (kl := [2, 4]) (K' := [(0, .str v0), (2, .own 2 0), (4, .own 4 0)]) (L' := [(2, 24, [.str b2.f_Host, .val (.int .i64 b2.f_Out), .val (.int .i64 b2.f_In), .str b2.f_Proto]), (4, 24, [.str b4.f_Host, .val (.int .i64 b4.f_Out), .val (.int .i64 b4.f_In), .str b4.f_Proto])]) (by kernel_rfl) (by kernel_rfl) ?_
    cases h
    exact hQ
def ref16_Parse_j2 (n : Nat) (v6 : List (List UInt8)) (v7 : Int) (v9 : Int) (v85 : Bool) (b2 : S_api_Port) (b4 : S_api_Port) : Option (Sum (S_api_Port × S_api_Port) (Int × S_api_Port)) :=
  if v85 = true then (if (decide (0 ≤ (IntKind.wrap .i64 (v7 - 2)) ∧ (IntKind.wrap .i64 (v7 - 2)) < (List.length v6 : Int))) = true then ((ref01_Count n ((v6)[Int.toNat (IntKind.wrap .i64 (v7 - 2))]?.getD []) 65535).bind fun r7 =>
  if (bif (r7.2 != 0) then true else (r7.1 == 0)) = true then (some (.inr (3, (S_api_Port.mk [] 0 0 []))))
  else (some (.inl (b2, (S_api_Port.mk b4.f_Host r7.1 b4.f_In b4.f_Proto))))) else none)
  else (some (.inl (b2, b4)))
theorem ok_ref16_Parse_j2 (n : Nat) (v6 : List (List UInt8)) (v7 : Int) (v9 : Int) (v85 : Bool) (b2 : S_api_Port) (b4 : S_api_Port) (o : Sum (S_api_Port × S_api_Port) (Int × S_api_Port)) (h : ref16_Parse_j2 n v6 v7 v9 v85 b2 b4 = some o) {F0 : Fz} {w0 : Pt Tryd.prog} {Q : Exit → Act → World → Prop} (hQ : (Sum.elim (fun s => To 119 F0 w0 [(2, .own 2 0), (4, .own 4 0), (6, .recs (α := List UInt8) [] E_string v6), (7, .val (.int .i64 v7)), (9, .val (.int .i64 v9))] [(2, 24, [.str s.1.f_Host, .val (.int .i64 s.1.f_Out), .val (.int .i64 s.1.f_In), .str s.1.f_Proto]), (4, 24, [.str s.2.f_Host, .val (.int .i64 s.2.f_Out), .val (.int .i64 s.2.f_In), .str s.2.f_Proto])] .normal Q) (fun s => To 119 F0 w0 [(2, .own 2 0), (3, .val (.int .i64 s.1))] [(2, 24, [.str s.2.f_Host, .val (.int .i64 s.2.f_Out), .val (.int .i64 s.2.f_In), .str s.2.f_Proto])] .ret Q)) o) : Wp Tryd.prog 119 F0 w0 [(2, .own 2 0), (4, .own 4 0), (6, .recs (α := List UInt8) [] E_string v6), (7, .val (.int .i64 v7)), (9, .val (.int .i64 v9)), (85, .val (.bool v85))] [(2, 24, [.str b2.f_Host, .val (.int .i64 b2.f_Out), .val (.int .i64 b2.f_In), .str b2.f_Proto]), (4, 24, [.str b4.f_Host, .val (.int .i64 b4.f_Out), .val (.int .i64 b4.f_In), .str b4.f_Proto])] (cB (cA (cB (cB (cB (cB (cB (cB (cB (cB (cB (cF Tryd.f11)))))))))))) Q := by
  unfold ref16_Parse_j2 at h
  refine Wp.cond (b := v85) (by kernel_rfl) (fun hb => ?_) (fun hb => ?_)
  · replace h := if_t hb h
    refine Wp.seq ?_
    obtain ⟨hc8, h⟩ := chk_of h
    obtain ⟨r7, hr7, h⟩ := bind_of h
    refine Wp.region hΓ [] [(5, .tup [.val (.int .i64 r7.1), .val (.int .i64 r7.2)])] [] [2, 4, 6, 7, 9, 10, 11] [2, 4] (K' := [(2, .own 2 0), (4, .own 4 0), (6, .recs (α := List UInt8) [] E_string v6), (7, .val (.int .i64 v7)), (9, .val (.int .i64 v9)), (10, .val (.int .i64 r7.1)), (11, .val (.int .i64 r7.2))]) (L' := [(2, 24, [.str b2.f_Host, .val (.int .i64 b2.f_Out), .val (.int .i64 b2.f_In), .str b2.f_Proto]), (4, 24, [.str b4.f_Host, .val (.int .i64 b4.f_Out), .val (.int .i64 b4.f_In), .str b4.f_Proto])]) (ob := [(decide (0 ≤ (IntKind.wrap .i64 (v7 - 2)) ∧ (IntKind.wrap .i64 (v7 - 2)) < (List.length v6 : Int))) = true, (true = true → CX Tryd.prog 36 [.str ((v6)[Int.toNat (IntKind.wrap .i64 (v7 - 2))]?.getD []), .val (.int .i64 65535)] (.tup [.val (.int .i64 r7.1), .val (.int .i64 r7.2)]))]) (by kernel_rfl) (AllP.cons hc8 (AllP.cons (fun _ => cx (ok_ref01_Count n ((v6)[Int.toNat (IntKind.wrap .i64 (v7 - 2))]?.getD []) 65535 _ hr7)) AllP.nil)) ?_
    refine To.thenN ?_
    refine Wp.seq ?_
    refine Wp.region hΓ [] [] [] [2, 4, 6, 7, 9, 10, 11] [2, 4] (K' := [(2, .own 2 0), (4, .own 4 0), (6, .recs (α := List UInt8) [] E_string v6), (7, .val (.int .i64 v7)), (9, .val (.int .i64 v9)), (10, .val (.int .i64 r7.1)), (11, .val (.int .i64 r7.2))]) (L' := [(2, 24, [.str b2.f_Host, .val (.int .i64 b2.f_Out), .val (.int .i64 b2.f_In), .str b2.f_Proto]), (4, 24, [.str b4.f_Host, .val (.int .i64 r7.1), .val (.int .i64 b4.f_In), .str b4.f_Proto])]) (ob := []) (by kernel_rfl) AllP.nil ?_
    refine To.thenN ?_
    refine Wp.seq ?_
    refine Wp.region hΓ [] [] [] [2, 4, 6, 7, 9, 102] [2, 4] (K' := [(2, .own 2 0), (4, .own 4 0), (6, .recs (α := List UInt8) [] E_string v6), (7, .val (.int .i64 v7)), (9, .val (.int .i64 v9)), (102, .val (.bool (bif (r7.2 != 0) then true else (r7.1 == 0))))]) (L' := [(2, 24, [.str b2.f_Host, .val (.int .i64 b2.f_Out), .val (.int .i64 b2.f_In), .str b2.f_Proto]), (4, 24, [.str b4.f_Host, .val (.int .i64 r7.1), .val (.int .i64 b4.f_In), .str b4.f_Proto])]) (ob := []) (by kernel_rfl) AllP.nil ?_
    refine To.thenN ?_
    refine Wp.cond (b := (bif (r7.2 != 0) then true else (r7.1 == 0))) (by kernel_rfl) (fun hb => ?_) (fun hb => ?_)
    · replace h := if_t hb h
      refine Wp.seq ?_
      refine Wp.region hΓ [] [] [] [2, 3] [2] (K' := [(2, .own 2 0), (3, .val (.int .i64 3))]) (L' := [(2, 24, [.str [], .val (.int .i64 0), .val (.int .i64 0), .str []])]) (ob := []) (by kernel_rfl) AllP.nil ?_
      refine To.thenN ?_
      refine Wp.ret ?_
      refine To.keep (kk := [2, 3]) (kl := [2]) (K' := [(2, .own 2 0), (3, .val (.int .i64 3))]) (L' := [(2, 24, [.str [], .val (.int .i64 0), .val (.int .i64 0), .str []])]) (by kernel_rfl) (by kernel_rfl) ?_
      cases h
      exact hQ
    · replace h := if_f hb h
      refine Wp.skip ?_
      refine To.keep (kk := [2, 4, 6, 7, 9]) (kl := [2, 4]) (K' := [(2, .own 2 0), (4, .own 4 0), (6, .recs (α := List UInt8) [] E_string v6), (7, .val (.int .i64 v7)), (9, .val (.int .i64 v9))]) (L' := [(2, 24, [.str b2.f_Host, .val (.int .i64 b2.f_Out), .val (.int .i64 b2.f_In), .str b2.f_Proto]), (4, 24, [.str b4.f_Host, .val (.int .i64 r7.1), .val (.int .i64 b4.f_In), .str b4.f_Proto])]) (by kernel_rfl) (by kernel_rfl) ?_
      cases h
      exact hQ
  · replace h := if_f hb h
    refine Wp.skip ?_
    refine To.keep (kk := [2, 4, 6, 7, 9]) (kl := [2, 4]) (K' := [(2, .own 2 0), (4, .own 4 0), (6, .recs (α := List UInt8) [] E_string v6), (7, .val (.int .i64 v7)), (9, .val (.int .i64 v9))]) (L' := [(2, 24, [.str b2.f_Host, .val (.int .i64 b2.f_Out), .val (.int .i64 b2.f_In), .str b2.f_Proto]), (4, 24, [.str b4.f_Host, .val (.int .i64 b4.f_Out), .val (.int .i64 b4.f_In), .str b4.f_Proto])]) (by kernel_rfl) (by kernel_rfl) ?_
    cases h
    exact hQ
def ref16_Parse_j3 (n : Nat) (v6 : List (List UInt8)) (v9 : Int) (v105 : Bool) (b2 : S_api_Port) (b4 : S_api_Port) : Option (S_api_Port) :=
  if v105 = true then (if (decide (0 ≤ (0 : Int) ∧ (0 : Int) < (List.length v6 : Int))) = true then (some (S_api_Port.mk ((v6)[Int.toNat 0]?.getD []) b4.f_Out b4.f_In b4.f_Proto)) else none)
  else some b4
theorem ok_ref16_Parse_j3 (n : Nat) (v6 : List (List UInt8)) (v9 : Int) (v105 : Bool) (b2 : S_api_Port) (b4 : S_api_Port) (o : S_api_Port) (h : ref16_Parse_j3 n v6 v9 v105 b2 b4 = some o) {F0 : Fz} {w0 : Pt Tryd.prog} {Q : Exit → Act → World → Prop} (hQ : To 119 F0 w0 [(2, .own 2 0), (4, .own 4 0), (9, .val (.int .i64 v9))] [(2, 24, [.str b2.f_Host, .val (.int .i64 b2.f_Out), .val (.int .i64 b2.f_In), .str b2.f_Proto]), (4, 24, [.str o.f_Host, .val (.int .i64 o.f_Out), .val (.int .i64 o.f_In), .str o.f_Proto])] .normal Q) : Wp Tryd.prog 119 F0 w0 [(2, .own 2 0), (4, .own 4 0), (6, .recs (α := List UInt8) [] E_string v6), (9, .val (.int .i64 v9)), (105, .val (.bool v105))] [(2, 24, [.str b2.f_Host, .val (.int .i64 b2.f_Out), .val (.int .i64 b2.f_In), .str b2.f_Proto]), (4, 24, [.str b4.f_Host, .val (.int .i64 b4.f_Out), .val (.int .i64 b4.f_In), .str b4.f_Proto])] (cB (cA (cB (cB (cB (cB (cB (cB (cB (cB (cB (cB (cF Tryd.f11))))))))))))) Q := by
  unfold ref16_Parse_j3 at h
  refine Wp.cond (b := v105) (by kernel_rfl) (fun hb => ?_) (fun hb => ?_)
  · replace h := if_t hb h
    obtain ⟨hc8, h⟩ := chk_of h
    refine Wp.region hΓ [] [] [] [2, 4, 9] [2, 4] (K' := [(2, .own 2 0), (4, .own 4 0), (9, .val (.int .i64 v9))]) (L' := [(2, 24, [.str b2.f_Host, .val (.int .i64 b2.f_Out), .val (.int .i64 b2.f_In), .str b2.f_Proto]), (4, 24, [.str ((v6)[Int.toNat 0]?.getD []), .val (.int .i64 b4.f_Out), .val (.int .i64 b4.f_In), .str b4.f_Proto])]) (ob := [(decide (0 ≤ (0 : Int) ∧ (0 : Int) < (List.length v6 : Int))) = true]) (by kernel_rfl) (AllP.cons hc8 AllP.nil) ?_
    refine To.keep (kk := [2, 4, 9]) (kl := [2, 4]) (K' := [(2, .own 2 0), (4, .own 4 0), (9, .val (.int .i64 v9))]) (L' := [(2, 24, [.str b2.f_Host, .val (.int .i64 b2.f_Out), .val (.int .i64 b2.f_In), .str b2.f_Proto]), (4, 24, [.str ((v6)[Int.toNat 0]?.getD []), .val (.int .i64 b4.f_Out), .val (.int .i64 b4.f_In), .str b4.f_Proto])]) (by kernel_rfl) (by kernel_rfl) ?_
    cases h
    exact hQ
  · replace h := if_f hb h
    refine Wp.skip ?_
    refine To.keep (kk := [2, 4, 9]) (kl := [2, 4]) (K' := [(2, .own 2 0), (4, .own 4 0), (9, .val (.int .i64 v9))]) (L' := [(2, 24, [.str b2.f_Host, .val (.int .i64 b2.f_Out), .val (.int .i64 b2.f_In), .str b2.f_Proto]), (4, 24, [.str b4.f_Host, .val (.int .i64 b4.f_Out), .val (.int .i64 b4.f_In), .str b4.f_Proto])]) (by kernel_rfl) (by kernel_rfl) ?_
    cases h
    exact hQ
def ref16_Parse (n : Nat) (a0 : List UInt8) : Option (S_api_Port × Int) :=
  if ((!((decide ((List.length a0 : Int) > 4)) == true) || decide (0 ≤ (IntKind.wrap .i64 ((List.length a0 : Int) - 4)) ∧ (IntKind.wrap .i64 ((List.length a0 : Int) - 4)) ≤ (List.length a0 : Int)))) = true then (if ((!(((decide ((List.length a0 : Int) > 4)) == true) && ((bif (decide ((List.length a0 : Int) > 4)) then ((List.drop (Int.toNat (IntKind.wrap .i64 ((List.length a0 : Int) - 4))) a0) == [47, 116, 99, 112]) else false) == false)) || decide (0 ≤ (IntKind.wrap .i64 ((List.length a0 : Int) - 4)) ∧ (IntKind.wrap .i64 ((List.length a0 : Int) - 4)) ≤ (List.length a0 : Int)))) = true then (lett ((bif (bif (decide ((List.length a0 : Int) > 4)) then ((List.drop (Int.toNat (IntKind.wrap .i64 ((List.length a0 : Int) - 4))) a0) == [47, 116, 99, 112]) else false) then true else (bif (decide ((List.length a0 : Int) > 4)) then ((List.drop (Int.toNat (IntKind.wrap .i64 ((List.length a0 : Int) - 4))) a0) == [47, 117, 100, 112]) else false)) : Bool) fun x1 =>
  (ref16_Parse_j1 n a0 (List.length a0 : Int) x1 (S_api_Port.mk [] 0 0 []) (S_api_Port.mk [] 0 0 [116, 99, 112])).bind fun o2 =>
  (ref16_cut n o2.1 58).bind fun r3 =>
  if ((!((((List.length r3 : Int) == 3) == true) && ((decide ((List.length r3 : Int) > 3)) == false)) || decide (0 ≤ (0 : Int) ∧ (0 : Int) < (List.length r3 : Int)))) = true then (lett ((bif (decide ((List.length r3 : Int) > 3)) then true else (bif ((List.length r3 : Int) == 3) then ((List.length ((r3)[Int.toNat 0]?.getD []) : Int) == 0) else false)) : Bool) fun x4 =>
  if x4 = true then (some ((S_api_Port.mk [] 0 0 []), 3))
  else (if (decide (0 ≤ (IntKind.wrap .i64 ((List.length r3 : Int) - 1)) ∧ (IntKind.wrap .i64 ((List.length r3 : Int) - 1)) < (List.length r3 : Int))) = true then ((ref01_Count n ((r3)[Int.toNat (IntKind.wrap .i64 ((List.length r3 : Int) - 1))]?.getD []) 65535).bind fun r5 =>
  if ((!((((List.length r3 : Int) == 2) == false) && ((decide ((List.length r3 : Int) > 1)) == true)) || decide (0 ≤ (1 : Int) ∧ (1 : Int) < (List.length r3 : Int)))) = true then (lett ((bif (decide ((List.length r3 : Int) > 1)) then (bif ((List.length r3 : Int) == 2) then true else (decide ((List.length ((r3)[Int.toNat 1]?.getD []) : Int) > 0))) else false) : Bool) fun x6 =>
  (ref16_Parse_j2 n r3 (List.length r3 : Int) r5.2 x6 (S_api_Port.mk [] 0 0 []) (S_api_Port.mk o2.2.f_Host o2.2.f_Out r5.1 o2.2.f_Proto)).bind fun o7 =>
  (Sum.elim (fun o7 => (ref16_Parse_j3 n r3 r5.2 ((List.length r3 : Int) == 3) o7.1 o7.2).bind fun o8 =>
  ((if ((r5.2 != 0) == false) = true then ref16_Right n o8 else some false)).bind fun r9 =>
  if (bif (r5.2 != 0) then true else (!r9)) = true then (some ((S_api_Port.mk [] 0 0 []), 3))
  else (some (o8, 0))) (fun o7 => some (o7.2, o7.1))) o7) else none) else none)) else none) else none) else none
theorem ok_ref16_Parse (n : Nat) (a0 : List UInt8) (r : S_api_Port × Int) (h : ref16_Parse n a0 = some r) : CallsX Tryd.prog 11 [.str a0] (.tup [.agg [.str r.1.f_Host, .val (.int .i64 r.1.f_Out), .val (.int .i64 r.1.f_In), .str r.1.f_Proto], .val (.int .i64 r.2)]) := by
  unfold ref16_Parse at h
  refine callsX_of (fn := Tryd.f11) (by kernel_rfl) rfl (by kernel_rfl) (Nat.le_of_ble_eq_true (by kernel_rfl)) fun F0 w0 _ => ?_
  refine Wp.keep (kk := [0]) (kl := []) (K' := [(0, .str a0)]) (L' := []) (by kernel_rfl) (by kernel_rfl) ?_
  refine Wp.seq ?_
  refine Wp.region hΓ [] [] [] [0, 2] [2] (K' := [(0, .str a0), (2, .own 2 0)]) (L' := [(2, 24, [.str [], .val (.int .i64 0), .val (.int .i64 0), .str []])]) (ob := []) (by kernel_rfl) AllP.nil ?_
  refine To.thenN ?_
  refine Wp.seq ?_
  refine Wp.region hΓ [] [] [] [0, 2, 4] [2, 4] (K' := [(0, .str a0), (2, .own 2 0), (4, .own 4 0)]) (L' := [(2, 24, [.str [], .val (.int .i64 0), .val (.int .i64 0), .str []]), (4, 24, [.str [], .val (.int .i64 0), .val (.int .i64 0), .str [116, 99, 112]])]) (ob := []) (by kernel_rfl) AllP.nil ?_
  refine To.thenN ?_
  refine Wp.seq ?_
  refine Wp.region hΓ [] [] [] [0, 2, 4, 5] [2, 4] (K' := [(0, .str a0), (2, .own 2 0), (4, .own 4 0), (5, .val (.int .i64 (List.length a0 : Int)))]) (L' := [(2, 24, [.str [], .val (.int .i64 0), .val (.int .i64 0), .str []]), (4, 24, [.str [], .val (.int .i64 0), .val (.int .i64 0), .str [116, 99, 112]])]) (ob := []) (by kernel_rfl) AllP.nil ?_
  refine To.thenN ?_
  refine Wp.seq ?_
  refine Wp.seq ?_
  obtain ⟨hc13, h⟩ := chk_of h
  obtain ⟨hc14, h⟩ := chk_of h
  obtain ⟨x1, hx1, h⟩ := lett_of h
  refine Wp.region hΓ [] [] [] [0, 2, 4, 5, 34] [2, 4] (K' := [(0, .str a0), (2, .own 2 0), (4, .own 4 0), (5, .val (.int .i64 (List.length a0 : Int))), (34, .val (.bool (bif (bif (decide ((List.length a0 : Int) > 4)) then ((List.drop (Int.toNat (IntKind.wrap .i64 ((List.length a0 : Int) - 4))) a0) == [47, 116, 99, 112]) else false) then true else (bif (decide ((List.length a0 : Int) > 4)) then ((List.drop (Int.toNat (IntKind.wrap .i64 ((List.length a0 : Int) - 4))) a0) == [47, 117, 100, 112]) else false))))]) (L' := [(2, 24, [.str [], .val (.int .i64 0), .val (.int .i64 0), .str []]), (4, 24, [.str [], .val (.int .i64 0), .val (.int .i64 0), .str [116, 99, 112]])]) (ob := [(!((decide ((List.length a0 : Int) > 4)) == true) || decide (0 ≤ (IntKind.wrap .i64 ((List.length a0 : Int) - 4)) ∧ (IntKind.wrap .i64 ((List.length a0 : Int) - 4)) ≤ (List.length a0 : Int))) = true, (!(((decide ((List.length a0 : Int) > 4)) == true) && ((bif (decide ((List.length a0 : Int) > 4)) then ((List.drop (Int.toNat (IntKind.wrap .i64 ((List.length a0 : Int) - 4))) a0) == [47, 116, 99, 112]) else false) == false)) || decide (0 ≤ (IntKind.wrap .i64 ((List.length a0 : Int) - 4)) ∧ (IntKind.wrap .i64 ((List.length a0 : Int) - 4)) ≤ (List.length a0 : Int))) = true]) (by kernel_rfl) (AllP.cons hc13 (AllP.cons hc14 AllP.nil)) ?_
  refine To.eq (K' := [(0, .str a0), (2, .own 2 0), (4, .own 4 0), (5, .val (.int .i64 (List.length a0 : Int))), (34, .val (.bool x1))]) (L' := [(2, 24, [.str [], .val (.int .i64 0), .val (.int .i64 0), .str []]), (4, 24, [.str [], .val (.int .i64 0), .val (.int .i64 0), .str [116, 99, 112]])]) (by cases hx1; rfl) (by cases hx1; rfl) ?_
  refine To.thenN ?_
  obtain ⟨o2, ho2, h⟩ := bind_of h
  refine Wp.keep (kk := [0, 2, 4, 5, 34]) (kl := [2, 4]) (K' := [(0, .str a0), (2, .own 2 0), (4, .own 4 0), (5, .val (.int .i64 (List.length a0 : Int))), (34, .val (.bool x1))]) (L' := [(2, 24, [.str [], .val (.int .i64 0), .val (.int .i64 0), .str []]), (4, 24, [.str [], .val (.int .i64 0), .val (.int .i64 0), .str [116, 99, 112]])]) (by kernel_rfl) (by kernel_rfl) ?_
  refine ok_ref16_Parse_j1 n a0 (List.length a0 : Int) x1 (S_api_Port.mk [] 0 0 []) (S_api_Port.mk [] 0 0 [116, 99, 112]) o2 ho2 ?_
  refine To.thenN ?_
  refine Wp.seq ?_
  obtain ⟨r3, hr3, h⟩ := bind_of h
  refine Wp.region hΓ [] [(1, .recs (α := List UInt8) [] E_string r3)] [] [2, 4, 6] [2, 4] (K' := [(2, .own 2 0), (4, .own 4 0), (6, .recs (α := List UInt8) [] E_string r3)]) (L' := [(2, 24, [.str [], .val (.int .i64 0), .val (.int .i64 0), .str []]), (4, 24, [.str o2.2.f_Host, .val (.int .i64 o2.2.f_Out), .val (.int .i64 o2.2.f_In), .str o2.2.f_Proto])]) (ob := [(true = true → CX Tryd.prog 35 [.str o2.1, .val (.int .u8 58)] (.recs (α := List UInt8) [] E_string r3))]) (by kernel_rfl) (AllP.cons (fun _ => cx (ok_ref16_cut n o2.1 58 _ hr3)) AllP.nil) ?_
  refine To.thenN ?_
  refine Wp.seq ?_
  refine Wp.region hΓ [] [] [] [2, 4, 6, 7] [2, 4] (K' := [(2, .own 2 0), (4, .own 4 0), (6, .recs (α := List UInt8) [] E_string r3), (7, .val (.int .i64 (List.length r3 : Int)))]) (L' := [(2, 24, [.str [], .val (.int .i64 0), .val (.int .i64 0), .str []]), (4, 24, [.str o2.2.f_Host, .val (.int .i64 o2.2.f_Out), .val (.int .i64 o2.2.f_In), .str o2.2.f_Proto])]) (ob := []) (by kernel_rfl) AllP.nil ?_
  refine To.thenN ?_
  refine Wp.seq ?_
  refine Wp.seq ?_
  obtain ⟨hc12, h⟩ := chk_of h
  obtain ⟨x4, hx4, h⟩ := lett_of h
  refine Wp.region hΓ [] [] [] [2, 4, 6, 7, 60] [2, 4] (K' := [(2, .own 2 0), (4, .own 4 0), (6, .recs (α := List UInt8) [] E_string r3), (7, .val (.int .i64 (List.length r3 : Int))), (60, .val (.bool (bif (decide ((List.length r3 : Int) > 3)) then true else (bif ((List.length r3 : Int) == 3) then ((List.length ((r3)[Int.toNat 0]?.getD []) : Int) == 0) else false))))]) (L' := [(2, 24, [.str [], .val (.int .i64 0), .val (.int .i64 0), .str []]), (4, 24, [.str o2.2.f_Host, .val (.int .i64 o2.2.f_Out), .val (.int .i64 o2.2.f_In), .str o2.2.f_Proto])]) (ob := [(!((((List.length r3 : Int) == 3) == true) && ((decide ((List.length r3 : Int) > 3)) == false)) || decide (0 ≤ (0 : Int) ∧ (0 : Int) < (List.length r3 : Int))) = true]) (by kernel_rfl) (AllP.cons hc12 AllP.nil) ?_
  refine To.eq (K' := [(2, .own 2 0), (4, .own 4 0), (6, .recs (α := List UInt8) [] E_string r3), (7, .val (.int .i64 (List.length r3 : Int))), (60, .val (.bool x4))]) (L' := [(2, 24, [.str [], .val (.int .i64 0), .val (.int .i64 0), .str []]), (4, 24, [.str o2.2.f_Host, .val (.int .i64 o2.2.f_Out), .val (.int .i64 o2.2.f_In), .str o2.2.f_Proto])]) (by cases hx4; rfl) (by cases hx4; rfl) ?_
  refine To.thenN ?_
  refine Wp.cond (b := x4) (by kernel_rfl) (fun hb => ?_) (fun hb => ?_)
  · replace h := if_t hb h
    refine Wp.seq ?_
    refine Wp.region hΓ [] [] [] [2, 3] [2] (K' := [(2, .own 2 0), (3, .val (.int .i64 3))]) (L' := [(2, 24, [.str [], .val (.int .i64 0), .val (.int .i64 0), .str []])]) (ob := []) (by kernel_rfl) AllP.nil ?_
    refine To.thenN ?_
    refine Wp.ret ?_
    refine To.thenR ?_
    refine To.keep (kk := [2, 3]) (kl := [2]) (K' := [(2, .own 2 0), (3, .val (.int .i64 3))]) (L' := [(2, 24, [.str [], .val (.int .i64 0), .val (.int .i64 0), .str []])]) (by kernel_rfl) (by kernel_rfl) ?_
    cases h
    exact To.done hΓ (by kernel_rfl)
  · replace h := if_f hb h
    refine Wp.skip ?_
    refine To.thenN ?_
    refine Wp.seq ?_
    obtain ⟨hc11, h⟩ := chk_of h
    obtain ⟨r5, hr5, h⟩ := bind_of h
    refine Wp.region hΓ [] [(5, .tup [.val (.int .i64 r5.1), .val (.int .i64 r5.2)])] [] [2, 4, 6, 7, 8, 9] [2, 4] (K' := [(2, .own 2 0), (4, .own 4 0), (6, .recs (α := List UInt8) [] E_string r3), (7, .val (.int .i64 (List.length r3 : Int))), (8, .val (.int .i64 r5.1)), (9, .val (.int .i64 r5.2))]) (L' := [(2, 24, [.str [], .val (.int .i64 0), .val (.int .i64 0), .str []]), (4, 24, [.str o2.2.f_Host, .val (.int .i64 o2.2.f_Out), .val (.int .i64 o2.2.f_In), .str o2.2.f_Proto])]) (ob := [(decide (0 ≤ (IntKind.wrap .i64 ((List.length r3 : Int) - 1)) ∧ (IntKind.wrap .i64 ((List.length r3 : Int) - 1)) < (List.length r3 : Int))) = true, (true = true → CX Tryd.prog 36 [.str ((r3)[Int.toNat (IntKind.wrap .i64 ((List.length r3 : Int) - 1))]?.getD []), .val (.int .i64 65535)] (.tup [.val (.int .i64 r5.1), .val (.int .i64 r5.2)]))]) (by kernel_rfl) (AllP.cons hc11 (AllP.cons (fun _ => cx (ok_ref01_Count n ((r3)[Int.toNat (IntKind.wrap .i64 ((List.length r3 : Int) - 1))]?.getD []) 65535 _ hr5)) AllP.nil)) ?_
    refine To.thenN ?_
    refine Wp.seq ?_
    refine Wp.region hΓ [] [] [] [2, 4, 6, 7, 9] [2, 4] (K' := [(2, .own 2 0), (4, .own 4 0), (6, .recs (α := List UInt8) [] E_string r3), (7, .val (.int .i64 (List.length r3 : Int))), (9, .val (.int .i64 r5.2))]) (L' := [(2, 24, [.str [], .val (.int .i64 0), .val (.int .i64 0), .str []]), (4, 24, [.str o2.2.f_Host, .val (.int .i64 o2.2.f_Out), .val (.int .i64 r5.1), .str o2.2.f_Proto])]) (ob := []) (by kernel_rfl) AllP.nil ?_
    refine To.thenN ?_
    refine Wp.seq ?_
    refine Wp.seq ?_
    obtain ⟨hc10, h⟩ := chk_of h
    obtain ⟨x6, hx6, h⟩ := lett_of h
    refine Wp.region hΓ [] [] [] [2, 4, 6, 7, 9, 85] [2, 4] (K' := [(2, .own 2 0), (4, .own 4 0), (6, .recs (α := List UInt8) [] E_string r3), (7, .val (.int .i64 (List.length r3 : Int))), (9, .val (.int .i64 r5.2)), (85, .val (.bool (bif (decide ((List.length r3 : Int) > 1)) then (bif ((List.length r3 : Int) == 2) then true else (decide ((List.length ((r3)[Int.toNat 1]?.getD []) : Int) > 0))) else false)))]) (L' := [(2, 24, [.str [], .val (.int .i64 0), .val (.int .i64 0), .str []]), (4, 24, [.str o2.2.f_Host, .val (.int .i64 o2.2.f_Out), .val (.int .i64 r5.1), .str o2.2.f_Proto])]) (ob := [(!((((List.length r3 : Int) == 2) == false) && ((decide ((List.length r3 : Int) > 1)) == true)) || decide (0 ≤ (1 : Int) ∧ (1 : Int) < (List.length r3 : Int))) = true]) (by kernel_rfl) (AllP.cons hc10 AllP.nil) ?_
    refine To.eq (K' := [(2, .own 2 0), (4, .own 4 0), (6, .recs (α := List UInt8) [] E_string r3), (7, .val (.int .i64 (List.length r3 : Int))), (9, .val (.int .i64 r5.2)), (85, .val (.bool x6))]) (L' := [(2, 24, [.str [], .val (.int .i64 0), .val (.int .i64 0), .str []]), (4, 24, [.str o2.2.f_Host, .val (.int .i64 o2.2.f_Out), .val (.int .i64 r5.1), .str o2.2.f_Proto])]) (by cases hx6; rfl) (by cases hx6; rfl) ?_
    refine To.thenN ?_
    obtain ⟨o7, ho7, h⟩ := bind_of h
    refine Wp.keep (kk := [2, 4, 6, 7, 9, 85]) (kl := [2, 4]) (K' := [(2, .own 2 0), (4, .own 4 0), (6, .recs (α := List UInt8) [] E_string r3), (7, .val (.int .i64 (List.length r3 : Int))), (9, .val (.int .i64 r5.2)), (85, .val (.bool x6))]) (L' := [(2, 24, [.str [], .val (.int .i64 0), .val (.int .i64 0), .str []]), (4, 24, [.str o2.2.f_Host, .val (.int .i64 o2.2.f_Out), .val (.int .i64 r5.1), .str o2.2.f_Proto])]) (by kernel_rfl) (by kernel_rfl) ?_
    refine ok_ref16_Parse_j2 n r3 (List.length r3 : Int) r5.2 x6 (S_api_Port.mk [] 0 0 []) (S_api_Port.mk o2.2.f_Host o2.2.f_Out r5.1 o2.2.f_Proto) o7 ho7 ?_
    rcases o7 with o7 | o7
    · replace h := sum_l h
      refine To.thenN ?_
      refine Wp.seq ?_
      refine Wp.seq ?_
      refine Wp.region hΓ [] [] [] [2, 4, 6, 9, 105] [2, 4] (K' := [(2, .own 2 0), (4, .own 4 0), (6, .recs (α := List UInt8) [] E_string r3), (9, .val (.int .i64 r5.2)), (105, .val (.bool ((List.length r3 : Int) == 3)))]) (L' := [(2, 24, [.str o7.1.f_Host, .val (.int .i64 o7.1.f_Out), .val (.int .i64 o7.1.f_In), .str o7.1.f_Proto]), (4, 24, [.str o7.2.f_Host, .val (.int .i64 o7.2.f_Out), .val (.int .i64 o7.2.f_In), .str o7.2.f_Proto])]) (ob := []) (by kernel_rfl) AllP.nil ?_
      refine To.thenN ?_
      obtain ⟨o8, ho8, h⟩ := bind_of h
      refine Wp.keep (kk := [2, 4, 6, 9, 105]) (kl := [2, 4]) (K' := [(2, .own 2 0), (4, .own 4 0), (6, .recs (α := List UInt8) [] E_string r3), (9, .val (.int .i64 r5.2)), (105, .val (.bool ((List.length r3 : Int) == 3)))]) (L' := [(2, 24, [.str o7.1.f_Host, .val (.int .i64 o7.1.f_Out), .val (.int .i64 o7.1.f_In), .str o7.1.f_Proto]), (4, 24, [.str o7.2.f_Host, .val (.int .i64 o7.2.f_Out), .val (.int .i64 o7.2.f_In), .str o7.2.f_Proto])]) (by kernel_rfl) (by kernel_rfl) ?_
      refine ok_ref16_Parse_j3 n r3 r5.2 ((List.length r3 : Int) == 3) o7.1 o7.2 o8 ho8 ?_
      refine To.thenN ?_
      refine Wp.seq ?_
      refine Wp.seq ?_
      obtain ⟨r9, hr9, h⟩ := bind_of h
      refine Wp.region hΓ [] [(4, .val (.bool r9))] [] [2, 4, 116] [2, 4] (K' := [(2, .own 2 0), (4, .own 4 0), (116, .val (.bool (bif (r5.2 != 0) then true else (!r9))))]) (L' := [(2, 24, [.str o7.1.f_Host, .val (.int .i64 o7.1.f_Out), .val (.int .i64 o7.1.f_In), .str o7.1.f_Proto]), (4, 24, [.str o8.f_Host, .val (.int .i64 o8.f_Out), .val (.int .i64 o8.f_In), .str o8.f_Proto])]) (ob := [(((r5.2 != 0) == false) = true → CX Tryd.prog 14 [.agg [.str o8.f_Host, .val (.int .i64 o8.f_Out), .val (.int .i64 o8.f_In), .str o8.f_Proto]] (.val (.bool r9)))]) (by kernel_rfl) (AllP.cons (fun hg => cx (ok_ref16_Right n o8 _ (if_t hg hr9))) AllP.nil) ?_
      refine To.thenN ?_
      refine Wp.cond (b := (bif (r5.2 != 0) then true else (!r9))) (by kernel_rfl) (fun hb => ?_) (fun hb => ?_)
      · replace h := if_t hb h
        refine Wp.seq ?_
        refine Wp.region hΓ [] [] [] [2, 3] [2] (K' := [(2, .own 2 0), (3, .val (.int .i64 3))]) (L' := [(2, 24, [.str [], .val (.int .i64 0), .val (.int .i64 0), .str []])]) (ob := []) (by kernel_rfl) AllP.nil ?_
        refine To.thenN ?_
        refine Wp.ret ?_
        refine To.thenR ?_
        refine To.keep (kk := [2, 3]) (kl := [2]) (K' := [(2, .own 2 0), (3, .val (.int .i64 3))]) (L' := [(2, 24, [.str [], .val (.int .i64 0), .val (.int .i64 0), .str []])]) (by kernel_rfl) (by kernel_rfl) ?_
        cases h
        exact To.done hΓ (by kernel_rfl)
      · replace h := if_f hb h
        refine Wp.skip ?_
        refine To.thenN ?_
        refine Wp.seq ?_
        refine Wp.region hΓ [] [] [] [2, 3] [2] (K' := [(2, .own 2 0), (3, .val (.int .i64 0))]) (L' := [(2, 24, [.str o8.f_Host, .val (.int .i64 o8.f_Out), .val (.int .i64 o8.f_In), .str o8.f_Proto])]) (ob := []) (by kernel_rfl) AllP.nil ?_
        refine To.thenN ?_
        refine Wp.ret ?_
        refine To.keep (kk := [2, 3]) (kl := [2]) (K' := [(2, .own 2 0), (3, .val (.int .i64 0))]) (L' := [(2, 24, [.str o8.f_Host, .val (.int .i64 o8.f_Out), .val (.int .i64 o8.f_In), .str o8.f_Proto])]) (by kernel_rfl) (by kernel_rfl) ?_
        cases h
        exact To.done hΓ (by kernel_rfl)
    · replace h := sum_r h
      refine To.thenR ?_
      refine To.keep (kk := [2, 3]) (kl := [2]) (K' := [(2, .own 2 0), (3, .val (.int .i64 o7.1))]) (L' := [(2, 24, [.str o7.2.f_Host, .val (.int .i64 o7.2.f_Out), .val (.int .i64 o7.2.f_In), .str o7.2.f_Proto])]) (by kernel_rfl) (by kernel_rfl) ?_
      cases h
      exact To.done hΓ (by kernel_rfl)
def law16_PortParses (n : Nat) (a0 : List UInt8) : Option (Bool) :=
  if (decide ((List.length a0 : Int) > 500)) = true then ((law16_awake n).bind fun r1 =>
  some r1)
  else ((port_Parse n a0).bind fun r2 =>
  (ref16_Parse n a0).bind fun r3 =>
  ((if (((r2.2 != 0) == false) && ((bif ((r2.1.f_Host == r3.1.f_Host) && ((r2.1.f_Out == r3.1.f_Out) && ((r2.1.f_In == r3.1.f_In) && (r2.1.f_Proto == r3.1.f_Proto)))) then (r2.2 == r3.2) else false) == true)) = true then port_Right n r2.1 else some false)).bind fun r4 =>
  ((if ((bif (bif ((r2.1.f_Host == r3.1.f_Host) && ((r2.1.f_Out == r3.1.f_Out) && ((r2.1.f_In == r3.1.f_In) && (r2.1.f_Proto == r3.1.f_Proto)))) then (r2.2 == r3.2) else false) then (bif (r2.2 != 0) then true else r4) else false) == true) = true then law16_awake n else some false)).bind fun r5 =>
  lett ((bif (bif (bif ((r2.1.f_Host == r3.1.f_Host) && ((r2.1.f_Out == r3.1.f_Out) && ((r2.1.f_In == r3.1.f_In) && (r2.1.f_Proto == r3.1.f_Proto)))) then (r2.2 == r3.2) else false) then (bif (r2.2 != 0) then true else r4) else false) then r5 else false) : Bool) fun x6 =>
  some x6)
theorem ok_law16_PortParses (n : Nat) (a0 : List UInt8) (r : Bool) (h : law16_PortParses n a0 = some r) : CallsX Tryd.prog 3 [.str a0] (.val (.bool r)) := by
  unfold law16_PortParses at h
  refine callsX_of (fn := Tryd.f3) (by kernel_rfl) rfl (by kernel_rfl) (Nat.le_of_ble_eq_true (by kernel_rfl)) fun F0 w0 _ => ?_
  refine Wp.keep (kk := [0]) (kl := []) (K' := [(0, .str a0)]) (L' := []) (by kernel_rfl) (by kernel_rfl) ?_
  refine Wp.seq ?_
  refine Wp.region hΓ [] [] [] [0] [] (K' := [(0, .str a0)]) (L' := []) (ob := []) (by kernel_rfl) AllP.nil ?_
  refine To.thenN ?_
  refine Wp.seq ?_
  refine Wp.seq ?_
  refine Wp.region hΓ [] [] [] [0, 9] [] (K' := [(0, .str a0), (9, .val (.bool (decide ((List.length a0 : Int) > 500))))]) (L' := []) (ob := []) (by kernel_rfl) AllP.nil ?_
  refine To.thenN ?_
  refine Wp.cond (b := (decide ((List.length a0 : Int) > 500))) (by kernel_rfl) (fun hb => ?_) (fun hb => ?_)
  · replace h := if_t hb h
    refine Wp.seq ?_
    obtain ⟨r1, hr1, h⟩ := bind_of h
    refine Wp.region hΓ [] [(0, .val (.bool r1))] [] [2] [] (K' := [(2, .val (.bool r1))]) (L' := []) (ob := [(true = true → CX Tryd.prog 9 [] (.val (.bool r1)))]) (by kernel_rfl) (AllP.cons (fun _ => cx (ok_law16_awake n  _ hr1)) AllP.nil) ?_
    refine To.thenN ?_
    refine Wp.ret ?_
    refine To.thenR ?_
    refine To.keep (kk := [2]) (kl := []) (K' := [(2, .val (.bool r1))]) (L' := []) (by kernel_rfl) (by kernel_rfl) ?_
    cases h
    exact To.done hΓ (by kernel_rfl)
  · replace h := if_f hb h
    refine Wp.skip ?_
    refine To.thenN ?_
    refine Wp.seq ?_
    obtain ⟨r2, hr2, h⟩ := bind_of h
    refine Wp.region hΓ [] [(1, .tup [.agg [.str r2.1.f_Host, .val (.int .i64 r2.1.f_Out), .val (.int .i64 r2.1.f_In), .str r2.1.f_Proto], .val (.int .i64 r2.2)])] [] [0, 3, 4] [3] (K' := [(0, .str a0), (3, .own 3 0), (4, .val (.int .i64 r2.2))]) (L' := [(3, 24, [.str r2.1.f_Host, .val (.int .i64 r2.1.f_Out), .val (.int .i64 r2.1.f_In), .str r2.1.f_Proto])]) (ob := [(true = true → CX Tryd.prog 10 [.str a0] (.tup [.agg [.str r2.1.f_Host, .val (.int .i64 r2.1.f_Out), .val (.int .i64 r2.1.f_In), .str r2.1.f_Proto], .val (.int .i64 r2.2)]))]) (by kernel_rfl) (AllP.cons (fun _ => cx (ok_port_Parse n a0 _ hr2)) AllP.nil) ?_
    refine To.thenN ?_
    refine Wp.seq ?_
    obtain ⟨r3, hr3, h⟩ := bind_of h
    refine Wp.region hΓ [] [(1, .tup [.agg [.str r3.1.f_Host, .val (.int .i64 r3.1.f_Out), .val (.int .i64 r3.1.f_In), .str r3.1.f_Proto], .val (.int .i64 r3.2)])] [] [3, 4, 5, 6] [3, 5] (K' := [(3, .own 3 0), (4, .val (.int .i64 r2.2)), (5, .own 5 0), (6, .val (.int .i64 r3.2))]) (L' := [(3, 24, [.str r2.1.f_Host, .val (.int .i64 r2.1.f_Out), .val (.int .i64 r2.1.f_In), .str r2.1.f_Proto]), (5, 24, [.str r3.1.f_Host, .val (.int .i64 r3.1.f_Out), .val (.int .i64 r3.1.f_In), .str r3.1.f_Proto])]) (ob := [(true = true → CX Tryd.prog 11 [.str a0] (.tup [.agg [.str r3.1.f_Host, .val (.int .i64 r3.1.f_Out), .val (.int .i64 r3.1.f_In), .str r3.1.f_Proto], .val (.int .i64 r3.2)]))]) (by kernel_rfl) (AllP.cons (fun _ => cx (ok_ref16_Parse n a0 _ hr3)) AllP.nil) ?_
    refine To.thenN ?_
    refine Wp.seq ?_
    obtain ⟨r4, hr4, h⟩ := bind_of h
    obtain ⟨r5, hr5, h⟩ := bind_of h
    obtain ⟨x6, hx6, h⟩ := lett_of h
    refine Wp.region hΓ [] [(13, .val (.bool r4)), (17, .val (.bool r5))] [] [2] [] (K' := [(2, .val (.bool (bif (bif (bif ((r2.1.f_Host == r3.1.f_Host) && ((r2.1.f_Out == r3.1.f_Out) && ((r2.1.f_In == r3.1.f_In) && (r2.1.f_Proto == r3.1.f_Proto)))) then (r2.2 == r3.2) else false) then (bif (r2.2 != 0) then true else r4) else false) then r5 else false)))]) (L' := []) (ob := [((((r2.2 != 0) == false) && ((bif ((r2.1.f_Host == r3.1.f_Host) && ((r2.1.f_Out == r3.1.f_Out) && ((r2.1.f_In == r3.1.f_In) && (r2.1.f_Proto == r3.1.f_Proto)))) then (r2.2 == r3.2) else false) == true)) = true → CX Tryd.prog 12 [.agg [.str r2.1.f_Host, .val (.int .i64 r2.1.f_Out), .val (.int .i64 r2.1.f_In), .str r2.1.f_Proto]] (.val (.bool r4))), (((bif (bif ((r2.1.f_Host == r3.1.f_Host) && ((r2.1.f_Out == r3.1.f_Out) && ((r2.1.f_In == r3.1.f_In) && (r2.1.f_Proto == r3.1.f_Proto)))) then (r2.2 == r3.2) else false) then (bif (r2.2 != 0) then true else r4) else false) == true) = true → CX Tryd.prog 9 [] (.val (.bool r5)))]) (by kernel_rfl) (AllP.cons (fun hg => cx (ok_port_Right n r2.1 _ (if_t hg hr4))) (AllP.cons (fun hg => cx (ok_law16_awake n  _ (if_t hg hr5))) AllP.nil)) ?_
    refine To.eq (K' := [(2, .val (.bool x6))]) (L' := []) (by cases hx6; rfl) (by cases hx6; rfl) ?_
    refine To.thenN ?_
    refine Wp.ret ?_
    refine To.keep (kk := [2]) (kl := []) (K' := [(2, .val (.bool x6))]) (L' := []) (by kernel_rfl) (by kernel_rfl) ?_
    cases h
    exact To.done hΓ (by kernel_rfl)
def ref01_digits_l1 (n : Nat) : Nat → Int → (List UInt8) → Option (Int × (List UInt8))
  | 0, _, _ => none
  | k + 1, v0, v3 => if (decide (v0 ≥ 10)) = true then (if ((10 != 0)) = true then (if (decide (0 ≤ (IntKind.wrap .u8 ((IntKind.wrap .u64 (48 + (Int.tmod v0 10))))) ∧ (IntKind.wrap .u8 ((IntKind.wrap .u64 (48 + (Int.tmod v0 10))))) < 256)) = true then (if (decide (((List.length ([(UInt8.ofNat (Int.toNat (IntKind.wrap .u8 ((IntKind.wrap .u64 (48 + (Int.tmod v0 10)))))))] : List UInt8) + List.length v3 : Nat) : Int) ≤ 9223372036854775807)) = true then (if ((10 != 0)) = true then (ref01_digits_l1 n k (IntKind.wrap .u64 (Int.tdiv v0 10)) (([(UInt8.ofNat (Int.toNat (IntKind.wrap .u8 ((IntKind.wrap .u64 (48 + (Int.tmod v0 10)))))))] : List UInt8) ++ v3)) else none) else none) else none) else none)
  else (some (v0, v3))
theorem ok_ref01_digits_l1 (n : Nat) {F0 : Fz} {w0 : Pt Tryd.prog} {Q : Exit → Act → World → Prop} (k : Nat) : ∀ (v0 : Int) (v3 : List UInt8) (o : Int × (List UInt8)), ref01_digits_l1 n k v0 v3 = some o → To 23 F0 w0 [(0, .val (.int .u64 o.1)), (3, .str o.2)] [] (.exit 0) Q → WL Tryd.prog 23 F0 w0 [(0, .val (.int .u64 v0)), (3, .str v3)] [] (cI (cI (cA (cB (cB (cF Tryd.f60)))))) Q := by
  induction k with
  | zero => intro v0 v3 o h; cases h
  | succ k ih =>
    intro v0 v3 o h hQ
    rw [ref01_digits_l1] at h
    refine WL.round ?_
    refine Wp.seq ?_
    refine Wp.seq ?_
    refine Wp.region hΓ [] [] [] [0, 3, 5] [] (K' := [(0, .val (.int .u64 v0)), (3, .str v3), (5, .val (.bool (decide (v0 ≥ 10))))]) (L' := []) (ob := []) (by kernel_rfl) AllP.nil ?_
    refine To.thenN ?_
    refine Wp.cond (b := (decide (v0 ≥ 10))) (by kernel_rfl) (fun hb => ?_) (fun hb => ?_)
    · replace h := if_t hb h
      refine Wp.skip ?_
      refine To.thenN ?_
      refine Wp.block ?_
      refine Wp.seq ?_
      obtain ⟨hc3, h⟩ := chk_of h
      obtain ⟨u1, h⟩ := chk_of h
      obtain ⟨hc4, h⟩ := chk_of h
      refine Wp.region hΓ [] [(4, .recs (α := UInt8) 0 e8 [(UInt8.ofNat (Int.toNat (IntKind.wrap .u8 ((IntKind.wrap .u64 (48 + (Int.tmod v0 10)))))))]), (5, .str [(UInt8.ofNat (Int.toNat (IntKind.wrap .u8 ((IntKind.wrap .u64 (48 + (Int.tmod v0 10)))))))])] [] [0, 3] [] (K' := [(0, .val (.int .u64 v0)), (3, .str (([(UInt8.ofNat (Int.toNat (IntKind.wrap .u8 ((IntKind.wrap .u64 (48 + (Int.tmod v0 10)))))))] : List UInt8) ++ v3))]) (L' := []) (ob := [((10 != 0)) = true, (MkOb 1 [.val (.int .u8 (IntKind.wrap .u8 ((IntKind.wrap .u64 (48 + (Int.tmod v0 10))))))] 1 (.recs (α := UInt8) 0 e8 [(UInt8.ofNat (Int.toNat (IntKind.wrap .u8 ((IntKind.wrap .u64 (48 + (Int.tmod v0 10)))))))]) ∧ GoodR (.recs (α := UInt8) 0 e8 [(UInt8.ofNat (Int.toNat (IntKind.wrap .u8 ((IntKind.wrap .u64 (48 + (Int.tmod v0 10)))))))])), (true = true → StrOb (List.flatMap e8 ([(UInt8.ofNat (Int.toNat (IntKind.wrap .u8 ((IntKind.wrap .u64 (48 + (Int.tmod v0 10)))))))] : List (UInt8))) (.str [(UInt8.ofNat (Int.toNat (IntKind.wrap .u8 ((IntKind.wrap .u64 (48 + (Int.tmod v0 10)))))))])), (decide (((List.length ([(UInt8.ofNat (Int.toNat (IntKind.wrap .u8 ((IntKind.wrap .u64 (48 + (Int.tmod v0 10)))))))] : List UInt8) + List.length v3 : Nat) : Int) ≤ 9223372036854775807)) = true]) (by kernel_rfl) (AllP.cons hc3 (AllP.cons (mkOb (All8.cells (ns := [(IntKind.wrap .u8 ((IntKind.wrap .u64 (48 + (Int.tmod v0 10)))))]) (.cons (u8_of u1) .nil)) rfl rfl (good8 _)) (AllP.cons (fun _ => strOb (flat8 _)) (AllP.cons hc4 AllP.nil)))) ?_
      refine To.thenN ?_
      obtain ⟨hc2, h⟩ := chk_of h
      refine Wp.region hΓ [] [] [] [0, 3] [] (K' := [(0, .val (.int .u64 (IntKind.wrap .u64 (Int.tdiv v0 10)))), (3, .str (([(UInt8.ofNat (Int.toNat (IntKind.wrap .u8 ((IntKind.wrap .u64 (48 + (Int.tmod v0 10)))))))] : List UInt8) ++ v3))]) (L' := []) (ob := [((10 != 0)) = true]) (by kernel_rfl) (AllP.cons hc2 AllP.nil) ?_
      refine To.blockN ?_
      refine To.keep (kk := [0, 3]) (kl := []) (K' := [(0, .val (.int .u64 (IntKind.wrap .u64 (Int.tdiv v0 10)))), (3, .str (([(UInt8.ofNat (Int.toNat (IntKind.wrap .u8 ((IntKind.wrap .u64 (48 + (Int.tmod v0 10)))))))] : List UInt8) ++ v3))]) (L' := []) (by kernel_rfl) (by kernel_rfl) ?_
      refine To.again ?_
      exact ih (IntKind.wrap .u64 (Int.tdiv v0 10)) (([(UInt8.ofNat (Int.toNat (IntKind.wrap .u8 ((IntKind.wrap .u64 (48 + (Int.tmod v0 10)))))))] : List UInt8) ++ v3) _ h hQ
    · replace h := if_f hb h
      refine Wp.exit ?_
      refine To.thenX ?_
      refine To.thenX ?_
      refine To.keep (kk := [0, 3]) (kl := []) (K' := [(0, .val (.int .u64 v0)), (3, .str v3)]) (L' := []) (by kernel_rfl) (by kernel_rfl) ?_
      cases h
      exact hQ
def ref01_digits (n : Nat) (a0 : Int) : Option ((List UInt8)) :=
  (ref01_digits_l1 n n a0 []).bind fun o1 =>
  if (decide (0 ≤ (IntKind.wrap .u8 ((IntKind.wrap .u64 (48 + o1.1)))) ∧ (IntKind.wrap .u8 ((IntKind.wrap .u64 (48 + o1.1)))) < 256)) = true then (if (decide (((List.length ([(UInt8.ofNat (Int.toNat (IntKind.wrap .u8 ((IntKind.wrap .u64 (48 + o1.1))))))] : List UInt8) + List.length o1.2 : Nat) : Int) ≤ 9223372036854775807)) = true then (some (([(UInt8.ofNat (Int.toNat (IntKind.wrap .u8 ((IntKind.wrap .u64 (48 + o1.1))))))] : List UInt8) ++ o1.2)) else none) else none
theorem ok_ref01_digits (n : Nat) (a0 : Int) (r : (List UInt8)) (h : ref01_digits n a0 = some r) : CallsX Tryd.prog 60 [.val (.int .u64 a0)] (.str r) := by
  unfold ref01_digits at h
  refine callsX_of (fn := Tryd.f60) (by kernel_rfl) rfl (by kernel_rfl) (Nat.le_of_ble_eq_true (by kernel_rfl)) fun F0 w0 _ => ?_
  refine Wp.keep (kk := [0]) (kl := []) (K' := [(0, .val (.int .u64 a0))]) (L' := []) (by kernel_rfl) (by kernel_rfl) ?_
  refine Wp.seq ?_
  refine Wp.region hΓ [] [] [] [0] [] (K' := [(0, .val (.int .u64 a0))]) (L' := []) (ob := []) (by kernel_rfl) AllP.nil ?_
  refine To.thenN ?_
  refine Wp.seq ?_
  refine Wp.region hΓ [] [] [] [0, 3] [] (K' := [(0, .val (.int .u64 a0)), (3, .str [])]) (L' := []) (ob := []) (by kernel_rfl) AllP.nil ?_
  refine To.thenN ?_
  refine Wp.seq ?_
  refine Wp.block ?_
  obtain ⟨o1, ho1, h⟩ := bind_of h
  refine Wp.keep (kk := [0, 3]) (kl := []) (K' := [(0, .val (.int .u64 a0)), (3, .str [])]) (L' := []) (by kernel_rfl) (by kernel_rfl) ?_
  refine Wp.loopL ?_
  refine ok_ref01_digits_l1 n n a0 [] o1 ho1 ?_
  refine To.blockX ?_
  refine To.thenN ?_
  refine Wp.seq ?_
  obtain ⟨u2, h⟩ := chk_of h
  obtain ⟨hc3, h⟩ := chk_of h
  refine Wp.region hΓ [] [(3, .recs (α := UInt8) 0 e8 [(UInt8.ofNat (Int.toNat (IntKind.wrap .u8 ((IntKind.wrap .u64 (48 + o1.1))))))]), (4, .str [(UInt8.ofNat (Int.toNat (IntKind.wrap .u8 ((IntKind.wrap .u64 (48 + o1.1))))))])] [] [2] [] (K' := [(2, .str (([(UInt8.ofNat (Int.toNat (IntKind.wrap .u8 ((IntKind.wrap .u64 (48 + o1.1))))))] : List UInt8) ++ o1.2))]) (L' := []) (ob := [(MkOb 1 [.val (.int .u8 (IntKind.wrap .u8 ((IntKind.wrap .u64 (48 + o1.1)))))] 1 (.recs (α := UInt8) 0 e8 [(UInt8.ofNat (Int.toNat (IntKind.wrap .u8 ((IntKind.wrap .u64 (48 + o1.1))))))]) ∧ GoodR (.recs (α := UInt8) 0 e8 [(UInt8.ofNat (Int.toNat (IntKind.wrap .u8 ((IntKind.wrap .u64 (48 + o1.1))))))])), (true = true → StrOb (List.flatMap e8 ([(UInt8.ofNat (Int.toNat (IntKind.wrap .u8 ((IntKind.wrap .u64 (48 + o1.1))))))] : List (UInt8))) (.str [(UInt8.ofNat (Int.toNat (IntKind.wrap .u8 ((IntKind.wrap .u64 (48 + o1.1))))))])), (decide (((List.length ([(UInt8.ofNat (Int.toNat (IntKind.wrap .u8 ((IntKind.wrap .u64 (48 + o1.1))))))] : List UInt8) + List.length o1.2 : Nat) : Int) ≤ 9223372036854775807)) = true]) (by kernel_rfl) (AllP.cons (mkOb (All8.cells (ns := [(IntKind.wrap .u8 ((IntKind.wrap .u64 (48 + o1.1))))]) (.cons (u8_of u2) .nil)) rfl rfl (good8 _)) (AllP.cons (fun _ => strOb (flat8 _)) (AllP.cons hc3 AllP.nil))) ?_
  refine To.thenN ?_
  refine Wp.ret ?_
  refine To.keep (kk := [2]) (kl := []) (K' := [(2, .str (([(UInt8.ofNat (Int.toNat (IntKind.wrap .u8 ((IntKind.wrap .u64 (48 + o1.1))))))] : List UInt8) ++ o1.2))]) (L' := []) (by kernel_rfl) (by kernel_rfl) ?_
  cases h
  exact To.done hΓ (by kernel_rfl)
def ref01_Text (n : Nat) (a0 : Int) : Option ((List UInt8)) :=
  if (decide (a0 < 0)) = true then ((ref01_digits n (IntKind.wrap .u64 (0 - (IntKind.wrap .u64 (a0))))).bind fun r1 =>
  if (decide (((List.length ([45] : List UInt8) + List.length r1 : Nat) : Int) ≤ 9223372036854775807)) = true then (some (([45] : List UInt8) ++ r1)) else none)
  else ((ref01_digits n (IntKind.wrap .u64 (a0))).bind fun r3 =>
  some r3)
theorem ok_ref01_Text (n : Nat) (a0 : Int) (r : (List UInt8)) (h : ref01_Text n a0 = some r) : CallsX Tryd.prog 40 [.val (.int .i64 a0)] (.str r) := by
  unfold ref01_Text at h
  refine callsX_of (fn := Tryd.f40) (by kernel_rfl) rfl (by kernel_rfl) (Nat.le_of_ble_eq_true (by kernel_rfl)) fun F0 w0 _ => ?_
  refine Wp.keep (kk := [0]) (kl := []) (K' := [(0, .val (.int .i64 a0))]) (L' := []) (by kernel_rfl) (by kernel_rfl) ?_
  refine Wp.seq ?_
  refine Wp.region hΓ [] [] [] [0] [] (K' := [(0, .val (.int .i64 a0))]) (L' := []) (ob := []) (by kernel_rfl) AllP.nil ?_
  refine To.thenN ?_
  refine Wp.seq ?_
  refine Wp.seq ?_
  refine Wp.region hΓ [] [] [] [0, 4] [] (K' := [(0, .val (.int .i64 a0)), (4, .val (.bool (decide (a0 < 0))))]) (L' := []) (ob := []) (by kernel_rfl) AllP.nil ?_
  refine To.thenN ?_
  refine Wp.cond (b := (decide (a0 < 0))) (by kernel_rfl) (fun hb => ?_) (fun hb => ?_)
  · replace h := if_t hb h
    refine Wp.seq ?_
    obtain ⟨r1, hr1, h⟩ := bind_of h
    obtain ⟨hc2, h⟩ := chk_of h
    refine Wp.region hΓ [] [(3, .str r1)] [] [2] [] (K' := [(2, .str (([45] : List UInt8) ++ r1))]) (L' := []) (ob := [(true = true → CX Tryd.prog 60 [.val (.int .u64 (IntKind.wrap .u64 (0 - (IntKind.wrap .u64 (a0)))))] (.str r1)), (decide (((List.length ([45] : List UInt8) + List.length r1 : Nat) : Int) ≤ 9223372036854775807)) = true]) (by kernel_rfl) (AllP.cons (fun _ => cx (ok_ref01_digits n (IntKind.wrap .u64 (0 - (IntKind.wrap .u64 (a0)))) _ hr1)) (AllP.cons hc2 AllP.nil)) ?_
    refine To.thenN ?_
    refine Wp.ret ?_
    refine To.thenR ?_
    refine To.keep (kk := [2]) (kl := []) (K' := [(2, .str (([45] : List UInt8) ++ r1))]) (L' := []) (by kernel_rfl) (by kernel_rfl) ?_
    cases h
    exact To.done hΓ (by kernel_rfl)
  · replace h := if_f hb h
    refine Wp.skip ?_
    refine To.thenN ?_
    refine Wp.seq ?_
    obtain ⟨r3, hr3, h⟩ := bind_of h
    refine Wp.region hΓ [] [(2, .str r3)] [] [2] [] (K' := [(2, .str r3)]) (L' := []) (ob := [(true = true → CX Tryd.prog 60 [.val (.int .u64 (IntKind.wrap .u64 (a0)))] (.str r3))]) (by kernel_rfl) (AllP.cons (fun _ => cx (ok_ref01_digits n (IntKind.wrap .u64 (a0)) _ hr3)) AllP.nil) ?_
    refine To.thenN ?_
    refine Wp.ret ?_
    refine To.keep (kk := [2]) (kl := []) (K' := [(2, .str r3)]) (L' := []) (by kernel_rfl) (by kernel_rfl) ?_
    cases h
    exact To.done hΓ (by kernel_rfl)
def ref16_Text_j1 (n : Nat) (v3 : List UInt8) (v10 : Bool) (b1 : S_api_Port) : Option ((List UInt8)) :=
  if v10 = true then (if (decide (((List.length b1.f_Host + List.length ([58] : List UInt8) : Nat) : Int) ≤ 9223372036854775807)) = true then (some (b1.f_Host ++ [58])) else none)
  else some v3
theorem ok_ref16_Text_j1 (n : Nat) (v3 : List UInt8) (v10 : Bool) (b1 : S_api_Port) (o : (List UInt8)) (h : ref16_Text_j1 n v3 v10 b1 = some o) {F0 : Fz} {w0 : Pt Tryd.prog} {Q : Exit → Act → World → Prop} (hQ : To 40 F0 w0 [(1, .own 1 0), (3, .str o)] [(1, 24, [.str b1.f_Host, .val (.int .i64 b1.f_Out), .val (.int .i64 b1.f_In), .str b1.f_Proto])] .normal Q) : Wp Tryd.prog 40 F0 w0 [(1, .own 1 0), (3, .str v3), (10, .val (.bool v10))] [(1, 24, [.str b1.f_Host, .val (.int .i64 b1.f_Out), .val (.int .i64 b1.f_In), .str b1.f_Proto])] (cB (cA (cB (cB (cB (cF Tryd.f15)))))) Q := by
  unfold ref16_Text_j1 at h
  refine Wp.cond (b := v10) (by kernel_rfl) (fun hb => ?_) (fun hb => ?_)
  · replace h := if_t hb h
    obtain ⟨hc2, h⟩ := chk_of h
    refine Wp.region hΓ [] [] [] [1, 3] [1] (K' := [(1, .own 1 0), (3, .str (b1.f_Host ++ [58]))]) (L' := [(1, 24, [.str b1.f_Host, .val (.int .i64 b1.f_Out), .val (.int .i64 b1.f_In), .str b1.f_Proto])]) (ob := [(decide (((List.length b1.f_Host + List.length ([58] : List UInt8) : Nat) : Int) ≤ 9223372036854775807)) = true]) (by kernel_rfl) (AllP.cons hc2 AllP.nil) ?_
    refine To.keep (kk := [1, 3]) (kl := [1]) (K' := [(1, .own 1 0), (3, .str (b1.f_Host ++ [58]))]) (L' := [(1, 24, [.str b1.f_Host, .val (.int .i64 b1.f_Out), .val (.int .i64 b1.f_In), .str b1.f_Proto])]) (by kernel_rfl) (by kernel_rfl) ?_
    cases h
    exact hQ
  · replace h := if_f hb h
    refine Wp.skip ?_
    refine To.keep (kk := [1, 3]) (kl := [1]) (K' := [(1, .own 1 0), (3, .str v3)]) (L' := [(1, 24, [.str b1.f_Host, .val (.int .i64 b1.f_Out), .val (.int .i64 b1.f_In), .str b1.f_Proto])]) (by kernel_rfl) (by kernel_rfl) ?_
    cases h
    exact hQ
def ref16_Text_j2 (n : Nat) (v3 : List UInt8) (v16 : Bool) (b1 : S_api_Port) : Option ((List UInt8)) :=
  if v16 = true then ((ref01_Text n b1.f_Out).bind fun r3 =>
  if (decide (((List.length v3 + List.length r3 : Nat) : Int) ≤ 9223372036854775807)) = true then (if (decide (((List.length (v3 ++ r3) + List.length ([58] : List UInt8) : Nat) : Int) ≤ 9223372036854775807)) = true then (some ((v3 ++ r3) ++ [58])) else none) else none)
  else (if (decide ((List.length b1.f_Host : Int) > 0)) = true then (if (decide (((List.length v3 + List.length ([58] : List UInt8) : Nat) : Int) ≤ 9223372036854775807)) = true then (some (v3 ++ [58])) else none)
  else some v3)
theorem ok_ref16_Text_j2 (n : Nat) (v3 : List UInt8) (v16 : Bool) (b1 : S_api_Port) (o : (List UInt8)) (h : ref16_Text_j2 n v3 v16 b1 = some o) {F0 : Fz} {w0 : Pt Tryd.prog} {Q : Exit → Act → World → Prop} (hQ : To 40 F0 w0 [(1, .own 1 0), (3, .str o)] [(1, 24, [.str b1.f_Host, .val (.int .i64 b1.f_Out), .val (.int .i64 b1.f_In), .str b1.f_Proto])] .normal Q) : Wp Tryd.prog 40 F0 w0 [(1, .own 1 0), (3, .str v3), (16, .val (.bool v16))] [(1, 24, [.str b1.f_Host, .val (.int .i64 b1.f_Out), .val (.int .i64 b1.f_In), .str b1.f_Proto])] (cB (cA (cB (cB (cB (cB (cF Tryd.f15))))))) Q := by
  unfold ref16_Text_j2 at h
  refine Wp.cond (b := v16) (by kernel_rfl) (fun hb => ?_) (fun hb => ?_)
  · replace h := if_t hb h
    obtain ⟨r3, hr3, h⟩ := bind_of h
    obtain ⟨hc4, h⟩ := chk_of h
    obtain ⟨hc5, h⟩ := chk_of h
    refine Wp.region hΓ [] [(3, .str r3)] [] [1, 3] [1] (K' := [(1, .own 1 0), (3, .str ((v3 ++ r3) ++ [58]))]) (L' := [(1, 24, [.str b1.f_Host, .val (.int .i64 b1.f_Out), .val (.int .i64 b1.f_In), .str b1.f_Proto])]) (ob := [(true = true → CX Tryd.prog 40 [.val (.int .i64 b1.f_Out)] (.str r3)), (decide (((List.length v3 + List.length r3 : Nat) : Int) ≤ 9223372036854775807)) = true, (decide (((List.length (v3 ++ r3) + List.length ([58] : List UInt8) : Nat) : Int) ≤ 9223372036854775807)) = true]) (by kernel_rfl) (AllP.cons (fun _ => cx (ok_ref01_Text n b1.f_Out _ hr3)) (AllP.cons hc4 (AllP.cons hc5 AllP.nil))) ?_
    refine To.keep (kk := [1, 3]) (kl := [1]) (K' := [(1, .own 1 0), (3, .str ((v3 ++ r3) ++ [58]))]) (L' := [(1, 24, [.str b1.f_Host, .val (.int .i64 b1.f_Out), .val (.int .i64 b1.f_In), .str b1.f_Proto])]) (by kernel_rfl) (by kernel_rfl) ?_
    cases h
    exact hQ
  · replace h := if_f hb h
    refine Wp.seq ?_
    refine Wp.region hΓ [] [] [] [1, 3, 26] [1] (K' := [(1, .own 1 0), (3, .str v3), (26, .val (.bool (decide ((List.length b1.f_Host : Int) > 0))))]) (L' := [(1, 24, [.str b1.f_Host, .val (.int .i64 b1.f_Out), .val (.int .i64 b1.f_In), .str b1.f_Proto])]) (ob := []) (by kernel_rfl) AllP.nil ?_
    refine To.thenN ?_
    refine Wp.cond (b := (decide ((List.length b1.f_Host : Int) > 0))) (by kernel_rfl) (fun hb => ?_) (fun hb => ?_)
    · replace h := if_t hb h
      obtain ⟨hc6, h⟩ := chk_of h
      refine Wp.region hΓ [] [] [] [1, 3] [1] (K' := [(1, .own 1 0), (3, .str (v3 ++ [58]))]) (L' := [(1, 24, [.str b1.f_Host, .val (.int .i64 b1.f_Out), .val (.int .i64 b1.f_In), .str b1.f_Proto])]) (ob := [(decide (((List.length v3 + List.length ([58] : List UInt8) : Nat) : Int) ≤ 9223372036854775807)) = true]) (by kernel_rfl) (AllP.cons hc6 AllP.nil) ?_
      refine To.keep (kk := [1, 3]) (kl := [1]) (K' := [(1, .own 1 0), (3, .str (v3 ++ [58]))]) (L' := [(1, 24, [.str b1.f_Host, .val (.int .i64 b1.f_Out), .val (.int .i64 b1.f_In), .str b1.f_Proto])]) (by kernel_rfl) (by kernel_rfl) ?_
      cases h
      exact hQ
    · replace h := if_f hb h
      refine Wp.skip ?_
      refine To.keep (kk := [1, 3]) (kl := [1]) (K' := [(1, .own 1 0), (3, .str v3)]) (L' := [(1, 24, [.str b1.f_Host, .val (.int .i64 b1.f_Out), .val (.int .i64 b1.f_In), .str b1.f_Proto])]) (by kernel_rfl) (by kernel_rfl) ?_
      cases h
      exact hQ
def ref16_Text_j3 (n : Nat) (v3 : List UInt8) (v36 : Bool) : Option ((List UInt8)) :=
  if v36 = true then (if (decide (((List.length v3 + List.length ([47, 117, 100, 112] : List UInt8) : Nat) : Int) ≤ 9223372036854775807)) = true then (some (v3 ++ [47, 117, 100, 112])) else none)
  else some v3
theorem ok_ref16_Text_j3 (n : Nat) (v3 : List UInt8) (v36 : Bool) (o : (List UInt8)) (h : ref16_Text_j3 n v3 v36 = some o) {F0 : Fz} {w0 : Pt Tryd.prog} {Q : Exit → Act → World → Prop} (hQ : To 40 F0 w0 [(3, .str o)] [] .normal Q) : Wp Tryd.prog 40 F0 w0 [(3, .str v3), (36, .val (.bool v36))] [] (cB (cA (cB (cB (cB (cB (cB (cB (cF Tryd.f15))))))))) Q := by
  unfold ref16_Text_j3 at h
  refine Wp.cond (b := v36) (by kernel_rfl) (fun hb => ?_) (fun hb => ?_)
  · replace h := if_t hb h
    obtain ⟨hc5, h⟩ := chk_of h
    refine Wp.region hΓ [] [] [] [3] [] (K' := [(3, .str (v3 ++ [47, 117, 100, 112]))]) (L' := []) (ob := [(decide (((List.length v3 + List.length ([47, 117, 100, 112] : List UInt8) : Nat) : Int) ≤ 9223372036854775807)) = true]) (by kernel_rfl) (AllP.cons hc5 AllP.nil) ?_
    refine To.keep (kk := [3]) (kl := []) (K' := [(3, .str (v3 ++ [47, 117, 100, 112]))]) (L' := []) (by kernel_rfl) (by kernel_rfl) ?_
    cases h
    exact hQ
  · replace h := if_f hb h
    refine Wp.skip ?_
    refine To.keep (kk := [3]) (kl := []) (K' := [(3, .str v3)]) (L' := []) (by kernel_rfl) (by kernel_rfl) ?_
    cases h
    exact hQ
def ref16_Text (n : Nat) (a0 : S_api_Port) : Option ((List UInt8)) :=
  (ref16_Right n a0).bind fun r1 =>
  if (!r1) = true then (some [])
  else ((ref16_Text_j1 n [] (decide ((List.length a0.f_Host : Int) > 0)) a0).bind fun o2 =>
  (ref16_Text_j2 n o2 (decide (a0.f_Out > 0)) a0).bind fun o3 =>
  (ref01_Text n a0.f_In).bind fun r4 =>
  if (decide (((List.length o3 + List.length r4 : Nat) : Int) ≤ 9223372036854775807)) = true then ((ref16_Text_j3 n (o3 ++ r4) (a0.f_Proto == [117, 100, 112])).bind fun o5 =>
  some o5) else none)
theorem ok_ref16_Text (n : Nat) (a0 : S_api_Port) (r : (List UInt8)) (h : ref16_Text n a0 = some r) : CallsX Tryd.prog 15 [.agg [.str a0.f_Host, .val (.int .i64 a0.f_Out), .val (.int .i64 a0.f_In), .str a0.f_Proto]] (.str r) := by
  unfold ref16_Text at h
  refine callsX_of (fn := Tryd.f15) (by kernel_rfl) rfl (by kernel_rfl) (Nat.le_of_ble_eq_true (by kernel_rfl)) fun F0 w0 _ => ?_
  refine Wp.keep (kk := [0]) (kl := []) (K' := [(0, .agg [.str a0.f_Host, .val (.int .i64 a0.f_Out), .val (.int .i64 a0.f_In), .str a0.f_Proto])]) (L' := []) (by kernel_rfl) (by kernel_rfl) ?_
  refine Wp.seq ?_
  refine Wp.region hΓ [] [] [] [1] [1] (K' := [(1, .own 1 0)]) (L' := [(1, 24, [.str a0.f_Host, .val (.int .i64 a0.f_Out), .val (.int .i64 a0.f_In), .str a0.f_Proto])]) (ob := []) (by kernel_rfl) AllP.nil ?_
  refine To.thenN ?_
  refine Wp.seq ?_
  refine Wp.seq ?_
  obtain ⟨r1, hr1, h⟩ := bind_of h
  refine Wp.region hΓ [] [(1, .val (.bool r1))] [] [1, 6] [1] (K' := [(1, .own 1 0), (6, .val (.bool (!r1)))]) (L' := [(1, 24, [.str a0.f_Host, .val (.int .i64 a0.f_Out), .val (.int .i64 a0.f_In), .str a0.f_Proto])]) (ob := [(true = true → CX Tryd.prog 14 [.agg [.str a0.f_Host, .val (.int .i64 a0.f_Out), .val (.int .i64 a0.f_In), .str a0.f_Proto]] (.val (.bool r1)))]) (by kernel_rfl) (AllP.cons (fun _ => cx (ok_ref16_Right n a0 _ hr1)) AllP.nil) ?_
  refine To.thenN ?_
  refine Wp.cond (b := (!r1)) (by kernel_rfl) (fun hb => ?_) (fun hb => ?_)
  · replace h := if_t hb h
    refine Wp.seq ?_
    refine Wp.region hΓ [] [] [] [2] [] (K' := [(2, .str [])]) (L' := []) (ob := []) (by kernel_rfl) AllP.nil ?_
    refine To.thenN ?_
    refine Wp.ret ?_
    refine To.thenR ?_
    refine To.keep (kk := [2]) (kl := []) (K' := [(2, .str [])]) (L' := []) (by kernel_rfl) (by kernel_rfl) ?_
    cases h
    exact To.done hΓ (by kernel_rfl)
  · replace h := if_f hb h
    refine Wp.skip ?_
    refine To.thenN ?_
    refine Wp.seq ?_
    refine Wp.region hΓ [] [] [] [1, 3] [1] (K' := [(1, .own 1 0), (3, .str [])]) (L' := [(1, 24, [.str a0.f_Host, .val (.int .i64 a0.f_Out), .val (.int .i64 a0.f_In), .str a0.f_Proto])]) (ob := []) (by kernel_rfl) AllP.nil ?_
    refine To.thenN ?_
    refine Wp.seq ?_
    refine Wp.seq ?_
    refine Wp.region hΓ [] [] [] [1, 3, 10] [1] (K' := [(1, .own 1 0), (3, .str []), (10, .val (.bool (decide ((List.length a0.f_Host : Int) > 0))))]) (L' := [(1, 24, [.str a0.f_Host, .val (.int .i64 a0.f_Out), .val (.int .i64 a0.f_In), .str a0.f_Proto])]) (ob := []) (by kernel_rfl) AllP.nil ?_
    refine To.thenN ?_
    obtain ⟨o2, ho2, h⟩ := bind_of h
    refine Wp.keep (kk := [1, 3, 10]) (kl := [1]) (K' := [(1, .own 1 0), (3, .str []), (10, .val (.bool (decide ((List.length a0.f_Host : Int) > 0))))]) (L' := [(1, 24, [.str a0.f_Host, .val (.int .i64 a0.f_Out), .val (.int .i64 a0.f_In), .str a0.f_Proto])]) (by kernel_rfl) (by kernel_rfl) ?_
    refine ok_ref16_Text_j1 n [] (decide ((List.length a0.f_Host : Int) > 0)) a0 o2 ho2 ?_
    refine To.thenN ?_
    refine Wp.seq ?_
    refine Wp.seq ?_
    refine Wp.region hΓ [] [] [] [1, 3, 16] [1] (K' := [(1, .own 1 0), (3, .str o2), (16, .val (.bool (decide (a0.f_Out > 0))))]) (L' := [(1, 24, [.str a0.f_Host, .val (.int .i64 a0.f_Out), .val (.int .i64 a0.f_In), .str a0.f_Proto])]) (ob := []) (by kernel_rfl) AllP.nil ?_
    refine To.thenN ?_
    obtain ⟨o3, ho3, h⟩ := bind_of h
    refine Wp.keep (kk := [1, 3, 16]) (kl := [1]) (K' := [(1, .own 1 0), (3, .str o2), (16, .val (.bool (decide (a0.f_Out > 0))))]) (L' := [(1, 24, [.str a0.f_Host, .val (.int .i64 a0.f_Out), .val (.int .i64 a0.f_In), .str a0.f_Proto])]) (by kernel_rfl) (by kernel_rfl) ?_
    refine ok_ref16_Text_j2 n o2 (decide (a0.f_Out > 0)) a0 o3 ho3 ?_
    refine To.thenN ?_
    refine Wp.seq ?_
    obtain ⟨r4, hr4, h⟩ := bind_of h
    obtain ⟨hc6, h⟩ := chk_of h
    refine Wp.region hΓ [] [(3, .str r4)] [] [1, 3] [1] (K' := [(1, .own 1 0), (3, .str (o3 ++ r4))]) (L' := [(1, 24, [.str a0.f_Host, .val (.int .i64 a0.f_Out), .val (.int .i64 a0.f_In), .str a0.f_Proto])]) (ob := [(true = true → CX Tryd.prog 40 [.val (.int .i64 a0.f_In)] (.str r4)), (decide (((List.length o3 + List.length r4 : Nat) : Int) ≤ 9223372036854775807)) = true]) (by kernel_rfl) (AllP.cons (fun _ => cx (ok_ref01_Text n a0.f_In _ hr4)) (AllP.cons hc6 AllP.nil)) ?_
    refine To.thenN ?_
    refine Wp.seq ?_
    refine Wp.seq ?_
    refine Wp.region hΓ [] [] [] [3, 36] [] (K' := [(3, .str (o3 ++ r4)), (36, .val (.bool (a0.f_Proto == [117, 100, 112])))]) (L' := []) (ob := []) (by kernel_rfl) AllP.nil ?_
    refine To.thenN ?_
    obtain ⟨o5, ho5, h⟩ := bind_of h
    refine Wp.keep (kk := [3, 36]) (kl := []) (K' := [(3, .str (o3 ++ r4)), (36, .val (.bool (a0.f_Proto == [117, 100, 112])))]) (L' := []) (by kernel_rfl) (by kernel_rfl) ?_
    refine ok_ref16_Text_j3 n (o3 ++ r4) (a0.f_Proto == [117, 100, 112]) o5 ho5 ?_
    refine To.thenN ?_
    refine Wp.seq ?_
    refine Wp.region hΓ [] [] [] [2] [] (K' := [(2, .str o5)]) (L' := []) (ob := []) (by kernel_rfl) AllP.nil ?_
    refine To.thenN ?_
    refine Wp.ret ?_
    refine To.keep (kk := [2]) (kl := []) (K' := [(2, .str o5)]) (L' := []) (by kernel_rfl) (by kernel_rfl) ?_
    cases h
    exact To.done hΓ (by kernel_rfl)
def law16_PortTexts (n : Nat) (a0 : S_api_Port) : Option (Bool) :=
  if (bif (decide ((List.length a0.f_Host : Int) > 100)) then true else (decide ((List.length a0.f_Proto : Int) > 100))) = true then ((law16_awake n).bind fun r1 =>
  some r1)
  else ((port_Text n a0).bind fun r2 =>
  (port_Right n a0).bind fun r3 =>
  (ref16_Right n a0).bind fun r4 =>
  ((if ((!(r3 == r4)) == false) = true then ref16_Text n a0 else some [])).bind fun r5 =>
  if (bif (!(r3 == r4)) then true else (!(r2 == r5))) = true then some false
  else ((port_Parse n r2).bind fun r6 =>
  (port_Right n a0).bind fun r7 =>
  if (!r7) = true then (((if ((r2 == []) == true) = true then law16_awake n else some false)).bind fun r8 =>
  some (bif (r2 == []) then r8 else false))
  else (((if ((bif ((r6.1.f_Host == a0.f_Host) && ((r6.1.f_Out == a0.f_Out) && ((r6.1.f_In == a0.f_In) && (r6.1.f_Proto == a0.f_Proto)))) then (r6.2 == 0) else false) == true) = true then law16_awake n else some false)).bind fun r9 =>
  lett ((bif (bif ((r6.1.f_Host == a0.f_Host) && ((r6.1.f_Out == a0.f_Out) && ((r6.1.f_In == a0.f_In) && (r6.1.f_Proto == a0.f_Proto)))) then (r6.2 == 0) else false) then r9 else false) : Bool) fun x10 =>
  some x10)))
theorem ok_law16_PortTexts (n : Nat) (a0 : S_api_Port) (r : Bool) (h : law16_PortTexts n a0 = some r) : CallsX Tryd.prog 4 [.agg [.str a0.f_Host, .val (.int .i64 a0.f_Out), .val (.int .i64 a0.f_In), .str a0.f_Proto]] (.val (.bool r)) := by
  unfold law16_PortTexts at h
  refine callsX_of (fn := Tryd.f4) (by kernel_rfl) rfl (by kernel_rfl) (Nat.le_of_ble_eq_true (by kernel_rfl)) fun F0 w0 _ => ?_
  refine Wp.keep (kk := [0]) (kl := []) (K' := [(0, .agg [.str a0.f_Host, .val (.int .i64 a0.f_Out), .val (.int .i64 a0.f_In), .str a0.f_Proto])]) (L' := []) (by kernel_rfl) (by kernel_rfl) ?_
  refine Wp.seq ?_
  refine Wp.region hΓ [] [] [] [1] [1] (K' := [(1, .own 1 0)]) (L' := [(1, 24, [.str a0.f_Host, .val (.int .i64 a0.f_Out), .val (.int .i64 a0.f_In), .str a0.f_Proto])]) (ob := []) (by kernel_rfl) AllP.nil ?_
  refine To.thenN ?_
  refine Wp.seq ?_
  refine Wp.seq ?_
  refine Wp.region hΓ [] [] [] [1, 15] [1] (K' := [(1, .own 1 0), (15, .val (.bool (bif (decide ((List.length a0.f_Host : Int) > 100)) then true else (decide ((List.length a0.f_Proto : Int) > 100)))))]) (L' := [(1, 24, [.str a0.f_Host, .val (.int .i64 a0.f_Out), .val (.int .i64 a0.f_In), .str a0.f_Proto])]) (ob := []) (by kernel_rfl) AllP.nil ?_
  refine To.thenN ?_
  refine Wp.cond (b := (bif (decide ((List.length a0.f_Host : Int) > 100)) then true else (decide ((List.length a0.f_Proto : Int) > 100)))) (by kernel_rfl) (fun hb => ?_) (fun hb => ?_)
  · replace h := if_t hb h
    refine Wp.seq ?_
    obtain ⟨r1, hr1, h⟩ := bind_of h
    refine Wp.region hΓ [] [(0, .val (.bool r1))] [] [2] [] (K' := [(2, .val (.bool r1))]) (L' := []) (ob := [(true = true → CX Tryd.prog 9 [] (.val (.bool r1)))]) (by kernel_rfl) (AllP.cons (fun _ => cx (ok_law16_awake n  _ hr1)) AllP.nil) ?_
    refine To.thenN ?_
    refine Wp.ret ?_
    refine To.thenR ?_
    refine To.keep (kk := [2]) (kl := []) (K' := [(2, .val (.bool r1))]) (L' := []) (by kernel_rfl) (by kernel_rfl) ?_
    cases h
    exact To.done hΓ (by kernel_rfl)
  · replace h := if_f hb h
    refine Wp.skip ?_
    refine To.thenN ?_
    refine Wp.seq ?_
    obtain ⟨r2, hr2, h⟩ := bind_of h
    refine Wp.region hΓ [] [(1, .str r2)] [] [1, 3] [1] (K' := [(1, .own 1 0), (3, .str r2)]) (L' := [(1, 24, [.str a0.f_Host, .val (.int .i64 a0.f_Out), .val (.int .i64 a0.f_In), .str a0.f_Proto])]) (ob := [(true = true → CX Tryd.prog 13 [.agg [.str a0.f_Host, .val (.int .i64 a0.f_Out), .val (.int .i64 a0.f_In), .str a0.f_Proto]] (.str r2))]) (by kernel_rfl) (AllP.cons (fun _ => cx (ok_port_Text n a0 _ hr2)) AllP.nil) ?_
    refine To.thenN ?_
    refine Wp.seq ?_
    refine Wp.seq ?_
    obtain ⟨r3, hr3, h⟩ := bind_of h
    obtain ⟨r4, hr4, h⟩ := bind_of h
    obtain ⟨r5, hr5, h⟩ := bind_of h
    refine Wp.regionD hm hΓ [(1, .val (.bool r3)), (3, .val (.bool r4)), (8, .str r5)] [1, 3, 29] [1] (K' := [(1, .own 1 0), (3, .str r2), (29, .val (.bool (bif (!(r3 == r4)) then true else (!(r2 == r5)))))]) (L' := [(1, 24, [.str a0.f_Host, .val (.int .i64 a0.f_Out), .val (.int .i64 a0.f_In), .str a0.f_Proto])]) (ob := [(true = true → CX Tryd.prog 12 [.agg [.str a0.f_Host, .val (.int .i64 a0.f_Out), .val (.int .i64 a0.f_In), .str a0.f_Proto]] (.val (.bool r3))), (true = true → CX Tryd.prog 14 [.agg [.str a0.f_Host, .val (.int .i64 a0.f_Out), .val (.int .i64 a0.f_In), .str a0.f_Proto]] (.val (.bool r4))), (((!(r3 == r4)) == false) = true → CX Tryd.prog 15 [.agg [.str a0.f_Host, .val (.int .i64 a0.f_Out), .val (.int .i64 a0.f_In), .str a0.f_Proto]] (.str r5))]) (by kernel_rfl) (AllP.cons (fun _ => cx (ok_port_Right n a0 _ hr3)) (AllP.cons (fun _ => cx (ok_ref16_Right n a0 _ hr4)) (AllP.cons (fun hg => cx (ok_ref16_Text n a0 _ (if_t hg hr5))) AllP.nil))) ?_
    refine To.thenN ?_
    refine Wp.cond (b := (bif (!(r3 == r4)) then true else (!(r2 == r5)))) (by kernel_rfl) (fun hb => ?_) (fun hb => ?_)
    · replace h := if_t hb h
      refine Wp.seq ?_
      refine Wp.region hΓ [] [] [] [2] [] (K' := [(2, .val (.bool false))]) (L' := []) (ob := []) (by kernel_rfl) AllP.nil ?_
      refine To.thenN ?_
      refine Wp.ret ?_
      refine To.thenR ?_
      refine To.keep (kk := [2]) (kl := []) (K' := [(2, .val (.bool false))]) (L' := []) (by kernel_rfl) (by kernel_rfl) ?_
      cases h
      exact To.done hΓ (by kernel_rfl)
    · replace h := if_f hb h
      refine Wp.skip ?_
      refine To.thenN ?_
      refine Wp.seq ?_
      obtain ⟨r6, hr6, h⟩ := bind_of h
      refine Wp.region hΓ [] [(1, .tup [.agg [.str r6.1.f_Host, .val (.int .i64 r6.1.f_Out), .val (.int .i64 r6.1.f_In), .str r6.1.f_Proto], .val (.int .i64 r6.2)])] [] [1, 3, 4, 5] [1, 4] (K' := [(1, .own 1 0), (3, .str r2), (4, .own 4 0), (5, .val (.int .i64 r6.2))]) (L' := [(1, 24, [.str a0.f_Host, .val (.int .i64 a0.f_Out), .val (.int .i64 a0.f_In), .str a0.f_Proto]), (4, 24, [.str r6.1.f_Host, .val (.int .i64 r6.1.f_Out), .val (.int .i64 r6.1.f_In), .str r6.1.f_Proto])]) (ob := [(true = true → CX Tryd.prog 10 [.str r2] (.tup [.agg [.str r6.1.f_Host, .val (.int .i64 r6.1.f_Out), .val (.int .i64 r6.1.f_In), .str r6.1.f_Proto], .val (.int .i64 r6.2)]))]) (by kernel_rfl) (AllP.cons (fun _ => cx (ok_port_Parse n r2 _ hr6)) AllP.nil) ?_
      refine To.thenN ?_
      refine Wp.seq ?_
      refine Wp.seq ?_
      obtain ⟨r7, hr7, h⟩ := bind_of h
      refine Wp.region hΓ [] [(1, .val (.bool r7))] [] [1, 3, 4, 5, 37] [1, 4] (K' := [(1, .own 1 0), (3, .str r2), (4, .own 4 0), (5, .val (.int .i64 r6.2)), (37, .val (.bool (!r7)))]) (L' := [(1, 24, [.str a0.f_Host, .val (.int .i64 a0.f_Out), .val (.int .i64 a0.f_In), .str a0.f_Proto]), (4, 24, [.str r6.1.f_Host, .val (.int .i64 r6.1.f_Out), .val (.int .i64 r6.1.f_In), .str r6.1.f_Proto])]) (ob := [(true = true → CX Tryd.prog 12 [.agg [.str a0.f_Host, .val (.int .i64 a0.f_Out), .val (.int .i64 a0.f_In), .str a0.f_Proto]] (.val (.bool r7)))]) (by kernel_rfl) (AllP.cons (fun _ => cx (ok_port_Right n a0 _ hr7)) AllP.nil) ?_
      refine To.thenN ?_
      refine Wp.cond (b := (!r7)) (by kernel_rfl) (fun hb => ?_) (fun hb => ?_)
      · replace h := if_t hb h
        refine Wp.seq ?_
        obtain ⟨r8, hr8, h⟩ := bind_of h
        refine Wp.region hΓ [] [(3, .val (.bool r8))] [] [2] [] (K' := [(2, .val (.bool (bif (r2 == []) then r8 else false)))]) (L' := []) (ob := [(((r2 == []) == true) = true → CX Tryd.prog 9 [] (.val (.bool r8)))]) (by kernel_rfl) (AllP.cons (fun hg => cx (ok_law16_awake n  _ (if_t hg hr8))) AllP.nil) ?_
        refine To.thenN ?_
        refine Wp.ret ?_
        refine To.thenR ?_
        refine To.keep (kk := [2]) (kl := []) (K' := [(2, .val (.bool (bif (r2 == []) then r8 else false)))]) (L' := []) (by kernel_rfl) (by kernel_rfl) ?_
        cases h
        exact To.done hΓ (by kernel_rfl)
      · replace h := if_f hb h
        refine Wp.skip ?_
        refine To.thenN ?_
        refine Wp.seq ?_
        obtain ⟨r9, hr9, h⟩ := bind_of h
        obtain ⟨x10, hx10, h⟩ := lett_of h
        refine Wp.region hΓ [] [(8, .val (.bool r9))] [] [2] [] (K' := [(2, .val (.bool (bif (bif ((r6.1.f_Host == a0.f_Host) && ((r6.1.f_Out == a0.f_Out) && ((r6.1.f_In == a0.f_In) && (r6.1.f_Proto == a0.f_Proto)))) then (r6.2 == 0) else false) then r9 else false)))]) (L' := []) (ob := [(((bif ((r6.1.f_Host == a0.f_Host) && ((r6.1.f_Out == a0.f_Out) && ((r6.1.f_In == a0.f_In) && (r6.1.f_Proto == a0.f_Proto)))) then (r6.2 == 0) else false) == true) = true → CX Tryd.prog 9 [] (.val (.bool r9)))]) (by kernel_rfl) (AllP.cons (fun hg => cx (ok_law16_awake n  _ (if_t hg hr9))) AllP.nil) ?_
        refine To.eq (K' := [(2, .val (.bool x10))]) (L' := []) (by cases hx10; rfl) (by cases hx10; rfl) ?_
        refine To.thenN ?_
        refine Wp.ret ?_
        refine To.keep (kk := [2]) (kl := []) (K' := [(2, .val (.bool x10))]) (L' := []) (by kernel_rfl) (by kernel_rfl) ?_
        cases h
        exact To.done hΓ (by kernel_rfl)
theorem opens_string : Opens Tryd.prog 9 (fun l : List UInt8 => l.length ≤ maxLen) (fun l => [.str l]) := opens_str (by kernel_rfl)
theorem opens_i64 : Opens Tryd.prog 3 (fun n : Int => IntKind.min .i64 ≤ n ∧ n ≤ IntKind.max .i64) (fun n => [.val (.int .i64 n)]) := opens_int (by kernel_rfl)
def W_api_Port (x : S_api_Port) : Prop := (List.length x.f_Host ≤ maxLen) ∧ (IntKind.min .i64 ≤ x.f_Out ∧ x.f_Out ≤ IntKind.max .i64) ∧ (IntKind.min .i64 ≤ x.f_In ∧ x.f_In ≤ IntKind.max .i64) ∧ (List.length x.f_Proto ≤ maxLen)
theorem opens_api_Port : Opens Tryd.prog 24 W_api_Port (fun x => [.str x.f_Host, .val (.int .i64 x.f_Out), .val (.int .i64 x.f_In), .str x.f_Proto]) := by
  intro H enc W fuel cs d ps h
  obtain ⟨hl, hf⟩ := field_of Tryd.underlying24 h
  have hl : cs.length = 4 := hl.trans (by kernel_rfl)
  obtain ⟨x0, w0, r0⟩ := hf 0 _ rfl opens_string
  have r0 := repAt (a' := 0) (b' := 1) r0 (by kernel_rfl) (by kernel_rfl)
  obtain ⟨x1, w1, r1⟩ := hf 1 _ rfl opens_i64
  have r1 := repAt (a' := 1) (b' := 1) r1 (by kernel_rfl) (by kernel_rfl)
  obtain ⟨x2, w2, r2⟩ := hf 2 _ rfl opens_i64
  have r2 := repAt (a' := 2) (b' := 1) r2 (by kernel_rfl) (by kernel_rfl)
  obtain ⟨x3, w3, r3⟩ := hf 3 _ rfl opens_string
  have r3 := repAt (a' := 3) (b' := 1) r3 (by kernel_rfl) (by kernel_rfl)
  refine ⟨⟨x0, x1, x2, x3⟩, ⟨w0, w1, w2, w3⟩, ?_⟩
  refine parts_all (l := [([.str x0], 1), ([.val (.int .i64 x1)], 1), ([.val (.int .i64 x2)], 1), ([.str x3], 1)]) ⟨r0, r1, r2, r3, Nat.le_of_eq hl⟩ rfl
end Go.Proofs.YtonjhkefnijlhaaDoor.M