/-
  Printed by wip/tools/gen.py: models and walks of functions.
-/
import Derived.Test.YteliiabopphgmaaRxAnyD
import Derived.Test.YteliiabopphgmaaRxArgs
import Derived.Test.YteliiabopphgmaaRxGoto
import Derived.Test.YteliiabopphgmaaRxEqArr
import Derived.Test.YteliiabopphgmaaSh05
import Derived.Test.YteliiabopphgmaaProg
namespace Go.Proofs.Yteliiabopphgmaa.M
open Go.RowKit Go.Proofs.Yteliiabopphgmaa.RX
set_option maxRecDepth 100000
def tab : List (Nat × TI) := [
  (3, { agg := false, size := 1, zero := [.int .i64 0], kind := .int .i64, eqs := [] }),
  (5, { agg := false, size := 1, zero := [.int .u8 0], kind := .int .u8, eqs := [] }),
  (9, { agg := false, size := 1, zero := [.string ⟨#[]⟩], kind := .str, eqs := [] }),
  (23, { agg := false, size := 1, zero := [.slice none 0 0], kind := .slice 1 false, elt := 3, eb := 8, ez := [.int .i64 0], ek := some .i64, eqs := [] }),
  (25, { agg := false, size := 1, zero := [.int .u32 0], kind := .int .u32, eqs := [] }),
  (29, { agg := true, size := 8, zero := [.int .u32 0, .int .u32 0, .int .u32 0, .int .u32 0, .int .u32 0, .int .u32 0, .int .u32 0, .int .u32 0], kind := .array 8 1 false, eqs := [] }),
  (30, { agg := true, size := 8, zero := [.int .u32 0, .int .u32 0, .int .u32 0, .int .u32 0, .int .u32 0, .int .u32 0, .int .u32 0, .int .u32 0], kind := .array 8 1 false, eqs := [0, 0, 0, 0, 0, 0, 0, 0] }),
  (36, { agg := false, size := 1, zero := [.int .u64 0], kind := .int .u64, eqs := [] }),
  (38, { agg := true, size := 5, zero := [.int .u64 0, .int .u64 0, .int .u64 0, .int .u64 0, .int .u64 0], kind := .array 5 1 false, eqs := [] }),
  (41, { agg := true, size := 64, zero := [.int .u32 0, .int .u32 0, .int .u32 0, .int .u32 0, .int .u32 0, .int .u32 0, .int .u32 0, .int .u32 0, .int .u32 0, .int .u32 0, .int .u32 0, .int .u32 0, .int .u32 0, .int .u32 0, .int .u32 0, .int .u32 0, .int .u32 0, .int .u32 0, .int .u32 0, .int .u32 0, .int .u32 0, .int .u32 0, .int .u32 0, .int .u32 0, .int .u32 0, .int .u32 0, .int .u32 0, .int .u32 0, .int .u32 0, .int .u32 0, .int .u32 0, .int .u32 0, .int .u32 0, .int .u32 0, .int .u32 0, .int .u32 0, .int .u32 0, .int .u32 0, .int .u32 0, .int .u32 0, .int .u32 0, .int .u32 0, .int .u32 0, .int .u32 0, .int .u32 0, .int .u32 0, .int .u32 0, .int .u32 0, .int .u32 0, .int .u32 0, .int .u32 0, .int .u32 0, .int .u32 0, .int .u32 0, .int .u32 0, .int .u32 0, .int .u32 0, .int .u32 0, .int .u32 0, .int .u32 0, .int .u32 0, .int .u32 0, .int .u32 0, .int .u32 0], kind := .array 64 1 false, eqs := [] }),
  (46, { agg := false, size := 1, zero := [.slice none 0 0], kind := .slice 1 false, elt := 25, eb := 4, ez := [.int .u32 0], ek := some .u32, eqs := [] }),
  (48, { agg := true, size := 8, zero := [.int .u8 0, .int .u8 0, .int .u8 0, .int .u8 0, .int .u8 0, .int .u8 0, .int .u8 0, .int .u8 0], kind := .array 8 1 false, eqs := [] }),
  (50, { agg := false, size := 1, zero := [.slice none 0 0], kind := .slice 1 false, elt := 5, eb := 1, ez := [.int .u8 0], ek := some .u8, eqs := [] }),
  (51, { agg := false, size := 1, zero := [.int .u64 0], kind := .int .u64, eqs := [] }),
  (53, { agg := true, size := 32, zero := [.int .u8 0, .int .u8 0, .int .u8 0, .int .u8 0, .int .u8 0, .int .u8 0, .int .u8 0, .int .u8 0, .int .u8 0, .int .u8 0, .int .u8 0, .int .u8 0, .int .u8 0, .int .u8 0, .int .u8 0, .int .u8 0, .int .u8 0, .int .u8 0, .int .u8 0, .int .u8 0, .int .u8 0, .int .u8 0, .int .u8 0, .int .u8 0, .int .u8 0, .int .u8 0, .int .u8 0, .int .u8 0, .int .u8 0, .int .u8 0, .int .u8 0, .int .u8 0], kind := .array 32 1 false, eqs := [] })]
theorem tabOK : TabOK Try.prog tab := ⟨⟨by kernel_rfl, fun h => absurd rfl h⟩, ⟨by kernel_rfl, fun h => absurd rfl h⟩, ⟨by kernel_rfl, fun h => absurd rfl h⟩, ⟨by kernel_rfl, fun h => absurd rfl h⟩, ⟨by kernel_rfl, fun h => absurd rfl h⟩, ⟨by kernel_rfl, fun h => absurd rfl h⟩, ⟨by kernel_rfl, fun _ => eqCells_arr (by kernel_rfl)⟩, ⟨by kernel_rfl, fun h => absurd rfl h⟩, ⟨by kernel_rfl, fun h => absurd rfl h⟩, ⟨by kernel_rfl, fun h => absurd rfl h⟩, ⟨by kernel_rfl, fun h => absurd rfl h⟩, ⟨by kernel_rfl, fun h => absurd rfl h⟩, ⟨by kernel_rfl, fun h => absurd rfl h⟩, ⟨by kernel_rfl, fun h => absurd rfl h⟩, ⟨by kernel_rfl, fun h => absurd rfl h⟩, trivial⟩
theorem hΓ : ΓOK Try.prog (tabΓ tab) := ΓOK.of tabOK
theorem hm : Try.prog.follows .mixedOrders = true := by kernel_rfl
def E_u32 : Int → List D := fun x => [.val (.int .u32 x)]
def math_bits_Mul64 (n : Nat) (a0 : Int) (a1 : Int) : Option (Int × Int) :=
  if (decide (0 ≤ (32 : Int))) = true then (if (decide (0 ≤ (32 : Int))) = true then (lett ((IntKind.wrap .u64 ((IntKind.wrap .u64 ((BitVec.ofInt (IntKind.bits .u64) a0 &&& BitVec.ofInt (IntKind.bits .u64) 4294967295).toNat)) * (IntKind.wrap .u64 ((BitVec.ofInt (IntKind.bits .u64) a1 &&& BitVec.ofInt (IntKind.bits .u64) 4294967295).toNat)))) : Int) fun x1 =>
  if (decide (0 ≤ (32 : Int))) = true then (lett ((IntKind.wrap .u64 ((IntKind.wrap .u64 ((Int.fdiv a0 (2 ^ (min (Int.toNat 32) (IntKind.bits .u64)))) * (IntKind.wrap .u64 ((BitVec.ofInt (IntKind.bits .u64) a1 &&& BitVec.ofInt (IntKind.bits .u64) 4294967295).toNat)))) + (Int.fdiv x1 (2 ^ (min (Int.toNat 32) (IntKind.bits .u64)))))) : Int) fun x2 =>
  if (decide (0 ≤ (32 : Int))) = true then (lett ((IntKind.wrap .u64 ((IntKind.wrap .u64 ((BitVec.ofInt (IntKind.bits .u64) x2 &&& BitVec.ofInt (IntKind.bits .u64) 4294967295).toNat)) + (IntKind.wrap .u64 ((IntKind.wrap .u64 ((BitVec.ofInt (IntKind.bits .u64) a0 &&& BitVec.ofInt (IntKind.bits .u64) 4294967295).toNat)) * (Int.fdiv a1 (2 ^ (min (Int.toNat 32) (IntKind.bits .u64)))))))) : Int) fun x3 =>
  if (decide (0 ≤ (32 : Int))) = true then (lett ((IntKind.wrap .u64 ((IntKind.wrap .u64 ((IntKind.wrap .u64 ((Int.fdiv a0 (2 ^ (min (Int.toNat 32) (IntKind.bits .u64)))) * (Int.fdiv a1 (2 ^ (min (Int.toNat 32) (IntKind.bits .u64)))))) + (Int.fdiv x2 (2 ^ (min (Int.toNat 32) (IntKind.bits .u64)))))) + (Int.fdiv x3 (2 ^ (min (Int.toNat 32) (IntKind.bits .u64)))))) : Int) fun x4 =>
  some (x4, (IntKind.wrap .u64 (a0 * a1)))) else none) else none) else none) else none) else none
theorem ok_math_bits_Mul64 (n : Nat) (a0 : Int) (a1 : Int) (r : Int × Int) (h : math_bits_Mul64 n a0 a1 = some r) : CallsX Try.prog 31 [.val (.int .u64 a0), .val (.int .u64 a1)] (.tup [.val (.int .u64 r.1), .val (.int .u64 r.2)]) := by
  unfold math_bits_Mul64 at h
  refine callsX_of (fn := Try.f31) (by kernel_rfl) rfl (by kernel_rfl) (Nat.le_of_ble_eq_true (by kernel_rfl)) fun F0 w0 _ => ?_
  refine Wp.keep (kk := [0, 1]) (kl := []) (K' := [(0, .val (.int .u64 a0)), (1, .val (.int .u64 a1))]) (L' := []) (by kernel_rfl) (by kernel_rfl) ?_
  refine Wp.seq ?_
  refine Wp.region hΓ [] [] [] [0, 1] [] (K' := [(0, .val (.int .u64 a0)), (1, .val (.int .u64 a1))]) (L' := []) (ob := []) (by kernel_rfl) AllP.nil ?_
  refine To.thenN ?_
  refine Wp.seq ?_
  refine Wp.region hΓ [] [] [] [0, 1, 6] [] (K' := [(0, .val (.int .u64 a0)), (1, .val (.int .u64 a1)), (6, .val (.int .u64 (IntKind.wrap .u64 ((BitVec.ofInt (IntKind.bits .u64) a0 &&& BitVec.ofInt (IntKind.bits .u64) 4294967295).toNat))))]) (L' := []) (ob := []) (by kernel_rfl) AllP.nil ?_
  refine To.thenN ?_
  refine Wp.seq ?_
  obtain ⟨hc9, h⟩ := chk_of h
  refine Wp.region hΓ [] [] [] [0, 1, 6, 7] [] (K' := [(0, .val (.int .u64 a0)), (1, .val (.int .u64 a1)), (6, .val (.int .u64 (IntKind.wrap .u64 ((BitVec.ofInt (IntKind.bits .u64) a0 &&& BitVec.ofInt (IntKind.bits .u64) 4294967295).toNat)))), (7, .val (.int .u64 (Int.fdiv a0 (2 ^ (min (Int.toNat 32) (IntKind.bits .u64))))))]) (L' := []) (ob := [(decide (0 ≤ (32 : Int))) = true]) (by kernel_rfl) (AllP.cons hc9 AllP.nil) ?_
  refine To.thenN ?_
  refine Wp.seq ?_
  refine Wp.region hΓ [] [] [] [0, 1, 6, 7, 8] [] (K' := [(0, .val (.int .u64 a0)), (1, .val (.int .u64 a1)), (6, .val (.int .u64 (IntKind.wrap .u64 ((BitVec.ofInt (IntKind.bits .u64) a0 &&& BitVec.ofInt (IntKind.bits .u64) 4294967295).toNat)))), (7, .val (.int .u64 (Int.fdiv a0 (2 ^ (min (Int.toNat 32) (IntKind.bits .u64)))))), (8, .val (.int .u64 (IntKind.wrap .u64 ((BitVec.ofInt (IntKind.bits .u64) a1 &&& BitVec.ofInt (IntKind.bits .u64) 4294967295).toNat))))]) (L' := []) (ob := []) (by kernel_rfl) AllP.nil ?_
  refine To.thenN ?_
  refine Wp.seq ?_
  obtain ⟨hc8, h⟩ := chk_of h
  refine Wp.region hΓ [] [] [] [0, 1, 6, 7, 8, 9] [] (K' := [(0, .val (.int .u64 a0)), (1, .val (.int .u64 a1)), (6, .val (.int .u64 (IntKind.wrap .u64 ((BitVec.ofInt (IntKind.bits .u64) a0 &&& BitVec.ofInt (IntKind.bits .u64) 4294967295).toNat)))), (7, .val (.int .u64 (Int.fdiv a0 (2 ^ (min (Int.toNat 32) (IntKind.bits .u64)))))), (8, .val (.int .u64 (IntKind.wrap .u64 ((BitVec.ofInt (IntKind.bits .u64) a1 &&& BitVec.ofInt (IntKind.bits .u64) 4294967295).toNat)))), (9, .val (.int .u64 (Int.fdiv a1 (2 ^ (min (Int.toNat 32) (IntKind.bits .u64))))))]) (L' := []) (ob := [(decide (0 ≤ (32 : Int))) = true]) (by kernel_rfl) (AllP.cons hc8 AllP.nil) ?_
  refine To.thenN ?_
  refine Wp.seq ?_
  obtain ⟨x1, hx1, h⟩ := lett_of h
  refine Wp.region hΓ [] [] [] [0, 1, 6, 7, 8, 9, 10] [] (K' := [(0, .val (.int .u64 a0)), (1, .val (.int .u64 a1)), (6, .val (.int .u64 (IntKind.wrap .u64 ((BitVec.ofInt (IntKind.bits .u64) a0 &&& BitVec.ofInt (IntKind.bits .u64) 4294967295).toNat)))), (7, .val (.int .u64 (Int.fdiv a0 (2 ^ (min (Int.toNat 32) (IntKind.bits .u64)))))), (8, .val (.int .u64 (IntKind.wrap .u64 ((BitVec.ofInt (IntKind.bits .u64) a1 &&& BitVec.ofInt (IntKind.bits .u64) 4294967295).toNat)))), (9, .val (.int .u64 (Int.fdiv a1 (2 ^ (min (Int.toNat 32) (IntKind.bits .u64)))))), (10, .val (.int .u64 (IntKind.wrap .u64 ((IntKind.wrap .u64 ((BitVec.ofInt (IntKind.bits .u64) a0 &&& BitVec.ofInt (IntKind.bits .u64) 4294967295).toNat)) * (IntKind.wrap .u64 ((BitVec.ofInt (IntKind.bits .u64) a1 &&& BitVec.ofInt (IntKind.bits .u64) 4294967295).toNat))))))]) (L' := []) (ob := []) (by kernel_rfl) AllP.nil ?_
  refine To.eq (K' := [(0, .val (.int .u64 a0)), (1, .val (.int .u64 a1)), (6, .val (.int .u64 (IntKind.wrap .u64 ((BitVec.ofInt (IntKind.bits .u64) a0 &&& BitVec.ofInt (IntKind.bits .u64) 4294967295).toNat)))), (7, .val (.int .u64 (Int.fdiv a0 (2 ^ (min (Int.toNat 32) (IntKind.bits .u64)))))), (8, .val (.int .u64 (IntKind.wrap .u64 ((BitVec.ofInt (IntKind.bits .u64) a1 &&& BitVec.ofInt (IntKind.bits .u64) 4294967295).toNat)))), (9, .val (.int .u64 (Int.fdiv a1 (2 ^ (min (Int.toNat 32) (IntKind.bits .u64)))))), (10, .val (.int .u64 x1))]) (L' := []) (by cases hx1; rfl) (by cases hx1; rfl) ?_
  refine To.thenN ?_
  refine Wp.seq ?_
  obtain ⟨hc7, h⟩ := chk_of h
  obtain ⟨x2, hx2, h⟩ := lett_of h
  refine Wp.region hΓ [] [] [] [0, 1, 6, 7, 9, 11] [] (K' := [(0, .val (.int .u64 a0)), (1, .val (.int .u64 a1)), (6, .val (.int .u64 (IntKind.wrap .u64 ((BitVec.ofInt (IntKind.bits .u64) a0 &&& BitVec.ofInt (IntKind.bits .u64) 4294967295).toNat)))), (7, .val (.int .u64 (Int.fdiv a0 (2 ^ (min (Int.toNat 32) (IntKind.bits .u64)))))), (9, .val (.int .u64 (Int.fdiv a1 (2 ^ (min (Int.toNat 32) (IntKind.bits .u64)))))), (11, .val (.int .u64 (IntKind.wrap .u64 ((IntKind.wrap .u64 ((Int.fdiv a0 (2 ^ (min (Int.toNat 32) (IntKind.bits .u64)))) * (IntKind.wrap .u64 ((BitVec.ofInt (IntKind.bits .u64) a1 &&& BitVec.ofInt (IntKind.bits .u64) 4294967295).toNat)))) + (Int.fdiv x1 (2 ^ (min (Int.toNat 32) (IntKind.bits .u64))))))))]) (L' := []) (ob := [(decide (0 ≤ (32 : Int))) = true]) (by kernel_rfl) (AllP.cons hc7 AllP.nil) ?_
  refine To.eq (K' := [(0, .val (.int .u64 a0)), (1, .val (.int .u64 a1)), (6, .val (.int .u64 (IntKind.wrap .u64 ((BitVec.ofInt (IntKind.bits .u64) a0 &&& BitVec.ofInt (IntKind.bits .u64) 4294967295).toNat)))), (7, .val (.int .u64 (Int.fdiv a0 (2 ^ (min (Int.toNat 32) (IntKind.bits .u64)))))), (9, .val (.int .u64 (Int.fdiv a1 (2 ^ (min (Int.toNat 32) (IntKind.bits .u64)))))), (11, .val (.int .u64 x2))]) (L' := []) (by cases hx2; rfl) (by cases hx2; rfl) ?_
  refine To.thenN ?_
  refine Wp.seq ?_
  refine Wp.region hΓ [] [] [] [0, 1, 6, 7, 9, 11, 12] [] (K' := [(0, .val (.int .u64 a0)), (1, .val (.int .u64 a1)), (6, .val (.int .u64 (IntKind.wrap .u64 ((BitVec.ofInt (IntKind.bits .u64) a0 &&& BitVec.ofInt (IntKind.bits .u64) 4294967295).toNat)))), (7, .val (.int .u64 (Int.fdiv a0 (2 ^ (min (Int.toNat 32) (IntKind.bits .u64)))))), (9, .val (.int .u64 (Int.fdiv a1 (2 ^ (min (Int.toNat 32) (IntKind.bits .u64)))))), (11, .val (.int .u64 x2)), (12, .val (.int .u64 (IntKind.wrap .u64 ((BitVec.ofInt (IntKind.bits .u64) x2 &&& BitVec.ofInt (IntKind.bits .u64) 4294967295).toNat))))]) (L' := []) (ob := []) (by kernel_rfl) AllP.nil ?_
  refine To.thenN ?_
  refine Wp.seq ?_
  obtain ⟨hc6, h⟩ := chk_of h
  refine Wp.region hΓ [] [] [] [0, 1, 6, 7, 9, 12, 13] [] (K' := [(0, .val (.int .u64 a0)), (1, .val (.int .u64 a1)), (6, .val (.int .u64 (IntKind.wrap .u64 ((BitVec.ofInt (IntKind.bits .u64) a0 &&& BitVec.ofInt (IntKind.bits .u64) 4294967295).toNat)))), (7, .val (.int .u64 (Int.fdiv a0 (2 ^ (min (Int.toNat 32) (IntKind.bits .u64)))))), (9, .val (.int .u64 (Int.fdiv a1 (2 ^ (min (Int.toNat 32) (IntKind.bits .u64)))))), (12, .val (.int .u64 (IntKind.wrap .u64 ((BitVec.ofInt (IntKind.bits .u64) x2 &&& BitVec.ofInt (IntKind.bits .u64) 4294967295).toNat)))), (13, .val (.int .u64 (Int.fdiv x2 (2 ^ (min (Int.toNat 32) (IntKind.bits .u64))))))]) (L' := []) (ob := [(decide (0 ≤ (32 : Int))) = true]) (by kernel_rfl) (AllP.cons hc6 AllP.nil) ?_
  refine To.thenN ?_
  refine Wp.seq ?_
  obtain ⟨x3, hx3, h⟩ := lett_of h
  refine Wp.region hΓ [] [] [] [0, 1, 7, 9, 12, 13] [] (K' := [(0, .val (.int .u64 a0)), (1, .val (.int .u64 a1)), (7, .val (.int .u64 (Int.fdiv a0 (2 ^ (min (Int.toNat 32) (IntKind.bits .u64)))))), (9, .val (.int .u64 (Int.fdiv a1 (2 ^ (min (Int.toNat 32) (IntKind.bits .u64)))))), (12, .val (.int .u64 (IntKind.wrap .u64 ((IntKind.wrap .u64 ((BitVec.ofInt (IntKind.bits .u64) x2 &&& BitVec.ofInt (IntKind.bits .u64) 4294967295).toNat)) + (IntKind.wrap .u64 ((IntKind.wrap .u64 ((BitVec.ofInt (IntKind.bits .u64) a0 &&& BitVec.ofInt (IntKind.bits .u64) 4294967295).toNat)) * (Int.fdiv a1 (2 ^ (min (Int.toNat 32) (IntKind.bits .u64)))))))))), (13, .val (.int .u64 (Int.fdiv x2 (2 ^ (min (Int.toNat 32) (IntKind.bits .u64))))))]) (L' := []) (ob := []) (by kernel_rfl) AllP.nil ?_
  refine To.eq (K' := [(0, .val (.int .u64 a0)), (1, .val (.int .u64 a1)), (7, .val (.int .u64 (Int.fdiv a0 (2 ^ (min (Int.toNat 32) (IntKind.bits .u64)))))), (9, .val (.int .u64 (Int.fdiv a1 (2 ^ (min (Int.toNat 32) (IntKind.bits .u64)))))), (12, .val (.int .u64 x3)), (13, .val (.int .u64 (Int.fdiv x2 (2 ^ (min (Int.toNat 32) (IntKind.bits .u64))))))]) (L' := []) (by cases hx3; rfl) (by cases hx3; rfl) ?_
  refine To.thenN ?_
  refine Wp.seq ?_
  obtain ⟨hc5, h⟩ := chk_of h
  obtain ⟨x4, hx4, h⟩ := lett_of h
  refine Wp.region hΓ [] [] [] [0, 1, 4] [] (K' := [(0, .val (.int .u64 a0)), (1, .val (.int .u64 a1)), (4, .val (.int .u64 (IntKind.wrap .u64 ((IntKind.wrap .u64 ((IntKind.wrap .u64 ((Int.fdiv a0 (2 ^ (min (Int.toNat 32) (IntKind.bits .u64)))) * (Int.fdiv a1 (2 ^ (min (Int.toNat 32) (IntKind.bits .u64)))))) + (Int.fdiv x2 (2 ^ (min (Int.toNat 32) (IntKind.bits .u64)))))) + (Int.fdiv x3 (2 ^ (min (Int.toNat 32) (IntKind.bits .u64))))))))]) (L' := []) (ob := [(decide (0 ≤ (32 : Int))) = true]) (by kernel_rfl) (AllP.cons hc5 AllP.nil) ?_
  refine To.eq (K' := [(0, .val (.int .u64 a0)), (1, .val (.int .u64 a1)), (4, .val (.int .u64 x4))]) (L' := []) (by cases hx4; rfl) (by cases hx4; rfl) ?_
  refine To.thenN ?_
  refine Wp.seq ?_
  refine Wp.region hΓ [] [] [] [4, 5] [] (K' := [(4, .val (.int .u64 x4)), (5, .val (.int .u64 (IntKind.wrap .u64 (a0 * a1))))]) (L' := []) (ob := []) (by kernel_rfl) AllP.nil ?_
  refine To.thenN ?_
  refine Wp.ret ?_
  refine To.keep (kk := [4, 5]) (kl := []) (K' := [(4, .val (.int .u64 x4)), (5, .val (.int .u64 (IntKind.wrap .u64 (a0 * a1))))]) (L' := []) (by kernel_rfl) (by kernel_rfl) ?_
  cases h
  exact To.done hΓ (by kernel_rfl)
def sha_above (n : Nat) (a0 : Int) (a1 : Int) (a2 : Int) : Option (Bool) :=
  (math_bits_Mul64 n a0 a0).bind fun r1 =>
  if (a2 == 2) = true then (lett ((bif (decide (r1.1 > (IntKind.wrap .u64 (a1)))) then true else (bif (r1.1 == (IntKind.wrap .u64 (a1))) then (decide (r1.2 > 0)) else false)) : Bool) fun x2 =>
  some x2)
  else ((math_bits_Mul64 n r1.2 a0).bind fun r3 =>
  if (decide (0 ≤ (32 : Int))) = true then (lett ((bif (decide ((IntKind.wrap .u64 (r3.1 + (IntKind.wrap .u64 (r1.1 * a0)))) > (IntKind.wrap .u64 ((IntKind.wrap .u64 (a1)) * 2 ^ (min (Int.toNat 32) (IntKind.bits .u64)))))) then true else (bif ((IntKind.wrap .u64 (r3.1 + (IntKind.wrap .u64 (r1.1 * a0)))) == (IntKind.wrap .u64 ((IntKind.wrap .u64 (a1)) * 2 ^ (min (Int.toNat 32) (IntKind.bits .u64))))) then (decide (r3.2 > 0)) else false)) : Bool) fun x4 =>
  some x4) else none)
theorem ok_sha_above (n : Nat) (a0 : Int) (a1 : Int) (a2 : Int) (r : Bool) (h : sha_above n a0 a1 a2 = some r) : CallsX Try.prog 22 [.val (.int .u64 a0), .val (.int .i64 a1), .val (.int .i64 a2)] (.val (.bool r)) := by
  unfold sha_above at h
  refine callsX_of (fn := Try.f22) (by kernel_rfl) rfl (by kernel_rfl) (Nat.le_of_ble_eq_true (by kernel_rfl)) fun F0 w0 _ => ?_
  refine Wp.keep (kk := [0, 1, 2]) (kl := []) (K' := [(0, .val (.int .u64 a0)), (1, .val (.int .i64 a1)), (2, .val (.int .i64 a2))]) (L' := []) (by kernel_rfl) (by kernel_rfl) ?_
  refine Wp.seq ?_
  refine Wp.region hΓ [] [] [] [0, 1, 2] [] (K' := [(0, .val (.int .u64 a0)), (1, .val (.int .i64 a1)), (2, .val (.int .i64 a2))]) (L' := []) (ob := []) (by kernel_rfl) AllP.nil ?_
  refine To.thenN ?_
  refine Wp.seq ?_
  obtain ⟨r1, hr1, h⟩ := bind_of h
  refine Wp.region hΓ [] [(2, .tup [.val (.int .u64 r1.1), .val (.int .u64 r1.2)])] [] [0, 1, 2, 7, 8] [] (K' := [(0, .val (.int .u64 a0)), (1, .val (.int .i64 a1)), (2, .val (.int .i64 a2)), (7, .val (.int .u64 r1.1)), (8, .val (.int .u64 r1.2))]) (L' := []) (ob := [(true = true → CX Try.prog 31 [.val (.int .u64 a0), .val (.int .u64 a0)] (.tup [.val (.int .u64 r1.1), .val (.int .u64 r1.2)]))]) (by kernel_rfl) (AllP.cons (fun _ => cx (ok_math_bits_Mul64 n a0 a0 _ hr1)) AllP.nil) ?_
  refine To.thenN ?_
  refine Wp.seq ?_
  refine Wp.seq ?_
  refine Wp.region hΓ [] [] [] [0, 1, 7, 8, 19] [] (K' := [(0, .val (.int .u64 a0)), (1, .val (.int .i64 a1)), (7, .val (.int .u64 r1.1)), (8, .val (.int .u64 r1.2)), (19, .val (.bool (a2 == 2)))]) (L' := []) (ob := []) (by kernel_rfl) AllP.nil ?_
  refine To.thenN ?_
  refine Wp.cond (b := (a2 == 2)) (by kernel_rfl) (fun hb => ?_) (fun hb => ?_)
  · replace h := if_t hb h
    refine Wp.seq ?_
    obtain ⟨x2, hx2, h⟩ := lett_of h
    refine Wp.region hΓ [] [] [] [6] [] (K' := [(6, .val (.bool (bif (decide (r1.1 > (IntKind.wrap .u64 (a1)))) then true else (bif (r1.1 == (IntKind.wrap .u64 (a1))) then (decide (r1.2 > 0)) else false))))]) (L' := []) (ob := []) (by kernel_rfl) AllP.nil ?_
    refine To.eq (K' := [(6, .val (.bool x2))]) (L' := []) (by cases hx2; rfl) (by cases hx2; rfl) ?_
    refine To.thenN ?_
    refine Wp.ret ?_
    refine To.thenR ?_
    refine To.keep (kk := [6]) (kl := []) (K' := [(6, .val (.bool x2))]) (L' := []) (by kernel_rfl) (by kernel_rfl) ?_
    cases h
    exact To.done hΓ (by kernel_rfl)
  · replace h := if_f hb h
    refine Wp.skip ?_
    refine To.thenN ?_
    refine Wp.seq ?_
    obtain ⟨r3, hr3, h⟩ := bind_of h
    refine Wp.region hΓ [] [(2, .tup [.val (.int .u64 r3.1), .val (.int .u64 r3.2)])] [] [0, 1, 7, 9, 10] [] (K' := [(0, .val (.int .u64 a0)), (1, .val (.int .i64 a1)), (7, .val (.int .u64 r1.1)), (9, .val (.int .u64 r3.1)), (10, .val (.int .u64 r3.2))]) (L' := []) (ob := [(true = true → CX Try.prog 31 [.val (.int .u64 r1.2), .val (.int .u64 a0)] (.tup [.val (.int .u64 r3.1), .val (.int .u64 r3.2)]))]) (by kernel_rfl) (AllP.cons (fun _ => cx (ok_math_bits_Mul64 n r1.2 a0 _ hr3)) AllP.nil) ?_
    refine To.thenN ?_
    refine Wp.seq ?_
    refine Wp.region hΓ [] [] [] [1, 9, 10] [] (K' := [(1, .val (.int .i64 a1)), (9, .val (.int .u64 (IntKind.wrap .u64 (r3.1 + (IntKind.wrap .u64 (r1.1 * a0)))))), (10, .val (.int .u64 r3.2))]) (L' := []) (ob := []) (by kernel_rfl) AllP.nil ?_
    refine To.thenN ?_
    refine Wp.seq ?_
    obtain ⟨hc5, h⟩ := chk_of h
    refine Wp.region hΓ [] [] [] [9, 10, 11] [] (K' := [(9, .val (.int .u64 (IntKind.wrap .u64 (r3.1 + (IntKind.wrap .u64 (r1.1 * a0)))))), (10, .val (.int .u64 r3.2)), (11, .val (.int .u64 (IntKind.wrap .u64 ((IntKind.wrap .u64 (a1)) * 2 ^ (min (Int.toNat 32) (IntKind.bits .u64))))))]) (L' := []) (ob := [(decide (0 ≤ (32 : Int))) = true]) (by kernel_rfl) (AllP.cons hc5 AllP.nil) ?_
    refine To.thenN ?_
    refine Wp.seq ?_
    obtain ⟨x4, hx4, h⟩ := lett_of h
    refine Wp.region hΓ [] [] [] [6] [] (K' := [(6, .val (.bool (bif (decide ((IntKind.wrap .u64 (r3.1 + (IntKind.wrap .u64 (r1.1 * a0)))) > (IntKind.wrap .u64 ((IntKind.wrap .u64 (a1)) * 2 ^ (min (Int.toNat 32) (IntKind.bits .u64)))))) then true else (bif ((IntKind.wrap .u64 (r3.1 + (IntKind.wrap .u64 (r1.1 * a0)))) == (IntKind.wrap .u64 ((IntKind.wrap .u64 (a1)) * 2 ^ (min (Int.toNat 32) (IntKind.bits .u64))))) then (decide (r3.2 > 0)) else false))))]) (L' := []) (ob := []) (by kernel_rfl) AllP.nil ?_
    refine To.eq (K' := [(6, .val (.bool x4))]) (L' := []) (by cases hx4; rfl) (by cases hx4; rfl) ?_
    refine To.thenN ?_
    refine Wp.ret ?_
    refine To.keep (kk := [6]) (kl := []) (K' := [(6, .val (.bool x4))]) (L' := []) (by kernel_rfl) (by kernel_rfl) ?_
    cases h
    exact To.done hΓ (by kernel_rfl)
def sha_Root_l1 (n : Nat) (v0 : Int) (v1 : Int) : Nat → Int → Int → Option (Int)
  | 0, _, _ => none
  | k + 1, v5, v6 => if (decide ((IntKind.wrap .u64 (v6 - v5)) > 1)) = true then (if ((2 != 0)) = true then ((sha_above n (IntKind.wrap .u64 (v5 + (IntKind.wrap .u64 (Int.tdiv (IntKind.wrap .u64 (v6 - v5)) 2)))) v0 v1).bind fun r2 =>
  if r2 = true then (sha_Root_l1 n v0 v1 k v5 (IntKind.wrap .u64 (v5 + (IntKind.wrap .u64 (Int.tdiv (IntKind.wrap .u64 (v6 - v5)) 2)))))
  else (sha_Root_l1 n v0 v1 k (IntKind.wrap .u64 (v5 + (IntKind.wrap .u64 (Int.tdiv (IntKind.wrap .u64 (v6 - v5)) 2)))) v6)) else none)
  else some v5
theorem ok_sha_Root_l1 (n : Nat) (v0 : Int) (v1 : Int) {F0 : Fz} {w0 : Pt Try.prog} {Q : Exit → Act → World → Prop} (k : Nat) : ∀ (v5 : Int) (v6 : Int) (o : Int), sha_Root_l1 n v0 v1 k v5 v6 = some o → To 40 F0 w0 [(5, .val (.int .u64 o))] [] (.exit 0) Q → WL Try.prog 40 F0 w0 [(0, .val (.int .i64 v0)), (1, .val (.int .i64 v1)), (5, .val (.int .u64 v5)), (6, .val (.int .u64 v6))] [] (cI (cI (cA (cB (cB (cB (cF Try.f10))))))) Q := by
  induction k with
  | zero => intro v5 v6 o h; cases h
  | succ k ih =>
    intro v5 v6 o h hQ
    rw [sha_Root_l1] at h
    refine WL.round ?_
    refine Wp.seq ?_
    refine Wp.seq ?_
    refine Wp.region hΓ [] [] [] [0, 1, 5, 6, 25] [] (K' := [(0, .val (.int .i64 v0)), (1, .val (.int .i64 v1)), (5, .val (.int .u64 v5)), (6, .val (.int .u64 v6)), (25, .val (.bool (decide ((IntKind.wrap .u64 (v6 - v5)) > 1))))]) (L' := []) (ob := []) (by kernel_rfl) AllP.nil ?_
    refine To.thenN ?_
    refine Wp.cond (b := (decide ((IntKind.wrap .u64 (v6 - v5)) > 1))) (by kernel_rfl) (fun hb => ?_) (fun hb => ?_)
    · replace h := if_t hb h
      refine Wp.skip ?_
      refine To.thenN ?_
      refine Wp.block ?_
      refine Wp.seq ?_
      obtain ⟨hc3, h⟩ := chk_of h
      refine Wp.region hΓ [] [] [] [0, 1, 5, 6, 7] [] (K' := [(0, .val (.int .i64 v0)), (1, .val (.int .i64 v1)), (5, .val (.int .u64 v5)), (6, .val (.int .u64 v6)), (7, .val (.int .u64 (IntKind.wrap .u64 (v5 + (IntKind.wrap .u64 (Int.tdiv (IntKind.wrap .u64 (v6 - v5)) 2))))))]) (L' := []) (ob := [((2 != 0)) = true]) (by kernel_rfl) (AllP.cons hc3 AllP.nil) ?_
      refine To.thenN ?_
      refine Wp.seq ?_
      obtain ⟨r2, hr2, h⟩ := bind_of h
      refine Wp.region hΓ [] [(3, .val (.bool r2))] [] [0, 1, 5, 6, 7, 35] [] (K' := [(0, .val (.int .i64 v0)), (1, .val (.int .i64 v1)), (5, .val (.int .u64 v5)), (6, .val (.int .u64 v6)), (7, .val (.int .u64 (IntKind.wrap .u64 (v5 + (IntKind.wrap .u64 (Int.tdiv (IntKind.wrap .u64 (v6 - v5)) 2)))))), (35, .val (.bool r2))]) (L' := []) (ob := [(true = true → CX Try.prog 22 [.val (.int .u64 (IntKind.wrap .u64 (v5 + (IntKind.wrap .u64 (Int.tdiv (IntKind.wrap .u64 (v6 - v5)) 2))))), .val (.int .i64 v0), .val (.int .i64 v1)] (.val (.bool r2)))]) (by kernel_rfl) (AllP.cons (fun _ => cx (ok_sha_above n (IntKind.wrap .u64 (v5 + (IntKind.wrap .u64 (Int.tdiv (IntKind.wrap .u64 (v6 - v5)) 2)))) v0 v1 _ hr2)) AllP.nil) ?_
      refine To.thenN ?_
      refine Wp.cond (b := r2) (by kernel_rfl) (fun hb => ?_) (fun hb => ?_)
      · replace h := if_t hb h
        refine Wp.region hΓ [] [] [] [0, 1, 5, 6] [] (K' := [(0, .val (.int .i64 v0)), (1, .val (.int .i64 v1)), (5, .val (.int .u64 v5)), (6, .val (.int .u64 (IntKind.wrap .u64 (v5 + (IntKind.wrap .u64 (Int.tdiv (IntKind.wrap .u64 (v6 - v5)) 2))))))]) (L' := []) (ob := []) (by kernel_rfl) AllP.nil ?_
        refine To.blockN ?_
        refine To.keep (kk := [0, 1, 5, 6]) (kl := []) (K' := [(0, .val (.int .i64 v0)), (1, .val (.int .i64 v1)), (5, .val (.int .u64 v5)), (6, .val (.int .u64 (IntKind.wrap .u64 (v5 + (IntKind.wrap .u64 (Int.tdiv (IntKind.wrap .u64 (v6 - v5)) 2))))))]) (L' := []) (by kernel_rfl) (by kernel_rfl) ?_
        refine To.again ?_
        exact ih v5 (IntKind.wrap .u64 (v5 + (IntKind.wrap .u64 (Int.tdiv (IntKind.wrap .u64 (v6 - v5)) 2)))) _ h hQ
      · replace h := if_f hb h
        refine Wp.region hΓ [] [] [] [0, 1, 5, 6] [] (K' := [(0, .val (.int .i64 v0)), (1, .val (.int .i64 v1)), (5, .val (.int .u64 (IntKind.wrap .u64 (v5 + (IntKind.wrap .u64 (Int.tdiv (IntKind.wrap .u64 (v6 - v5)) 2)))))), (6, .val (.int .u64 v6))]) (L' := []) (ob := []) (by kernel_rfl) AllP.nil ?_
        refine To.blockN ?_
        refine To.keep (kk := [0, 1, 5, 6]) (kl := []) (K' := [(0, .val (.int .i64 v0)), (1, .val (.int .i64 v1)), (5, .val (.int .u64 (IntKind.wrap .u64 (v5 + (IntKind.wrap .u64 (Int.tdiv (IntKind.wrap .u64 (v6 - v5)) 2)))))), (6, .val (.int .u64 v6))]) (L' := []) (by kernel_rfl) (by kernel_rfl) ?_
        refine To.again ?_
        exact ih (IntKind.wrap .u64 (v5 + (IntKind.wrap .u64 (Int.tdiv (IntKind.wrap .u64 (v6 - v5)) 2)))) v6 _ h hQ
    · replace h := if_f hb h
      refine Wp.exit ?_
      refine To.thenX ?_
      refine To.thenX ?_
      refine To.keep (kk := [5]) (kl := []) (K' := [(5, .val (.int .u64 v5))]) (L' := []) (by kernel_rfl) (by kernel_rfl) ?_
      cases h
      exact hQ
def sha_Root (n : Nat) (a0 : Int) (a1 : Int) : Option (Int) :=
  lett ((bif (bif (decide (a0 < 1)) then true else (decide (a0 > 1000))) then true else (bif (a1 != 2) then (a1 != 3) else false)) : Bool) fun x1 =>
  if x1 = true then some 0
  else ((sha_Root_l1 n a0 a1 n 0 274877906944).bind fun o2 =>
  some (IntKind.wrap .u32 (o2)))
theorem ok_sha_Root (n : Nat) (a0 : Int) (a1 : Int) (r : Int) (h : sha_Root n a0 a1 = some r) : CallsX Try.prog 10 [.val (.int .i64 a0), .val (.int .i64 a1)] (.val (.int .u32 r)) := by
  unfold sha_Root at h
  refine callsX_of (fn := Try.f10) (by kernel_rfl) rfl (by kernel_rfl) (Nat.le_of_ble_eq_true (by kernel_rfl)) fun F0 w0 _ => ?_
  refine Wp.keep (kk := [0, 1]) (kl := []) (K' := [(0, .val (.int .i64 a0)), (1, .val (.int .i64 a1))]) (L' := []) (by kernel_rfl) (by kernel_rfl) ?_
  refine Wp.seq ?_
  refine Wp.region hΓ [] [] [] [0, 1] [] (K' := [(0, .val (.int .i64 a0)), (1, .val (.int .i64 a1))]) (L' := []) (ob := []) (by kernel_rfl) AllP.nil ?_
  refine To.thenN ?_
  refine Wp.seq ?_
  refine Wp.seq ?_
  obtain ⟨x1, hx1, h⟩ := lett_of h
  refine Wp.region hΓ [] [] [] [0, 1, 21] [] (K' := [(0, .val (.int .i64 a0)), (1, .val (.int .i64 a1)), (21, .val (.bool (bif (bif (decide (a0 < 1)) then true else (decide (a0 > 1000))) then true else (bif (a1 != 2) then (a1 != 3) else false))))]) (L' := []) (ob := []) (by kernel_rfl) AllP.nil ?_
  refine To.eq (K' := [(0, .val (.int .i64 a0)), (1, .val (.int .i64 a1)), (21, .val (.bool x1))]) (L' := []) (by cases hx1; rfl) (by cases hx1; rfl) ?_
  refine To.thenN ?_
  refine Wp.cond (b := x1) (by kernel_rfl) (fun hb => ?_) (fun hb => ?_)
  · replace h := if_t hb h
    refine Wp.seq ?_
    refine Wp.region hΓ [] [] [] [4] [] (K' := [(4, .val (.int .u32 0))]) (L' := []) (ob := []) (by kernel_rfl) AllP.nil ?_
    refine To.thenN ?_
    refine Wp.ret ?_
    refine To.thenR ?_
    refine To.keep (kk := [4]) (kl := []) (K' := [(4, .val (.int .u32 0))]) (L' := []) (by kernel_rfl) (by kernel_rfl) ?_
    cases h
    exact To.done hΓ (by kernel_rfl)
  · replace h := if_f hb h
    refine Wp.skip ?_
    refine To.thenN ?_
    refine Wp.seq ?_
    refine Wp.region hΓ [] [] [] [0, 1, 5, 6] [] (K' := [(0, .val (.int .i64 a0)), (1, .val (.int .i64 a1)), (5, .val (.int .u64 0)), (6, .val (.int .u64 274877906944))]) (L' := []) (ob := []) (by kernel_rfl) AllP.nil ?_
    refine To.thenN ?_
    refine Wp.seq ?_
    refine Wp.block ?_
    obtain ⟨o2, ho2, h⟩ := bind_of h
    refine Wp.keep (kk := [0, 1, 5, 6]) (kl := []) (K' := [(0, .val (.int .i64 a0)), (1, .val (.int .i64 a1)), (5, .val (.int .u64 0)), (6, .val (.int .u64 274877906944))]) (L' := []) (by kernel_rfl) (by kernel_rfl) ?_
    refine Wp.loopL ?_
    refine ok_sha_Root_l1 n a0 a1 n 0 274877906944 o2 ho2 ?_
    refine To.blockX ?_
    refine To.thenN ?_
    refine Wp.seq ?_
    refine Wp.region hΓ [] [] [] [4] [] (K' := [(4, .val (.int .u32 (IntKind.wrap .u32 (o2))))]) (L' := []) (ob := []) (by kernel_rfl) AllP.nil ?_
    refine To.thenN ?_
    refine Wp.ret ?_
    refine To.keep (kk := [4]) (kl := []) (K' := [(4, .val (.int .u32 (IntKind.wrap .u32 (o2))))]) (L' := []) (by kernel_rfl) (by kernel_rfl) ?_
    cases h
    exact To.done hΓ (by kernel_rfl)
def E_i64 : Int → List D := fun x => [.val (.int .i64 x)]
theorem good_E_i64 (l : List (Int)) : GoodR (.recs 0 E_i64 l) := ⟨Nat.le_of_ble_eq_true (by kernel_rfl), fun _ => ⟨rfl, rfl⟩⟩
def sha_Primes_l3 (n : Nat) (v0 : Int) (v3 : List (Int)) (v4 : Int) (v17 : Int) : Nat → Int → Option (Sum (Unit) (Unit))
  | 0, _ => none
  | k + 1, v18 => if (decide (v18 < v17)) = true then (if (decide (0 ≤ v18 ∧ v18 < (List.length v3 : Int))) = true then (if ((((v3)[Int.toNat v18]?.getD 0) != 0)) = true then (if ((Int.tmod v4 ((v3)[Int.toNat v18]?.getD 0)) == 0) = true then (some (.inl ()))
  else (sha_Primes_l3 n v0 v3 v4 v17 k (IntKind.wrap .i64 (v18 + 1)))) else none) else none)
  else (some (.inr ()))
theorem ok_sha_Primes_l3 (n : Nat) (v0 : Int) (v3 : List (Int)) (v4 : Int) (v17 : Int) {F0 : Fz} {w0 : Pt Try.prog} {Q : Exit → Act → World → Prop} (k : Nat) : ∀ (v18 : Int) (o : Sum (Unit) (Unit)), sha_Primes_l3 n v0 v3 v4 v17 k v18 = some o → (Sum.elim (fun s => To 32 F0 w0 [(0, .val (.int .i64 v0)), (3, .row 1003), (4, .val (.int .i64 v4))] [(1003, 3, [.rowc false (α := Int) 0 E_i64 v3])] (.exit 1) Q) (fun s => To 32 F0 w0 [(0, .val (.int .i64 v0)), (3, .row 1003), (4, .val (.int .i64 v4))] [(1003, 3, [.rowc false (α := Int) 0 E_i64 v3])] (.exit 2) Q)) o → WL Try.prog 32 F0 w0 [(0, .val (.int .i64 v0)), (3, .row 1003), (4, .val (.int .i64 v4)), (16, .row 1003), (17, .val (.int .i64 v17)), (18, .val (.int .i64 v18))] [(1003, 3, [.rowc false (α := Int) 0 E_i64 v3])] (cI (cI (cB (cA (cI (cA (cB (cI (cI (cB (cA (cB (cB (cB (cI (cB (cF Try.f8))))))))))))))))) Q := by
  induction k with
  | zero => intro v18 o h; cases h
  | succ k ih =>
    intro v18 o h hQ
    rw [sha_Primes_l3] at h
    refine WL.round ?_
    refine Wp.seq ?_
    refine Wp.region hΓ [] [] [] [0, 3, 4, 16, 17, 18, 19] [1003] (K' := [(0, .val (.int .i64 v0)), (3, .row 1003), (4, .val (.int .i64 v4)), (16, .row 1003), (17, .val (.int .i64 v17)), (18, .val (.int .i64 v18)), (19, .val (.bool (decide (v18 < v17))))]) (L' := [(1003, 3, [.rowc false (α := Int) 0 E_i64 v3])]) (ob := []) (by kernel_rfl) AllP.nil ?_
    refine To.thenN ?_
    refine Wp.seq ?_
    refine Wp.cond (b := (decide (v18 < v17))) (by kernel_rfl) (fun hb => ?_) (fun hb => ?_)
    · replace h := if_t hb h
      refine Wp.skip ?_
      refine To.thenN ?_
      refine Wp.seq ?_
      refine Wp.block ?_
      refine Wp.seq ?_
      obtain ⟨hc2, h⟩ := chk_of h
      refine Wp.region hΓ [] [] [] [0, 3, 4, 6, 16, 17, 18] [1003] (K' := [(0, .val (.int .i64 v0)), (3, .row 1003), (4, .val (.int .i64 v4)), (6, .val (.int .i64 ((v3)[Int.toNat v18]?.getD 0))), (16, .row 1003), (17, .val (.int .i64 v17)), (18, .val (.int .i64 v18))]) (L' := [(1003, 3, [.rowc false (α := Int) 0 E_i64 v3])]) (ob := [(decide (0 ≤ v18 ∧ v18 < (List.length v3 : Int))) = true, (decide (0 ≤ v18 ∧ v18 < (List.length v3 : Int))) = true]) (by kernel_rfl) (AllP.cons hc2 (AllP.cons hc2 AllP.nil)) ?_
      refine To.thenN ?_
      refine Wp.seq ?_
      obtain ⟨hc1, h⟩ := chk_of h
      refine Wp.region hΓ [] [] [] [0, 3, 4, 16, 17, 18, 25] [1003] (K' := [(0, .val (.int .i64 v0)), (3, .row 1003), (4, .val (.int .i64 v4)), (16, .row 1003), (17, .val (.int .i64 v17)), (18, .val (.int .i64 v18)), (25, .val (.bool ((Int.tmod v4 ((v3)[Int.toNat v18]?.getD 0)) == 0)))]) (L' := [(1003, 3, [.rowc false (α := Int) 0 E_i64 v3])]) (ob := [((((v3)[Int.toNat v18]?.getD 0) != 0)) = true]) (by kernel_rfl) (AllP.cons hc1 AllP.nil) ?_
      refine To.thenN ?_
      refine Wp.cond (b := ((Int.tmod v4 ((v3)[Int.toNat v18]?.getD 0)) == 0)) (by kernel_rfl) (fun hb => ?_) (fun hb => ?_)
      · replace h := if_t hb h
        refine Wp.exit ?_
        refine To.blockO (by decide) ?_
        refine To.thenX ?_
        refine To.thenX ?_
        refine To.keep (kk := [0, 3, 4]) (kl := [1003]) (K' := [(0, .val (.int .i64 v0)), (3, .row 1003), (4, .val (.int .i64 v4))]) (L' := [(1003, 3, [.rowc false (α := Int) 0 E_i64 v3])]) (by kernel_rfl) (by kernel_rfl) ?_
        cases h
        exact hQ
      · replace h := if_f hb h
        refine Wp.skip ?_
        refine To.blockN ?_
        refine To.thenN ?_
        refine Wp.region hΓ [] [] [] [0, 3, 4, 16, 17, 18] [1003] (K' := [(0, .val (.int .i64 v0)), (3, .row 1003), (4, .val (.int .i64 v4)), (16, .row 1003), (17, .val (.int .i64 v17)), (18, .val (.int .i64 (IntKind.wrap .i64 (v18 + 1))))]) (L' := [(1003, 3, [.rowc false (α := Int) 0 E_i64 v3])]) (ob := []) (by kernel_rfl) AllP.nil ?_
        refine To.keep (kk := [0, 3, 4, 16, 17, 18]) (kl := [1003]) (K' := [(0, .val (.int .i64 v0)), (3, .row 1003), (4, .val (.int .i64 v4)), (16, .row 1003), (17, .val (.int .i64 v17)), (18, .val (.int .i64 (IntKind.wrap .i64 (v18 + 1))))]) (L' := [(1003, 3, [.rowc false (α := Int) 0 E_i64 v3])]) (by kernel_rfl) (by kernel_rfl) ?_
        refine To.again ?_
        exact ih (IntKind.wrap .i64 (v18 + 1)) _ h hQ
    · replace h := if_f hb h
      refine Wp.exit ?_
      refine To.thenX ?_
      refine To.thenX ?_
      refine To.keep (kk := [0, 3, 4]) (kl := [1003]) (K' := [(0, .val (.int .i64 v0)), (3, .row 1003), (4, .val (.int .i64 v4))]) (L' := [(1003, 3, [.rowc false (α := Int) 0 E_i64 v3])]) (by kernel_rfl) (by kernel_rfl) ?_
      cases h
      exact hQ
def sha_Primes_j2 (n : Nat) (v0 : Int) (v3 : List (Int)) (v4 : Int) : Option ((List (Int))) :=
  (sha_Primes_l3 n v0 v3 v4 (List.length v3 : Int) n 0).bind fun o1 =>
  (Sum.elim (fun o1 => some v3) (fun o1 => if (decide ((List.length v3 + List.length ([v4] : List (Int))) * (8 + 1) ≤ limit)) = true then (some (v3 ++ ([v4] : List (Int)))) else none)) o1
theorem ok_sha_Primes_j2 (n : Nat) (v0 : Int) (v3 : List (Int)) (v4 : Int) (o : (List (Int))) (h : sha_Primes_j2 n v0 v3 v4 = some o) {F0 : Fz} {w0 : Pt Try.prog} {Q : Exit → Act → World → Prop} (hQ : To 32 F0 w0 [(0, .val (.int .i64 v0)), (3, .row 1003), (4, .val (.int .i64 v4))] [(1003, 3, [.rowc false (α := Int) 0 E_i64 o])] .normal Q) : Wp Try.prog 32 F0 w0 [(0, .val (.int .i64 v0)), (3, .row 1003), (4, .val (.int .i64 v4))] [(1003, 3, [.rowc false (α := Int) 0 E_i64 v3])] (cA (cB (cI (cI (cB (cA (cB (cB (cB (cI (cB (cF Try.f8)))))))))))) Q := by
  unfold sha_Primes_j2 at h
  refine Wp.block ?_
  refine Wp.seq ?_
  refine Wp.seq ?_
  refine Wp.region hΓ [] [] [] [0, 3, 4, 16, 17, 18] [1003] (K' := [(0, .val (.int .i64 v0)), (3, .row 1003), (4, .val (.int .i64 v4)), (16, .row 1003), (17, .val (.int .i64 (List.length v3 : Int))), (18, .val (.int .i64 0))]) (L' := [(1003, 3, [.rowc false (α := Int) 0 E_i64 v3])]) (ob := []) (by kernel_rfl) AllP.nil ?_
  refine To.thenN ?_
  refine Wp.block ?_
  obtain ⟨o1, ho1, h⟩ := bind_of h
  refine Wp.keep (kk := [0, 3, 4, 16, 17, 18]) (kl := [1003]) (K' := [(0, .val (.int .i64 v0)), (3, .row 1003), (4, .val (.int .i64 v4)), (16, .row 1003), (17, .val (.int .i64 (List.length v3 : Int))), (18, .val (.int .i64 0))]) (L' := [(1003, 3, [.rowc false (α := Int) 0 E_i64 v3])]) (by kernel_rfl) (by kernel_rfl) ?_
  refine Wp.loopL ?_
  refine ok_sha_Primes_l3 n v0 v3 v4 (List.length v3 : Int) n 0 o1 ho1 ?_
  rcases o1 with o1 | o1
  · replace h := sum_l h
    refine To.blockO (by decide) ?_
    refine To.thenX ?_
    refine To.blockX ?_
    refine To.keep (kk := [0, 3, 4]) (kl := [1003]) (K' := [(0, .val (.int .i64 v0)), (3, .row 1003), (4, .val (.int .i64 v4))]) (L' := [(1003, 3, [.rowc false (α := Int) 0 E_i64 v3])]) (by kernel_rfl) (by kernel_rfl) ?_
    cases h
    exact hQ
  · replace h := sum_r h
    refine To.blockX ?_
    refine To.thenN ?_
    obtain ⟨hc2, h⟩ := chk_of h
    refine Wp.region hΓ [] [(2, .recs (α := Int) 0 E_i64 [v4]), (3, .recs (α := Int) 0 E_i64 (v3 ++ ([v4] : List (Int))))] [] [0, 3, 4] [30] (K' := [(0, .val (.int .i64 v0)), (3, .row 30), (4, .val (.int .i64 v4))]) (L' := [(30, 3, [.rowc false (α := Int) 0 E_i64 (v3 ++ ([v4] : List (Int)))])]) (ob := [(MkOb 1 [.val (.int .i64 v4)] 1 (.recs (α := Int) 0 E_i64 [v4]) ∧ GoodR (.recs (α := Int) 0 E_i64 [v4])), (decide ((List.length v3 + List.length ([v4] : List (Int))) * (8 + 1) ≤ limit)) = true, (AppOb 0 E_i64 v3 (List.flatMap E_i64 ([v4] : List (Int))) (List.length ([v4] : List (Int))) (.recs (α := Int) 0 E_i64 (v3 ++ ([v4] : List (Int)))) ∧ GoodR (.recs (α := Int) 0 E_i64 (v3 ++ ([v4] : List (Int)))))]) (by kernel_rfl) (AllP.cons (mkOb (by kernel_rfl) rfl (by kernel_rfl) (good_E_i64 _)) (AllP.cons hc2 (AllP.cons (appOb rfl rfl (good_E_i64 _)) AllP.nil))) ?_
    refine To.blockN ?_
    refine To.keep (kk := [0, 3, 4]) (kl := [30]) (K' := [(0, .val (.int .i64 v0)), (3, .row 30), (4, .val (.int .i64 v4))]) (L' := [(30, 3, [.rowc false (α := Int) 0 E_i64 (v3 ++ ([v4] : List (Int)))])]) (by kernel_rfl) (by kernel_rfl) ?_
    refine To.pre (St.rename 30 1003 (by decide) (K' := [(0, .val (.int .i64 v0)), (3, .row 1003), (4, .val (.int .i64 v4))]) (L' := [(1003, 3, [.rowc false (α := Int) 0 E_i64 (v3 ++ ([v4] : List (Int)))])]) (by kernel_rfl) (by kernel_rfl) (by kernel_rfl)) ?_
    refine To.keep (kk := [0, 3, 4]) (kl := [1003]) (K' := [(0, .val (.int .i64 v0)), (3, .row 1003), (4, .val (.int .i64 v4))]) (L' := [(1003, 3, [.rowc false (α := Int) 0 E_i64 (v3 ++ ([v4] : List (Int)))])]) (by kernel_rfl) (by kernel_rfl) ?_
    cases h
    exact hQ
def sha_Primes_l1 (n : Nat) (v0 : Int) : Nat → (List (Int)) → Int → Option ((List (Int)))
  | 0, _, _ => none
  | k + 1, v3, v4 => if (decide ((List.length v3 : Int) < v0)) = true then ((sha_Primes_j2 n v0 v3 v4).bind fun o1 =>
  sha_Primes_l1 n v0 k o1 (IntKind.wrap .i64 (v4 + 1)))
  else some v3
theorem ok_sha_Primes_l1 (n : Nat) (v0 : Int) {F0 : Fz} {w0 : Pt Try.prog} {Q : Exit → Act → World → Prop} (k : Nat) : ∀ (v3 : List (Int)) (v4 : Int) (o : (List (Int))), sha_Primes_l1 n v0 k v3 v4 = some o → To 32 F0 w0 [(3, .row 1003)] [(1003, 3, [.rowc false (α := Int) 0 E_i64 o])] (.exit 0) Q → WL Try.prog 32 F0 w0 [(0, .val (.int .i64 v0)), (3, .row 1003), (4, .val (.int .i64 v4))] [(1003, 3, [.rowc false (α := Int) 0 E_i64 v3])] (cI (cI (cB (cA (cB (cB (cB (cI (cB (cF Try.f8)))))))))) Q := by
  induction k with
  | zero => intro v3 v4 o h; cases h
  | succ k ih =>
    intro v3 v4 o h hQ
    rw [sha_Primes_l1] at h
    refine WL.round ?_
    refine Wp.seq ?_
    refine Wp.seq ?_
    refine Wp.region hΓ [] [] [] [0, 3, 4, 13] [1003] (K' := [(0, .val (.int .i64 v0)), (3, .row 1003), (4, .val (.int .i64 v4)), (13, .val (.bool (decide ((List.length v3 : Int) < v0))))]) (L' := [(1003, 3, [.rowc false (α := Int) 0 E_i64 v3])]) (ob := []) (by kernel_rfl) AllP.nil ?_
    refine To.thenN ?_
    refine Wp.cond (b := (decide ((List.length v3 : Int) < v0))) (by kernel_rfl) (fun hb => ?_) (fun hb => ?_)
    · replace h := if_t hb h
      refine Wp.skip ?_
      refine To.thenN ?_
      refine Wp.seq ?_
      obtain ⟨o1, ho1, h⟩ := bind_of h
      refine Wp.keep (kk := [0, 3, 4]) (kl := [1003]) (K' := [(0, .val (.int .i64 v0)), (3, .row 1003), (4, .val (.int .i64 v4))]) (L' := [(1003, 3, [.rowc false (α := Int) 0 E_i64 v3])]) (by kernel_rfl) (by kernel_rfl) ?_
      refine ok_sha_Primes_j2 n v0 v3 v4 o1 ho1 ?_
      refine To.thenN ?_
      refine Wp.region hΓ [] [] [] [0, 3, 4] [1003] (K' := [(0, .val (.int .i64 v0)), (3, .row 1003), (4, .val (.int .i64 (IntKind.wrap .i64 (v4 + 1))))]) (L' := [(1003, 3, [.rowc false (α := Int) 0 E_i64 o1])]) (ob := []) (by kernel_rfl) AllP.nil ?_
      refine To.keep (kk := [0, 3, 4]) (kl := [1003]) (K' := [(0, .val (.int .i64 v0)), (3, .row 1003), (4, .val (.int .i64 (IntKind.wrap .i64 (v4 + 1))))]) (L' := [(1003, 3, [.rowc false (α := Int) 0 E_i64 o1])]) (by kernel_rfl) (by kernel_rfl) ?_
      refine To.again ?_
      exact ih o1 (IntKind.wrap .i64 (v4 + 1)) _ h hQ
    · replace h := if_f hb h
      refine Wp.exit ?_
      refine To.thenX ?_
      refine To.thenX ?_
      refine To.keep (kk := [3]) (kl := [1003]) (K' := [(3, .row 1003)]) (L' := [(1003, 3, [.rowc false (α := Int) 0 E_i64 v3])]) (by kernel_rfl) (by kernel_rfl) ?_
      cases h
      exact hQ
def sha_Primes (n : Nat) (a0 : Int) : Option ((List (Int))) :=
  if (decide (a0 > 100)) = true then (some [])
  else ((sha_Primes_l1 n a0 n ([] : List (Int)) 2).bind fun o1 =>
  some o1)
theorem ok_sha_Primes (n : Nat) (a0 : Int) (r : (List (Int))) (h : sha_Primes n a0 = some r) : CallsX Try.prog 8 [.val (.int .i64 a0)] (.recs (α := Int) 0 E_i64 r) := by
  unfold sha_Primes at h
  refine callsX_of (fn := Try.f8) (by kernel_rfl) rfl (by kernel_rfl) (Nat.le_of_ble_eq_true (by kernel_rfl)) fun F0 w0 _ => ?_
  refine Wp.keep (kk := [0]) (kl := []) (K' := [(0, .val (.int .i64 a0))]) (L' := []) (by kernel_rfl) (by kernel_rfl) ?_
  refine Wp.seq ?_
  refine Wp.region hΓ [] [] [] [0] [] (K' := [(0, .val (.int .i64 a0))]) (L' := []) (ob := []) (by kernel_rfl) AllP.nil ?_
  refine To.thenN ?_
  refine Wp.scope ?_
  refine Wp.seq ?_
  refine Wp.region hΓ [] [] [] [0, 3] [] (K' := [(0, .val (.int .i64 a0)), (3, .val (.slice none 0 0))]) (L' := []) (ob := []) (by kernel_rfl) AllP.nil ?_
  refine To.thenN ?_
  refine Wp.seq ?_
  refine Wp.seq ?_
  refine Wp.region hΓ [] [] [] [0, 3, 8] [] (K' := [(0, .val (.int .i64 a0)), (3, .val (.slice none 0 0)), (8, .val (.bool (decide (a0 > 100))))]) (L' := []) (ob := []) (by kernel_rfl) AllP.nil ?_
  refine To.thenN ?_
  refine Wp.cond (b := (decide (a0 > 100))) (by kernel_rfl) (fun hb => ?_) (fun hb => ?_)
  · replace h := if_t hb h
    refine Wp.seq ?_
    refine Wp.region hΓ [] [] [] [2] [] (K' := [(2, .val (.slice none 0 0))]) (L' := []) (ob := []) (by kernel_rfl) AllP.nil ?_
    refine To.thenN ?_
    refine Wp.ret ?_
    refine To.thenR ?_
    refine To.scope (.inr (.inl rfl)) ?_
    refine To.keep (kk := [2]) (kl := []) (K' := [(2, .val (.slice none 0 0))]) (L' := []) (by kernel_rfl) (by kernel_rfl) ?_
    refine To.weak (K' := [(2, .recs (α := Int) 0 E_i64 [])]) (L' := []) (.cons (.zero _ _) .nil) .nil ?_
    cases h
    exact To.done hΓ (by kernel_rfl)
  · replace h := if_f hb h
    refine Wp.skip ?_
    refine To.thenN ?_
    refine Wp.seq ?_
    refine Wp.label ?_
    refine To.thenN ?_
    refine Wp.seq ?_
    refine Wp.seq ?_
    refine Wp.region hΓ [] [] [] [0, 3, 4] [] (K' := [(0, .val (.int .i64 a0)), (3, .val (.slice none 0 0)), (4, .val (.int .i64 2))]) (L' := []) (ob := []) (by kernel_rfl) AllP.nil ?_
    refine To.thenN ?_
    refine Wp.block ?_
    obtain ⟨o1, ho1, h⟩ := bind_of h
    refine Wp.keep (kk := [0, 3, 4]) (kl := []) (K' := [(0, .val (.int .i64 a0)), (3, .val (.slice none 0 0)), (4, .val (.int .i64 2))]) (L' := []) (by kernel_rfl) (by kernel_rfl) ?_
    refine Wp.pre (St.vacant (t := 3) (k := 1003) (e := 3) (K' := [(0, .val (.int .i64 a0)), (3, .row 1003), (4, .val (.int .i64 2))]) (good_E_i64 _) (by decide) (by kernel_rfl) (by kernel_rfl)) ?_
    refine Wp.keep (kk := [0, 3, 4]) (kl := [1003]) (K' := [(0, .val (.int .i64 a0)), (3, .row 1003), (4, .val (.int .i64 2))]) (L' := [(1003, 3, [.rowc false (α := Int) 0 E_i64 []])]) (by kernel_rfl) (by kernel_rfl) ?_
    refine Wp.loopL ?_
    refine ok_sha_Primes_l1 n a0 n ([] : List (Int)) 2 o1 ho1 ?_
    refine To.blockX ?_
    refine To.thenN ?_
    refine Wp.seq ?_
    refine Wp.region hΓ [] [] [] [2] [1003] (K' := [(2, .row 1003)]) (L' := [(1003, 3, [.rowc false (α := Int) 0 E_i64 o1])]) (ob := []) (by kernel_rfl) AllP.nil ?_
    refine To.thenN ?_
    refine Wp.ret ?_
    refine To.scope (.inr (.inl rfl)) ?_
    refine To.keep (kk := [2]) (kl := [1003]) (K' := [(2, .row 1003)]) (L' := [(1003, 3, [.rowc false (α := Int) 0 E_i64 o1])]) (by kernel_rfl) (by kernel_rfl) ?_
    refine To.pre (St.settle (ks := [1003]) (kk := [2]) (kl := [1003]) (K' := [(2, .row 1003)]) (L' := [(1003, 3, [.rowc true (α := Int) 0 E_i64 o1])]) (by kernel_rfl)) ?_
    refine To.pre (St.sealK [2] (K' := [(2, .recs (α := Int) 0 E_i64 o1)]) (by kernel_rfl)) ?_
    refine To.keep (kk := [2]) (kl := []) (K' := [(2, .recs (α := Int) 0 E_i64 o1)]) (L' := []) (by kernel_rfl) (by kernel_rfl) ?_
    cases h
    exact To.done hΓ (by kernel_rfl)
def law05_same_l1 (n : Nat) (v0 : List (Int)) (v1 : List (Int)) : Nat → Int → Option (Sum (Unit) (Bool))
  | 0, _ => none
  | k + 1, v5 => if (decide (v5 < (List.length v0 : Int))) = true then (if (decide (0 ≤ v5 ∧ v5 < (List.length v0 : Int))) = true then (if (decide (0 ≤ v5 ∧ v5 < (List.length v1 : Int))) = true then (if (((v0)[Int.toNat v5]?.getD 0) != ((v1)[Int.toNat v5]?.getD 0)) = true then (some (.inr false))
  else (law05_same_l1 n v0 v1 k (IntKind.wrap .i64 (v5 + 1)))) else none) else none)
  else (some (.inl ()))
theorem ok_law05_same_l1 (n : Nat) (v0 : List (Int)) (v1 : List (Int)) {F0 : Fz} {w0 : Pt Try.prog} {Q : Exit → Act → World → Prop} (k : Nat) : ∀ (v5 : Int) (o : Sum (Unit) (Bool)), law05_same_l1 n v0 v1 k v5 = some o → (Sum.elim (fun s => To 26 F0 w0 [] [] (.exit 0) Q) (fun s => To 26 F0 w0 [(4, .val (.bool s))] [] .ret Q)) o → WL Try.prog 26 F0 w0 [(0, .recs (α := Int) 0 E_i64 v0), (1, .recs (α := Int) 0 E_i64 v1), (5, .val (.int .i64 v5))] [] (cI (cI (cB (cA (cB (cB (cF Try.f7))))))) Q := by
  induction k with
  | zero => intro v5 o h; cases h
  | succ k ih =>
    intro v5 o h hQ
    rw [law05_same_l1] at h
    refine WL.round ?_
    refine Wp.seq ?_
    refine Wp.seq ?_
    refine Wp.region hΓ [] [] [] [0, 1, 5, 14] [] (K' := [(0, .recs (α := Int) 0 E_i64 v0), (1, .recs (α := Int) 0 E_i64 v1), (5, .val (.int .i64 v5)), (14, .val (.bool (decide (v5 < (List.length v0 : Int)))))]) (L' := []) (ob := []) (by kernel_rfl) AllP.nil ?_
    refine To.thenN ?_
    refine Wp.cond (b := (decide (v5 < (List.length v0 : Int)))) (by kernel_rfl) (fun hb => ?_) (fun hb => ?_)
    · replace h := if_t hb h
      refine Wp.skip ?_
      refine To.thenN ?_
      refine Wp.seq ?_
      refine Wp.block ?_
      refine Wp.seq ?_
      obtain ⟨hc1, h⟩ := chk_of h
      obtain ⟨hc2, h⟩ := chk_of h
      refine Wp.regionD hm hΓ [] [0, 1, 5, 25] [] (K' := [(0, .recs (α := Int) 0 E_i64 v0), (1, .recs (α := Int) 0 E_i64 v1), (5, .val (.int .i64 v5)), (25, .val (.bool (((v0)[Int.toNat v5]?.getD 0) != ((v1)[Int.toNat v5]?.getD 0))))]) (L' := []) (ob := [(decide (0 ≤ v5 ∧ v5 < (List.length v0 : Int))) = true, (decide (0 ≤ v5 ∧ v5 < (List.length v1 : Int))) = true]) (by kernel_rfl) (AllP.cons hc1 (AllP.cons hc2 AllP.nil)) ?_
      refine To.thenN ?_
      refine Wp.cond (b := (((v0)[Int.toNat v5]?.getD 0) != ((v1)[Int.toNat v5]?.getD 0))) (by kernel_rfl) (fun hb => ?_) (fun hb => ?_)
      · replace h := if_t hb h
        refine Wp.seq ?_
        refine Wp.region hΓ [] [] [] [4] [] (K' := [(4, .val (.bool false))]) (L' := []) (ob := []) (by kernel_rfl) AllP.nil ?_
        refine To.thenN ?_
        refine Wp.ret ?_
        refine To.blockR ?_
        refine To.thenR ?_
        refine To.thenR ?_
        refine To.keep (kk := [4]) (kl := []) (K' := [(4, .val (.bool false))]) (L' := []) (by kernel_rfl) (by kernel_rfl) ?_
        cases h
        exact hQ
      · replace h := if_f hb h
        refine Wp.skip ?_
        refine To.blockN ?_
        refine To.thenN ?_
        refine Wp.region hΓ [] [] [] [0, 1, 5] [] (K' := [(0, .recs (α := Int) 0 E_i64 v0), (1, .recs (α := Int) 0 E_i64 v1), (5, .val (.int .i64 (IntKind.wrap .i64 (v5 + 1))))]) (L' := []) (ob := []) (by kernel_rfl) AllP.nil ?_
        refine To.keep (kk := [0, 1, 5]) (kl := []) (K' := [(0, .recs (α := Int) 0 E_i64 v0), (1, .recs (α := Int) 0 E_i64 v1), (5, .val (.int .i64 (IntKind.wrap .i64 (v5 + 1))))]) (L' := []) (by kernel_rfl) (by kernel_rfl) ?_
        refine To.again ?_
        exact ih (IntKind.wrap .i64 (v5 + 1)) _ h hQ
    · replace h := if_f hb h
      refine Wp.exit ?_
      refine To.thenX ?_
      refine To.thenX ?_
      refine To.keep (kk := []) (kl := []) (K' := []) (L' := []) (by kernel_rfl) (by kernel_rfl) ?_
      cases h
      exact hQ
def law05_same (n : Nat) (a0 : List (Int)) (a1 : List (Int)) : Option (Bool) :=
  if ((List.length a0 : Int) != (List.length a1 : Int)) = true then some false
  else ((law05_same_l1 n a0 a1 n 0).bind fun o1 =>
  (Sum.elim (fun o1 => some true) (fun o1 => some o1)) o1)
theorem ok_law05_same (n : Nat) (a0 : List (Int)) (a1 : List (Int)) (r : Bool) (h : law05_same n a0 a1 = some r) : CallsX Try.prog 7 [.recs (α := Int) 0 E_i64 a0, .recs (α := Int) 0 E_i64 a1] (.val (.bool r)) := by
  unfold law05_same at h
  refine callsX_of (fn := Try.f7) (by kernel_rfl) rfl (by kernel_rfl) (Nat.le_of_ble_eq_true (by kernel_rfl)) fun F0 w0 _ => ?_
  refine Wp.keep (kk := [0, 1]) (kl := []) (K' := [(0, .recs (α := Int) 0 E_i64 a0), (1, .recs (α := Int) 0 E_i64 a1)]) (L' := []) (by kernel_rfl) (by kernel_rfl) ?_
  refine Wp.seq ?_
  refine Wp.region hΓ [] [] [] [0, 1] [] (K' := [(0, .recs (α := Int) 0 E_i64 a0), (1, .recs (α := Int) 0 E_i64 a1)]) (L' := []) (ob := []) (by kernel_rfl) AllP.nil ?_
  refine To.thenN ?_
  refine Wp.seq ?_
  refine Wp.seq ?_
  refine Wp.region hΓ [] [] [] [0, 1, 10] [] (K' := [(0, .recs (α := Int) 0 E_i64 a0), (1, .recs (α := Int) 0 E_i64 a1), (10, .val (.bool ((List.length a0 : Int) != (List.length a1 : Int))))]) (L' := []) (ob := []) (by kernel_rfl) AllP.nil ?_
  refine To.thenN ?_
  refine Wp.cond (b := ((List.length a0 : Int) != (List.length a1 : Int))) (by kernel_rfl) (fun hb => ?_) (fun hb => ?_)
  · replace h := if_t hb h
    refine Wp.seq ?_
    refine Wp.region hΓ [] [] [] [4] [] (K' := [(4, .val (.bool false))]) (L' := []) (ob := []) (by kernel_rfl) AllP.nil ?_
    refine To.thenN ?_
    refine Wp.ret ?_
    refine To.thenR ?_
    refine To.keep (kk := [4]) (kl := []) (K' := [(4, .val (.bool false))]) (L' := []) (by kernel_rfl) (by kernel_rfl) ?_
    cases h
    exact To.done hΓ (by kernel_rfl)
  · replace h := if_f hb h
    refine Wp.skip ?_
    refine To.thenN ?_
    refine Wp.seq ?_
    refine Wp.seq ?_
    refine Wp.region hΓ [] [] [] [0, 1, 5] [] (K' := [(0, .recs (α := Int) 0 E_i64 a0), (1, .recs (α := Int) 0 E_i64 a1), (5, .val (.int .i64 0))]) (L' := []) (ob := []) (by kernel_rfl) AllP.nil ?_
    refine To.thenN ?_
    refine Wp.block ?_
    obtain ⟨o1, ho1, h⟩ := bind_of h
    refine Wp.keep (kk := [0, 1, 5]) (kl := []) (K' := [(0, .recs (α := Int) 0 E_i64 a0), (1, .recs (α := Int) 0 E_i64 a1), (5, .val (.int .i64 0))]) (L' := []) (by kernel_rfl) (by kernel_rfl) ?_
    refine Wp.loopL ?_
    refine ok_law05_same_l1 n a0 a1 n 0 o1 ho1 ?_
    rcases o1 with o1 | o1
    · replace h := sum_l h
      refine To.blockX ?_
      refine To.thenN ?_
      refine Wp.seq ?_
      refine Wp.region hΓ [] [] [] [4] [] (K' := [(4, .val (.bool true))]) (L' := []) (ob := []) (by kernel_rfl) AllP.nil ?_
      refine To.thenN ?_
      refine Wp.ret ?_
      refine To.keep (kk := [4]) (kl := []) (K' := [(4, .val (.bool true))]) (L' := []) (by kernel_rfl) (by kernel_rfl) ?_
      cases h
      exact To.done hΓ (by kernel_rfl)
    · replace h := sum_r h
      refine To.blockR ?_
      refine To.thenR ?_
      refine To.keep (kk := [4]) (kl := []) (K' := [(4, .val (.bool o1))]) (L' := []) (by kernel_rfl) (by kernel_rfl) ?_
      cases h
      exact To.done hΓ (by kernel_rfl)
def sha_Hex_l1 (n : Nat) (v0 : List UInt8) (v10 : Int) : Nat → (List (UInt8)) → Int → Option ((List (UInt8)))
  | 0, _, _ => none
  | k + 1, v3, v11 => if (decide (v11 < v10)) = true then (if (decide (0 ≤ v11 ∧ v11 < (List.length v0 : Int))) = true then (if (decide (0 ≤ (4 : Int))) = true then (if (decide (0 ≤ (Int.fdiv (((v0)[Int.toNat v11]?.getD 0).toNat : Int) (2 ^ (min (Int.toNat 4) (IntKind.bits .u8)))) ∧ (Int.fdiv (((v0)[Int.toNat v11]?.getD 0).toNat : Int) (2 ^ (min (Int.toNat 4) (IntKind.bits .u8)))) < (List.length ([48, 49, 50, 51, 52, 53, 54, 55, 56, 57, 97, 98, 99, 100, 101, 102] : List UInt8) : Int))) = true then (if (decide (0 ≤ (IntKind.wrap .u8 ((BitVec.ofInt (IntKind.bits .u8) (((v0)[Int.toNat v11]?.getD 0).toNat : Int) &&& BitVec.ofInt (IntKind.bits .u8) 15).toNat)) ∧ (IntKind.wrap .u8 ((BitVec.ofInt (IntKind.bits .u8) (((v0)[Int.toNat v11]?.getD 0).toNat : Int) &&& BitVec.ofInt (IntKind.bits .u8) 15).toNat)) < (List.length ([48, 49, 50, 51, 52, 53, 54, 55, 56, 57, 97, 98, 99, 100, 101, 102] : List UInt8) : Int))) = true then (if (decide ((List.length v3 + List.length ([((([48, 49, 50, 51, 52, 53, 54, 55, 56, 57, 97, 98, 99, 100, 101, 102] : List UInt8))[Int.toNat (Int.fdiv (((v0)[Int.toNat v11]?.getD 0).toNat : Int) (2 ^ (min (Int.toNat 4) (IntKind.bits .u8))))]?.getD 0), ((([48, 49, 50, 51, 52, 53, 54, 55, 56, 57, 97, 98, 99, 100, 101, 102] : List UInt8))[Int.toNat (IntKind.wrap .u8 ((BitVec.ofInt (IntKind.bits .u8) (((v0)[Int.toNat v11]?.getD 0).toNat : Int) &&& BitVec.ofInt (IntKind.bits .u8) 15).toNat))]?.getD 0)] : List (UInt8))) * (1 + 1) ≤ limit)) = true then (lett ((v3 ++ ([((([48, 49, 50, 51, 52, 53, 54, 55, 56, 57, 97, 98, 99, 100, 101, 102] : List UInt8))[Int.toNat (Int.fdiv (((v0)[Int.toNat v11]?.getD 0).toNat : Int) (2 ^ (min (Int.toNat 4) (IntKind.bits .u8))))]?.getD 0), ((([48, 49, 50, 51, 52, 53, 54, 55, 56, 57, 97, 98, 99, 100, 101, 102] : List UInt8))[Int.toNat (IntKind.wrap .u8 ((BitVec.ofInt (IntKind.bits .u8) (((v0)[Int.toNat v11]?.getD 0).toNat : Int) &&& BitVec.ofInt (IntKind.bits .u8) 15).toNat))]?.getD 0)] : List (UInt8))) : List (UInt8)) fun x1 =>
  sha_Hex_l1 n v0 v10 k x1 (IntKind.wrap .i64 (v11 + 1))) else none) else none) else none) else none) else none)
  else some v3
theorem ok_sha_Hex_l1 (n : Nat) (v0 : List UInt8) (v10 : Int) {F0 : Fz} {w0 : Pt Try.prog} {Q : Exit → Act → World → Prop} (k : Nat) : ∀ (v3 : List (UInt8)) (v11 : Int) (o : (List (UInt8))), sha_Hex_l1 n v0 v10 k v3 v11 = some o → To 30 F0 w0 [(3, .row 1003)] [(1003, 5, [.rowc false (α := UInt8) 0 e8 o])] (.exit 0) Q → WL Try.prog 30 F0 w0 [(0, .str v0), (3, .row 1003), (10, .val (.int .i64 v10)), (11, .val (.int .i64 v11))] [(1003, 5, [.rowc false (α := UInt8) 0 e8 v3])] (cI (cI (cB (cA (cB (cB (cF Try.f17))))))) Q := by
  induction k with
  | zero => intro v3 v11 o h; cases h
  | succ k ih =>
    intro v3 v11 o h hQ
    rw [sha_Hex_l1] at h
    refine WL.round ?_
    refine Wp.seq ?_
    refine Wp.region hΓ [] [] [] [0, 3, 10, 11, 12] [1003] (K' := [(0, .str v0), (3, .row 1003), (10, .val (.int .i64 v10)), (11, .val (.int .i64 v11)), (12, .val (.bool (decide (v11 < v10))))]) (L' := [(1003, 5, [.rowc false (α := UInt8) 0 e8 v3])]) (ob := []) (by kernel_rfl) AllP.nil ?_
    refine To.thenN ?_
    refine Wp.seq ?_
    refine Wp.cond (b := (decide (v11 < v10))) (by kernel_rfl) (fun hb => ?_) (fun hb => ?_)
    · replace h := if_t hb h
      refine Wp.skip ?_
      refine To.thenN ?_
      refine Wp.seq ?_
      refine Wp.block ?_
      refine Wp.seq ?_
      refine Wp.region hΓ [] [] [] [0, 3, 4, 10, 11] [1003] (K' := [(0, .str v0), (3, .row 1003), (4, .val (.int .i64 v11)), (10, .val (.int .i64 v10)), (11, .val (.int .i64 v11))]) (L' := [(1003, 5, [.rowc false (α := UInt8) 0 e8 v3])]) (ob := []) (by kernel_rfl) AllP.nil ?_
      refine To.thenN ?_
      obtain ⟨hc2, h⟩ := chk_of h
      obtain ⟨hc3, h⟩ := chk_of h
      obtain ⟨hc4, h⟩ := chk_of h
      obtain ⟨hc5, h⟩ := chk_of h
      obtain ⟨hc6, h⟩ := chk_of h
      obtain ⟨x1, hx1, h⟩ := lett_of h
      refine Wp.regionD hm hΓ [(11, .recs (α := UInt8) 0 e8 ([((([48, 49, 50, 51, 52, 53, 54, 55, 56, 57, 97, 98, 99, 100, 101, 102] : List UInt8))[Int.toNat (Int.fdiv (((v0)[Int.toNat v11]?.getD 0).toNat : Int) (2 ^ (min (Int.toNat 4) (IntKind.bits .u8))))]?.getD 0), ((([48, 49, 50, 51, 52, 53, 54, 55, 56, 57, 97, 98, 99, 100, 101, 102] : List UInt8))[Int.toNat (IntKind.wrap .u8 ((BitVec.ofInt (IntKind.bits .u8) (((v0)[Int.toNat v11]?.getD 0).toNat : Int) &&& BitVec.ofInt (IntKind.bits .u8) 15).toNat))]?.getD 0)])), (12, .row 26), (1012, .recs (α := UInt8) 0 e8 (v3 ++ ([((([48, 49, 50, 51, 52, 53, 54, 55, 56, 57, 97, 98, 99, 100, 101, 102] : List UInt8))[Int.toNat (Int.fdiv (((v0)[Int.toNat v11]?.getD 0).toNat : Int) (2 ^ (min (Int.toNat 4) (IntKind.bits .u8))))]?.getD 0), ((([48, 49, 50, 51, 52, 53, 54, 55, 56, 57, 97, 98, 99, 100, 101, 102] : List UInt8))[Int.toNat (IntKind.wrap .u8 ((BitVec.ofInt (IntKind.bits .u8) (((v0)[Int.toNat v11]?.getD 0).toNat : Int) &&& BitVec.ofInt (IntKind.bits .u8) 15).toNat))]?.getD 0)] : List (UInt8))))] [0, 3, 10, 11] [26] (K' := [(0, .str v0), (3, .row 26), (10, .val (.int .i64 v10)), (11, .val (.int .i64 v11))]) (L' := [(26, 5, [.rowc false (α := UInt8) 0 e8 (v3 ++ ([((([48, 49, 50, 51, 52, 53, 54, 55, 56, 57, 97, 98, 99, 100, 101, 102] : List UInt8))[Int.toNat (Int.fdiv (((v0)[Int.toNat v11]?.getD 0).toNat : Int) (2 ^ (min (Int.toNat 4) (IntKind.bits .u8))))]?.getD 0), ((([48, 49, 50, 51, 52, 53, 54, 55, 56, 57, 97, 98, 99, 100, 101, 102] : List UInt8))[Int.toNat (IntKind.wrap .u8 ((BitVec.ofInt (IntKind.bits .u8) (((v0)[Int.toNat v11]?.getD 0).toNat : Int) &&& BitVec.ofInt (IntKind.bits .u8) 15).toNat))]?.getD 0)] : List (UInt8)))])]) (ob := [(decide (0 ≤ v11 ∧ v11 < (List.length v0 : Int))) = true, (decide (0 ≤ (4 : Int))) = true, (decide (0 ≤ (Int.fdiv (((v0)[Int.toNat v11]?.getD 0).toNat : Int) (2 ^ (min (Int.toNat 4) (IntKind.bits .u8)))) ∧ (Int.fdiv (((v0)[Int.toNat v11]?.getD 0).toNat : Int) (2 ^ (min (Int.toNat 4) (IntKind.bits .u8)))) < (List.length ([48, 49, 50, 51, 52, 53, 54, 55, 56, 57, 97, 98, 99, 100, 101, 102] : List UInt8) : Int))) = true, (decide (0 ≤ v11 ∧ v11 < (List.length v0 : Int))) = true, (decide (0 ≤ (IntKind.wrap .u8 ((BitVec.ofInt (IntKind.bits .u8) (((v0)[Int.toNat v11]?.getD 0).toNat : Int) &&& BitVec.ofInt (IntKind.bits .u8) 15).toNat)) ∧ (IntKind.wrap .u8 ((BitVec.ofInt (IntKind.bits .u8) (((v0)[Int.toNat v11]?.getD 0).toNat : Int) &&& BitVec.ofInt (IntKind.bits .u8) 15).toNat)) < (List.length ([48, 49, 50, 51, 52, 53, 54, 55, 56, 57, 97, 98, 99, 100, 101, 102] : List UInt8) : Int))) = true, (true = true → MkOb 1 [.val (.int .u8 (((([48, 49, 50, 51, 52, 53, 54, 55, 56, 57, 97, 98, 99, 100, 101, 102] : List UInt8))[Int.toNat (Int.fdiv (((v0)[Int.toNat v11]?.getD 0).toNat : Int) (2 ^ (min (Int.toNat 4) (IntKind.bits .u8))))]?.getD 0).toNat : Int)), .val (.int .u8 (((([48, 49, 50, 51, 52, 53, 54, 55, 56, 57, 97, 98, 99, 100, 101, 102] : List UInt8))[Int.toNat (IntKind.wrap .u8 ((BitVec.ofInt (IntKind.bits .u8) (((v0)[Int.toNat v11]?.getD 0).toNat : Int) &&& BitVec.ofInt (IntKind.bits .u8) 15).toNat))]?.getD 0).toNat : Int))] 2 (.recs (α := UInt8) 0 e8 ([((([48, 49, 50, 51, 52, 53, 54, 55, 56, 57, 97, 98, 99, 100, 101, 102] : List UInt8))[Int.toNat (Int.fdiv (((v0)[Int.toNat v11]?.getD 0).toNat : Int) (2 ^ (min (Int.toNat 4) (IntKind.bits .u8))))]?.getD 0), ((([48, 49, 50, 51, 52, 53, 54, 55, 56, 57, 97, 98, 99, 100, 101, 102] : List UInt8))[Int.toNat (IntKind.wrap .u8 ((BitVec.ofInt (IntKind.bits .u8) (((v0)[Int.toNat v11]?.getD 0).toNat : Int) &&& BitVec.ofInt (IntKind.bits .u8) 15).toNat))]?.getD 0)])) ∧ GoodR (.recs (α := UInt8) 0 e8 ([((([48, 49, 50, 51, 52, 53, 54, 55, 56, 57, 97, 98, 99, 100, 101, 102] : List UInt8))[Int.toNat (Int.fdiv (((v0)[Int.toNat v11]?.getD 0).toNat : Int) (2 ^ (min (Int.toNat 4) (IntKind.bits .u8))))]?.getD 0), ((([48, 49, 50, 51, 52, 53, 54, 55, 56, 57, 97, 98, 99, 100, 101, 102] : List UInt8))[Int.toNat (IntKind.wrap .u8 ((BitVec.ofInt (IntKind.bits .u8) (((v0)[Int.toNat v11]?.getD 0).toNat : Int) &&& BitVec.ofInt (IntKind.bits .u8) 15).toNat))]?.getD 0)]))), (decide ((List.length v3 + List.length ([((([48, 49, 50, 51, 52, 53, 54, 55, 56, 57, 97, 98, 99, 100, 101, 102] : List UInt8))[Int.toNat (Int.fdiv (((v0)[Int.toNat v11]?.getD 0).toNat : Int) (2 ^ (min (Int.toNat 4) (IntKind.bits .u8))))]?.getD 0), ((([48, 49, 50, 51, 52, 53, 54, 55, 56, 57, 97, 98, 99, 100, 101, 102] : List UInt8))[Int.toNat (IntKind.wrap .u8 ((BitVec.ofInt (IntKind.bits .u8) (((v0)[Int.toNat v11]?.getD 0).toNat : Int) &&& BitVec.ofInt (IntKind.bits .u8) 15).toNat))]?.getD 0)] : List (UInt8))) * (1 + 1) ≤ limit)) = true, (AppOb 0 e8 v3 (List.flatMap e8 ([((([48, 49, 50, 51, 52, 53, 54, 55, 56, 57, 97, 98, 99, 100, 101, 102] : List UInt8))[Int.toNat (Int.fdiv (((v0)[Int.toNat v11]?.getD 0).toNat : Int) (2 ^ (min (Int.toNat 4) (IntKind.bits .u8))))]?.getD 0), ((([48, 49, 50, 51, 52, 53, 54, 55, 56, 57, 97, 98, 99, 100, 101, 102] : List UInt8))[Int.toNat (IntKind.wrap .u8 ((BitVec.ofInt (IntKind.bits .u8) (((v0)[Int.toNat v11]?.getD 0).toNat : Int) &&& BitVec.ofInt (IntKind.bits .u8) 15).toNat))]?.getD 0)] : List (UInt8))) (List.length ([((([48, 49, 50, 51, 52, 53, 54, 55, 56, 57, 97, 98, 99, 100, 101, 102] : List UInt8))[Int.toNat (Int.fdiv (((v0)[Int.toNat v11]?.getD 0).toNat : Int) (2 ^ (min (Int.toNat 4) (IntKind.bits .u8))))]?.getD 0), ((([48, 49, 50, 51, 52, 53, 54, 55, 56, 57, 97, 98, 99, 100, 101, 102] : List UInt8))[Int.toNat (IntKind.wrap .u8 ((BitVec.ofInt (IntKind.bits .u8) (((v0)[Int.toNat v11]?.getD 0).toNat : Int) &&& BitVec.ofInt (IntKind.bits .u8) 15).toNat))]?.getD 0)] : List (UInt8))) (.recs (α := UInt8) 0 e8 (v3 ++ ([((([48, 49, 50, 51, 52, 53, 54, 55, 56, 57, 97, 98, 99, 100, 101, 102] : List UInt8))[Int.toNat (Int.fdiv (((v0)[Int.toNat v11]?.getD 0).toNat : Int) (2 ^ (min (Int.toNat 4) (IntKind.bits .u8))))]?.getD 0), ((([48, 49, 50, 51, 52, 53, 54, 55, 56, 57, 97, 98, 99, 100, 101, 102] : List UInt8))[Int.toNat (IntKind.wrap .u8 ((BitVec.ofInt (IntKind.bits .u8) (((v0)[Int.toNat v11]?.getD 0).toNat : Int) &&& BitVec.ofInt (IntKind.bits .u8) 15).toNat))]?.getD 0)] : List (UInt8)))) ∧ GoodR (.recs (α := UInt8) 0 e8 (v3 ++ ([((([48, 49, 50, 51, 52, 53, 54, 55, 56, 57, 97, 98, 99, 100, 101, 102] : List UInt8))[Int.toNat (Int.fdiv (((v0)[Int.toNat v11]?.getD 0).toNat : Int) (2 ^ (min (Int.toNat 4) (IntKind.bits .u8))))]?.getD 0), ((([48, 49, 50, 51, 52, 53, 54, 55, 56, 57, 97, 98, 99, 100, 101, 102] : List UInt8))[Int.toNat (IntKind.wrap .u8 ((BitVec.ofInt (IntKind.bits .u8) (((v0)[Int.toNat v11]?.getD 0).toNat : Int) &&& BitVec.ofInt (IntKind.bits .u8) 15).toNat))]?.getD 0)] : List (UInt8)))))]) (by kernel_rfl) (AllP.cons hc2 (AllP.cons hc3 (AllP.cons hc4 (AllP.cons hc2 (AllP.cons hc5 (AllP.cons (fun _ => mkOb (All8.cells (ns := [(((([48, 49, 50, 51, 52, 53, 54, 55, 56, 57, 97, 98, 99, 100, 101, 102] : List UInt8))[Int.toNat (Int.fdiv (((v0)[Int.toNat v11]?.getD 0).toNat : Int) (2 ^ (min (Int.toNat 4) (IntKind.bits .u8))))]?.getD 0).toNat : Int), (((([48, 49, 50, 51, 52, 53, 54, 55, 56, 57, 97, 98, 99, 100, 101, 102] : List UInt8))[Int.toNat (IntKind.wrap .u8 ((BitVec.ofInt (IntKind.bits .u8) (((v0)[Int.toNat v11]?.getD 0).toNat : Int) &&& BitVec.ofInt (IntKind.bits .u8) 15).toNat))]?.getD 0).toNat : Int)]) (.cons rfl (.cons rfl .nil))) rfl rfl (good8 _)) (AllP.cons hc6 (AllP.cons (appOb rfl rfl (good8 _)) AllP.nil)))))))) ?_
      refine To.eq (K' := [(0, .str v0), (3, .row 26), (10, .val (.int .i64 v10)), (11, .val (.int .i64 v11))]) (L' := [(26, 5, [.rowc false (α := UInt8) 0 e8 x1])]) (by cases hx1; rfl) (by cases hx1; rfl) ?_
      refine To.blockN ?_
      refine To.thenN ?_
      refine Wp.region hΓ [] [] [] [0, 3, 10, 11] [26] (K' := [(0, .str v0), (3, .row 26), (10, .val (.int .i64 v10)), (11, .val (.int .i64 (IntKind.wrap .i64 (v11 + 1))))]) (L' := [(26, 5, [.rowc false (α := UInt8) 0 e8 x1])]) (ob := []) (by kernel_rfl) AllP.nil ?_
      refine To.keep (kk := [0, 3, 10, 11]) (kl := [26]) (K' := [(0, .str v0), (3, .row 26), (10, .val (.int .i64 v10)), (11, .val (.int .i64 (IntKind.wrap .i64 (v11 + 1))))]) (L' := [(26, 5, [.rowc false (α := UInt8) 0 e8 x1])]) (by kernel_rfl) (by kernel_rfl) ?_
      refine To.pre (St.rename 26 1003 (by decide) (K' := [(0, .str v0), (3, .row 1003), (10, .val (.int .i64 v10)), (11, .val (.int .i64 (IntKind.wrap .i64 (v11 + 1))))]) (L' := [(1003, 5, [.rowc false (α := UInt8) 0 e8 x1])]) (by kernel_rfl) (by kernel_rfl) (by kernel_rfl)) ?_
      refine To.keep (kk := [0, 3, 10, 11]) (kl := [1003]) (K' := [(0, .str v0), (3, .row 1003), (10, .val (.int .i64 v10)), (11, .val (.int .i64 (IntKind.wrap .i64 (v11 + 1))))]) (L' := [(1003, 5, [.rowc false (α := UInt8) 0 e8 x1])]) (by kernel_rfl) (by kernel_rfl) ?_
      refine To.again ?_
      exact ih x1 (IntKind.wrap .i64 (v11 + 1)) _ h hQ
    · replace h := if_f hb h
      refine Wp.exit ?_
      refine To.thenX ?_
      refine To.thenX ?_
      refine To.keep (kk := [3]) (kl := [1003]) (K' := [(3, .row 1003)]) (L' := [(1003, 5, [.rowc false (α := UInt8) 0 e8 v3])]) (by kernel_rfl) (by kernel_rfl) ?_
      cases h
      exact hQ
def sha_Hex (n : Nat) (a0 : List UInt8) : Option ((List UInt8)) :=
  if (decide (0 ≤ (0 : Int) ∧ (0 : Int) ≤ (IntKind.wrap .i64 (2 * (List.length a0 : Int))))) = true then (if (decide ((IntKind.wrap .i64 (2 * (List.length a0 : Int))) * ((1 + 1 : Nat) : Int) ≤ (limit : Int))) = true then ((sha_Hex_l1 n a0 (List.length a0 : Int) n ([] : List (UInt8)) 0).bind fun o1 =>
  some o1) else none) else none
theorem ok_sha_Hex (n : Nat) (a0 : List UInt8) (r : (List UInt8)) (h : sha_Hex n a0 = some r) : CallsX Try.prog 17 [.str a0] (.str r) := by
  unfold sha_Hex at h
  refine callsX_of (fn := Try.f17) (by kernel_rfl) rfl (by kernel_rfl) (Nat.le_of_ble_eq_true (by kernel_rfl)) fun F0 w0 _ => ?_
  refine Wp.keep (kk := [0]) (kl := []) (K' := [(0, .str a0)]) (L' := []) (by kernel_rfl) (by kernel_rfl) ?_
  refine Wp.seq ?_
  refine Wp.region hΓ [] [] [] [0] [] (K' := [(0, .str a0)]) (L' := []) (ob := []) (by kernel_rfl) AllP.nil ?_
  refine To.thenN ?_
  refine Wp.seq ?_
  obtain ⟨hc2, h⟩ := chk_of h
  obtain ⟨hc3, h⟩ := chk_of h
  refine Wp.region hΓ [] [(3, .recs (α := UInt8) 0 e8 [])] [] [0, 3] [8] (K' := [(0, .str a0), (3, .row 8)]) (L' := [(8, 5, [.rowc false (α := UInt8) 0 e8 []])]) (ob := [(decide (0 ≤ (0 : Int) ∧ (0 : Int) ≤ (IntKind.wrap .i64 (2 * (List.length a0 : Int))))) = true, (decide ((IntKind.wrap .i64 (2 * (List.length a0 : Int))) * ((1 + 1 : Nat) : Int) ≤ (limit : Int))) = true, (MadeOb [.val (.int .u8 0)] (Int.toNat 0) (.recs (α := UInt8) 0 e8 []) ∧ GoodR (.recs (α := UInt8) 0 e8 []))]) (by kernel_rfl) (AllP.cons hc2 (AllP.cons hc3 (AllP.cons (madeOb (by kernel_rfl) (good8 _)) AllP.nil))) ?_
  refine To.thenN ?_
  refine Wp.seq ?_
  refine Wp.seq ?_
  refine Wp.region hΓ [] [] [] [0, 3, 10, 11] [8] (K' := [(0, .str a0), (3, .row 8), (10, .val (.int .i64 (List.length a0 : Int))), (11, .val (.int .i64 0))]) (L' := [(8, 5, [.rowc false (α := UInt8) 0 e8 []])]) (ob := []) (by kernel_rfl) AllP.nil ?_
  refine To.thenN ?_
  refine Wp.block ?_
  obtain ⟨o1, ho1, h⟩ := bind_of h
  refine Wp.keep (kk := [0, 3, 10, 11]) (kl := [8]) (K' := [(0, .str a0), (3, .row 8), (10, .val (.int .i64 (List.length a0 : Int))), (11, .val (.int .i64 0))]) (L' := [(8, 5, [.rowc false (α := UInt8) 0 e8 []])]) (by kernel_rfl) (by kernel_rfl) ?_
  refine Wp.pre (St.rename 8 1003 (by decide) (K' := [(0, .str a0), (3, .row 1003), (10, .val (.int .i64 (List.length a0 : Int))), (11, .val (.int .i64 0))]) (L' := [(1003, 5, [.rowc false (α := UInt8) 0 e8 []])]) (by kernel_rfl) (by kernel_rfl) (by kernel_rfl)) ?_
  refine Wp.keep (kk := [0, 3, 10, 11]) (kl := [1003]) (K' := [(0, .str a0), (3, .row 1003), (10, .val (.int .i64 (List.length a0 : Int))), (11, .val (.int .i64 0))]) (L' := [(1003, 5, [.rowc false (α := UInt8) 0 e8 []])]) (by kernel_rfl) (by kernel_rfl) ?_
  refine Wp.loopL ?_
  refine ok_sha_Hex_l1 n a0 (List.length a0 : Int) n ([] : List (UInt8)) 0 o1 ho1 ?_
  refine To.blockX ?_
  refine To.thenN ?_
  refine Wp.seq ?_
  refine Wp.region hΓ [] [(1, .str o1)] [] [2] [] (K' := [(2, .str o1)]) (L' := []) (ob := [(true = true → StrOb (List.flatMap e8 o1) (.str o1))]) (by kernel_rfl) (AllP.cons (fun _ => strOb (flat8 _)) AllP.nil) ?_
  refine To.thenN ?_
  refine Wp.ret ?_
  refine To.keep (kk := [2]) (kl := []) (K' := [(2, .str o1)]) (L' := []) (by kernel_rfl) (by kernel_rfl) ?_
  cases h
  exact To.done hΓ (by kernel_rfl)
def law05_awake (n : Nat) : Option (Bool) :=
  (sha_Root n 2 3).bind fun r1 =>
  ((if ((r1 == 1116352408) == true) = true then sha_Root n 2 2 else some 0)).bind fun r2 =>
  ((if ((bif (r1 == 1116352408) then (r2 == 1779033703) else false) == true) = true then sha_Primes n 3 else some [])).bind fun r3 =>
  ((if ((bif (r1 == 1116352408) then (r2 == 1779033703) else false) == true) = true then law05_same n r3 [2, 3, 5] else some false)).bind fun r4 =>
  ((if ((bif (bif (r1 == 1116352408) then (r2 == 1779033703) else false) then r4 else false) == true) = true then sha_Hex n [15] else some [])).bind fun r5 =>
  lett ((bif (bif (bif (r1 == 1116352408) then (r2 == 1779033703) else false) then r4 else false) then (r5 == [48, 102]) else false) : Bool) fun x6 =>
  some x6
theorem ok_law05_awake (n : Nat) (r : Bool) (h : law05_awake n = some r) : CallsX Try.prog 12 [] (.val (.bool r)) := by
  unfold law05_awake at h
  refine callsX_of (fn := Try.f12) (by kernel_rfl) rfl (by kernel_rfl) (Nat.le_of_ble_eq_true (by kernel_rfl)) fun F0 w0 _ => ?_
  refine Wp.keep (kk := []) (kl := []) (K' := []) (L' := []) (by kernel_rfl) (by kernel_rfl) ?_
  refine Wp.seq ?_
  refine Wp.region hΓ [] [] [] [] [] (K' := []) (L' := []) (ob := []) (by kernel_rfl) AllP.nil ?_
  refine To.thenN ?_
  refine Wp.seq ?_
  obtain ⟨r1, hr1, h⟩ := bind_of h
  obtain ⟨r2, hr2, h⟩ := bind_of h
  obtain ⟨r3, hr3, h⟩ := bind_of h
  obtain ⟨r4, hr4, h⟩ := bind_of h
  obtain ⟨r5, hr5, h⟩ := bind_of h
  obtain ⟨x6, hx6, h⟩ := lett_of h
  refine Wp.region hΓ [] [(0, .val (.int .u32 r1)), (3, .val (.int .u32 r2)), (7, .recs (α := Int) 0 E_i64 r3), (8, .recs (α := Int) 0 E_i64 [2, 3, 5]), (9, .val (.bool r4)), (12, .str r5)] [] [0] [] (K' := [(0, .val (.bool (bif (bif (bif (r1 == 1116352408) then (r2 == 1779033703) else false) then r4 else false) then (r5 == [48, 102]) else false)))]) (L' := []) (ob := [(true = true → CX Try.prog 10 [.val (.int .i64 2), .val (.int .i64 3)] (.val (.int .u32 r1))), (((r1 == 1116352408) == true) = true → CX Try.prog 10 [.val (.int .i64 2), .val (.int .i64 2)] (.val (.int .u32 r2))), (((bif (r1 == 1116352408) then (r2 == 1779033703) else false) == true) = true → CX Try.prog 8 [.val (.int .i64 3)] (.recs (α := Int) 0 E_i64 r3)), (((bif (r1 == 1116352408) then (r2 == 1779033703) else false) == true) = true → MkOb 1 [.val (.int .i64 2), .val (.int .i64 3), .val (.int .i64 5)] 3 (.recs (α := Int) 0 E_i64 [2, 3, 5]) ∧ GoodR (.recs (α := Int) 0 E_i64 [2, 3, 5])), (((bif (r1 == 1116352408) then (r2 == 1779033703) else false) == true) = true → CX Try.prog 7 [.recs (α := Int) 0 E_i64 r3, .recs (α := Int) 0 E_i64 [2, 3, 5]] (.val (.bool r4))), (((bif (bif (r1 == 1116352408) then (r2 == 1779033703) else false) then r4 else false) == true) = true → CX Try.prog 17 [.str [15]] (.str r5))]) (by kernel_rfl) (AllP.cons (fun _ => cx (ok_sha_Root n 2 3 _ hr1)) (AllP.cons (fun hg => cx (ok_sha_Root n 2 2 _ (if_t hg hr2))) (AllP.cons (fun hg => cx (ok_sha_Primes n 3 _ (if_t hg hr3))) (AllP.cons (fun _ => mkOb (by kernel_rfl) rfl (by kernel_rfl) (good_E_i64 _)) (AllP.cons (fun hg => cx (ok_law05_same n r3 [2, 3, 5] _ (if_t hg hr4))) (AllP.cons (fun hg => cx (ok_sha_Hex n [15] _ (if_t hg hr5))) AllP.nil)))))) ?_
  refine To.eq (K' := [(0, .val (.bool x6))]) (L' := []) (by cases hx6; rfl) (by cases hx6; rfl) ?_
  refine To.thenN ?_
  refine Wp.ret ?_
  refine To.keep (kk := [0]) (kl := []) (K' := [(0, .val (.bool x6))]) (L' := []) (by kernel_rfl) (by kernel_rfl) ?_
  cases h
  exact To.done hΓ (by kernel_rfl)
theorem good_E_u32 (l : List (Int)) : GoodR (.recs 0 E_u32 l) := ⟨Nat.le_of_ble_eq_true (by kernel_rfl), fun _ => ⟨rfl, rfl⟩⟩
def sha_constants_l1 (n : Nat) (v4 : List (Int)) (v5 : Int) (b0 : List (Int)) : Nat → Int → (List (Int)) → Option ((List (Int)))
  | 0, _, _ => none
  | k + 1, v6, b1 => if (decide (v6 < v5)) = true then (if (decide (0 ≤ v6 ∧ v6 < (List.length v4 : Int))) = true then ((sha_Root n ((v4)[Int.toNat v6]?.getD 0) 3).bind fun r2 =>
  if (decide (0 ≤ v6 ∧ v6 < (64 : Int))) = true then (if (decide (0 ≤ v6 ∧ v6 < (List.length b1 : Int))) = true then (sha_constants_l1 n v4 v5 b0 k (IntKind.wrap .i64 (v6 + 1)) (List.set b1 (Int.toNat v6) r2)) else none) else none) else none)
  else some b1
theorem ok_sha_constants_l1 (n : Nat) (v4 : List (Int)) (v5 : Int) (b0 : List (Int)) {F0 : Fz} {w0 : Pt Try.prog} {Q : Exit → Act → World → Prop} (k : Nat) : ∀ (v6 : Int) (b1 : List (Int)) (o : (List (Int))), sha_constants_l1 n v4 v5 b0 k v6 b1 = some o → To 17 F0 w0 [(0, .elm 0 0 1 0), (1, .elm 1 0 1 0)] [(0, 41, [.rowc false (α := Int) 0 E_u32 b0]), (1, 41, [.rowc false (α := Int) 0 E_u32 o])] (.exit 0) Q → WL Try.prog 17 F0 w0 [(0, .elm 0 0 1 0), (1, .elm 1 0 1 0), (4, .recs (α := Int) 0 E_i64 v4), (5, .val (.int .i64 v5)), (6, .val (.int .i64 v6))] [(0, 41, [.rowc false (α := Int) 0 E_u32 b0]), (1, 41, [.rowc false (α := Int) 0 E_u32 b1])] (cI (cI (cB (cA (cB (cB (cF Try.f25))))))) Q := by
  induction k with
  | zero => intro v6 b1 o h; cases h
  | succ k ih =>
    intro v6 b1 o h hQ
    rw [sha_constants_l1] at h
    refine WL.round ?_
    refine Wp.seq ?_
    refine Wp.region hΓ [] [] [] [0, 1, 4, 5, 6, 7] [0, 1] (K' := [(0, .elm 0 0 1 0), (1, .elm 1 0 1 0), (4, .recs (α := Int) 0 E_i64 v4), (5, .val (.int .i64 v5)), (6, .val (.int .i64 v6)), (7, .val (.bool (decide (v6 < v5))))]) (L' := [(0, 41, [.rowc false (α := Int) 0 E_u32 b0]), (1, 41, [.rowc false (α := Int) 0 E_u32 b1])]) (ob := []) (by kernel_rfl) AllP.nil ?_
    refine To.thenN ?_
    refine Wp.seq ?_
    refine Wp.cond (b := (decide (v6 < v5))) (by kernel_rfl) (fun hb => ?_) (fun hb => ?_)
    · replace h := if_t hb h
      refine Wp.skip ?_
      refine To.thenN ?_
      refine Wp.seq ?_
      refine Wp.block ?_
      refine Wp.seq ?_
      obtain ⟨hc5, h⟩ := chk_of h
      refine Wp.region hΓ [] [] [] [0, 1, 2, 3, 4, 5, 6] [0, 1] (K' := [(0, .elm 0 0 1 0), (1, .elm 1 0 1 0), (2, .val (.int .i64 v6)), (3, .val (.int .i64 ((v4)[Int.toNat v6]?.getD 0))), (4, .recs (α := Int) 0 E_i64 v4), (5, .val (.int .i64 v5)), (6, .val (.int .i64 v6))]) (L' := [(0, 41, [.rowc false (α := Int) 0 E_u32 b0]), (1, 41, [.rowc false (α := Int) 0 E_u32 b1])]) (ob := [(decide (0 ≤ v6 ∧ v6 < (List.length v4 : Int))) = true]) (by kernel_rfl) (AllP.cons hc5 AllP.nil) ?_
      refine To.thenN ?_
      obtain ⟨r2, hr2, h⟩ := bind_of h
      obtain ⟨hc3, h⟩ := chk_of h
      obtain ⟨hc4, h⟩ := chk_of h
      refine Wp.region hΓ [] [(2, .val (.int .u32 r2)), (4, .recs (α := Int) 0 E_u32 (List.set b1 (Int.toNat v6) r2))] [] [0, 1, 4, 5, 6] [0, 1] (K' := [(0, .elm 0 0 1 0), (1, .elm 1 0 1 0), (4, .recs (α := Int) 0 E_i64 v4), (5, .val (.int .i64 v5)), (6, .val (.int .i64 v6))]) (L' := [(0, 41, [.rowc false (α := Int) 0 E_u32 b0]), (1, 41, [.rowc false (α := Int) 0 E_u32 (List.set b1 (Int.toNat v6) r2)])]) (ob := [(true = true → CX Try.prog 10 [.val (.int .i64 ((v4)[Int.toNat v6]?.getD 0)), .val (.int .i64 3)] (.val (.int .u32 r2))), (decide (0 ≤ v6 ∧ v6 < (64 : Int))) = true, (decide (0 ≤ v6 ∧ v6 < (List.length b1 : Int))) = true, UpdOb 0 E_u32 b1 v6 0 [.val (.int .u32 r2)] (.recs (α := Int) 0 E_u32 (List.set b1 (Int.toNat v6) r2))]) (by kernel_rfl) (AllP.cons (fun _ => cx (ok_sha_Root n ((v4)[Int.toNat v6]?.getD 0) 3 _ hr2)) (AllP.cons hc3 (AllP.cons hc4 (AllP.cons (updOb (by kernel_rfl)) AllP.nil)))) ?_
      refine To.blockN ?_
      refine To.thenN ?_
      refine Wp.region hΓ [] [] [] [0, 1, 4, 5, 6] [0, 1] (K' := [(0, .elm 0 0 1 0), (1, .elm 1 0 1 0), (4, .recs (α := Int) 0 E_i64 v4), (5, .val (.int .i64 v5)), (6, .val (.int .i64 (IntKind.wrap .i64 (v6 + 1))))]) (L' := [(0, 41, [.rowc false (α := Int) 0 E_u32 b0]), (1, 41, [.rowc false (α := Int) 0 E_u32 (List.set b1 (Int.toNat v6) r2)])]) (ob := []) (by kernel_rfl) AllP.nil ?_
      refine To.keep (kk := [0, 1, 4, 5, 6]) (kl := [0, 1]) (K' := [(0, .elm 0 0 1 0), (1, .elm 1 0 1 0), (4, .recs (α := Int) 0 E_i64 v4), (5, .val (.int .i64 v5)), (6, .val (.int .i64 (IntKind.wrap .i64 (v6 + 1))))]) (L' := [(0, 41, [.rowc false (α := Int) 0 E_u32 b0]), (1, 41, [.rowc false (α := Int) 0 E_u32 (List.set b1 (Int.toNat v6) r2)])]) (by kernel_rfl) (by kernel_rfl) ?_
      refine To.again ?_
      exact ih (IntKind.wrap .i64 (v6 + 1)) (List.set b1 (Int.toNat v6) r2) _ h hQ
    · replace h := if_f hb h
      refine Wp.exit ?_
      refine To.thenX ?_
      refine To.thenX ?_
      refine To.keep (kk := [0, 1]) (kl := [0, 1]) (K' := [(0, .elm 0 0 1 0), (1, .elm 1 0 1 0)]) (L' := [(0, 41, [.rowc false (α := Int) 0 E_u32 b0]), (1, 41, [.rowc false (α := Int) 0 E_u32 b1])]) (by kernel_rfl) (by kernel_rfl) ?_
      cases h
      exact hQ
def sha_constants (n : Nat) : Option ((List (Int))) :=
  (sha_Primes n 64).bind fun r1 =>
  (sha_constants_l1 n r1 (List.length r1 : Int) (List.replicate 64 0) n 0 (List.replicate 64 0)).bind fun o2 =>
  if (decide (List.length o2 = 64)) = true then (if (decide (List.length (List.replicate 64 0) = 64)) = true then (if (decide (List.length o2 = 64)) = true then (if (decide (List.length o2 = 64)) = true then some o2 else none) else none) else none) else none
theorem ok_sha_constants (n : Nat) (r : (List (Int))) (h : sha_constants n = some r) : CallsX Try.prog 25 [] (.arr (α := Int) 0 E_u32 r) := by
  unfold sha_constants at h
  refine callsX_of (fn := Try.f25) (by kernel_rfl) rfl (by kernel_rfl) (Nat.le_of_ble_eq_true (by kernel_rfl)) fun F0 w0 _ => ?_
  refine Wp.keep (kk := []) (kl := []) (K' := []) (L' := []) (by kernel_rfl) (by kernel_rfl) ?_
  refine Wp.seq ?_
  refine Wp.region hΓ [] [] [] [0] [0] (K' := [(0, .own 0 0)]) (L' := [(0, 41, [.val (.int .u32 0), .val (.int .u32 0), .val (.int .u32 0), .val (.int .u32 0), .val (.int .u32 0), .val (.int .u32 0), .val (.int .u32 0), .val (.int .u32 0), .val (.int .u32 0), .val (.int .u32 0), .val (.int .u32 0), .val (.int .u32 0), .val (.int .u32 0), .val (.int .u32 0), .val (.int .u32 0), .val (.int .u32 0), .val (.int .u32 0), .val (.int .u32 0), .val (.int .u32 0), .val (.int .u32 0), .val (.int .u32 0), .val (.int .u32 0), .val (.int .u32 0), .val (.int .u32 0), .val (.int .u32 0), .val (.int .u32 0), .val (.int .u32 0), .val (.int .u32 0), .val (.int .u32 0), .val (.int .u32 0), .val (.int .u32 0), .val (.int .u32 0), .val (.int .u32 0), .val (.int .u32 0), .val (.int .u32 0), .val (.int .u32 0), .val (.int .u32 0), .val (.int .u32 0), .val (.int .u32 0), .val (.int .u32 0), .val (.int .u32 0), .val (.int .u32 0), .val (.int .u32 0), .val (.int .u32 0), .val (.int .u32 0), .val (.int .u32 0), .val (.int .u32 0), .val (.int .u32 0), .val (.int .u32 0), .val (.int .u32 0), .val (.int .u32 0), .val (.int .u32 0), .val (.int .u32 0), .val (.int .u32 0), .val (.int .u32 0), .val (.int .u32 0), .val (.int .u32 0), .val (.int .u32 0), .val (.int .u32 0), .val (.int .u32 0), .val (.int .u32 0), .val (.int .u32 0), .val (.int .u32 0), .val (.int .u32 0)])]) (ob := []) (by kernel_rfl) AllP.nil ?_
  refine To.pre (St.toRow (t := 41) (l := (List.replicate 64 0)) 0 1 64 (by decide) (by decide) (good_E_u32 _) (by kernel_rfl) (by kernel_rfl) (by kernel_rfl) (by kernel_rfl) (K' := [(0, .elm 0 0 1 0)]) (L' := [(0, 41, [.rowc false (α := Int) 0 E_u32 (List.replicate 64 0)])]) (by kernel_rfl) (by kernel_rfl)) ?_
  refine To.thenN ?_
  refine Wp.seq ?_
  refine Wp.region hΓ [] [] [] [0, 1] [0, 1] (K' := [(0, .elm 0 0 1 0), (1, .own 1 0)]) (L' := [(0, 41, [.rowc false (α := Int) 0 E_u32 (List.replicate 64 0)]), (1, 41, [.val (.int .u32 0), .val (.int .u32 0), .val (.int .u32 0), .val (.int .u32 0), .val (.int .u32 0), .val (.int .u32 0), .val (.int .u32 0), .val (.int .u32 0), .val (.int .u32 0), .val (.int .u32 0), .val (.int .u32 0), .val (.int .u32 0), .val (.int .u32 0), .val (.int .u32 0), .val (.int .u32 0), .val (.int .u32 0), .val (.int .u32 0), .val (.int .u32 0), .val (.int .u32 0), .val (.int .u32 0), .val (.int .u32 0), .val (.int .u32 0), .val (.int .u32 0), .val (.int .u32 0), .val (.int .u32 0), .val (.int .u32 0), .val (.int .u32 0), .val (.int .u32 0), .val (.int .u32 0), .val (.int .u32 0), .val (.int .u32 0), .val (.int .u32 0), .val (.int .u32 0), .val (.int .u32 0), .val (.int .u32 0), .val (.int .u32 0), .val (.int .u32 0), .val (.int .u32 0), .val (.int .u32 0), .val (.int .u32 0), .val (.int .u32 0), .val (.int .u32 0), .val (.int .u32 0), .val (.int .u32 0), .val (.int .u32 0), .val (.int .u32 0), .val (.int .u32 0), .val (.int .u32 0), .val (.int .u32 0), .val (.int .u32 0), .val (.int .u32 0), .val (.int .u32 0), .val (.int .u32 0), .val (.int .u32 0), .val (.int .u32 0), .val (.int .u32 0), .val (.int .u32 0), .val (.int .u32 0), .val (.int .u32 0), .val (.int .u32 0), .val (.int .u32 0), .val (.int .u32 0), .val (.int .u32 0), .val (.int .u32 0)])]) (ob := []) (by kernel_rfl) AllP.nil ?_
  refine To.pre (St.toRow (t := 41) (l := (List.replicate 64 0)) 1 1 64 (by decide) (by decide) (good_E_u32 _) (by kernel_rfl) (by kernel_rfl) (by kernel_rfl) (by kernel_rfl) (K' := [(0, .elm 0 0 1 0), (1, .elm 1 0 1 0)]) (L' := [(1, 41, [.rowc false (α := Int) 0 E_u32 (List.replicate 64 0)]), (0, 41, [.rowc false (α := Int) 0 E_u32 (List.replicate 64 0)])]) (by kernel_rfl) (by kernel_rfl)) ?_
  refine To.thenN ?_
  refine Wp.seq ?_
  refine Wp.seq ?_
  obtain ⟨r1, hr1, h⟩ := bind_of h
  refine Wp.region hΓ [] [(0, .recs (α := Int) 0 E_i64 r1)] [] [0, 1, 4, 5, 6] [0, 1] (K' := [(0, .elm 0 0 1 0), (1, .elm 1 0 1 0), (4, .recs (α := Int) 0 E_i64 r1), (5, .val (.int .i64 (List.length r1 : Int))), (6, .val (.int .i64 0))]) (L' := [(0, 41, [.rowc false (α := Int) 0 E_u32 (List.replicate 64 0)]), (1, 41, [.rowc false (α := Int) 0 E_u32 (List.replicate 64 0)])]) (ob := [(true = true → CX Try.prog 8 [.val (.int .i64 64)] (.recs (α := Int) 0 E_i64 r1))]) (by kernel_rfl) (AllP.cons (fun _ => cx (ok_sha_Primes n 64 _ hr1)) AllP.nil) ?_
  refine To.thenN ?_
  refine Wp.block ?_
  obtain ⟨o2, ho2, h⟩ := bind_of h
  refine Wp.keep (kk := [0, 1, 4, 5, 6]) (kl := [0, 1]) (K' := [(0, .elm 0 0 1 0), (1, .elm 1 0 1 0), (4, .recs (α := Int) 0 E_i64 r1), (5, .val (.int .i64 (List.length r1 : Int))), (6, .val (.int .i64 0))]) (L' := [(0, 41, [.rowc false (α := Int) 0 E_u32 (List.replicate 64 0)]), (1, 41, [.rowc false (α := Int) 0 E_u32 (List.replicate 64 0)])]) (by kernel_rfl) (by kernel_rfl) ?_
  refine Wp.loopL ?_
  refine ok_sha_constants_l1 n r1 (List.length r1 : Int) (List.replicate 64 0) n 0 (List.replicate 64 0) o2 ho2 ?_
  refine To.blockX ?_
  refine To.thenN ?_
  refine Wp.seq ?_
  obtain ⟨hc5, h⟩ := chk_of h
  obtain ⟨hc6, h⟩ := chk_of h
  obtain ⟨u3, h⟩ := chk_of h
  refine Wp.region hΓ [] [(1, .recs (α := Int) 0 E_u32 o2)] [] [0] [0] (K' := [(0, .elm 0 0 1 0)]) (L' := [(0, 41, [.rowc false (α := Int) 0 E_u32 o2])]) (ob := [(decide (List.length o2 = 64)) = true, (decide (List.length (List.replicate 64 0) = 64)) = true, (MkOb 1 (D.cells (.arr (α := Int) 0 E_u32 o2)) 64 (.recs (α := Int) 0 E_u32 o2) ∧ GoodR (.recs (α := Int) 0 E_u32 o2))]) (by kernel_rfl) (AllP.cons hc5 (AllP.cons hc6 (AllP.cons (mkOb rfl (of_decide_eq_true u3) rfl (good_E_u32 _)) AllP.nil))) ?_
  refine To.thenN ?_
  refine Wp.ret ?_
  refine To.keep (kk := [0]) (kl := [0]) (K' := [(0, .elm 0 0 1 0)]) (L' := [(0, 41, [.rowc false (α := Int) 0 E_u32 o2])]) (by kernel_rfl) (by kernel_rfl) ?_
  obtain ⟨hc4, h⟩ := chk_of h
  cases h
  exact To.doneA hΓ (by kernel_rfl) hc4
def math_bits_RotateLeft32 (n : Nat) (a0 : Int) (a1 : Int) : Option (Int) :=
  lett ((IntKind.wrap .u64 ((BitVec.ofInt (IntKind.bits .u64) (IntKind.wrap .u64 (a1)) &&& BitVec.ofInt (IntKind.bits .u64) 31).toNat)) : Int) fun x1 =>
  if (decide (0 ≤ x1)) = true then (if (decide (0 ≤ (IntKind.wrap .u64 (32 - x1)))) = true then (lett ((IntKind.wrap .u32 ((BitVec.ofInt (IntKind.bits .u32) (IntKind.wrap .u32 (a0 * 2 ^ (min (Int.toNat x1) (IntKind.bits .u32)))) ||| BitVec.ofInt (IntKind.bits .u32) (Int.fdiv a0 (2 ^ (min (Int.toNat (IntKind.wrap .u64 (32 - x1))) (IntKind.bits .u32))))).toNat)) : Int) fun x2 =>
  some x2) else none) else none
theorem ok_math_bits_RotateLeft32 (n : Nat) (a0 : Int) (a1 : Int) (r : Int) (h : math_bits_RotateLeft32 n a0 a1 = some r) : CallsX Try.prog 43 [.val (.int .u32 a0), .val (.int .i64 a1)] (.val (.int .u32 r)) := by
  unfold math_bits_RotateLeft32 at h
  refine callsX_of (fn := Try.f43) (by kernel_rfl) rfl (by kernel_rfl) (Nat.le_of_ble_eq_true (by kernel_rfl)) fun F0 w0 _ => ?_
  refine Wp.keep (kk := [0, 1]) (kl := []) (K' := [(0, .val (.int .u32 a0)), (1, .val (.int .i64 a1))]) (L' := []) (by kernel_rfl) (by kernel_rfl) ?_
  refine Wp.seq ?_
  refine Wp.region hΓ [] [] [] [0, 1] [] (K' := [(0, .val (.int .u32 a0)), (1, .val (.int .i64 a1))]) (L' := []) (ob := []) (by kernel_rfl) AllP.nil ?_
  refine To.thenN ?_
  refine Wp.seq ?_
  obtain ⟨x1, hx1, h⟩ := lett_of h
  refine Wp.region hΓ [] [] [] [0, 5] [] (K' := [(0, .val (.int .u32 a0)), (5, .val (.int .u64 (IntKind.wrap .u64 ((BitVec.ofInt (IntKind.bits .u64) (IntKind.wrap .u64 (a1)) &&& BitVec.ofInt (IntKind.bits .u64) 31).toNat))))]) (L' := []) (ob := []) (by kernel_rfl) AllP.nil ?_
  refine To.eq (K' := [(0, .val (.int .u32 a0)), (5, .val (.int .u64 x1))]) (L' := []) (by cases hx1; rfl) (by cases hx1; rfl) ?_
  refine To.thenN ?_
  refine Wp.seq ?_
  obtain ⟨hc3, h⟩ := chk_of h
  obtain ⟨hc4, h⟩ := chk_of h
  obtain ⟨x2, hx2, h⟩ := lett_of h
  refine Wp.region hΓ [] [] [] [4] [] (K' := [(4, .val (.int .u32 (IntKind.wrap .u32 ((BitVec.ofInt (IntKind.bits .u32) (IntKind.wrap .u32 (a0 * 2 ^ (min (Int.toNat x1) (IntKind.bits .u32)))) ||| BitVec.ofInt (IntKind.bits .u32) (Int.fdiv a0 (2 ^ (min (Int.toNat (IntKind.wrap .u64 (32 - x1))) (IntKind.bits .u32))))).toNat))))]) (L' := []) (ob := [(decide (0 ≤ x1)) = true, (decide (0 ≤ (IntKind.wrap .u64 (32 - x1)))) = true]) (by kernel_rfl) (AllP.cons hc3 (AllP.cons hc4 AllP.nil)) ?_
  refine To.eq (K' := [(4, .val (.int .u32 x2))]) (L' := []) (by cases hx2; rfl) (by cases hx2; rfl) ?_
  refine To.thenN ?_
  refine Wp.ret ?_
  refine To.keep (kk := [4]) (kl := []) (K' := [(4, .val (.int .u32 x2))]) (L' := []) (by kernel_rfl) (by kernel_rfl) ?_
  cases h
  exact To.done hΓ (by kernel_rfl)
def sha_words_1 (n : Nat) (a0 : Int) (a1 : Int) : Option (Int) :=
  (math_bits_RotateLeft32 n a0 (IntKind.wrap .i64 (0 - a1))).bind fun r1 =>
  some r1
theorem ok_sha_words_1 (n : Nat) (a0 : Int) (a1 : Int) (r : Int) (h : sha_words_1 n a0 a1 = some r) : CallsX Try.prog 42 [.val (.int .u32 a0), .val (.int .i64 a1)] (.val (.int .u32 r)) := by
  unfold sha_words_1 at h
  refine callsX_of (fn := Try.f42) (by kernel_rfl) rfl (by kernel_rfl) (Nat.le_of_ble_eq_true (by kernel_rfl)) fun F0 w0 _ => ?_
  refine Wp.keep (kk := [0, 1]) (kl := []) (K' := [(0, .val (.int .u32 a0)), (1, .val (.int .i64 a1))]) (L' := []) (by kernel_rfl) (by kernel_rfl) ?_
  refine Wp.seq ?_
  refine Wp.region hΓ [] [] [] [0, 1] [] (K' := [(0, .val (.int .u32 a0)), (1, .val (.int .i64 a1))]) (L' := []) (ob := []) (by kernel_rfl) AllP.nil ?_
  refine To.thenN ?_
  refine Wp.seq ?_
  obtain ⟨r1, hr1, h⟩ := bind_of h
  refine Wp.region hΓ [] [(3, .val (.int .u32 r1))] [] [4] [] (K' := [(4, .val (.int .u32 r1))]) (L' := []) (ob := [(true = true → CX Try.prog 43 [.val (.int .u32 a0), .val (.int .i64 (IntKind.wrap .i64 (0 - a1)))] (.val (.int .u32 r1)))]) (by kernel_rfl) (AllP.cons (fun _ => cx (ok_math_bits_RotateLeft32 n a0 (IntKind.wrap .i64 (0 - a1)) _ hr1)) AllP.nil) ?_
  refine To.thenN ?_
  refine Wp.ret ?_
  refine To.keep (kk := [4]) (kl := []) (K' := [(4, .val (.int .u32 r1))]) (L' := []) (by kernel_rfl) (by kernel_rfl) ?_
  cases h
  exact To.done hΓ (by kernel_rfl)
def sha_words_l1 (n : Nat) (v0 : List UInt8) (b2 : List (Int)) : Nat → Int → (List (Int)) → Option ((List (Int)))
  | 0, _, _ => none
  | k + 1, v9, b3 => if (decide (v9 < 16)) = true then (if (decide (0 ≤ (IntKind.wrap .i64 (4 * v9)) ∧ (IntKind.wrap .i64 (4 * v9)) < (List.length v0 : Int))) = true then (if (decide (0 ≤ (24 : Int))) = true then (if (decide (0 ≤ (IntKind.wrap .i64 ((IntKind.wrap .i64 (4 * v9)) + 1)) ∧ (IntKind.wrap .i64 ((IntKind.wrap .i64 (4 * v9)) + 1)) < (List.length v0 : Int))) = true then (if (decide (0 ≤ (16 : Int))) = true then (if (decide (0 ≤ (IntKind.wrap .i64 ((IntKind.wrap .i64 (4 * v9)) + 2)) ∧ (IntKind.wrap .i64 ((IntKind.wrap .i64 (4 * v9)) + 2)) < (List.length v0 : Int))) = true then (if (decide (0 ≤ (8 : Int))) = true then (if (decide (0 ≤ (IntKind.wrap .i64 ((IntKind.wrap .i64 (4 * v9)) + 3)) ∧ (IntKind.wrap .i64 ((IntKind.wrap .i64 (4 * v9)) + 3)) < (List.length v0 : Int))) = true then (if (decide (0 ≤ v9 ∧ v9 < (64 : Int))) = true then (if (decide (0 ≤ v9 ∧ v9 < (List.length b3 : Int))) = true then (lett ((List.set b3 (Int.toNat v9) (IntKind.wrap .u32 ((BitVec.ofInt (IntKind.bits .u32) (IntKind.wrap .u32 ((BitVec.ofInt (IntKind.bits .u32) (IntKind.wrap .u32 ((BitVec.ofInt (IntKind.bits .u32) (IntKind.wrap .u32 ((IntKind.wrap .u32 ((((v0)[Int.toNat (IntKind.wrap .i64 (4 * v9))]?.getD 0).toNat : Int))) * 2 ^ (min (Int.toNat 24) (IntKind.bits .u32)))) ||| BitVec.ofInt (IntKind.bits .u32) (IntKind.wrap .u32 ((IntKind.wrap .u32 ((((v0)[Int.toNat (IntKind.wrap .i64 ((IntKind.wrap .i64 (4 * v9)) + 1))]?.getD 0).toNat : Int))) * 2 ^ (min (Int.toNat 16) (IntKind.bits .u32))))).toNat)) ||| BitVec.ofInt (IntKind.bits .u32) (IntKind.wrap .u32 ((IntKind.wrap .u32 ((((v0)[Int.toNat (IntKind.wrap .i64 ((IntKind.wrap .i64 (4 * v9)) + 2))]?.getD 0).toNat : Int))) * 2 ^ (min (Int.toNat 8) (IntKind.bits .u32))))).toNat)) ||| BitVec.ofInt (IntKind.bits .u32) (IntKind.wrap .u32 ((((v0)[Int.toNat (IntKind.wrap .i64 ((IntKind.wrap .i64 (4 * v9)) + 3))]?.getD 0).toNat : Int)))).toNat))) : List (Int)) fun x1 =>
  sha_words_l1 n v0 b2 k (IntKind.wrap .i64 (v9 + 1)) x1) else none) else none) else none) else none) else none) else none) else none) else none) else none)
  else some b3
theorem ok_sha_words_l1 (n : Nat) (v0 : List UInt8) (b2 : List (Int)) {F0 : Fz} {w0 : Pt Try.prog} {Q : Exit → Act → World → Prop} (k : Nat) : ∀ (v9 : Int) (b3 : List (Int)) (o : (List (Int))), sha_words_l1 n v0 b2 k v9 b3 = some o → To 90 F0 w0 [(2, .elm 2 0 1 0), (3, .elm 3 0 1 0)] [(2, 41, [.rowc false (α := Int) 0 E_u32 b2]), (3, 41, [.rowc false (α := Int) 0 E_u32 o])] (.exit 0) Q → WL Try.prog 90 F0 w0 [(0, .str v0), (2, .elm 2 0 1 0), (3, .elm 3 0 1 0), (9, .val (.int .i64 v9))] [(2, 41, [.rowc false (α := Int) 0 E_u32 b2]), (3, 41, [.rowc false (α := Int) 0 E_u32 b3])] (cI (cI (cB (cA (cB (cB (cF Try.f33))))))) Q := by
  induction k with
  | zero => intro v9 b3 o h; cases h
  | succ k ih =>
    intro v9 b3 o h hQ
    rw [sha_words_l1] at h
    refine WL.round ?_
    refine Wp.seq ?_
    refine Wp.region hΓ [] [] [] [0, 2, 3, 9, 10] [2, 3] (K' := [(0, .str v0), (2, .elm 2 0 1 0), (3, .elm 3 0 1 0), (9, .val (.int .i64 v9)), (10, .val (.bool (decide (v9 < 16))))]) (L' := [(2, 41, [.rowc false (α := Int) 0 E_u32 b2]), (3, 41, [.rowc false (α := Int) 0 E_u32 b3])]) (ob := []) (by kernel_rfl) AllP.nil ?_
    refine To.thenN ?_
    refine Wp.seq ?_
    refine Wp.cond (b := (decide (v9 < 16))) (by kernel_rfl) (fun hb => ?_) (fun hb => ?_)
    · replace h := if_t hb h
      refine Wp.skip ?_
      refine To.thenN ?_
      refine Wp.seq ?_
      refine Wp.block ?_
      refine Wp.seq ?_
      refine Wp.region hΓ [] [] [] [0, 2, 3, 4, 9] [2, 3] (K' := [(0, .str v0), (2, .elm 2 0 1 0), (3, .elm 3 0 1 0), (4, .val (.int .i64 v9)), (9, .val (.int .i64 v9))]) (L' := [(2, 41, [.rowc false (α := Int) 0 E_u32 b2]), (3, 41, [.rowc false (α := Int) 0 E_u32 b3])]) (ob := []) (by kernel_rfl) AllP.nil ?_
      refine To.thenN ?_
      obtain ⟨hc2, h⟩ := chk_of h
      obtain ⟨hc3, h⟩ := chk_of h
      obtain ⟨hc4, h⟩ := chk_of h
      obtain ⟨hc5, h⟩ := chk_of h
      obtain ⟨hc6, h⟩ := chk_of h
      obtain ⟨hc7, h⟩ := chk_of h
      obtain ⟨hc8, h⟩ := chk_of h
      obtain ⟨hc9, h⟩ := chk_of h
      obtain ⟨hc10, h⟩ := chk_of h
      obtain ⟨x1, hx1, h⟩ := lett_of h
      refine Wp.regionS hm hΓ 30 [] [(31, .recs (α := Int) 0 E_u32 (List.set b3 (Int.toNat v9) (IntKind.wrap .u32 ((BitVec.ofInt (IntKind.bits .u32) (IntKind.wrap .u32 ((BitVec.ofInt (IntKind.bits .u32) (IntKind.wrap .u32 ((BitVec.ofInt (IntKind.bits .u32) (IntKind.wrap .u32 ((IntKind.wrap .u32 ((((v0)[Int.toNat (IntKind.wrap .i64 (4 * v9))]?.getD 0).toNat : Int))) * 2 ^ (min (Int.toNat 24) (IntKind.bits .u32)))) ||| BitVec.ofInt (IntKind.bits .u32) (IntKind.wrap .u32 ((IntKind.wrap .u32 ((((v0)[Int.toNat (IntKind.wrap .i64 ((IntKind.wrap .i64 (4 * v9)) + 1))]?.getD 0).toNat : Int))) * 2 ^ (min (Int.toNat 16) (IntKind.bits .u32))))).toNat)) ||| BitVec.ofInt (IntKind.bits .u32) (IntKind.wrap .u32 ((IntKind.wrap .u32 ((((v0)[Int.toNat (IntKind.wrap .i64 ((IntKind.wrap .i64 (4 * v9)) + 2))]?.getD 0).toNat : Int))) * 2 ^ (min (Int.toNat 8) (IntKind.bits .u32))))).toNat)) ||| BitVec.ofInt (IntKind.bits .u32) (IntKind.wrap .u32 ((((v0)[Int.toNat (IntKind.wrap .i64 ((IntKind.wrap .i64 (4 * v9)) + 3))]?.getD 0).toNat : Int)))).toNat))))] [] [0, 2, 3, 9] [2, 3] (K' := [(0, .str v0), (2, .elm 2 0 1 0), (3, .elm 3 0 1 0), (9, .val (.int .i64 v9))]) (L' := [(2, 41, [.rowc false (α := Int) 0 E_u32 b2]), (3, 41, [.rowc false (α := Int) 0 E_u32 (List.set b3 (Int.toNat v9) (IntKind.wrap .u32 ((BitVec.ofInt (IntKind.bits .u32) (IntKind.wrap .u32 ((BitVec.ofInt (IntKind.bits .u32) (IntKind.wrap .u32 ((BitVec.ofInt (IntKind.bits .u32) (IntKind.wrap .u32 ((IntKind.wrap .u32 ((((v0)[Int.toNat (IntKind.wrap .i64 (4 * v9))]?.getD 0).toNat : Int))) * 2 ^ (min (Int.toNat 24) (IntKind.bits .u32)))) ||| BitVec.ofInt (IntKind.bits .u32) (IntKind.wrap .u32 ((IntKind.wrap .u32 ((((v0)[Int.toNat (IntKind.wrap .i64 ((IntKind.wrap .i64 (4 * v9)) + 1))]?.getD 0).toNat : Int))) * 2 ^ (min (Int.toNat 16) (IntKind.bits .u32))))).toNat)) ||| BitVec.ofInt (IntKind.bits .u32) (IntKind.wrap .u32 ((IntKind.wrap .u32 ((((v0)[Int.toNat (IntKind.wrap .i64 ((IntKind.wrap .i64 (4 * v9)) + 2))]?.getD 0).toNat : Int))) * 2 ^ (min (Int.toNat 8) (IntKind.bits .u32))))).toNat)) ||| BitVec.ofInt (IntKind.bits .u32) (IntKind.wrap .u32 ((((v0)[Int.toNat (IntKind.wrap .i64 ((IntKind.wrap .i64 (4 * v9)) + 3))]?.getD 0).toNat : Int)))).toNat)))])]) (ob := [(decide (0 ≤ (IntKind.wrap .i64 (4 * v9)) ∧ (IntKind.wrap .i64 (4 * v9)) < (List.length v0 : Int))) = true, (decide (0 ≤ (24 : Int))) = true, (decide (0 ≤ (IntKind.wrap .i64 ((IntKind.wrap .i64 (4 * v9)) + 1)) ∧ (IntKind.wrap .i64 ((IntKind.wrap .i64 (4 * v9)) + 1)) < (List.length v0 : Int))) = true, (decide (0 ≤ (16 : Int))) = true, (decide (0 ≤ (IntKind.wrap .i64 ((IntKind.wrap .i64 (4 * v9)) + 2)) ∧ (IntKind.wrap .i64 ((IntKind.wrap .i64 (4 * v9)) + 2)) < (List.length v0 : Int))) = true, (decide (0 ≤ (8 : Int))) = true, (decide (0 ≤ (IntKind.wrap .i64 ((IntKind.wrap .i64 (4 * v9)) + 3)) ∧ (IntKind.wrap .i64 ((IntKind.wrap .i64 (4 * v9)) + 3)) < (List.length v0 : Int))) = true, (decide (0 ≤ v9 ∧ v9 < (64 : Int))) = true, (decide (0 ≤ v9 ∧ v9 < (List.length b3 : Int))) = true, UpdOb 0 E_u32 b3 v9 0 [.val (.int .u32 (IntKind.wrap .u32 ((BitVec.ofInt (IntKind.bits .u32) (IntKind.wrap .u32 ((BitVec.ofInt (IntKind.bits .u32) (IntKind.wrap .u32 ((BitVec.ofInt (IntKind.bits .u32) (IntKind.wrap .u32 ((IntKind.wrap .u32 ((((v0)[Int.toNat (IntKind.wrap .i64 (4 * v9))]?.getD 0).toNat : Int))) * 2 ^ (min (Int.toNat 24) (IntKind.bits .u32)))) ||| BitVec.ofInt (IntKind.bits .u32) (IntKind.wrap .u32 ((IntKind.wrap .u32 ((((v0)[Int.toNat (IntKind.wrap .i64 ((IntKind.wrap .i64 (4 * v9)) + 1))]?.getD 0).toNat : Int))) * 2 ^ (min (Int.toNat 16) (IntKind.bits .u32))))).toNat)) ||| BitVec.ofInt (IntKind.bits .u32) (IntKind.wrap .u32 ((IntKind.wrap .u32 ((((v0)[Int.toNat (IntKind.wrap .i64 ((IntKind.wrap .i64 (4 * v9)) + 2))]?.getD 0).toNat : Int))) * 2 ^ (min (Int.toNat 8) (IntKind.bits .u32))))).toNat)) ||| BitVec.ofInt (IntKind.bits .u32) (IntKind.wrap .u32 ((((v0)[Int.toNat (IntKind.wrap .i64 ((IntKind.wrap .i64 (4 * v9)) + 3))]?.getD 0).toNat : Int)))).toNat)))] (.recs (α := Int) 0 E_u32 (List.set b3 (Int.toNat v9) (IntKind.wrap .u32 ((BitVec.ofInt (IntKind.bits .u32) (IntKind.wrap .u32 ((BitVec.ofInt (IntKind.bits .u32) (IntKind.wrap .u32 ((BitVec.ofInt (IntKind.bits .u32) (IntKind.wrap .u32 ((IntKind.wrap .u32 ((((v0)[Int.toNat (IntKind.wrap .i64 (4 * v9))]?.getD 0).toNat : Int))) * 2 ^ (min (Int.toNat 24) (IntKind.bits .u32)))) ||| BitVec.ofInt (IntKind.bits .u32) (IntKind.wrap .u32 ((IntKind.wrap .u32 ((((v0)[Int.toNat (IntKind.wrap .i64 ((IntKind.wrap .i64 (4 * v9)) + 1))]?.getD 0).toNat : Int))) * 2 ^ (min (Int.toNat 16) (IntKind.bits .u32))))).toNat)) ||| BitVec.ofInt (IntKind.bits .u32) (IntKind.wrap .u32 ((IntKind.wrap .u32 ((((v0)[Int.toNat (IntKind.wrap .i64 ((IntKind.wrap .i64 (4 * v9)) + 2))]?.getD 0).toNat : Int))) * 2 ^ (min (Int.toNat 8) (IntKind.bits .u32))))).toNat)) ||| BitVec.ofInt (IntKind.bits .u32) (IntKind.wrap .u32 ((((v0)[Int.toNat (IntKind.wrap .i64 ((IntKind.wrap .i64 (4 * v9)) + 3))]?.getD 0).toNat : Int)))).toNat))))]) (by kernel_rfl) (AllP.cons hc2 (AllP.cons hc3 (AllP.cons hc4 (AllP.cons hc5 (AllP.cons hc6 (AllP.cons hc7 (AllP.cons hc8 (AllP.cons hc9 (AllP.cons hc10 (AllP.cons (updOb (by kernel_rfl)) AllP.nil)))))))))) ?_
      refine To.eq (K' := [(0, .str v0), (2, .elm 2 0 1 0), (3, .elm 3 0 1 0), (9, .val (.int .i64 v9))]) (L' := [(2, 41, [.rowc false (α := Int) 0 E_u32 b2]), (3, 41, [.rowc false (α := Int) 0 E_u32 x1])]) (by cases hx1; rfl) (by cases hx1; rfl) ?_
      refine To.blockN ?_
      refine To.thenN ?_
      refine Wp.region hΓ [] [] [] [0, 2, 3, 9] [2, 3] (K' := [(0, .str v0), (2, .elm 2 0 1 0), (3, .elm 3 0 1 0), (9, .val (.int .i64 (IntKind.wrap .i64 (v9 + 1))))]) (L' := [(2, 41, [.rowc false (α := Int) 0 E_u32 b2]), (3, 41, [.rowc false (α := Int) 0 E_u32 x1])]) (ob := []) (by kernel_rfl) AllP.nil ?_
      refine To.keep (kk := [0, 2, 3, 9]) (kl := [2, 3]) (K' := [(0, .str v0), (2, .elm 2 0 1 0), (3, .elm 3 0 1 0), (9, .val (.int .i64 (IntKind.wrap .i64 (v9 + 1))))]) (L' := [(2, 41, [.rowc false (α := Int) 0 E_u32 b2]), (3, 41, [.rowc false (α := Int) 0 E_u32 x1])]) (by kernel_rfl) (by kernel_rfl) ?_
      refine To.again ?_
      exact ih (IntKind.wrap .i64 (v9 + 1)) x1 _ h hQ
    · replace h := if_f hb h
      refine Wp.exit ?_
      refine To.thenX ?_
      refine To.thenX ?_
      refine To.keep (kk := [2, 3]) (kl := [2, 3]) (K' := [(2, .elm 2 0 1 0), (3, .elm 3 0 1 0)]) (L' := [(2, 41, [.rowc false (α := Int) 0 E_u32 b2]), (3, 41, [.rowc false (α := Int) 0 E_u32 b3])]) (by kernel_rfl) (by kernel_rfl) ?_
      cases h
      exact hQ
def sha_words_l2 (n : Nat) (b2 : List (Int)) : Nat → Int → (List (Int)) → Option ((List (Int)))
  | 0, _, _ => none
  | k + 1, v6, b3 => if (decide (v6 < 64)) = true then (if (decide (0 ≤ (IntKind.wrap .i64 (v6 - 2)) ∧ (IntKind.wrap .i64 (v6 - 2)) < (64 : Int))) = true then (if (decide (0 ≤ (IntKind.wrap .i64 (v6 - 2)) ∧ (IntKind.wrap .i64 (v6 - 2)) < (List.length b3 : Int))) = true then (if (decide (0 ≤ (IntKind.wrap .i64 (v6 - 15)) ∧ (IntKind.wrap .i64 (v6 - 15)) < (64 : Int))) = true then (if (decide (0 ≤ (IntKind.wrap .i64 (v6 - 15)) ∧ (IntKind.wrap .i64 (v6 - 15)) < (List.length b3 : Int))) = true then ((sha_words_1 n ((b3)[Int.toNat (IntKind.wrap .i64 (v6 - 2))]?.getD 0) 17).bind fun r2 =>
  (sha_words_1 n ((b3)[Int.toNat (IntKind.wrap .i64 (v6 - 2))]?.getD 0) 19).bind fun r3 =>
  if (decide (0 ≤ (10 : Int))) = true then (if (decide (0 ≤ (IntKind.wrap .i64 (v6 - 7)) ∧ (IntKind.wrap .i64 (v6 - 7)) < (64 : Int))) = true then (if (decide (0 ≤ (IntKind.wrap .i64 (v6 - 7)) ∧ (IntKind.wrap .i64 (v6 - 7)) < (List.length b3 : Int))) = true then ((sha_words_1 n ((b3)[Int.toNat (IntKind.wrap .i64 (v6 - 15))]?.getD 0) 7).bind fun r4 =>
  (sha_words_1 n ((b3)[Int.toNat (IntKind.wrap .i64 (v6 - 15))]?.getD 0) 18).bind fun r5 =>
  if (decide (0 ≤ (3 : Int))) = true then (if (decide (0 ≤ (IntKind.wrap .i64 (v6 - 16)) ∧ (IntKind.wrap .i64 (v6 - 16)) < (64 : Int))) = true then (if (decide (0 ≤ (IntKind.wrap .i64 (v6 - 16)) ∧ (IntKind.wrap .i64 (v6 - 16)) < (List.length b3 : Int))) = true then (if (decide (0 ≤ v6 ∧ v6 < (64 : Int))) = true then (if (decide (0 ≤ v6 ∧ v6 < (List.length b3 : Int))) = true then (lett ((List.set b3 (Int.toNat v6) (IntKind.wrap .u32 ((IntKind.wrap .u32 ((IntKind.wrap .u32 ((IntKind.wrap .u32 ((BitVec.ofInt (IntKind.bits .u32) (IntKind.wrap .u32 ((BitVec.ofInt (IntKind.bits .u32) r2 ^^^ BitVec.ofInt (IntKind.bits .u32) r3).toNat)) ^^^ BitVec.ofInt (IntKind.bits .u32) (Int.fdiv ((b3)[Int.toNat (IntKind.wrap .i64 (v6 - 2))]?.getD 0) (2 ^ (min (Int.toNat 10) (IntKind.bits .u32))))).toNat)) + ((b3)[Int.toNat (IntKind.wrap .i64 (v6 - 7))]?.getD 0))) + (IntKind.wrap .u32 ((BitVec.ofInt (IntKind.bits .u32) (IntKind.wrap .u32 ((BitVec.ofInt (IntKind.bits .u32) r4 ^^^ BitVec.ofInt (IntKind.bits .u32) r5).toNat)) ^^^ BitVec.ofInt (IntKind.bits .u32) (Int.fdiv ((b3)[Int.toNat (IntKind.wrap .i64 (v6 - 15))]?.getD 0) (2 ^ (min (Int.toNat 3) (IntKind.bits .u32))))).toNat)))) + ((b3)[Int.toNat (IntKind.wrap .i64 (v6 - 16))]?.getD 0)))) : List (Int)) fun x6 =>
  sha_words_l2 n b2 k (IntKind.wrap .i64 (v6 + 1)) x6) else none) else none) else none) else none) else none) else none) else none) else none) else none) else none) else none) else none)
  else some b3
theorem ok_sha_words_l2 (n : Nat) (b2 : List (Int)) {F0 : Fz} {w0 : Pt Try.prog} {Q : Exit → Act → World → Prop} (k : Nat) : ∀ (v6 : Int) (b3 : List (Int)) (o : (List (Int))), sha_words_l2 n b2 k v6 b3 = some o → To 90 F0 w0 [(2, .elm 2 0 1 0), (3, .elm 3 0 1 0)] [(2, 41, [.rowc false (α := Int) 0 E_u32 b2]), (3, 41, [.rowc false (α := Int) 0 E_u32 o])] (.exit 2) Q → WL Try.prog 90 F0 w0 [(2, .elm 2 0 1 0), (3, .elm 3 0 1 0), (5, .fn 42 []), (6, .val (.int .i64 v6))] [(2, 41, [.rowc false (α := Int) 0 E_u32 b2]), (3, 41, [.rowc false (α := Int) 0 E_u32 b3])] (cI (cI (cB (cA (cB (cB (cB (cB (cF Try.f33))))))))) Q := by
  induction k with
  | zero => intro v6 b3 o h; cases h
  | succ k ih =>
    intro v6 b3 o h hQ
    rw [sha_words_l2] at h
    refine WL.round ?_
    refine Wp.seq ?_
    refine Wp.seq ?_
    refine Wp.region hΓ [] [] [] [2, 3, 5, 6, 45] [2, 3] (K' := [(2, .elm 2 0 1 0), (3, .elm 3 0 1 0), (5, .fn 42 []), (6, .val (.int .i64 v6)), (45, .val (.bool (decide (v6 < 64))))]) (L' := [(2, 41, [.rowc false (α := Int) 0 E_u32 b2]), (3, 41, [.rowc false (α := Int) 0 E_u32 b3])]) (ob := []) (by kernel_rfl) AllP.nil ?_
    refine To.thenN ?_
    refine Wp.cond (b := (decide (v6 < 64))) (by kernel_rfl) (fun hb => ?_) (fun hb => ?_)
    · replace h := if_t hb h
      refine Wp.skip ?_
      refine To.thenN ?_
      refine Wp.seq ?_
      refine Wp.block ?_
      refine Wp.seq ?_
      obtain ⟨hc15, h⟩ := chk_of h
      obtain ⟨hc16, h⟩ := chk_of h
      obtain ⟨hc17, h⟩ := chk_of h
      obtain ⟨hc18, h⟩ := chk_of h
      refine Wp.regionD hm hΓ [] [2, 3, 5, 6, 7, 8] [2, 3] (K' := [(2, .elm 2 0 1 0), (3, .elm 3 0 1 0), (5, .fn 42 []), (6, .val (.int .i64 v6)), (7, .val (.int .u32 ((b3)[Int.toNat (IntKind.wrap .i64 (v6 - 2))]?.getD 0))), (8, .val (.int .u32 ((b3)[Int.toNat (IntKind.wrap .i64 (v6 - 15))]?.getD 0)))]) (L' := [(2, 41, [.rowc false (α := Int) 0 E_u32 b2]), (3, 41, [.rowc false (α := Int) 0 E_u32 b3])]) (ob := [(decide (0 ≤ (IntKind.wrap .i64 (v6 - 2)) ∧ (IntKind.wrap .i64 (v6 - 2)) < (64 : Int))) = true, (decide (0 ≤ (IntKind.wrap .i64 (v6 - 2)) ∧ (IntKind.wrap .i64 (v6 - 2)) < (List.length b3 : Int))) = true, (decide (0 ≤ (IntKind.wrap .i64 (v6 - 15)) ∧ (IntKind.wrap .i64 (v6 - 15)) < (64 : Int))) = true, (decide (0 ≤ (IntKind.wrap .i64 (v6 - 15)) ∧ (IntKind.wrap .i64 (v6 - 15)) < (List.length b3 : Int))) = true]) (by kernel_rfl) (AllP.cons hc15 (AllP.cons hc16 (AllP.cons hc17 (AllP.cons hc18 AllP.nil)))) ?_
      refine To.thenN ?_
      obtain ⟨r2, hr2, h⟩ := bind_of h
      obtain ⟨r3, hr3, h⟩ := bind_of h
      obtain ⟨hc7, h⟩ := chk_of h
      obtain ⟨hc8, h⟩ := chk_of h
      obtain ⟨hc9, h⟩ := chk_of h
      obtain ⟨r4, hr4, h⟩ := bind_of h
      obtain ⟨r5, hr5, h⟩ := bind_of h
      obtain ⟨hc10, h⟩ := chk_of h
      obtain ⟨hc11, h⟩ := chk_of h
      obtain ⟨hc12, h⟩ := chk_of h
      obtain ⟨hc13, h⟩ := chk_of h
      obtain ⟨hc14, h⟩ := chk_of h
      obtain ⟨x6, hx6, h⟩ := lett_of h
      refine Wp.regionS hm hΓ 32 [] [(3, .val (.int .u32 r2)), (6, .val (.int .u32 r3)), (18, .val (.int .u32 r4)), (21, .val (.int .u32 r5)), (33, .recs (α := Int) 0 E_u32 (List.set b3 (Int.toNat v6) (IntKind.wrap .u32 ((IntKind.wrap .u32 ((IntKind.wrap .u32 ((IntKind.wrap .u32 ((BitVec.ofInt (IntKind.bits .u32) (IntKind.wrap .u32 ((BitVec.ofInt (IntKind.bits .u32) r2 ^^^ BitVec.ofInt (IntKind.bits .u32) r3).toNat)) ^^^ BitVec.ofInt (IntKind.bits .u32) (Int.fdiv ((b3)[Int.toNat (IntKind.wrap .i64 (v6 - 2))]?.getD 0) (2 ^ (min (Int.toNat 10) (IntKind.bits .u32))))).toNat)) + ((b3)[Int.toNat (IntKind.wrap .i64 (v6 - 7))]?.getD 0))) + (IntKind.wrap .u32 ((BitVec.ofInt (IntKind.bits .u32) (IntKind.wrap .u32 ((BitVec.ofInt (IntKind.bits .u32) r4 ^^^ BitVec.ofInt (IntKind.bits .u32) r5).toNat)) ^^^ BitVec.ofInt (IntKind.bits .u32) (Int.fdiv ((b3)[Int.toNat (IntKind.wrap .i64 (v6 - 15))]?.getD 0) (2 ^ (min (Int.toNat 3) (IntKind.bits .u32))))).toNat)))) + ((b3)[Int.toNat (IntKind.wrap .i64 (v6 - 16))]?.getD 0)))))] [] [2, 3, 5, 6] [2, 3] (K' := [(2, .elm 2 0 1 0), (3, .elm 3 0 1 0), (5, .fn 42 []), (6, .val (.int .i64 v6))]) (L' := [(2, 41, [.rowc false (α := Int) 0 E_u32 b2]), (3, 41, [.rowc false (α := Int) 0 E_u32 (List.set b3 (Int.toNat v6) (IntKind.wrap .u32 ((IntKind.wrap .u32 ((IntKind.wrap .u32 ((IntKind.wrap .u32 ((BitVec.ofInt (IntKind.bits .u32) (IntKind.wrap .u32 ((BitVec.ofInt (IntKind.bits .u32) r2 ^^^ BitVec.ofInt (IntKind.bits .u32) r3).toNat)) ^^^ BitVec.ofInt (IntKind.bits .u32) (Int.fdiv ((b3)[Int.toNat (IntKind.wrap .i64 (v6 - 2))]?.getD 0) (2 ^ (min (Int.toNat 10) (IntKind.bits .u32))))).toNat)) + ((b3)[Int.toNat (IntKind.wrap .i64 (v6 - 7))]?.getD 0))) + (IntKind.wrap .u32 ((BitVec.ofInt (IntKind.bits .u32) (IntKind.wrap .u32 ((BitVec.ofInt (IntKind.bits .u32) r4 ^^^ BitVec.ofInt (IntKind.bits .u32) r5).toNat)) ^^^ BitVec.ofInt (IntKind.bits .u32) (Int.fdiv ((b3)[Int.toNat (IntKind.wrap .i64 (v6 - 15))]?.getD 0) (2 ^ (min (Int.toNat 3) (IntKind.bits .u32))))).toNat)))) + ((b3)[Int.toNat (IntKind.wrap .i64 (v6 - 16))]?.getD 0))))])]) (ob := [(true = true → CX Try.prog 42 [.val (.int .u32 ((b3)[Int.toNat (IntKind.wrap .i64 (v6 - 2))]?.getD 0)), .val (.int .i64 17)] (.val (.int .u32 r2))), (true = true → CX Try.prog 42 [.val (.int .u32 ((b3)[Int.toNat (IntKind.wrap .i64 (v6 - 2))]?.getD 0)), .val (.int .i64 19)] (.val (.int .u32 r3))), (decide (0 ≤ (10 : Int))) = true, (decide (0 ≤ (IntKind.wrap .i64 (v6 - 7)) ∧ (IntKind.wrap .i64 (v6 - 7)) < (64 : Int))) = true, (decide (0 ≤ (IntKind.wrap .i64 (v6 - 7)) ∧ (IntKind.wrap .i64 (v6 - 7)) < (List.length b3 : Int))) = true, (true = true → CX Try.prog 42 [.val (.int .u32 ((b3)[Int.toNat (IntKind.wrap .i64 (v6 - 15))]?.getD 0)), .val (.int .i64 7)] (.val (.int .u32 r4))), (true = true → CX Try.prog 42 [.val (.int .u32 ((b3)[Int.toNat (IntKind.wrap .i64 (v6 - 15))]?.getD 0)), .val (.int .i64 18)] (.val (.int .u32 r5))), (decide (0 ≤ (3 : Int))) = true, (decide (0 ≤ (IntKind.wrap .i64 (v6 - 16)) ∧ (IntKind.wrap .i64 (v6 - 16)) < (64 : Int))) = true, (decide (0 ≤ (IntKind.wrap .i64 (v6 - 16)) ∧ (IntKind.wrap .i64 (v6 - 16)) < (List.length b3 : Int))) = true, (decide (0 ≤ v6 ∧ v6 < (64 : Int))) = true, (decide (0 ≤ v6 ∧ v6 < (List.length b3 : Int))) = true, UpdOb 0 E_u32 b3 v6 0 [.val (.int .u32 (IntKind.wrap .u32 ((IntKind.wrap .u32 ((IntKind.wrap .u32 ((IntKind.wrap .u32 ((BitVec.ofInt (IntKind.bits .u32) (IntKind.wrap .u32 ((BitVec.ofInt (IntKind.bits .u32) r2 ^^^ BitVec.ofInt (IntKind.bits .u32) r3).toNat)) ^^^ BitVec.ofInt (IntKind.bits .u32) (Int.fdiv ((b3)[Int.toNat (IntKind.wrap .i64 (v6 - 2))]?.getD 0) (2 ^ (min (Int.toNat 10) (IntKind.bits .u32))))).toNat)) + ((b3)[Int.toNat (IntKind.wrap .i64 (v6 - 7))]?.getD 0))) + (IntKind.wrap .u32 ((BitVec.ofInt (IntKind.bits .u32) (IntKind.wrap .u32 ((BitVec.ofInt (IntKind.bits .u32) r4 ^^^ BitVec.ofInt (IntKind.bits .u32) r5).toNat)) ^^^ BitVec.ofInt (IntKind.bits .u32) (Int.fdiv ((b3)[Int.toNat (IntKind.wrap .i64 (v6 - 15))]?.getD 0) (2 ^ (min (Int.toNat 3) (IntKind.bits .u32))))).toNat)))) + ((b3)[Int.toNat (IntKind.wrap .i64 (v6 - 16))]?.getD 0))))] (.recs (α := Int) 0 E_u32 (List.set b3 (Int.toNat v6) (IntKind.wrap .u32 ((IntKind.wrap .u32 ((IntKind.wrap .u32 ((IntKind.wrap .u32 ((BitVec.ofInt (IntKind.bits .u32) (IntKind.wrap .u32 ((BitVec.ofInt (IntKind.bits .u32) r2 ^^^ BitVec.ofInt (IntKind.bits .u32) r3).toNat)) ^^^ BitVec.ofInt (IntKind.bits .u32) (Int.fdiv ((b3)[Int.toNat (IntKind.wrap .i64 (v6 - 2))]?.getD 0) (2 ^ (min (Int.toNat 10) (IntKind.bits .u32))))).toNat)) + ((b3)[Int.toNat (IntKind.wrap .i64 (v6 - 7))]?.getD 0))) + (IntKind.wrap .u32 ((BitVec.ofInt (IntKind.bits .u32) (IntKind.wrap .u32 ((BitVec.ofInt (IntKind.bits .u32) r4 ^^^ BitVec.ofInt (IntKind.bits .u32) r5).toNat)) ^^^ BitVec.ofInt (IntKind.bits .u32) (Int.fdiv ((b3)[Int.toNat (IntKind.wrap .i64 (v6 - 15))]?.getD 0) (2 ^ (min (Int.toNat 3) (IntKind.bits .u32))))).toNat)))) + ((b3)[Int.toNat (IntKind.wrap .i64 (v6 - 16))]?.getD 0)))))]) (by kernel_rfl) (AllP.cons (fun _ => cx (ok_sha_words_1 n ((b3)[Int.toNat (IntKind.wrap .i64 (v6 - 2))]?.getD 0) 17 _ hr2)) (AllP.cons (fun _ => cx (ok_sha_words_1 n ((b3)[Int.toNat (IntKind.wrap .i64 (v6 - 2))]?.getD 0) 19 _ hr3)) (AllP.cons hc7 (AllP.cons hc8 (AllP.cons hc9 (AllP.cons (fun _ => cx (ok_sha_words_1 n ((b3)[Int.toNat (IntKind.wrap .i64 (v6 - 15))]?.getD 0) 7 _ hr4)) (AllP.cons (fun _ => cx (ok_sha_words_1 n ((b3)[Int.toNat (IntKind.wrap .i64 (v6 - 15))]?.getD 0) 18 _ hr5)) (AllP.cons hc10 (AllP.cons hc11 (AllP.cons hc12 (AllP.cons hc13 (AllP.cons hc14 (AllP.cons (updOb (by kernel_rfl)) AllP.nil))))))))))))) ?_
      refine To.eq (K' := [(2, .elm 2 0 1 0), (3, .elm 3 0 1 0), (5, .fn 42 []), (6, .val (.int .i64 v6))]) (L' := [(2, 41, [.rowc false (α := Int) 0 E_u32 b2]), (3, 41, [.rowc false (α := Int) 0 E_u32 x6])]) (by cases hx6; rfl) (by cases hx6; rfl) ?_
      refine To.blockN ?_
      refine To.thenN ?_
      refine Wp.region hΓ [] [] [] [2, 3, 5, 6] [2, 3] (K' := [(2, .elm 2 0 1 0), (3, .elm 3 0 1 0), (5, .fn 42 []), (6, .val (.int .i64 (IntKind.wrap .i64 (v6 + 1))))]) (L' := [(2, 41, [.rowc false (α := Int) 0 E_u32 b2]), (3, 41, [.rowc false (α := Int) 0 E_u32 x6])]) (ob := []) (by kernel_rfl) AllP.nil ?_
      refine To.keep (kk := [2, 3, 5, 6]) (kl := [2, 3]) (K' := [(2, .elm 2 0 1 0), (3, .elm 3 0 1 0), (5, .fn 42 []), (6, .val (.int .i64 (IntKind.wrap .i64 (v6 + 1))))]) (L' := [(2, 41, [.rowc false (α := Int) 0 E_u32 b2]), (3, 41, [.rowc false (α := Int) 0 E_u32 x6])]) (by kernel_rfl) (by kernel_rfl) ?_
      refine To.again ?_
      exact ih (IntKind.wrap .i64 (v6 + 1)) x6 _ h hQ
    · replace h := if_f hb h
      refine Wp.exit ?_
      refine To.thenX ?_
      refine To.thenX ?_
      refine To.keep (kk := [2, 3]) (kl := [2, 3]) (K' := [(2, .elm 2 0 1 0), (3, .elm 3 0 1 0)]) (L' := [(2, 41, [.rowc false (α := Int) 0 E_u32 b2]), (3, 41, [.rowc false (α := Int) 0 E_u32 b3])]) (by kernel_rfl) (by kernel_rfl) ?_
      cases h
      exact hQ
def sha_words (n : Nat) (a0 : List UInt8) : Option ((List (Int))) :=
  (sha_words_l1 n a0 (List.replicate 64 0) n 0 (List.replicate 64 0)).bind fun o1 =>
  (sha_words_l2 n (List.replicate 64 0) n 16 o1).bind fun o2 =>
  if (decide (List.length o2 = 64)) = true then (if (decide (List.length (List.replicate 64 0) = 64)) = true then (if (decide (List.length o2 = 64)) = true then (if (decide (List.length o2 = 64)) = true then some o2 else none) else none) else none) else none
theorem ok_sha_words (n : Nat) (a0 : List UInt8) (r : (List (Int))) (h : sha_words n a0 = some r) : CallsX Try.prog 33 [.str a0] (.arr (α := Int) 0 E_u32 r) := by
  unfold sha_words at h
  refine callsX_of (fn := Try.f33) (by kernel_rfl) rfl (by kernel_rfl) (Nat.le_of_ble_eq_true (by kernel_rfl)) fun F0 w0 _ => ?_
  refine Wp.keep (kk := [0]) (kl := []) (K' := [(0, .str a0)]) (L' := []) (by kernel_rfl) (by kernel_rfl) ?_
  refine Wp.seq ?_
  refine Wp.region hΓ [] [] [] [0, 2] [2] (K' := [(0, .str a0), (2, .own 2 0)]) (L' := [(2, 41, [.val (.int .u32 0), .val (.int .u32 0), .val (.int .u32 0), .val (.int .u32 0), .val (.int .u32 0), .val (.int .u32 0), .val (.int .u32 0), .val (.int .u32 0), .val (.int .u32 0), .val (.int .u32 0), .val (.int .u32 0), .val (.int .u32 0), .val (.int .u32 0), .val (.int .u32 0), .val (.int .u32 0), .val (.int .u32 0), .val (.int .u32 0), .val (.int .u32 0), .val (.int .u32 0), .val (.int .u32 0), .val (.int .u32 0), .val (.int .u32 0), .val (.int .u32 0), .val (.int .u32 0), .val (.int .u32 0), .val (.int .u32 0), .val (.int .u32 0), .val (.int .u32 0), .val (.int .u32 0), .val (.int .u32 0), .val (.int .u32 0), .val (.int .u32 0), .val (.int .u32 0), .val (.int .u32 0), .val (.int .u32 0), .val (.int .u32 0), .val (.int .u32 0), .val (.int .u32 0), .val (.int .u32 0), .val (.int .u32 0), .val (.int .u32 0), .val (.int .u32 0), .val (.int .u32 0), .val (.int .u32 0), .val (.int .u32 0), .val (.int .u32 0), .val (.int .u32 0), .val (.int .u32 0), .val (.int .u32 0), .val (.int .u32 0), .val (.int .u32 0), .val (.int .u32 0), .val (.int .u32 0), .val (.int .u32 0), .val (.int .u32 0), .val (.int .u32 0), .val (.int .u32 0), .val (.int .u32 0), .val (.int .u32 0), .val (.int .u32 0), .val (.int .u32 0), .val (.int .u32 0), .val (.int .u32 0), .val (.int .u32 0)])]) (ob := []) (by kernel_rfl) AllP.nil ?_
  refine To.pre (St.toRow (t := 41) (l := (List.replicate 64 0)) 2 1 64 (by decide) (by decide) (good_E_u32 _) (by kernel_rfl) (by kernel_rfl) (by kernel_rfl) (by kernel_rfl) (K' := [(0, .str a0), (2, .elm 2 0 1 0)]) (L' := [(2, 41, [.rowc false (α := Int) 0 E_u32 (List.replicate 64 0)])]) (by kernel_rfl) (by kernel_rfl)) ?_
  refine To.thenN ?_
  refine Wp.seq ?_
  refine Wp.region hΓ [] [] [] [0, 2, 3] [2, 3] (K' := [(0, .str a0), (2, .elm 2 0 1 0), (3, .own 3 0)]) (L' := [(2, 41, [.rowc false (α := Int) 0 E_u32 (List.replicate 64 0)]), (3, 41, [.val (.int .u32 0), .val (.int .u32 0), .val (.int .u32 0), .val (.int .u32 0), .val (.int .u32 0), .val (.int .u32 0), .val (.int .u32 0), .val (.int .u32 0), .val (.int .u32 0), .val (.int .u32 0), .val (.int .u32 0), .val (.int .u32 0), .val (.int .u32 0), .val (.int .u32 0), .val (.int .u32 0), .val (.int .u32 0), .val (.int .u32 0), .val (.int .u32 0), .val (.int .u32 0), .val (.int .u32 0), .val (.int .u32 0), .val (.int .u32 0), .val (.int .u32 0), .val (.int .u32 0), .val (.int .u32 0), .val (.int .u32 0), .val (.int .u32 0), .val (.int .u32 0), .val (.int .u32 0), .val (.int .u32 0), .val (.int .u32 0), .val (.int .u32 0), .val (.int .u32 0), .val (.int .u32 0), .val (.int .u32 0), .val (.int .u32 0), .val (.int .u32 0), .val (.int .u32 0), .val (.int .u32 0), .val (.int .u32 0), .val (.int .u32 0), .val (.int .u32 0), .val (.int .u32 0), .val (.int .u32 0), .val (.int .u32 0), .val (.int .u32 0), .val (.int .u32 0), .val (.int .u32 0), .val (.int .u32 0), .val (.int .u32 0), .val (.int .u32 0), .val (.int .u32 0), .val (.int .u32 0), .val (.int .u32 0), .val (.int .u32 0), .val (.int .u32 0), .val (.int .u32 0), .val (.int .u32 0), .val (.int .u32 0), .val (.int .u32 0), .val (.int .u32 0), .val (.int .u32 0), .val (.int .u32 0), .val (.int .u32 0)])]) (ob := []) (by kernel_rfl) AllP.nil ?_
  refine To.pre (St.toRow (t := 41) (l := (List.replicate 64 0)) 3 1 64 (by decide) (by decide) (good_E_u32 _) (by kernel_rfl) (by kernel_rfl) (by kernel_rfl) (by kernel_rfl) (K' := [(0, .str a0), (2, .elm 2 0 1 0), (3, .elm 3 0 1 0)]) (L' := [(3, 41, [.rowc false (α := Int) 0 E_u32 (List.replicate 64 0)]), (2, 41, [.rowc false (α := Int) 0 E_u32 (List.replicate 64 0)])]) (by kernel_rfl) (by kernel_rfl)) ?_
  refine To.thenN ?_
  refine Wp.seq ?_
  refine Wp.seq ?_
  refine Wp.region hΓ [] [] [] [0, 2, 3, 9] [2, 3] (K' := [(0, .str a0), (2, .elm 2 0 1 0), (3, .elm 3 0 1 0), (9, .val (.int .i64 0))]) (L' := [(2, 41, [.rowc false (α := Int) 0 E_u32 (List.replicate 64 0)]), (3, 41, [.rowc false (α := Int) 0 E_u32 (List.replicate 64 0)])]) (ob := []) (by kernel_rfl) AllP.nil ?_
  refine To.thenN ?_
  refine Wp.block ?_
  obtain ⟨o1, ho1, h⟩ := bind_of h
  refine Wp.keep (kk := [0, 2, 3, 9]) (kl := [2, 3]) (K' := [(0, .str a0), (2, .elm 2 0 1 0), (3, .elm 3 0 1 0), (9, .val (.int .i64 0))]) (L' := [(2, 41, [.rowc false (α := Int) 0 E_u32 (List.replicate 64 0)]), (3, 41, [.rowc false (α := Int) 0 E_u32 (List.replicate 64 0)])]) (by kernel_rfl) (by kernel_rfl) ?_
  refine Wp.loopL ?_
  refine ok_sha_words_l1 n a0 (List.replicate 64 0) n 0 (List.replicate 64 0) o1 ho1 ?_
  refine To.blockX ?_
  refine To.thenN ?_
  refine Wp.seq ?_
  refine Wp.region hΓ [] [] [] [2, 3, 5] [2, 3] (K' := [(2, .elm 2 0 1 0), (3, .elm 3 0 1 0), (5, .fn 42 [])]) (L' := [(2, 41, [.rowc false (α := Int) 0 E_u32 (List.replicate 64 0)]), (3, 41, [.rowc false (α := Int) 0 E_u32 o1])]) (ob := []) (by kernel_rfl) AllP.nil ?_
  refine To.thenN ?_
  refine Wp.seq ?_
  refine Wp.seq ?_
  refine Wp.region hΓ [] [] [] [2, 3, 5, 6] [2, 3] (K' := [(2, .elm 2 0 1 0), (3, .elm 3 0 1 0), (5, .fn 42 []), (6, .val (.int .i64 16))]) (L' := [(2, 41, [.rowc false (α := Int) 0 E_u32 (List.replicate 64 0)]), (3, 41, [.rowc false (α := Int) 0 E_u32 o1])]) (ob := []) (by kernel_rfl) AllP.nil ?_
  refine To.thenN ?_
  refine Wp.block ?_
  obtain ⟨o2, ho2, h⟩ := bind_of h
  refine Wp.keep (kk := [2, 3, 5, 6]) (kl := [2, 3]) (K' := [(2, .elm 2 0 1 0), (3, .elm 3 0 1 0), (5, .fn 42 []), (6, .val (.int .i64 16))]) (L' := [(2, 41, [.rowc false (α := Int) 0 E_u32 (List.replicate 64 0)]), (3, 41, [.rowc false (α := Int) 0 E_u32 o1])]) (by kernel_rfl) (by kernel_rfl) ?_
  refine Wp.loopL ?_
  refine ok_sha_words_l2 n (List.replicate 64 0) n 16 o1 o2 ho2 ?_
  refine To.blockX ?_
  refine To.thenN ?_
  refine Wp.seq ?_
  obtain ⟨hc5, h⟩ := chk_of h
  obtain ⟨hc6, h⟩ := chk_of h
  obtain ⟨u3, h⟩ := chk_of h
  refine Wp.region hΓ [] [(1, .recs (α := Int) 0 E_u32 o2)] [] [2] [2] (K' := [(2, .elm 2 0 1 0)]) (L' := [(2, 41, [.rowc false (α := Int) 0 E_u32 o2])]) (ob := [(decide (List.length o2 = 64)) = true, (decide (List.length (List.replicate 64 0) = 64)) = true, (MkOb 1 (D.cells (.arr (α := Int) 0 E_u32 o2)) 64 (.recs (α := Int) 0 E_u32 o2) ∧ GoodR (.recs (α := Int) 0 E_u32 o2))]) (by kernel_rfl) (AllP.cons hc5 (AllP.cons hc6 (AllP.cons (mkOb rfl (of_decide_eq_true u3) rfl (good_E_u32 _)) AllP.nil))) ?_
  refine To.thenN ?_
  refine Wp.ret ?_
  refine To.keep (kk := [2]) (kl := [2]) (K' := [(2, .elm 2 0 1 0)]) (L' := [(2, 41, [.rowc false (α := Int) 0 E_u32 o2])]) (by kernel_rfl) (by kernel_rfl) ?_
  obtain ⟨hc4, h⟩ := chk_of h
  cases h
  exact To.doneA hΓ (by kernel_rfl) hc4
def sha_round_1 (n : Nat) (a0 : Int) (a1 : Int) : Option (Int) :=
  (math_bits_RotateLeft32 n a0 (IntKind.wrap .i64 (0 - a1))).bind fun r1 =>
  some r1
theorem ok_sha_round_1 (n : Nat) (a0 : Int) (a1 : Int) (r : Int) (h : sha_round_1 n a0 a1 = some r) : CallsX Try.prog 44 [.val (.int .u32 a0), .val (.int .i64 a1)] (.val (.int .u32 r)) := by
  unfold sha_round_1 at h
  refine callsX_of (fn := Try.f44) (by kernel_rfl) rfl (by kernel_rfl) (Nat.le_of_ble_eq_true (by kernel_rfl)) fun F0 w0 _ => ?_
  refine Wp.keep (kk := [0, 1]) (kl := []) (K' := [(0, .val (.int .u32 a0)), (1, .val (.int .i64 a1))]) (L' := []) (by kernel_rfl) (by kernel_rfl) ?_
  refine Wp.seq ?_
  refine Wp.region hΓ [] [] [] [0, 1] [] (K' := [(0, .val (.int .u32 a0)), (1, .val (.int .i64 a1))]) (L' := []) (ob := []) (by kernel_rfl) AllP.nil ?_
  refine To.thenN ?_
  refine Wp.seq ?_
  obtain ⟨r1, hr1, h⟩ := bind_of h
  refine Wp.region hΓ [] [(3, .val (.int .u32 r1))] [] [4] [] (K' := [(4, .val (.int .u32 r1))]) (L' := []) (ob := [(true = true → CX Try.prog 43 [.val (.int .u32 a0), .val (.int .i64 (IntKind.wrap .i64 (0 - a1)))] (.val (.int .u32 r1)))]) (by kernel_rfl) (AllP.cons (fun _ => cx (ok_math_bits_RotateLeft32 n a0 (IntKind.wrap .i64 (0 - a1)) _ hr1)) AllP.nil) ?_
  refine To.thenN ?_
  refine Wp.ret ?_
  refine To.keep (kk := [4]) (kl := []) (K' := [(4, .val (.int .u32 r1))]) (L' := []) (by kernel_rfl) (by kernel_rfl) ?_
  cases h
  exact To.done hΓ (by kernel_rfl)
def sha_round (n : Nat) (a0 : List (Int)) (a1 : Int) (a2 : Int) : Option ((List (Int))) :=
  if (decide (List.length a0 = 8)) = true then (if (decide (0 ≤ (0 : Int) ∧ (0 : Int) < (8 : Int))) = true then (if (decide (0 ≤ (0 : Int) ∧ (0 : Int) < (List.length a0 : Int))) = true then (if (decide (0 ≤ (4 : Int) ∧ (4 : Int) < (8 : Int))) = true then (if (decide (0 ≤ (4 : Int) ∧ (4 : Int) < (List.length a0 : Int))) = true then (if (decide (0 ≤ (7 : Int) ∧ (7 : Int) < (8 : Int))) = true then (if (decide (0 ≤ (7 : Int) ∧ (7 : Int) < (List.length a0 : Int))) = true then ((sha_round_1 n ((a0)[Int.toNat 4]?.getD 0) 6).bind fun r2 =>
  (sha_round_1 n ((a0)[Int.toNat 4]?.getD 0) 11).bind fun r3 =>
  (sha_round_1 n ((a0)[Int.toNat 4]?.getD 0) 25).bind fun r4 =>
  if (decide (0 ≤ (5 : Int) ∧ (5 : Int) < (8 : Int))) = true then (if (decide (0 ≤ (5 : Int) ∧ (5 : Int) < (List.length a0 : Int))) = true then (if (decide (0 ≤ (6 : Int) ∧ (6 : Int) < (8 : Int))) = true then (if (decide (0 ≤ (6 : Int) ∧ (6 : Int) < (List.length a0 : Int))) = true then (lett ((IntKind.wrap .u32 ((IntKind.wrap .u32 ((IntKind.wrap .u32 ((IntKind.wrap .u32 (((a0)[Int.toNat 7]?.getD 0) + (IntKind.wrap .u32 ((BitVec.ofInt (IntKind.bits .u32) (IntKind.wrap .u32 ((BitVec.ofInt (IntKind.bits .u32) r2 ^^^ BitVec.ofInt (IntKind.bits .u32) r3).toNat)) ^^^ BitVec.ofInt (IntKind.bits .u32) r4).toNat)))) + (IntKind.wrap .u32 ((BitVec.ofInt (IntKind.bits .u32) (IntKind.wrap .u32 ((BitVec.ofInt (IntKind.bits .u32) ((a0)[Int.toNat 4]?.getD 0) &&& BitVec.ofInt (IntKind.bits .u32) ((a0)[Int.toNat 5]?.getD 0)).toNat)) ^^^ BitVec.ofInt (IntKind.bits .u32) (IntKind.wrap .u32 ((BitVec.ofInt (IntKind.bits .u32) (IntKind.wrap .u32 ((BitVec.ofInt (IntKind.bits .u32) (IntKind.max .u32) ^^^ BitVec.ofInt (IntKind.bits .u32) ((a0)[Int.toNat 4]?.getD 0)).toNat)) &&& BitVec.ofInt (IntKind.bits .u32) ((a0)[Int.toNat 6]?.getD 0)).toNat))).toNat)))) + a1)) + a2)) : Int) fun x5 =>
  (sha_round_1 n ((a0)[Int.toNat 0]?.getD 0) 2).bind fun r6 =>
  (sha_round_1 n ((a0)[Int.toNat 0]?.getD 0) 13).bind fun r7 =>
  (sha_round_1 n ((a0)[Int.toNat 0]?.getD 0) 22).bind fun r8 =>
  if (decide (0 ≤ (1 : Int) ∧ (1 : Int) < (8 : Int))) = true then (if (decide (0 ≤ (1 : Int) ∧ (1 : Int) < (List.length a0 : Int))) = true then (if (decide (0 ≤ (2 : Int) ∧ (2 : Int) < (8 : Int))) = true then (if (decide (0 ≤ (2 : Int) ∧ (2 : Int) < (List.length a0 : Int))) = true then (lett ((IntKind.wrap .u32 ((IntKind.wrap .u32 ((BitVec.ofInt (IntKind.bits .u32) (IntKind.wrap .u32 ((BitVec.ofInt (IntKind.bits .u32) r6 ^^^ BitVec.ofInt (IntKind.bits .u32) r7).toNat)) ^^^ BitVec.ofInt (IntKind.bits .u32) r8).toNat)) + (IntKind.wrap .u32 ((BitVec.ofInt (IntKind.bits .u32) (IntKind.wrap .u32 ((BitVec.ofInt (IntKind.bits .u32) (IntKind.wrap .u32 ((BitVec.ofInt (IntKind.bits .u32) ((a0)[Int.toNat 0]?.getD 0) &&& BitVec.ofInt (IntKind.bits .u32) ((a0)[Int.toNat 1]?.getD 0)).toNat)) ^^^ BitVec.ofInt (IntKind.bits .u32) (IntKind.wrap .u32 ((BitVec.ofInt (IntKind.bits .u32) ((a0)[Int.toNat 0]?.getD 0) &&& BitVec.ofInt (IntKind.bits .u32) ((a0)[Int.toNat 2]?.getD 0)).toNat))).toNat)) ^^^ BitVec.ofInt (IntKind.bits .u32) (IntKind.wrap .u32 ((BitVec.ofInt (IntKind.bits .u32) ((a0)[Int.toNat 1]?.getD 0) &&& BitVec.ofInt (IntKind.bits .u32) ((a0)[Int.toNat 2]?.getD 0)).toNat))).toNat)))) : Int) fun x9 =>
  if (decide (0 ≤ (1 : Int) ∧ (1 : Int) < (8 : Int))) = true then (if (decide (0 ≤ (1 : Int) ∧ (1 : Int) < (List.length a0 : Int))) = true then (if (decide (0 ≤ (2 : Int) ∧ (2 : Int) < (8 : Int))) = true then (if (decide (0 ≤ (2 : Int) ∧ (2 : Int) < (List.length a0 : Int))) = true then (if (decide (0 ≤ (3 : Int) ∧ (3 : Int) < (8 : Int))) = true then (if (decide (0 ≤ (3 : Int) ∧ (3 : Int) < (List.length a0 : Int))) = true then (if (decide (0 ≤ (5 : Int) ∧ (5 : Int) < (8 : Int))) = true then (if (decide (0 ≤ (5 : Int) ∧ (5 : Int) < (List.length a0 : Int))) = true then (if (decide (0 ≤ (6 : Int) ∧ (6 : Int) < (8 : Int))) = true then (if (decide (0 ≤ (6 : Int) ∧ (6 : Int) < (List.length a0 : Int))) = true then (if (decide (List.length (List.replicate 8 0) = 8)) = true then (lett (([(IntKind.wrap .u32 (x5 + x9)), ((a0)[Int.toNat 0]?.getD 0), ((a0)[Int.toNat 1]?.getD 0), ((a0)[Int.toNat 2]?.getD 0), (IntKind.wrap .u32 (((a0)[Int.toNat 3]?.getD 0) + x5)), ((a0)[Int.toNat 4]?.getD 0), ((a0)[Int.toNat 5]?.getD 0), ((a0)[Int.toNat 6]?.getD 0)] : List (Int)) : List (Int)) fun x10 =>
  if (decide (List.length x10 = 8)) = true then some x10 else none) else none) else none) else none) else none) else none) else none) else none) else none) else none) else none) else none) else none) else none) else none) else none) else none) else none) else none) else none) else none) else none) else none) else none) else none) else none) else none
theorem ok_sha_round (n : Nat) (a0 : List (Int)) (a1 : Int) (a2 : Int) (r : (List (Int))) (h : sha_round n a0 a1 a2 = some r) : CallsX Try.prog 34 [.arr (α := Int) 0 E_u32 a0, .val (.int .u32 a1), .val (.int .u32 a2)] (.arr (α := Int) 0 E_u32 r) := by
  unfold sha_round at h
  refine callsX_of (fn := Try.f34) (by kernel_rfl) rfl (by kernel_rfl) (Nat.le_of_ble_eq_true (by kernel_rfl)) fun F0 w0 _ => ?_
  refine Wp.keep (kk := [0, 1, 2]) (kl := []) (K' := [(0, .arr (α := Int) 0 E_u32 a0), (1, .val (.int .u32 a1)), (2, .val (.int .u32 a2))]) (L' := []) (by kernel_rfl) (by kernel_rfl) ?_
  refine Wp.seq ?_
  obtain ⟨u1, h⟩ := chk_of h
  refine Wp.region hΓ [] [(0, .recs (α := Int) 0 E_u32 a0)] [] [1, 2, 3, 6] [3, 6] (K' := [(1, .val (.int .u32 a1)), (2, .val (.int .u32 a2)), (3, .elm 3 0 1 0), (6, .own 6 0)]) (L' := [(3, 30, [.rowc false (α := Int) 0 E_u32 a0]), (6, 30, [.val (.int .u32 0), .val (.int .u32 0), .val (.int .u32 0), .val (.int .u32 0), .val (.int .u32 0), .val (.int .u32 0), .val (.int .u32 0), .val (.int .u32 0)])]) (ob := [(MkOb 1 (D.cells (.arr (α := Int) 0 E_u32 a0)) 8 (.recs (α := Int) 0 E_u32 a0) ∧ GoodR (.recs (α := Int) 0 E_u32 a0))]) (by kernel_rfl) (AllP.cons (mkOb rfl (of_decide_eq_true u1) rfl (good_E_u32 _)) AllP.nil) ?_
  refine To.pre (St.toRow (t := 30) (l := (List.replicate 8 0)) 6 1 8 (by decide) (by decide) (good_E_u32 _) (by kernel_rfl) (by kernel_rfl) (by kernel_rfl) (by kernel_rfl) (K' := [(1, .val (.int .u32 a1)), (2, .val (.int .u32 a2)), (3, .elm 3 0 1 0), (6, .elm 6 0 1 0)]) (L' := [(6, 30, [.rowc false (α := Int) 0 E_u32 (List.replicate 8 0)]), (3, 30, [.rowc false (α := Int) 0 E_u32 a0])]) (by kernel_rfl) (by kernel_rfl)) ?_
  refine To.thenN ?_
  refine Wp.seq ?_
  refine Wp.region hΓ [] [] [] [1, 2, 3, 6, 7] [3, 6] (K' := [(1, .val (.int .u32 a1)), (2, .val (.int .u32 a2)), (3, .elm 3 0 1 0), (6, .elm 6 0 1 0), (7, .fn 44 [])]) (L' := [(3, 30, [.rowc false (α := Int) 0 E_u32 a0]), (6, 30, [.rowc false (α := Int) 0 E_u32 (List.replicate 8 0)])]) (ob := []) (by kernel_rfl) AllP.nil ?_
  refine To.thenN ?_
  refine Wp.seq ?_
  obtain ⟨hc33, h⟩ := chk_of h
  obtain ⟨hc34, h⟩ := chk_of h
  obtain ⟨hc35, h⟩ := chk_of h
  obtain ⟨hc36, h⟩ := chk_of h
  refine Wp.regionD hm hΓ [] [1, 2, 3, 6, 7, 8, 9] [3, 6] (K' := [(1, .val (.int .u32 a1)), (2, .val (.int .u32 a2)), (3, .elm 3 0 1 0), (6, .elm 6 0 1 0), (7, .fn 44 []), (8, .val (.int .u32 ((a0)[Int.toNat 0]?.getD 0))), (9, .val (.int .u32 ((a0)[Int.toNat 4]?.getD 0)))]) (L' := [(3, 30, [.rowc false (α := Int) 0 E_u32 a0]), (6, 30, [.rowc false (α := Int) 0 E_u32 (List.replicate 8 0)])]) (ob := [(decide (0 ≤ (0 : Int) ∧ (0 : Int) < (8 : Int))) = true, (decide (0 ≤ (0 : Int) ∧ (0 : Int) < (List.length a0 : Int))) = true, (decide (0 ≤ (4 : Int) ∧ (4 : Int) < (8 : Int))) = true, (decide (0 ≤ (4 : Int) ∧ (4 : Int) < (List.length a0 : Int))) = true]) (by kernel_rfl) (AllP.cons hc33 (AllP.cons hc34 (AllP.cons hc35 (AllP.cons hc36 AllP.nil)))) ?_
  refine To.thenN ?_
  refine Wp.seq ?_
  obtain ⟨hc27, h⟩ := chk_of h
  obtain ⟨hc28, h⟩ := chk_of h
  obtain ⟨r2, hr2, h⟩ := bind_of h
  obtain ⟨r3, hr3, h⟩ := bind_of h
  obtain ⟨r4, hr4, h⟩ := bind_of h
  obtain ⟨hc29, h⟩ := chk_of h
  obtain ⟨hc30, h⟩ := chk_of h
  obtain ⟨hc31, h⟩ := chk_of h
  obtain ⟨hc32, h⟩ := chk_of h
  obtain ⟨x5, hx5, h⟩ := lett_of h
  refine Wp.regionD hm hΓ [(4, .val (.int .u32 r2)), (7, .val (.int .u32 r3)), (11, .val (.int .u32 r4))] [3, 6, 7, 8, 9, 10] [3, 6] (K' := [(3, .elm 3 0 1 0), (6, .elm 6 0 1 0), (7, .fn 44 []), (8, .val (.int .u32 ((a0)[Int.toNat 0]?.getD 0))), (9, .val (.int .u32 ((a0)[Int.toNat 4]?.getD 0))), (10, .val (.int .u32 (IntKind.wrap .u32 ((IntKind.wrap .u32 ((IntKind.wrap .u32 ((IntKind.wrap .u32 (((a0)[Int.toNat 7]?.getD 0) + (IntKind.wrap .u32 ((BitVec.ofInt (IntKind.bits .u32) (IntKind.wrap .u32 ((BitVec.ofInt (IntKind.bits .u32) r2 ^^^ BitVec.ofInt (IntKind.bits .u32) r3).toNat)) ^^^ BitVec.ofInt (IntKind.bits .u32) r4).toNat)))) + (IntKind.wrap .u32 ((BitVec.ofInt (IntKind.bits .u32) (IntKind.wrap .u32 ((BitVec.ofInt (IntKind.bits .u32) ((a0)[Int.toNat 4]?.getD 0) &&& BitVec.ofInt (IntKind.bits .u32) ((a0)[Int.toNat 5]?.getD 0)).toNat)) ^^^ BitVec.ofInt (IntKind.bits .u32) (IntKind.wrap .u32 ((BitVec.ofInt (IntKind.bits .u32) (IntKind.wrap .u32 ((BitVec.ofInt (IntKind.bits .u32) (IntKind.max .u32) ^^^ BitVec.ofInt (IntKind.bits .u32) ((a0)[Int.toNat 4]?.getD 0)).toNat)) &&& BitVec.ofInt (IntKind.bits .u32) ((a0)[Int.toNat 6]?.getD 0)).toNat))).toNat)))) + a1)) + a2))))]) (L' := [(3, 30, [.rowc false (α := Int) 0 E_u32 a0]), (6, 30, [.rowc false (α := Int) 0 E_u32 (List.replicate 8 0)])]) (ob := [(decide (0 ≤ (7 : Int) ∧ (7 : Int) < (8 : Int))) = true, (decide (0 ≤ (7 : Int) ∧ (7 : Int) < (List.length a0 : Int))) = true, (true = true → CX Try.prog 44 [.val (.int .u32 ((a0)[Int.toNat 4]?.getD 0)), .val (.int .i64 6)] (.val (.int .u32 r2))), (true = true → CX Try.prog 44 [.val (.int .u32 ((a0)[Int.toNat 4]?.getD 0)), .val (.int .i64 11)] (.val (.int .u32 r3))), (true = true → CX Try.prog 44 [.val (.int .u32 ((a0)[Int.toNat 4]?.getD 0)), .val (.int .i64 25)] (.val (.int .u32 r4))), (decide (0 ≤ (5 : Int) ∧ (5 : Int) < (8 : Int))) = true, (decide (0 ≤ (5 : Int) ∧ (5 : Int) < (List.length a0 : Int))) = true, (decide (0 ≤ (6 : Int) ∧ (6 : Int) < (8 : Int))) = true, (decide (0 ≤ (6 : Int) ∧ (6 : Int) < (List.length a0 : Int))) = true]) (by kernel_rfl) (AllP.cons hc27 (AllP.cons hc28 (AllP.cons (fun _ => cx (ok_sha_round_1 n ((a0)[Int.toNat 4]?.getD 0) 6 _ hr2)) (AllP.cons (fun _ => cx (ok_sha_round_1 n ((a0)[Int.toNat 4]?.getD 0) 11 _ hr3)) (AllP.cons (fun _ => cx (ok_sha_round_1 n ((a0)[Int.toNat 4]?.getD 0) 25 _ hr4)) (AllP.cons hc29 (AllP.cons hc30 (AllP.cons hc31 (AllP.cons hc32 AllP.nil))))))))) ?_
  refine To.eq (K' := [(3, .elm 3 0 1 0), (6, .elm 6 0 1 0), (7, .fn 44 []), (8, .val (.int .u32 ((a0)[Int.toNat 0]?.getD 0))), (9, .val (.int .u32 ((a0)[Int.toNat 4]?.getD 0))), (10, .val (.int .u32 x5))]) (L' := [(3, 30, [.rowc false (α := Int) 0 E_u32 a0]), (6, 30, [.rowc false (α := Int) 0 E_u32 (List.replicate 8 0)])]) (by cases hx5; rfl) (by cases hx5; rfl) ?_
  refine To.thenN ?_
  refine Wp.seq ?_
  obtain ⟨r6, hr6, h⟩ := bind_of h
  obtain ⟨r7, hr7, h⟩ := bind_of h
  obtain ⟨r8, hr8, h⟩ := bind_of h
  obtain ⟨hc23, h⟩ := chk_of h
  obtain ⟨hc24, h⟩ := chk_of h
  obtain ⟨hc25, h⟩ := chk_of h
  obtain ⟨hc26, h⟩ := chk_of h
  obtain ⟨x9, hx9, h⟩ := lett_of h
  refine Wp.regionD hm hΓ [(2, .val (.int .u32 r6)), (5, .val (.int .u32 r7)), (9, .val (.int .u32 r8))] [3, 6, 8, 9, 10, 11] [3, 6] (K' := [(3, .elm 3 0 1 0), (6, .elm 6 0 1 0), (8, .val (.int .u32 ((a0)[Int.toNat 0]?.getD 0))), (9, .val (.int .u32 ((a0)[Int.toNat 4]?.getD 0))), (10, .val (.int .u32 x5)), (11, .val (.int .u32 (IntKind.wrap .u32 ((IntKind.wrap .u32 ((BitVec.ofInt (IntKind.bits .u32) (IntKind.wrap .u32 ((BitVec.ofInt (IntKind.bits .u32) r6 ^^^ BitVec.ofInt (IntKind.bits .u32) r7).toNat)) ^^^ BitVec.ofInt (IntKind.bits .u32) r8).toNat)) + (IntKind.wrap .u32 ((BitVec.ofInt (IntKind.bits .u32) (IntKind.wrap .u32 ((BitVec.ofInt (IntKind.bits .u32) (IntKind.wrap .u32 ((BitVec.ofInt (IntKind.bits .u32) ((a0)[Int.toNat 0]?.getD 0) &&& BitVec.ofInt (IntKind.bits .u32) ((a0)[Int.toNat 1]?.getD 0)).toNat)) ^^^ BitVec.ofInt (IntKind.bits .u32) (IntKind.wrap .u32 ((BitVec.ofInt (IntKind.bits .u32) ((a0)[Int.toNat 0]?.getD 0) &&& BitVec.ofInt (IntKind.bits .u32) ((a0)[Int.toNat 2]?.getD 0)).toNat))).toNat)) ^^^ BitVec.ofInt (IntKind.bits .u32) (IntKind.wrap .u32 ((BitVec.ofInt (IntKind.bits .u32) ((a0)[Int.toNat 1]?.getD 0) &&& BitVec.ofInt (IntKind.bits .u32) ((a0)[Int.toNat 2]?.getD 0)).toNat))).toNat))))))]) (L' := [(3, 30, [.rowc false (α := Int) 0 E_u32 a0]), (6, 30, [.rowc false (α := Int) 0 E_u32 (List.replicate 8 0)])]) (ob := [(true = true → CX Try.prog 44 [.val (.int .u32 ((a0)[Int.toNat 0]?.getD 0)), .val (.int .i64 2)] (.val (.int .u32 r6))), (true = true → CX Try.prog 44 [.val (.int .u32 ((a0)[Int.toNat 0]?.getD 0)), .val (.int .i64 13)] (.val (.int .u32 r7))), (true = true → CX Try.prog 44 [.val (.int .u32 ((a0)[Int.toNat 0]?.getD 0)), .val (.int .i64 22)] (.val (.int .u32 r8))), (decide (0 ≤ (1 : Int) ∧ (1 : Int) < (8 : Int))) = true, (decide (0 ≤ (1 : Int) ∧ (1 : Int) < (List.length a0 : Int))) = true, (decide (0 ≤ (2 : Int) ∧ (2 : Int) < (8 : Int))) = true, (decide (0 ≤ (2 : Int) ∧ (2 : Int) < (List.length a0 : Int))) = true, (decide (0 ≤ (1 : Int) ∧ (1 : Int) < (8 : Int))) = true, (decide (0 ≤ (1 : Int) ∧ (1 : Int) < (List.length a0 : Int))) = true, (decide (0 ≤ (2 : Int) ∧ (2 : Int) < (8 : Int))) = true, (decide (0 ≤ (2 : Int) ∧ (2 : Int) < (List.length a0 : Int))) = true]) (by kernel_rfl) (AllP.cons (fun _ => cx (ok_sha_round_1 n ((a0)[Int.toNat 0]?.getD 0) 2 _ hr6)) (AllP.cons (fun _ => cx (ok_sha_round_1 n ((a0)[Int.toNat 0]?.getD 0) 13 _ hr7)) (AllP.cons (fun _ => cx (ok_sha_round_1 n ((a0)[Int.toNat 0]?.getD 0) 22 _ hr8)) (AllP.cons hc23 (AllP.cons hc24 (AllP.cons hc25 (AllP.cons hc26 (AllP.cons hc23 (AllP.cons hc24 (AllP.cons hc25 (AllP.cons hc26 AllP.nil))))))))))) ?_
  refine To.eq (K' := [(3, .elm 3 0 1 0), (6, .elm 6 0 1 0), (8, .val (.int .u32 ((a0)[Int.toNat 0]?.getD 0))), (9, .val (.int .u32 ((a0)[Int.toNat 4]?.getD 0))), (10, .val (.int .u32 x5)), (11, .val (.int .u32 x9))]) (L' := [(3, 30, [.rowc false (α := Int) 0 E_u32 a0]), (6, 30, [.rowc false (α := Int) 0 E_u32 (List.replicate 8 0)])]) (by cases hx9; rfl) (by cases hx9; rfl) ?_
  refine To.thenN ?_
  refine Wp.seq ?_
  obtain ⟨hc12, h⟩ := chk_of h
  obtain ⟨hc13, h⟩ := chk_of h
  obtain ⟨hc14, h⟩ := chk_of h
  obtain ⟨hc15, h⟩ := chk_of h
  obtain ⟨hc16, h⟩ := chk_of h
  obtain ⟨hc17, h⟩ := chk_of h
  obtain ⟨hc18, h⟩ := chk_of h
  obtain ⟨hc19, h⟩ := chk_of h
  obtain ⟨hc20, h⟩ := chk_of h
  obtain ⟨hc21, h⟩ := chk_of h
  obtain ⟨hc22, h⟩ := chk_of h
  obtain ⟨x10, hx10, h⟩ := lett_of h
  refine Wp.region hΓ [] [(18, .recs (α := Int) 0 E_u32 ([(IntKind.wrap .u32 (x5 + x9)), ((a0)[Int.toNat 0]?.getD 0), ((a0)[Int.toNat 1]?.getD 0), ((a0)[Int.toNat 2]?.getD 0), (IntKind.wrap .u32 (((a0)[Int.toNat 3]?.getD 0) + x5)), ((a0)[Int.toNat 4]?.getD 0), ((a0)[Int.toNat 5]?.getD 0), ((a0)[Int.toNat 6]?.getD 0)] : List (Int)))] [] [6] [6] (K' := [(6, .elm 6 0 1 0)]) (L' := [(6, 30, [.rowc false (α := Int) 0 E_u32 ([(IntKind.wrap .u32 (x5 + x9)), ((a0)[Int.toNat 0]?.getD 0), ((a0)[Int.toNat 1]?.getD 0), ((a0)[Int.toNat 2]?.getD 0), (IntKind.wrap .u32 (((a0)[Int.toNat 3]?.getD 0) + x5)), ((a0)[Int.toNat 4]?.getD 0), ((a0)[Int.toNat 5]?.getD 0), ((a0)[Int.toNat 6]?.getD 0)] : List (Int))])]) (ob := [(decide (0 ≤ (1 : Int) ∧ (1 : Int) < (8 : Int))) = true, (decide (0 ≤ (1 : Int) ∧ (1 : Int) < (List.length a0 : Int))) = true, (decide (0 ≤ (2 : Int) ∧ (2 : Int) < (8 : Int))) = true, (decide (0 ≤ (2 : Int) ∧ (2 : Int) < (List.length a0 : Int))) = true, (decide (0 ≤ (3 : Int) ∧ (3 : Int) < (8 : Int))) = true, (decide (0 ≤ (3 : Int) ∧ (3 : Int) < (List.length a0 : Int))) = true, (decide (0 ≤ (5 : Int) ∧ (5 : Int) < (8 : Int))) = true, (decide (0 ≤ (5 : Int) ∧ (5 : Int) < (List.length a0 : Int))) = true, (decide (0 ≤ (6 : Int) ∧ (6 : Int) < (8 : Int))) = true, (decide (0 ≤ (6 : Int) ∧ (6 : Int) < (List.length a0 : Int))) = true, (decide (List.length (List.replicate 8 0) = 8)) = true, (MkOb 1 (D.cells (.agg [.val (.int .u32 (IntKind.wrap .u32 (x5 + x9))), .val (.int .u32 ((a0)[Int.toNat 0]?.getD 0)), .val (.int .u32 ((a0)[Int.toNat 1]?.getD 0)), .val (.int .u32 ((a0)[Int.toNat 2]?.getD 0)), .val (.int .u32 (IntKind.wrap .u32 (((a0)[Int.toNat 3]?.getD 0) + x5))), .val (.int .u32 ((a0)[Int.toNat 4]?.getD 0)), .val (.int .u32 ((a0)[Int.toNat 5]?.getD 0)), .val (.int .u32 ((a0)[Int.toNat 6]?.getD 0))])) 8 (.recs (α := Int) 0 E_u32 ([(IntKind.wrap .u32 (x5 + x9)), ((a0)[Int.toNat 0]?.getD 0), ((a0)[Int.toNat 1]?.getD 0), ((a0)[Int.toNat 2]?.getD 0), (IntKind.wrap .u32 (((a0)[Int.toNat 3]?.getD 0) + x5)), ((a0)[Int.toNat 4]?.getD 0), ((a0)[Int.toNat 5]?.getD 0), ((a0)[Int.toNat 6]?.getD 0)] : List (Int))) ∧ GoodR (.recs (α := Int) 0 E_u32 ([(IntKind.wrap .u32 (x5 + x9)), ((a0)[Int.toNat 0]?.getD 0), ((a0)[Int.toNat 1]?.getD 0), ((a0)[Int.toNat 2]?.getD 0), (IntKind.wrap .u32 (((a0)[Int.toNat 3]?.getD 0) + x5)), ((a0)[Int.toNat 4]?.getD 0), ((a0)[Int.toNat 5]?.getD 0), ((a0)[Int.toNat 6]?.getD 0)] : List (Int))))]) (by kernel_rfl) (AllP.cons hc12 (AllP.cons hc13 (AllP.cons hc14 (AllP.cons hc15 (AllP.cons hc16 (AllP.cons hc17 (AllP.cons hc18 (AllP.cons hc19 (AllP.cons hc20 (AllP.cons hc21 (AllP.cons hc22 (AllP.cons (mkOb (by kernel_rfl) rfl (by kernel_rfl) (good_E_u32 _)) AllP.nil)))))))))))) ?_
  refine To.eq (K' := [(6, .elm 6 0 1 0)]) (L' := [(6, 30, [.rowc false (α := Int) 0 E_u32 x10])]) (by cases hx10; rfl) (by cases hx10; rfl) ?_
  refine To.thenN ?_
  refine Wp.ret ?_
  refine To.keep (kk := [6]) (kl := [6]) (K' := [(6, .elm 6 0 1 0)]) (L' := [(6, 30, [.rowc false (α := Int) 0 E_u32 x10])]) (by kernel_rfl) (by kernel_rfl) ?_
  obtain ⟨hc11, h⟩ := chk_of h
  cases h
  exact To.doneA hΓ (by kernel_rfl) hc11
def sha_block__a0_l1 (n : Nat) (b3 : List (Int)) (b6 : List (Int)) (b8 : List (Int)) (b1000000 : List (Int)) : Nat → Int → (List (Int)) → Option ((List (Int)))
  | 0, _, _ => none
  | k + 1, v14, b7 => if (decide (v14 < 64)) = true then (if (decide (List.length b7 = 8)) = true then (if (decide (0 ≤ v14 ∧ v14 < (64 : Int))) = true then (if (decide (0 ≤ v14 ∧ v14 < (List.length b1000000 : Int))) = true then (if (decide (0 ≤ v14 ∧ v14 < (List.length b8 : Int))) = true then ((sha_round n b7 ((b1000000)[Int.toNat v14]?.getD 0) ((b8)[Int.toNat v14]?.getD 0)).bind fun r5 =>
  if (decide (List.length r5 = 8)) = true then (sha_block__a0_l1 n b3 b6 b8 b1000000 k (IntKind.wrap .i64 (v14 + 1)) r5) else none) else none) else none) else none) else none)
  else some b7
theorem ok_sha_block__a0_l1 (n : Nat) (b3 : List (Int)) (b6 : List (Int)) (b8 : List (Int)) (b1000000 : List (Int)) {F0 : Fz} {w0 : Pt Try.prog} {Q : Exit → Act → World → Prop} (k : Nat) : ∀ (v14 : Int) (b7 : List (Int)) (o : (List (Int))), sha_block__a0_l1 n b3 b6 b8 b1000000 k v14 b7 = some o → To 41 F0 w0 [(3, .elm 3 0 1 0), (6, .elm 6 0 1 0), (7, .elm 7 0 1 0)] [(3, 30, [.rowc false (α := Int) 0 E_u32 b3]), (6, 30, [.rowc false (α := Int) 0 E_u32 b6]), (7, 30, [.rowc false (α := Int) 0 E_u32 o]), (1000000, 41, [.rowc false (α := Int) 0 E_u32 b1000000])] (.exit 0) Q → WL Try.prog 41 F0 w0 [(2, .elm 1000000 0 1 0), (3, .elm 3 0 1 0), (6, .elm 6 0 1 0), (7, .elm 7 0 1 0), (8, .elm 8 0 1 0), (14, .val (.int .i64 v14))] [(3, 30, [.rowc false (α := Int) 0 E_u32 b3]), (6, 30, [.rowc false (α := Int) 0 E_u32 b6]), (7, 30, [.rowc false (α := Int) 0 E_u32 b7]), (8, 41, [.rowc false (α := Int) 0 E_u32 b8]), (1000000, 41, [.rowc false (α := Int) 0 E_u32 b1000000])] (cI (cI (cB (cA (cB (cB (cF Try.f26))))))) Q := by
  induction k with
  | zero => intro v14 b7 o h; cases h
  | succ k ih =>
    intro v14 b7 o h hQ
    rw [sha_block__a0_l1] at h
    refine WL.round ?_
    refine Wp.seq ?_
    refine Wp.region hΓ [] [] [] [2, 3, 6, 7, 8, 14, 15] [3, 6, 7, 8, 1000000] (K' := [(2, .elm 1000000 0 1 0), (3, .elm 3 0 1 0), (6, .elm 6 0 1 0), (7, .elm 7 0 1 0), (8, .elm 8 0 1 0), (14, .val (.int .i64 v14)), (15, .val (.bool (decide (v14 < 64))))]) (L' := [(3, 30, [.rowc false (α := Int) 0 E_u32 b3]), (6, 30, [.rowc false (α := Int) 0 E_u32 b6]), (7, 30, [.rowc false (α := Int) 0 E_u32 b7]), (8, 41, [.rowc false (α := Int) 0 E_u32 b8]), (1000000, 41, [.rowc false (α := Int) 0 E_u32 b1000000])]) (ob := []) (by kernel_rfl) AllP.nil ?_
    refine To.thenN ?_
    refine Wp.seq ?_
    refine Wp.cond (b := (decide (v14 < 64))) (by kernel_rfl) (fun hb => ?_) (fun hb => ?_)
    · replace h := if_t hb h
      refine Wp.skip ?_
      refine To.thenN ?_
      refine Wp.seq ?_
      refine Wp.block ?_
      refine Wp.seq ?_
      refine Wp.region hΓ [] [] [] [2, 3, 6, 7, 8, 9, 14] [3, 6, 7, 8, 1000000] (K' := [(2, .elm 1000000 0 1 0), (3, .elm 3 0 1 0), (6, .elm 6 0 1 0), (7, .elm 7 0 1 0), (8, .elm 8 0 1 0), (9, .val (.int .i64 v14)), (14, .val (.int .i64 v14))]) (L' := [(3, 30, [.rowc false (α := Int) 0 E_u32 b3]), (6, 30, [.rowc false (α := Int) 0 E_u32 b6]), (7, 30, [.rowc false (α := Int) 0 E_u32 b7]), (8, 41, [.rowc false (α := Int) 0 E_u32 b8]), (1000000, 41, [.rowc false (α := Int) 0 E_u32 b1000000])]) (ob := []) (by kernel_rfl) AllP.nil ?_
      refine To.thenN ?_
      obtain ⟨hc7, h⟩ := chk_of h
      obtain ⟨hc8, h⟩ := chk_of h
      obtain ⟨hc9, h⟩ := chk_of h
      obtain ⟨hc10, h⟩ := chk_of h
      obtain ⟨r5, hr5, h⟩ := bind_of h
      obtain ⟨u6, h⟩ := chk_of h
      refine Wp.regionS hm hΓ 9 [] [(9, .arr (α := Int) 0 E_u32 r5), (10, .recs (α := Int) 0 E_u32 r5)] [] [2, 3, 6, 7, 8, 14] [3, 6, 7, 8, 1000000] (K' := [(2, .elm 1000000 0 1 0), (3, .elm 3 0 1 0), (6, .elm 6 0 1 0), (7, .elm 7 0 1 0), (8, .elm 8 0 1 0), (14, .val (.int .i64 v14))]) (L' := [(3, 30, [.rowc false (α := Int) 0 E_u32 b3]), (6, 30, [.rowc false (α := Int) 0 E_u32 b6]), (7, 30, [.rowc false (α := Int) 0 E_u32 r5]), (8, 41, [.rowc false (α := Int) 0 E_u32 b8]), (1000000, 41, [.rowc false (α := Int) 0 E_u32 b1000000])]) (ob := [(decide (List.length b7 = 8)) = true, (decide (0 ≤ v14 ∧ v14 < (64 : Int))) = true, (decide (0 ≤ v14 ∧ v14 < (List.length b1000000 : Int))) = true, (decide (0 ≤ v14 ∧ v14 < (64 : Int))) = true, (decide (0 ≤ v14 ∧ v14 < (List.length b8 : Int))) = true, (true = true → CX Try.prog 34 [.arr (α := Int) 0 E_u32 b7, .val (.int .u32 ((b1000000)[Int.toNat v14]?.getD 0)), .val (.int .u32 ((b8)[Int.toNat v14]?.getD 0))] (.arr (α := Int) 0 E_u32 r5)), (decide (List.length b7 = 8)) = true, (MkOb 1 (D.cells (.arr (α := Int) 0 E_u32 r5)) 8 (.recs (α := Int) 0 E_u32 r5) ∧ GoodR (.recs (α := Int) 0 E_u32 r5))]) (by kernel_rfl) (AllP.cons hc7 (AllP.cons hc8 (AllP.cons hc9 (AllP.cons hc8 (AllP.cons hc10 (AllP.cons (fun _ => cx (ok_sha_round n b7 ((b1000000)[Int.toNat v14]?.getD 0) ((b8)[Int.toNat v14]?.getD 0) _ hr5)) (AllP.cons hc7 (AllP.cons (mkOb rfl (of_decide_eq_true u6) rfl (good_E_u32 _)) AllP.nil)))))))) ?_
      refine To.blockN ?_
      refine To.thenN ?_
      refine Wp.region hΓ [] [] [] [2, 3, 6, 7, 8, 14] [3, 6, 7, 8, 1000000] (K' := [(2, .elm 1000000 0 1 0), (3, .elm 3 0 1 0), (6, .elm 6 0 1 0), (7, .elm 7 0 1 0), (8, .elm 8 0 1 0), (14, .val (.int .i64 (IntKind.wrap .i64 (v14 + 1))))]) (L' := [(3, 30, [.rowc false (α := Int) 0 E_u32 b3]), (6, 30, [.rowc false (α := Int) 0 E_u32 b6]), (7, 30, [.rowc false (α := Int) 0 E_u32 r5]), (8, 41, [.rowc false (α := Int) 0 E_u32 b8]), (1000000, 41, [.rowc false (α := Int) 0 E_u32 b1000000])]) (ob := []) (by kernel_rfl) AllP.nil ?_
      refine To.keep (kk := [2, 3, 6, 7, 8, 14]) (kl := [3, 6, 7, 8, 1000000]) (K' := [(2, .elm 1000000 0 1 0), (3, .elm 3 0 1 0), (6, .elm 6 0 1 0), (7, .elm 7 0 1 0), (8, .elm 8 0 1 0), (14, .val (.int .i64 (IntKind.wrap .i64 (v14 + 1))))]) (L' := [(3, 30, [.rowc false (α := Int) 0 E_u32 b3]), (6, 30, [.rowc false (α := Int) 0 E_u32 b6]), (7, 30, [.rowc false (α := Int) 0 E_u32 r5]), (8, 41, [.rowc false (α := Int) 0 E_u32 b8]), (1000000, 41, [.rowc false (α := Int) 0 E_u32 b1000000])]) (by kernel_rfl) (by kernel_rfl) ?_
      refine To.again ?_
      exact ih (IntKind.wrap .i64 (v14 + 1)) r5 _ h hQ
    · replace h := if_f hb h
      refine Wp.exit ?_
      refine To.thenX ?_
      refine To.thenX ?_
      refine To.keep (kk := [3, 6, 7]) (kl := [3, 6, 7, 1000000]) (K' := [(3, .elm 3 0 1 0), (6, .elm 6 0 1 0), (7, .elm 7 0 1 0)]) (L' := [(3, 30, [.rowc false (α := Int) 0 E_u32 b3]), (6, 30, [.rowc false (α := Int) 0 E_u32 b6]), (7, 30, [.rowc false (α := Int) 0 E_u32 b7]), (1000000, 41, [.rowc false (α := Int) 0 E_u32 b1000000])]) (by kernel_rfl) (by kernel_rfl) ?_
      cases h
      exact hQ
def sha_block__a0_l2 (n : Nat) (b3 : List (Int)) (b6 : List (Int)) (b1000000 : List (Int)) : Nat → Int → (List (Int)) → Option ((List (Int)))
  | 0, _, _ => none
  | k + 1, v28, b7 => if (decide (v28 < 8)) = true then (if (decide (0 ≤ v28 ∧ v28 < (8 : Int))) = true then (if (decide (0 ≤ v28 ∧ v28 < (List.length b7 : Int))) = true then (if (decide (0 ≤ v28 ∧ v28 < (List.length b3 : Int))) = true then (sha_block__a0_l2 n b3 b6 b1000000 k (IntKind.wrap .i64 (v28 + 1)) (List.set b7 (Int.toNat v28) (IntKind.wrap .u32 (((b7)[Int.toNat v28]?.getD 0) + ((b3)[Int.toNat v28]?.getD 0))))) else none) else none) else none)
  else some b7
theorem ok_sha_block__a0_l2 (n : Nat) (b3 : List (Int)) (b6 : List (Int)) (b1000000 : List (Int)) {F0 : Fz} {w0 : Pt Try.prog} {Q : Exit → Act → World → Prop} (k : Nat) : ∀ (v28 : Int) (b7 : List (Int)) (o : (List (Int))), sha_block__a0_l2 n b3 b6 b1000000 k v28 b7 = some o → To 41 F0 w0 [(6, .elm 6 0 1 0), (7, .elm 7 0 1 0)] [(6, 30, [.rowc false (α := Int) 0 E_u32 b6]), (7, 30, [.rowc false (α := Int) 0 E_u32 o]), (1000000, 41, [.rowc false (α := Int) 0 E_u32 b1000000])] (.exit 2) Q → WL Try.prog 41 F0 w0 [(3, .elm 3 0 1 0), (6, .elm 6 0 1 0), (7, .elm 7 0 1 0), (28, .val (.int .i64 v28))] [(3, 30, [.rowc false (α := Int) 0 E_u32 b3]), (6, 30, [.rowc false (α := Int) 0 E_u32 b6]), (7, 30, [.rowc false (α := Int) 0 E_u32 b7]), (1000000, 41, [.rowc false (α := Int) 0 E_u32 b1000000])] (cI (cI (cB (cA (cB (cB (cB (cF Try.f26)))))))) Q := by
  induction k with
  | zero => intro v28 b7 o h; cases h
  | succ k ih =>
    intro v28 b7 o h hQ
    rw [sha_block__a0_l2] at h
    refine WL.round ?_
    refine Wp.seq ?_
    refine Wp.region hΓ [] [] [] [3, 6, 7, 28, 29] [3, 6, 7, 1000000] (K' := [(3, .elm 3 0 1 0), (6, .elm 6 0 1 0), (7, .elm 7 0 1 0), (28, .val (.int .i64 v28)), (29, .val (.bool (decide (v28 < 8))))]) (L' := [(3, 30, [.rowc false (α := Int) 0 E_u32 b3]), (6, 30, [.rowc false (α := Int) 0 E_u32 b6]), (7, 30, [.rowc false (α := Int) 0 E_u32 b7]), (1000000, 41, [.rowc false (α := Int) 0 E_u32 b1000000])]) (ob := []) (by kernel_rfl) AllP.nil ?_
    refine To.thenN ?_
    refine Wp.seq ?_
    refine Wp.cond (b := (decide (v28 < 8))) (by kernel_rfl) (fun hb => ?_) (fun hb => ?_)
    · replace h := if_t hb h
      refine Wp.skip ?_
      refine To.thenN ?_
      refine Wp.seq ?_
      refine Wp.block ?_
      refine Wp.seq ?_
      refine Wp.region hΓ [] [] [] [3, 6, 7, 10, 28] [3, 6, 7, 1000000] (K' := [(3, .elm 3 0 1 0), (6, .elm 6 0 1 0), (7, .elm 7 0 1 0), (10, .val (.int .i64 v28)), (28, .val (.int .i64 v28))]) (L' := [(3, 30, [.rowc false (α := Int) 0 E_u32 b3]), (6, 30, [.rowc false (α := Int) 0 E_u32 b6]), (7, 30, [.rowc false (α := Int) 0 E_u32 b7]), (1000000, 41, [.rowc false (α := Int) 0 E_u32 b1000000])]) (ob := []) (by kernel_rfl) AllP.nil ?_
      refine To.thenN ?_
      obtain ⟨hc6, h⟩ := chk_of h
      obtain ⟨hc7, h⟩ := chk_of h
      obtain ⟨hc8, h⟩ := chk_of h
      refine Wp.regionS hm hΓ 6 [] [(8, .recs (α := Int) 0 E_u32 (List.set b7 (Int.toNat v28) (IntKind.wrap .u32 (((b7)[Int.toNat v28]?.getD 0) + ((b3)[Int.toNat v28]?.getD 0)))))] [] [3, 6, 7, 28] [3, 6, 7, 1000000] (K' := [(3, .elm 3 0 1 0), (6, .elm 6 0 1 0), (7, .elm 7 0 1 0), (28, .val (.int .i64 v28))]) (L' := [(3, 30, [.rowc false (α := Int) 0 E_u32 b3]), (6, 30, [.rowc false (α := Int) 0 E_u32 b6]), (7, 30, [.rowc false (α := Int) 0 E_u32 (List.set b7 (Int.toNat v28) (IntKind.wrap .u32 (((b7)[Int.toNat v28]?.getD 0) + ((b3)[Int.toNat v28]?.getD 0))))]), (1000000, 41, [.rowc false (α := Int) 0 E_u32 b1000000])]) (ob := [(decide (0 ≤ v28 ∧ v28 < (8 : Int))) = true, (decide (0 ≤ v28 ∧ v28 < (List.length b7 : Int))) = true, (decide (0 ≤ v28 ∧ v28 < (8 : Int))) = true, (decide (0 ≤ v28 ∧ v28 < (List.length b3 : Int))) = true, (decide (0 ≤ v28 ∧ v28 < (8 : Int))) = true, (decide (0 ≤ v28 ∧ v28 < (List.length b7 : Int))) = true, UpdOb 0 E_u32 b7 v28 0 [.val (.int .u32 (IntKind.wrap .u32 (((b7)[Int.toNat v28]?.getD 0) + ((b3)[Int.toNat v28]?.getD 0))))] (.recs (α := Int) 0 E_u32 (List.set b7 (Int.toNat v28) (IntKind.wrap .u32 (((b7)[Int.toNat v28]?.getD 0) + ((b3)[Int.toNat v28]?.getD 0)))))]) (by kernel_rfl) (AllP.cons hc6 (AllP.cons hc7 (AllP.cons hc6 (AllP.cons hc8 (AllP.cons hc6 (AllP.cons hc7 (AllP.cons (updOb (by kernel_rfl)) AllP.nil))))))) ?_
      refine To.blockN ?_
      refine To.thenN ?_
      refine Wp.region hΓ [] [] [] [3, 6, 7, 28] [3, 6, 7, 1000000] (K' := [(3, .elm 3 0 1 0), (6, .elm 6 0 1 0), (7, .elm 7 0 1 0), (28, .val (.int .i64 (IntKind.wrap .i64 (v28 + 1))))]) (L' := [(3, 30, [.rowc false (α := Int) 0 E_u32 b3]), (6, 30, [.rowc false (α := Int) 0 E_u32 b6]), (7, 30, [.rowc false (α := Int) 0 E_u32 (List.set b7 (Int.toNat v28) (IntKind.wrap .u32 (((b7)[Int.toNat v28]?.getD 0) + ((b3)[Int.toNat v28]?.getD 0))))]), (1000000, 41, [.rowc false (α := Int) 0 E_u32 b1000000])]) (ob := []) (by kernel_rfl) AllP.nil ?_
      refine To.keep (kk := [3, 6, 7, 28]) (kl := [3, 6, 7, 1000000]) (K' := [(3, .elm 3 0 1 0), (6, .elm 6 0 1 0), (7, .elm 7 0 1 0), (28, .val (.int .i64 (IntKind.wrap .i64 (v28 + 1))))]) (L' := [(3, 30, [.rowc false (α := Int) 0 E_u32 b3]), (6, 30, [.rowc false (α := Int) 0 E_u32 b6]), (7, 30, [.rowc false (α := Int) 0 E_u32 (List.set b7 (Int.toNat v28) (IntKind.wrap .u32 (((b7)[Int.toNat v28]?.getD 0) + ((b3)[Int.toNat v28]?.getD 0))))]), (1000000, 41, [.rowc false (α := Int) 0 E_u32 b1000000])]) (by kernel_rfl) (by kernel_rfl) ?_
      refine To.again ?_
      exact ih (IntKind.wrap .i64 (v28 + 1)) (List.set b7 (Int.toNat v28) (IntKind.wrap .u32 (((b7)[Int.toNat v28]?.getD 0) + ((b3)[Int.toNat v28]?.getD 0)))) _ h hQ
    · replace h := if_f hb h
      refine Wp.exit ?_
      refine To.thenX ?_
      refine To.thenX ?_
      refine To.keep (kk := [6, 7]) (kl := [6, 7, 1000000]) (K' := [(6, .elm 6 0 1 0), (7, .elm 7 0 1 0)]) (L' := [(6, 30, [.rowc false (α := Int) 0 E_u32 b6]), (7, 30, [.rowc false (α := Int) 0 E_u32 b7]), (1000000, 41, [.rowc false (α := Int) 0 E_u32 b1000000])]) (by kernel_rfl) (by kernel_rfl) ?_
      cases h
      exact hQ
def sha_block__a0 (n : Nat) (a0 : List (Int)) (a1 : List UInt8) (h0 : List (Int)) : Option ((List (Int)) × (List (Int))) :=
  if (decide (List.length a0 = 8)) = true then (if (decide (List.length a0 = 8)) = true then ((sha_words n a1).bind fun r2 =>
  if (decide (List.length a0 = 8)) = true then (if (decide (List.length r2 = 64)) = true then ((sha_block__a0_l1 n a0 (List.replicate 8 0) r2 h0 n 0 a0).bind fun o5 =>
  (sha_block__a0_l2 n a0 (List.replicate 8 0) h0 n 0 o5).bind fun o6 =>
  if (decide (List.length o6 = 8)) = true then (if (decide (List.length (List.replicate 8 0) = 8)) = true then (if (decide (List.length o6 = 8)) = true then (if (decide (List.length o6 = 8)) = true then some (o6, h0) else none) else none) else none) else none) else none) else none) else none) else none
theorem ok_sha_block__a0 (n : Nat) (a0 : List (Int)) (a1 : List UInt8) (h0 : List (Int)) (r : (List (Int)) × (List (Int))) (h : sha_block__a0 n a0 a1 h0 = some r) : CallsB Try.prog 26 [.arr (α := Int) 0 E_u32 a0, .str a1, .elm 1000000 0 1 0] [(1000000, 41, [.rowc false (α := Int) 0 E_u32 h0])] (.arr (α := Int) 0 E_u32 r.1) [(1000000, 41, [.rowc false (α := Int) 0 E_u32 r.2])] := by
  unfold sha_block__a0 at h
  refine callsB_of (fn := Try.f26) (by kernel_rfl) rfl (by kernel_rfl) (Nat.le_of_ble_eq_true (by kernel_rfl)) fun F0 w0 => ?_
  refine Wp.keep (kk := [0, 1, 2]) (kl := [1000000]) (K' := [(0, .arr (α := Int) 0 E_u32 a0), (1, .str a1), (2, .elm 1000000 0 1 0)]) (L' := [(1000000, 41, [.rowc false (α := Int) 0 E_u32 h0])]) (by kernel_rfl) (by kernel_rfl) ?_
  refine Wp.seq ?_
  obtain ⟨u1, h⟩ := chk_of h
  refine Wp.region hΓ [] [(0, .recs (α := Int) 0 E_u32 a0)] [] [1, 2, 3, 6] [3, 6, 1000000] (K' := [(1, .str a1), (2, .elm 1000000 0 1 0), (3, .elm 3 0 1 0), (6, .own 6 0)]) (L' := [(3, 30, [.rowc false (α := Int) 0 E_u32 a0]), (6, 30, [.val (.int .u32 0), .val (.int .u32 0), .val (.int .u32 0), .val (.int .u32 0), .val (.int .u32 0), .val (.int .u32 0), .val (.int .u32 0), .val (.int .u32 0)]), (1000000, 41, [.rowc false (α := Int) 0 E_u32 h0])]) (ob := [(MkOb 1 (D.cells (.arr (α := Int) 0 E_u32 a0)) 8 (.recs (α := Int) 0 E_u32 a0) ∧ GoodR (.recs (α := Int) 0 E_u32 a0))]) (by kernel_rfl) (AllP.cons (mkOb rfl (of_decide_eq_true u1) rfl (good_E_u32 _)) AllP.nil) ?_
  refine To.pre (St.toRow (t := 30) (l := (List.replicate 8 0)) 6 1 8 (by decide) (by decide) (good_E_u32 _) (by kernel_rfl) (by kernel_rfl) (by kernel_rfl) (by kernel_rfl) (K' := [(1, .str a1), (2, .elm 1000000 0 1 0), (3, .elm 3 0 1 0), (6, .elm 6 0 1 0)]) (L' := [(6, 30, [.rowc false (α := Int) 0 E_u32 (List.replicate 8 0)]), (3, 30, [.rowc false (α := Int) 0 E_u32 a0]), (1000000, 41, [.rowc false (α := Int) 0 E_u32 h0])]) (by kernel_rfl) (by kernel_rfl)) ?_
  refine To.thenN ?_
  refine Wp.seq ?_
  obtain ⟨hc11, h⟩ := chk_of h
  obtain ⟨r2, hr2, h⟩ := bind_of h
  obtain ⟨u3, h⟩ := chk_of h
  obtain ⟨u4, h⟩ := chk_of h
  refine Wp.regionS hm hΓ 5 [] [(2, .arr (α := Int) 0 E_u32 r2), (5, .recs (α := Int) 0 E_u32 a0), (6, .recs (α := Int) 0 E_u32 r2)] [] [2, 3, 6, 7, 8] [3, 6, 7, 8, 1000000] (K' := [(2, .elm 1000000 0 1 0), (3, .elm 3 0 1 0), (6, .elm 6 0 1 0), (7, .elm 7 0 1 0), (8, .elm 8 0 1 0)]) (L' := [(3, 30, [.rowc false (α := Int) 0 E_u32 a0]), (6, 30, [.rowc false (α := Int) 0 E_u32 (List.replicate 8 0)]), (7, 30, [.rowc false (α := Int) 0 E_u32 a0]), (8, 41, [.rowc false (α := Int) 0 E_u32 r2]), (1000000, 41, [.rowc false (α := Int) 0 E_u32 h0])]) (ob := [(decide (List.length a0 = 8)) = true, (true = true → CX Try.prog 33 [.str a1] (.arr (α := Int) 0 E_u32 r2)), (MkOb 1 (D.cells (.arr (α := Int) 0 E_u32 a0)) 8 (.recs (α := Int) 0 E_u32 a0) ∧ GoodR (.recs (α := Int) 0 E_u32 a0)), (MkOb 1 (D.cells (.arr (α := Int) 0 E_u32 r2)) 64 (.recs (α := Int) 0 E_u32 r2) ∧ GoodR (.recs (α := Int) 0 E_u32 r2))]) (by kernel_rfl) (AllP.cons hc11 (AllP.cons (fun _ => cx (ok_sha_words n a1 _ hr2)) (AllP.cons (mkOb rfl (of_decide_eq_true u3) rfl (good_E_u32 _)) (AllP.cons (mkOb rfl (of_decide_eq_true u4) rfl (good_E_u32 _)) AllP.nil)))) ?_
  refine To.thenN ?_
  refine Wp.seq ?_
  refine Wp.seq ?_
  refine Wp.region hΓ [] [] [] [2, 3, 6, 7, 8, 14] [3, 6, 7, 8, 1000000] (K' := [(2, .elm 1000000 0 1 0), (3, .elm 3 0 1 0), (6, .elm 6 0 1 0), (7, .elm 7 0 1 0), (8, .elm 8 0 1 0), (14, .val (.int .i64 0))]) (L' := [(3, 30, [.rowc false (α := Int) 0 E_u32 a0]), (6, 30, [.rowc false (α := Int) 0 E_u32 (List.replicate 8 0)]), (7, 30, [.rowc false (α := Int) 0 E_u32 a0]), (8, 41, [.rowc false (α := Int) 0 E_u32 r2]), (1000000, 41, [.rowc false (α := Int) 0 E_u32 h0])]) (ob := []) (by kernel_rfl) AllP.nil ?_
  refine To.thenN ?_
  refine Wp.block ?_
  obtain ⟨o5, ho5, h⟩ := bind_of h
  refine Wp.keep (kk := [2, 3, 6, 7, 8, 14]) (kl := [3, 6, 7, 8, 1000000]) (K' := [(2, .elm 1000000 0 1 0), (3, .elm 3 0 1 0), (6, .elm 6 0 1 0), (7, .elm 7 0 1 0), (8, .elm 8 0 1 0), (14, .val (.int .i64 0))]) (L' := [(3, 30, [.rowc false (α := Int) 0 E_u32 a0]), (6, 30, [.rowc false (α := Int) 0 E_u32 (List.replicate 8 0)]), (7, 30, [.rowc false (α := Int) 0 E_u32 a0]), (8, 41, [.rowc false (α := Int) 0 E_u32 r2]), (1000000, 41, [.rowc false (α := Int) 0 E_u32 h0])]) (by kernel_rfl) (by kernel_rfl) ?_
  refine Wp.loopL ?_
  refine ok_sha_block__a0_l1 n a0 (List.replicate 8 0) r2 h0 n 0 a0 o5 ho5 ?_
  refine To.blockX ?_
  refine To.thenN ?_
  refine Wp.seq ?_
  refine Wp.seq ?_
  refine Wp.region hΓ [] [] [] [3, 6, 7, 28] [3, 6, 7, 1000000] (K' := [(3, .elm 3 0 1 0), (6, .elm 6 0 1 0), (7, .elm 7 0 1 0), (28, .val (.int .i64 0))]) (L' := [(3, 30, [.rowc false (α := Int) 0 E_u32 a0]), (6, 30, [.rowc false (α := Int) 0 E_u32 (List.replicate 8 0)]), (7, 30, [.rowc false (α := Int) 0 E_u32 o5]), (1000000, 41, [.rowc false (α := Int) 0 E_u32 h0])]) (ob := []) (by kernel_rfl) AllP.nil ?_
  refine To.thenN ?_
  refine Wp.block ?_
  obtain ⟨o6, ho6, h⟩ := bind_of h
  refine Wp.keep (kk := [3, 6, 7, 28]) (kl := [3, 6, 7, 1000000]) (K' := [(3, .elm 3 0 1 0), (6, .elm 6 0 1 0), (7, .elm 7 0 1 0), (28, .val (.int .i64 0))]) (L' := [(3, 30, [.rowc false (α := Int) 0 E_u32 a0]), (6, 30, [.rowc false (α := Int) 0 E_u32 (List.replicate 8 0)]), (7, 30, [.rowc false (α := Int) 0 E_u32 o5]), (1000000, 41, [.rowc false (α := Int) 0 E_u32 h0])]) (by kernel_rfl) (by kernel_rfl) ?_
  refine Wp.loopL ?_
  refine ok_sha_block__a0_l2 n a0 (List.replicate 8 0) h0 n 0 o5 o6 ho6 ?_
  refine To.blockX ?_
  refine To.thenN ?_
  refine Wp.seq ?_
  obtain ⟨hc9, h⟩ := chk_of h
  obtain ⟨hc10, h⟩ := chk_of h
  obtain ⟨u7, h⟩ := chk_of h
  refine Wp.region hΓ [] [(1, .recs (α := Int) 0 E_u32 o6)] [] [6] [6, 1000000] (K' := [(6, .elm 6 0 1 0)]) (L' := [(6, 30, [.rowc false (α := Int) 0 E_u32 o6]), (1000000, 41, [.rowc false (α := Int) 0 E_u32 h0])]) (ob := [(decide (List.length o6 = 8)) = true, (decide (List.length (List.replicate 8 0) = 8)) = true, (MkOb 1 (D.cells (.arr (α := Int) 0 E_u32 o6)) 8 (.recs (α := Int) 0 E_u32 o6) ∧ GoodR (.recs (α := Int) 0 E_u32 o6))]) (by kernel_rfl) (AllP.cons hc9 (AllP.cons hc10 (AllP.cons (mkOb rfl (of_decide_eq_true u7) rfl (good_E_u32 _)) AllP.nil))) ?_
  refine To.thenN ?_
  refine Wp.ret ?_
  refine To.keep (kk := [6]) (kl := [6, 1000000]) (K' := [(6, .elm 6 0 1 0)]) (L' := [(6, 30, [.rowc false (α := Int) 0 E_u32 o6]), (1000000, 41, [.rowc false (α := Int) 0 E_u32 h0])]) (by kernel_rfl) (by kernel_rfl) ?_
  obtain ⟨hc8, h⟩ := chk_of h
  cases h
  exact To.doneAB hΓ [1000000] (by kernel_rfl) hc8 (by kernel_rfl)
def sha_Block (n : Nat) (a0 : List (Int)) (a1 : List UInt8) : Option ((List (Int))) :=
  if (decide (List.length a0 = 8)) = true then (if (decide ((List.length a1 : Int) < 64)) = true then (if (decide (List.length a0 = 8)) = true then (if (decide (List.length (List.replicate 8 0) = 8)) = true then (if (decide (List.length a0 = 8)) = true then (if (decide (List.length a0 = 8)) = true then some a0 else none) else none) else none) else none)
  else ((sha_constants n).bind fun r6 =>
  if (decide (List.length r6 = 64)) = true then (if (decide (List.length a0 = 8)) = true then ((sha_block__a0 n a0 a1 r6).bind fun r8 =>
  if (decide (List.length (List.replicate 8 0) = 8)) = true then (if (decide (List.length r8.1 = 8)) = true then (if (decide (List.length r8.1 = 8)) = true then some r8.1 else none) else none) else none) else none) else none)) else none
theorem ok_sha_Block (n : Nat) (a0 : List (Int)) (a1 : List UInt8) (r : (List (Int))) (h : sha_Block n a0 a1 = some r) : CallsX Try.prog 13 [.arr (α := Int) 0 E_u32 a0, .str a1] (.arr (α := Int) 0 E_u32 r) := by
  unfold sha_Block at h
  refine callsX_of (fn := Try.f13) (by kernel_rfl) rfl (by kernel_rfl) (Nat.le_of_ble_eq_true (by kernel_rfl)) fun F0 w0 _ => ?_
  refine Wp.keep (kk := [0, 1]) (kl := []) (K' := [(0, .arr (α := Int) 0 E_u32 a0), (1, .str a1)]) (L' := []) (by kernel_rfl) (by kernel_rfl) ?_
  refine Wp.seq ?_
  obtain ⟨u1, h⟩ := chk_of h
  refine Wp.region hΓ [] [(0, .recs (α := Int) 0 E_u32 a0)] [] [1, 2, 4] [2, 4] (K' := [(1, .str a1), (2, .elm 2 0 1 0), (4, .own 4 0)]) (L' := [(2, 30, [.rowc false (α := Int) 0 E_u32 a0]), (4, 30, [.val (.int .u32 0), .val (.int .u32 0), .val (.int .u32 0), .val (.int .u32 0), .val (.int .u32 0), .val (.int .u32 0), .val (.int .u32 0), .val (.int .u32 0)])]) (ob := [(MkOb 1 (D.cells (.arr (α := Int) 0 E_u32 a0)) 8 (.recs (α := Int) 0 E_u32 a0) ∧ GoodR (.recs (α := Int) 0 E_u32 a0))]) (by kernel_rfl) (AllP.cons (mkOb rfl (of_decide_eq_true u1) rfl (good_E_u32 _)) AllP.nil) ?_
  refine To.pre (St.toRow (t := 30) (l := (List.replicate 8 0)) 4 1 8 (by decide) (by decide) (good_E_u32 _) (by kernel_rfl) (by kernel_rfl) (by kernel_rfl) (by kernel_rfl) (K' := [(1, .str a1), (2, .elm 2 0 1 0), (4, .elm 4 0 1 0)]) (L' := [(4, 30, [.rowc false (α := Int) 0 E_u32 (List.replicate 8 0)]), (2, 30, [.rowc false (α := Int) 0 E_u32 a0])]) (by kernel_rfl) (by kernel_rfl)) ?_
  refine To.thenN ?_
  refine Wp.seq ?_
  refine Wp.seq ?_
  refine Wp.region hΓ [] [] [] [1, 2, 4, 8] [2, 4] (K' := [(1, .str a1), (2, .elm 2 0 1 0), (4, .elm 4 0 1 0), (8, .val (.bool (decide ((List.length a1 : Int) < 64))))]) (L' := [(2, 30, [.rowc false (α := Int) 0 E_u32 a0]), (4, 30, [.rowc false (α := Int) 0 E_u32 (List.replicate 8 0)])]) (ob := []) (by kernel_rfl) AllP.nil ?_
  refine To.thenN ?_
  refine Wp.cond (b := (decide ((List.length a1 : Int) < 64))) (by kernel_rfl) (fun hb => ?_) (fun hb => ?_)
  · replace h := if_t hb h
    refine Wp.seq ?_
    obtain ⟨hc4, h⟩ := chk_of h
    obtain ⟨hc5, h⟩ := chk_of h
    obtain ⟨u2, h⟩ := chk_of h
    refine Wp.region hΓ [] [(1, .recs (α := Int) 0 E_u32 a0)] [] [4] [4] (K' := [(4, .elm 4 0 1 0)]) (L' := [(4, 30, [.rowc false (α := Int) 0 E_u32 a0])]) (ob := [(decide (List.length a0 = 8)) = true, (decide (List.length (List.replicate 8 0) = 8)) = true, (MkOb 1 (D.cells (.arr (α := Int) 0 E_u32 a0)) 8 (.recs (α := Int) 0 E_u32 a0) ∧ GoodR (.recs (α := Int) 0 E_u32 a0))]) (by kernel_rfl) (AllP.cons hc4 (AllP.cons hc5 (AllP.cons (mkOb rfl (of_decide_eq_true u2) rfl (good_E_u32 _)) AllP.nil))) ?_
    refine To.thenN ?_
    refine Wp.ret ?_
    refine To.thenR ?_
    refine To.keep (kk := [4]) (kl := [4]) (K' := [(4, .elm 4 0 1 0)]) (L' := [(4, 30, [.rowc false (α := Int) 0 E_u32 a0])]) (by kernel_rfl) (by kernel_rfl) ?_
    obtain ⟨hc3, h⟩ := chk_of h
    cases h
    exact To.doneA hΓ (by kernel_rfl) hc3
  · replace h := if_f hb h
    refine Wp.skip ?_
    refine To.thenN ?_
    refine Wp.seq ?_
    obtain ⟨r6, hr6, h⟩ := bind_of h
    obtain ⟨u7, h⟩ := chk_of h
    refine Wp.region hΓ [] [(0, .arr (α := Int) 0 E_u32 r6), (2, .recs (α := Int) 0 E_u32 r6)] [] [1, 2, 4, 5] [2, 4, 5] (K' := [(1, .str a1), (2, .elm 2 0 1 0), (4, .elm 4 0 1 0), (5, .elm 5 0 1 0)]) (L' := [(2, 30, [.rowc false (α := Int) 0 E_u32 a0]), (4, 30, [.rowc false (α := Int) 0 E_u32 (List.replicate 8 0)]), (5, 41, [.rowc false (α := Int) 0 E_u32 r6])]) (ob := [(true = true → CX Try.prog 25 [] (.arr (α := Int) 0 E_u32 r6)), (MkOb 1 (D.cells (.arr (α := Int) 0 E_u32 r6)) 64 (.recs (α := Int) 0 E_u32 r6) ∧ GoodR (.recs (α := Int) 0 E_u32 r6))]) (by kernel_rfl) (AllP.cons (fun _ => cx (ok_sha_constants n  _ hr6)) (AllP.cons (mkOb rfl (of_decide_eq_true u7) rfl (good_E_u32 _)) AllP.nil)) ?_
    refine To.thenN ?_
    refine Wp.seq ?_
    obtain ⟨hc11, h⟩ := chk_of h
    obtain ⟨r8, hr8, h⟩ := bind_of h
    obtain ⟨hc12, h⟩ := chk_of h
    obtain ⟨u9, h⟩ := chk_of h
    refine Wp.region hΓ [] [(3, .recs (α := Int) 0 E_u32 r8.1)] [(2, ⟨[(1000000, 5)], [(1000000, 5)], [.arr (α := Int) 0 E_u32 a0, .str a1, .elm 1000000 0 1 0], [(1000000, 41, [.rowc false (α := Int) 0 E_u32 r6])], .arr (α := Int) 0 E_u32 r8.1, [(1000000, 41, [.rowc false (α := Int) 0 E_u32 r8.2])]⟩)] [4] [4] (K' := [(4, .elm 4 0 1 0)]) (L' := [(4, 30, [.rowc false (α := Int) 0 E_u32 r8.1])]) (ob := [(decide (List.length a0 = 8)) = true, CbOb (CallsB Try.prog) 26 [.arr (α := Int) 0 E_u32 a0, .str a1, .elm 5 0 1 0] [some (41, [.rowc false (α := Int) 0 E_u32 r6])] ⟨[(1000000, 5)], [(1000000, 5)], [.arr (α := Int) 0 E_u32 a0, .str a1, .elm 1000000 0 1 0], [(1000000, 41, [.rowc false (α := Int) 0 E_u32 r6])], .arr (α := Int) 0 E_u32 r8.1, [(1000000, 41, [.rowc false (α := Int) 0 E_u32 r8.2])]⟩, (decide (List.length (List.replicate 8 0) = 8)) = true, (MkOb 1 (D.cells (.arr (α := Int) 0 E_u32 r8.1)) 8 (.recs (α := Int) 0 E_u32 r8.1) ∧ GoodR (.recs (α := Int) 0 E_u32 r8.1))]) (by kernel_rfl) (AllP.cons hc11 (AllP.cons (⟨(ok_sha_block__a0 n a0 a1 r6 _ hr8), by kernel_rfl, by kernel_rfl⟩) (AllP.cons hc12 (AllP.cons (mkOb rfl (of_decide_eq_true u9) rfl (good_E_u32 _)) AllP.nil)))) ?_
    refine To.thenN ?_
    refine Wp.ret ?_
    refine To.keep (kk := [4]) (kl := [4]) (K' := [(4, .elm 4 0 1 0)]) (L' := [(4, 30, [.rowc false (α := Int) 0 E_u32 r8.1])]) (by kernel_rfl) (by kernel_rfl) ?_
    obtain ⟨hc10, h⟩ := chk_of h
    cases h
    exact To.doneA hΓ (by kernel_rfl) hc10
def ref05_Primes_j4 (n : Nat) (v0 : Int) (v3 : List (Int)) (v4 : Int) (v5 : Bool) (v6 : Int) : Option (Bool) :=
  if (decide (0 ≤ v6 ∧ v6 < (List.length v3 : Int))) = true then (if ((((v3)[Int.toNat v6]?.getD 0) != 0)) = true then (if ((Int.tmod v4 ((v3)[Int.toNat v6]?.getD 0)) == 0) = true then some false
  else some v5) else none) else none
theorem ok_ref05_Primes_j4 (n : Nat) (v0 : Int) (v3 : List (Int)) (v4 : Int) (v5 : Bool) (v6 : Int) (o : Bool) (h : ref05_Primes_j4 n v0 v3 v4 v5 v6 = some o) {F0 : Fz} {w0 : Pt Try.prog} {Q : Exit → Act → World → Prop} (hQ : To 36 F0 w0 [(0, .val (.int .i64 v0)), (3, .row 1003), (4, .val (.int .i64 v4)), (5, .val (.bool o)), (6, .val (.int .i64 v6))] [(1003, 3, [.rowc false (α := Int) 0 E_i64 v3])] .normal Q) : Wp Try.prog 36 F0 w0 [(0, .val (.int .i64 v0)), (3, .row 1003), (4, .val (.int .i64 v4)), (5, .val (.bool v5)), (6, .val (.int .i64 v6))] [(1003, 3, [.rowc false (α := Int) 0 E_i64 v3])] (cA (cB (cI (cI (cB (cA (cB (cI (cA (cB (cI (cI (cB (cA (cB (cB (cB (cF Try.f9)))))))))))))))))) Q := by
  unfold ref05_Primes_j4 at h
  refine Wp.block ?_
  refine Wp.seq ?_
  obtain ⟨hc1, h⟩ := chk_of h
  obtain ⟨hc2, h⟩ := chk_of h
  refine Wp.region hΓ [] [] [] [0, 3, 4, 5, 6, 29] [1003] (K' := [(0, .val (.int .i64 v0)), (3, .row 1003), (4, .val (.int .i64 v4)), (5, .val (.bool v5)), (6, .val (.int .i64 v6)), (29, .val (.bool ((Int.tmod v4 ((v3)[Int.toNat v6]?.getD 0)) == 0)))]) (L' := [(1003, 3, [.rowc false (α := Int) 0 E_i64 v3])]) (ob := [(decide (0 ≤ v6 ∧ v6 < (List.length v3 : Int))) = true, (decide (0 ≤ v6 ∧ v6 < (List.length v3 : Int))) = true, ((((v3)[Int.toNat v6]?.getD 0) != 0)) = true]) (by kernel_rfl) (AllP.cons hc1 (AllP.cons hc1 (AllP.cons hc2 AllP.nil))) ?_
  refine To.thenN ?_
  refine Wp.cond (b := ((Int.tmod v4 ((v3)[Int.toNat v6]?.getD 0)) == 0)) (by kernel_rfl) (fun hb => ?_) (fun hb => ?_)
  · replace h := if_t hb h
    refine Wp.region hΓ [] [] [] [0, 3, 4, 5, 6] [1003] (K' := [(0, .val (.int .i64 v0)), (3, .row 1003), (4, .val (.int .i64 v4)), (5, .val (.bool false)), (6, .val (.int .i64 v6))]) (L' := [(1003, 3, [.rowc false (α := Int) 0 E_i64 v3])]) (ob := []) (by kernel_rfl) AllP.nil ?_
    refine To.blockN ?_
    refine To.keep (kk := [0, 3, 4, 5, 6]) (kl := [1003]) (K' := [(0, .val (.int .i64 v0)), (3, .row 1003), (4, .val (.int .i64 v4)), (5, .val (.bool false)), (6, .val (.int .i64 v6))]) (L' := [(1003, 3, [.rowc false (α := Int) 0 E_i64 v3])]) (by kernel_rfl) (by kernel_rfl) ?_
    cases h
    exact hQ
  · replace h := if_f hb h
    refine Wp.skip ?_
    refine To.blockN ?_
    refine To.keep (kk := [0, 3, 4, 5, 6]) (kl := [1003]) (K' := [(0, .val (.int .i64 v0)), (3, .row 1003), (4, .val (.int .i64 v4)), (5, .val (.bool v5)), (6, .val (.int .i64 v6))]) (L' := [(1003, 3, [.rowc false (α := Int) 0 E_i64 v3])]) (by kernel_rfl) (by kernel_rfl) ?_
    cases h
    exact hQ
def ref05_Primes_l3 (n : Nat) (v0 : Int) (v3 : List (Int)) (v4 : Int) : Nat → Bool → Int → Option (Bool)
  | 0, _, _ => none
  | k + 1, v5, v6 => if (decide (v6 < (List.length v3 : Int))) = true then ((ref05_Primes_j4 n v0 v3 v4 v5 v6).bind fun o1 =>
  ref05_Primes_l3 n v0 v3 v4 k o1 (IntKind.wrap .i64 (v6 + 1)))
  else some v5
theorem ok_ref05_Primes_l3 (n : Nat) (v0 : Int) (v3 : List (Int)) (v4 : Int) {F0 : Fz} {w0 : Pt Try.prog} {Q : Exit → Act → World → Prop} (k : Nat) : ∀ (v5 : Bool) (v6 : Int) (o : Bool), ref05_Primes_l3 n v0 v3 v4 k v5 v6 = some o → To 36 F0 w0 [(0, .val (.int .i64 v0)), (3, .row 1003), (4, .val (.int .i64 v4)), (5, .val (.bool o))] [(1003, 3, [.rowc false (α := Int) 0 E_i64 v3])] (.exit 2) Q → WL Try.prog 36 F0 w0 [(0, .val (.int .i64 v0)), (3, .row 1003), (4, .val (.int .i64 v4)), (5, .val (.bool v5)), (6, .val (.int .i64 v6))] [(1003, 3, [.rowc false (α := Int) 0 E_i64 v3])] (cI (cI (cB (cA (cB (cI (cA (cB (cI (cI (cB (cA (cB (cB (cB (cF Try.f9)))))))))))))))) Q := by
  induction k with
  | zero => intro v5 v6 o h; cases h
  | succ k ih =>
    intro v5 v6 o h hQ
    rw [ref05_Primes_l3] at h
    refine WL.round ?_
    refine Wp.seq ?_
    refine Wp.seq ?_
    refine Wp.region hΓ [] [] [] [0, 3, 4, 5, 6, 20] [1003] (K' := [(0, .val (.int .i64 v0)), (3, .row 1003), (4, .val (.int .i64 v4)), (5, .val (.bool v5)), (6, .val (.int .i64 v6)), (20, .val (.bool (decide (v6 < (List.length v3 : Int)))))]) (L' := [(1003, 3, [.rowc false (α := Int) 0 E_i64 v3])]) (ob := []) (by kernel_rfl) AllP.nil ?_
    refine To.thenN ?_
    refine Wp.cond (b := (decide (v6 < (List.length v3 : Int)))) (by kernel_rfl) (fun hb => ?_) (fun hb => ?_)
    · replace h := if_t hb h
      refine Wp.skip ?_
      refine To.thenN ?_
      refine Wp.seq ?_
      obtain ⟨o1, ho1, h⟩ := bind_of h
      refine Wp.keep (kk := [0, 3, 4, 5, 6]) (kl := [1003]) (K' := [(0, .val (.int .i64 v0)), (3, .row 1003), (4, .val (.int .i64 v4)), (5, .val (.bool v5)), (6, .val (.int .i64 v6))]) (L' := [(1003, 3, [.rowc false (α := Int) 0 E_i64 v3])]) (by kernel_rfl) (by kernel_rfl) ?_
      refine ok_ref05_Primes_j4 n v0 v3 v4 v5 v6 o1 ho1 ?_
      refine To.thenN ?_
      refine Wp.region hΓ [] [] [] [0, 3, 4, 5, 6] [1003] (K' := [(0, .val (.int .i64 v0)), (3, .row 1003), (4, .val (.int .i64 v4)), (5, .val (.bool o1)), (6, .val (.int .i64 (IntKind.wrap .i64 (v6 + 1))))]) (L' := [(1003, 3, [.rowc false (α := Int) 0 E_i64 v3])]) (ob := []) (by kernel_rfl) AllP.nil ?_
      refine To.keep (kk := [0, 3, 4, 5, 6]) (kl := [1003]) (K' := [(0, .val (.int .i64 v0)), (3, .row 1003), (4, .val (.int .i64 v4)), (5, .val (.bool o1)), (6, .val (.int .i64 (IntKind.wrap .i64 (v6 + 1))))]) (L' := [(1003, 3, [.rowc false (α := Int) 0 E_i64 v3])]) (by kernel_rfl) (by kernel_rfl) ?_
      refine To.again ?_
      exact ih o1 (IntKind.wrap .i64 (v6 + 1)) _ h hQ
    · replace h := if_f hb h
      refine Wp.exit ?_
      refine To.thenX ?_
      refine To.thenX ?_
      refine To.keep (kk := [0, 3, 4, 5]) (kl := [1003]) (K' := [(0, .val (.int .i64 v0)), (3, .row 1003), (4, .val (.int .i64 v4)), (5, .val (.bool v5))]) (L' := [(1003, 3, [.rowc false (α := Int) 0 E_i64 v3])]) (by kernel_rfl) (by kernel_rfl) ?_
      cases h
      exact hQ
def ref05_Primes_j2 (n : Nat) (v0 : Int) (v3 : List (Int)) (v4 : Int) : Option ((List (Int))) :=
  (ref05_Primes_l3 n v0 v3 v4 n true 0).bind fun o1 =>
  if o1 = true then (if (decide ((List.length v3 + List.length ([v4] : List (Int))) * (8 + 1) ≤ limit)) = true then (some (v3 ++ ([v4] : List (Int)))) else none)
  else some v3
theorem ok_ref05_Primes_j2 (n : Nat) (v0 : Int) (v3 : List (Int)) (v4 : Int) (o : (List (Int))) (h : ref05_Primes_j2 n v0 v3 v4 = some o) {F0 : Fz} {w0 : Pt Try.prog} {Q : Exit → Act → World → Prop} (hQ : To 36 F0 w0 [(0, .val (.int .i64 v0)), (3, .row 1003), (4, .val (.int .i64 v4))] [(1003, 3, [.rowc false (α := Int) 0 E_i64 o])] .normal Q) : Wp Try.prog 36 F0 w0 [(0, .val (.int .i64 v0)), (3, .row 1003), (4, .val (.int .i64 v4))] [(1003, 3, [.rowc false (α := Int) 0 E_i64 v3])] (cA (cB (cI (cI (cB (cA (cB (cB (cB (cF Try.f9)))))))))) Q := by
  unfold ref05_Primes_j2 at h
  refine Wp.block ?_
  refine Wp.seq ?_
  refine Wp.region hΓ [] [] [] [0, 3, 4, 5] [1003] (K' := [(0, .val (.int .i64 v0)), (3, .row 1003), (4, .val (.int .i64 v4)), (5, .val (.bool true))]) (L' := [(1003, 3, [.rowc false (α := Int) 0 E_i64 v3])]) (ob := []) (by kernel_rfl) AllP.nil ?_
  refine To.thenN ?_
  refine Wp.seq ?_
  refine Wp.seq ?_
  refine Wp.region hΓ [] [] [] [0, 3, 4, 5, 6] [1003] (K' := [(0, .val (.int .i64 v0)), (3, .row 1003), (4, .val (.int .i64 v4)), (5, .val (.bool true)), (6, .val (.int .i64 0))]) (L' := [(1003, 3, [.rowc false (α := Int) 0 E_i64 v3])]) (ob := []) (by kernel_rfl) AllP.nil ?_
  refine To.thenN ?_
  refine Wp.block ?_
  obtain ⟨o1, ho1, h⟩ := bind_of h
  refine Wp.keep (kk := [0, 3, 4, 5, 6]) (kl := [1003]) (K' := [(0, .val (.int .i64 v0)), (3, .row 1003), (4, .val (.int .i64 v4)), (5, .val (.bool true)), (6, .val (.int .i64 0))]) (L' := [(1003, 3, [.rowc false (α := Int) 0 E_i64 v3])]) (by kernel_rfl) (by kernel_rfl) ?_
  refine Wp.loopL ?_
  refine ok_ref05_Primes_l3 n v0 v3 v4 n true 0 o1 ho1 ?_
  refine To.blockX ?_
  refine To.thenN ?_
  refine Wp.seq ?_
  refine Wp.region hΓ [] [] [] [0, 3, 4, 30] [1003] (K' := [(0, .val (.int .i64 v0)), (3, .row 1003), (4, .val (.int .i64 v4)), (30, .val (.bool o1))]) (L' := [(1003, 3, [.rowc false (α := Int) 0 E_i64 v3])]) (ob := []) (by kernel_rfl) AllP.nil ?_
  refine To.thenN ?_
  refine Wp.cond (b := o1) (by kernel_rfl) (fun hb => ?_) (fun hb => ?_)
  · replace h := if_t hb h
    obtain ⟨hc2, h⟩ := chk_of h
    refine Wp.region hΓ [] [(2, .recs (α := Int) 0 E_i64 [v4]), (3, .recs (α := Int) 0 E_i64 (v3 ++ ([v4] : List (Int))))] [] [0, 3, 4] [34] (K' := [(0, .val (.int .i64 v0)), (3, .row 34), (4, .val (.int .i64 v4))]) (L' := [(34, 3, [.rowc false (α := Int) 0 E_i64 (v3 ++ ([v4] : List (Int)))])]) (ob := [(MkOb 1 [.val (.int .i64 v4)] 1 (.recs (α := Int) 0 E_i64 [v4]) ∧ GoodR (.recs (α := Int) 0 E_i64 [v4])), (decide ((List.length v3 + List.length ([v4] : List (Int))) * (8 + 1) ≤ limit)) = true, (AppOb 0 E_i64 v3 (List.flatMap E_i64 ([v4] : List (Int))) (List.length ([v4] : List (Int))) (.recs (α := Int) 0 E_i64 (v3 ++ ([v4] : List (Int)))) ∧ GoodR (.recs (α := Int) 0 E_i64 (v3 ++ ([v4] : List (Int)))))]) (by kernel_rfl) (AllP.cons (mkOb (by kernel_rfl) rfl (by kernel_rfl) (good_E_i64 _)) (AllP.cons hc2 (AllP.cons (appOb rfl rfl (good_E_i64 _)) AllP.nil))) ?_
    refine To.blockN ?_
    refine To.keep (kk := [0, 3, 4]) (kl := [34]) (K' := [(0, .val (.int .i64 v0)), (3, .row 34), (4, .val (.int .i64 v4))]) (L' := [(34, 3, [.rowc false (α := Int) 0 E_i64 (v3 ++ ([v4] : List (Int)))])]) (by kernel_rfl) (by kernel_rfl) ?_
    refine To.pre (St.rename 34 1003 (by decide) (K' := [(0, .val (.int .i64 v0)), (3, .row 1003), (4, .val (.int .i64 v4))]) (L' := [(1003, 3, [.rowc false (α := Int) 0 E_i64 (v3 ++ ([v4] : List (Int)))])]) (by kernel_rfl) (by kernel_rfl) (by kernel_rfl)) ?_
    refine To.keep (kk := [0, 3, 4]) (kl := [1003]) (K' := [(0, .val (.int .i64 v0)), (3, .row 1003), (4, .val (.int .i64 v4))]) (L' := [(1003, 3, [.rowc false (α := Int) 0 E_i64 (v3 ++ ([v4] : List (Int)))])]) (by kernel_rfl) (by kernel_rfl) ?_
    cases h
    exact hQ
  · replace h := if_f hb h
    refine Wp.skip ?_
    refine To.blockN ?_
    refine To.keep (kk := [0, 3, 4]) (kl := [1003]) (K' := [(0, .val (.int .i64 v0)), (3, .row 1003), (4, .val (.int .i64 v4))]) (L' := [(1003, 3, [.rowc false (α := Int) 0 E_i64 v3])]) (by kernel_rfl) (by kernel_rfl) ?_
    cases h
    exact hQ
def ref05_Primes_l1 (n : Nat) (v0 : Int) : Nat → (List (Int)) → Int → Option ((List (Int)))
  | 0, _, _ => none
  | k + 1, v3, v4 => if (decide ((List.length v3 : Int) < v0)) = true then ((ref05_Primes_j2 n v0 v3 v4).bind fun o1 =>
  ref05_Primes_l1 n v0 k o1 (IntKind.wrap .i64 (v4 + 1)))
  else some v3
theorem ok_ref05_Primes_l1 (n : Nat) (v0 : Int) {F0 : Fz} {w0 : Pt Try.prog} {Q : Exit → Act → World → Prop} (k : Nat) : ∀ (v3 : List (Int)) (v4 : Int) (o : (List (Int))), ref05_Primes_l1 n v0 k v3 v4 = some o → To 36 F0 w0 [(3, .row 1003)] [(1003, 3, [.rowc false (α := Int) 0 E_i64 o])] (.exit 0) Q → WL Try.prog 36 F0 w0 [(0, .val (.int .i64 v0)), (3, .row 1003), (4, .val (.int .i64 v4))] [(1003, 3, [.rowc false (α := Int) 0 E_i64 v3])] (cI (cI (cB (cA (cB (cB (cB (cF Try.f9)))))))) Q := by
  induction k with
  | zero => intro v3 v4 o h; cases h
  | succ k ih =>
    intro v3 v4 o h hQ
    rw [ref05_Primes_l1] at h
    refine WL.round ?_
    refine Wp.seq ?_
    refine Wp.seq ?_
    refine Wp.region hΓ [] [] [] [0, 3, 4, 14] [1003] (K' := [(0, .val (.int .i64 v0)), (3, .row 1003), (4, .val (.int .i64 v4)), (14, .val (.bool (decide ((List.length v3 : Int) < v0))))]) (L' := [(1003, 3, [.rowc false (α := Int) 0 E_i64 v3])]) (ob := []) (by kernel_rfl) AllP.nil ?_
    refine To.thenN ?_
    refine Wp.cond (b := (decide ((List.length v3 : Int) < v0))) (by kernel_rfl) (fun hb => ?_) (fun hb => ?_)
    · replace h := if_t hb h
      refine Wp.skip ?_
      refine To.thenN ?_
      refine Wp.seq ?_
      obtain ⟨o1, ho1, h⟩ := bind_of h
      refine Wp.keep (kk := [0, 3, 4]) (kl := [1003]) (K' := [(0, .val (.int .i64 v0)), (3, .row 1003), (4, .val (.int .i64 v4))]) (L' := [(1003, 3, [.rowc false (α := Int) 0 E_i64 v3])]) (by kernel_rfl) (by kernel_rfl) ?_
      refine ok_ref05_Primes_j2 n v0 v3 v4 o1 ho1 ?_
      refine To.thenN ?_
      refine Wp.region hΓ [] [] [] [0, 3, 4] [1003] (K' := [(0, .val (.int .i64 v0)), (3, .row 1003), (4, .val (.int .i64 (IntKind.wrap .i64 (v4 + 1))))]) (L' := [(1003, 3, [.rowc false (α := Int) 0 E_i64 o1])]) (ob := []) (by kernel_rfl) AllP.nil ?_
      refine To.keep (kk := [0, 3, 4]) (kl := [1003]) (K' := [(0, .val (.int .i64 v0)), (3, .row 1003), (4, .val (.int .i64 (IntKind.wrap .i64 (v4 + 1))))]) (L' := [(1003, 3, [.rowc false (α := Int) 0 E_i64 o1])]) (by kernel_rfl) (by kernel_rfl) ?_
      refine To.again ?_
      exact ih o1 (IntKind.wrap .i64 (v4 + 1)) _ h hQ
    · replace h := if_f hb h
      refine Wp.exit ?_
      refine To.thenX ?_
      refine To.thenX ?_
      refine To.keep (kk := [3]) (kl := [1003]) (K' := [(3, .row 1003)]) (L' := [(1003, 3, [.rowc false (α := Int) 0 E_i64 v3])]) (by kernel_rfl) (by kernel_rfl) ?_
      cases h
      exact hQ
def ref05_Primes (n : Nat) (a0 : Int) : Option ((List (Int))) :=
  if (decide (a0 > 100)) = true then (some [])
  else ((ref05_Primes_l1 n a0 n ([] : List (Int)) 2).bind fun o1 =>
  some o1)
theorem ok_ref05_Primes (n : Nat) (a0 : Int) (r : (List (Int))) (h : ref05_Primes n a0 = some r) : CallsX Try.prog 9 [.val (.int .i64 a0)] (.recs (α := Int) 0 E_i64 r) := by
  unfold ref05_Primes at h
  refine callsX_of (fn := Try.f9) (by kernel_rfl) rfl (by kernel_rfl) (Nat.le_of_ble_eq_true (by kernel_rfl)) fun F0 w0 _ => ?_
  refine Wp.keep (kk := [0]) (kl := []) (K' := [(0, .val (.int .i64 a0))]) (L' := []) (by kernel_rfl) (by kernel_rfl) ?_
  refine Wp.seq ?_
  refine Wp.region hΓ [] [] [] [0] [] (K' := [(0, .val (.int .i64 a0))]) (L' := []) (ob := []) (by kernel_rfl) AllP.nil ?_
  refine To.thenN ?_
  refine Wp.seq ?_
  refine Wp.region hΓ [] [(0, .recs (α := Int) 0 E_i64 [])] [] [0, 3] [7] (K' := [(0, .val (.int .i64 a0)), (3, .row 7)]) (L' := [(7, 3, [.rowc false (α := Int) 0 E_i64 []])]) (ob := [(MkOb 1 [] 0 (.recs (α := Int) 0 E_i64 []) ∧ GoodR (.recs (α := Int) 0 E_i64 []))]) (by kernel_rfl) (AllP.cons (mkOb (by kernel_rfl) rfl (by kernel_rfl) (good_E_i64 _)) AllP.nil) ?_
  refine To.thenN ?_
  refine Wp.seq ?_
  refine Wp.seq ?_
  refine Wp.region hΓ [] [] [] [0, 3, 9] [7] (K' := [(0, .val (.int .i64 a0)), (3, .row 7), (9, .val (.bool (decide (a0 > 100))))]) (L' := [(7, 3, [.rowc false (α := Int) 0 E_i64 []])]) (ob := []) (by kernel_rfl) AllP.nil ?_
  refine To.thenN ?_
  refine Wp.cond (b := (decide (a0 > 100))) (by kernel_rfl) (fun hb => ?_) (fun hb => ?_)
  · replace h := if_t hb h
    refine Wp.seq ?_
    refine Wp.region hΓ [] [] [] [2] [7] (K' := [(2, .row 7)]) (L' := [(7, 3, [.rowc false (α := Int) 0 E_i64 []])]) (ob := []) (by kernel_rfl) AllP.nil ?_
    refine To.thenN ?_
    refine Wp.ret ?_
    refine To.thenR ?_
    refine To.keep (kk := [2]) (kl := [7]) (K' := [(2, .row 7)]) (L' := [(7, 3, [.rowc false (α := Int) 0 E_i64 []])]) (by kernel_rfl) (by kernel_rfl) ?_
    refine To.pre (St.settle (ks := [7]) (kk := [2]) (kl := [7]) (K' := [(2, .row 7)]) (L' := [(7, 3, [.rowc true (α := Int) 0 E_i64 []])]) (by kernel_rfl)) ?_
    refine To.pre (St.sealK [2] (K' := [(2, .recs (α := Int) 0 E_i64 [])]) (by kernel_rfl)) ?_
    refine To.keep (kk := [2]) (kl := []) (K' := [(2, .recs (α := Int) 0 E_i64 [])]) (L' := []) (by kernel_rfl) (by kernel_rfl) ?_
    cases h
    exact To.done hΓ (by kernel_rfl)
  · replace h := if_f hb h
    refine Wp.skip ?_
    refine To.thenN ?_
    refine Wp.seq ?_
    refine Wp.seq ?_
    refine Wp.region hΓ [] [] [] [0, 3, 4] [7] (K' := [(0, .val (.int .i64 a0)), (3, .row 7), (4, .val (.int .i64 2))]) (L' := [(7, 3, [.rowc false (α := Int) 0 E_i64 []])]) (ob := []) (by kernel_rfl) AllP.nil ?_
    refine To.thenN ?_
    refine Wp.block ?_
    obtain ⟨o1, ho1, h⟩ := bind_of h
    refine Wp.keep (kk := [0, 3, 4]) (kl := [7]) (K' := [(0, .val (.int .i64 a0)), (3, .row 7), (4, .val (.int .i64 2))]) (L' := [(7, 3, [.rowc false (α := Int) 0 E_i64 []])]) (by kernel_rfl) (by kernel_rfl) ?_
    refine Wp.pre (St.rename 7 1003 (by decide) (K' := [(0, .val (.int .i64 a0)), (3, .row 1003), (4, .val (.int .i64 2))]) (L' := [(1003, 3, [.rowc false (α := Int) 0 E_i64 []])]) (by kernel_rfl) (by kernel_rfl) (by kernel_rfl)) ?_
    refine Wp.keep (kk := [0, 3, 4]) (kl := [1003]) (K' := [(0, .val (.int .i64 a0)), (3, .row 1003), (4, .val (.int .i64 2))]) (L' := [(1003, 3, [.rowc false (α := Int) 0 E_i64 []])]) (by kernel_rfl) (by kernel_rfl) ?_
    refine Wp.loopL ?_
    refine ok_ref05_Primes_l1 n a0 n ([] : List (Int)) 2 o1 ho1 ?_
    refine To.blockX ?_
    refine To.thenN ?_
    refine Wp.seq ?_
    refine Wp.region hΓ [] [] [] [2] [1003] (K' := [(2, .row 1003)]) (L' := [(1003, 3, [.rowc false (α := Int) 0 E_i64 o1])]) (ob := []) (by kernel_rfl) AllP.nil ?_
    refine To.thenN ?_
    refine Wp.ret ?_
    refine To.keep (kk := [2]) (kl := [1003]) (K' := [(2, .row 1003)]) (L' := [(1003, 3, [.rowc false (α := Int) 0 E_i64 o1])]) (by kernel_rfl) (by kernel_rfl) ?_
    refine To.pre (St.settle (ks := [1003]) (kk := [2]) (kl := [1003]) (K' := [(2, .row 1003)]) (L' := [(1003, 3, [.rowc true (α := Int) 0 E_i64 o1])]) (by kernel_rfl)) ?_
    refine To.pre (St.sealK [2] (K' := [(2, .recs (α := Int) 0 E_i64 o1)]) (by kernel_rfl)) ?_
    refine To.keep (kk := [2]) (kl := []) (K' := [(2, .recs (α := Int) 0 E_i64 o1)]) (L' := []) (by kernel_rfl) (by kernel_rfl) ?_
    cases h
    exact To.done hΓ (by kernel_rfl)
def E_u64 : Int → List D := fun x => [.val (.int .u64 x)]
theorem good_E_u64 (l : List (Int)) : GoodR (.recs 0 E_u64 l) := ⟨Nat.le_of_ble_eq_true (by kernel_rfl), fun _ => ⟨rfl, rfl⟩⟩
def ref05_times_l1 (n : Nat) (v1 : Int) (b2 : List (Int)) (b4 : List (Int)) : Nat → Int → Int → (List (Int)) → Option ((List (Int)))
  | 0, _, _, _ => none
  | k + 1, v6, v7, b5 => if (decide (v7 < 5)) = true then (if (decide (0 ≤ v7 ∧ v7 < (5 : Int))) = true then (if (decide (0 ≤ v7 ∧ v7 < (List.length b2 : Int))) = true then (if ((16777216 != 0)) = true then (if (decide (0 ≤ v7 ∧ v7 < (5 : Int))) = true then (if (decide (0 ≤ v7 ∧ v7 < (List.length b5 : Int))) = true then (lett ((List.set b5 (Int.toNat v7) (Int.tmod (IntKind.wrap .u64 ((IntKind.wrap .u64 (((b2)[Int.toNat v7]?.getD 0) * v1)) + v6)) 16777216)) : List (Int)) fun x2 =>
  if ((16777216 != 0)) = true then (lett ((IntKind.wrap .u64 (Int.tdiv (IntKind.wrap .u64 ((IntKind.wrap .u64 (((b2)[Int.toNat v7]?.getD 0) * v1)) + v6)) 16777216)) : Int) fun x3 =>
  ref05_times_l1 n v1 b2 b4 k x3 (IntKind.wrap .i64 (v7 + 1)) x2) else none) else none) else none) else none) else none) else none)
  else some b5
theorem ok_ref05_times_l1 (n : Nat) (v1 : Int) (b2 : List (Int)) (b4 : List (Int)) {F0 : Fz} {w0 : Pt Try.prog} {Q : Exit → Act → World → Prop} (k : Nat) : ∀ (v6 : Int) (v7 : Int) (b5 : List (Int)) (o : (List (Int))), ref05_times_l1 n v1 b2 b4 k v6 v7 b5 = some o → To 27 F0 w0 [(4, .elm 4 0 1 0), (5, .elm 5 0 1 0)] [(4, 38, [.rowc false (α := Int) 0 E_u64 b4]), (5, 38, [.rowc false (α := Int) 0 E_u64 o])] (.exit 0) Q → WL Try.prog 27 F0 w0 [(1, .val (.int .u64 v1)), (2, .elm 2 0 1 0), (4, .elm 4 0 1 0), (5, .elm 5 0 1 0), (6, .val (.int .u64 v6)), (7, .val (.int .i64 v7))] [(2, 38, [.rowc false (α := Int) 0 E_u64 b2]), (4, 38, [.rowc false (α := Int) 0 E_u64 b4]), (5, 38, [.rowc false (α := Int) 0 E_u64 b5])] (cI (cI (cB (cA (cB (cB (cB (cF Try.f32)))))))) Q := by
  induction k with
  | zero => intro v6 v7 b5 o h; cases h
  | succ k ih =>
    intro v6 v7 b5 o h hQ
    rw [ref05_times_l1] at h
    refine WL.round ?_
    refine Wp.seq ?_
    refine Wp.seq ?_
    refine Wp.region hΓ [] [] [] [1, 2, 4, 5, 6, 7, 10] [2, 4, 5] (K' := [(1, .val (.int .u64 v1)), (2, .elm 2 0 1 0), (4, .elm 4 0 1 0), (5, .elm 5 0 1 0), (6, .val (.int .u64 v6)), (7, .val (.int .i64 v7)), (10, .val (.bool (decide (v7 < 5))))]) (L' := [(2, 38, [.rowc false (α := Int) 0 E_u64 b2]), (4, 38, [.rowc false (α := Int) 0 E_u64 b4]), (5, 38, [.rowc false (α := Int) 0 E_u64 b5])]) (ob := []) (by kernel_rfl) AllP.nil ?_
    refine To.thenN ?_
    refine Wp.cond (b := (decide (v7 < 5))) (by kernel_rfl) (fun hb => ?_) (fun hb => ?_)
    · replace h := if_t hb h
      refine Wp.skip ?_
      refine To.thenN ?_
      refine Wp.seq ?_
      refine Wp.block ?_
      refine Wp.seq ?_
      obtain ⟨hc8, h⟩ := chk_of h
      obtain ⟨hc9, h⟩ := chk_of h
      refine Wp.region hΓ [] [] [] [1, 2, 4, 5, 7, 8] [2, 4, 5] (K' := [(1, .val (.int .u64 v1)), (2, .elm 2 0 1 0), (4, .elm 4 0 1 0), (5, .elm 5 0 1 0), (7, .val (.int .i64 v7)), (8, .val (.int .u64 (IntKind.wrap .u64 ((IntKind.wrap .u64 (((b2)[Int.toNat v7]?.getD 0) * v1)) + v6))))]) (L' := [(2, 38, [.rowc false (α := Int) 0 E_u64 b2]), (4, 38, [.rowc false (α := Int) 0 E_u64 b4]), (5, 38, [.rowc false (α := Int) 0 E_u64 b5])]) (ob := [(decide (0 ≤ v7 ∧ v7 < (5 : Int))) = true, (decide (0 ≤ v7 ∧ v7 < (List.length b2 : Int))) = true]) (by kernel_rfl) (AllP.cons hc8 (AllP.cons hc9 AllP.nil)) ?_
      refine To.thenN ?_
      refine Wp.seq ?_
      obtain ⟨hc5, h⟩ := chk_of h
      obtain ⟨hc6, h⟩ := chk_of h
      obtain ⟨hc7, h⟩ := chk_of h
      obtain ⟨x2, hx2, h⟩ := lett_of h
      refine Wp.region hΓ [] [(4, .recs (α := Int) 0 E_u64 (List.set b5 (Int.toNat v7) (Int.tmod (IntKind.wrap .u64 ((IntKind.wrap .u64 (((b2)[Int.toNat v7]?.getD 0) * v1)) + v6)) 16777216)))] [] [1, 2, 4, 5, 7, 8] [2, 4, 5] (K' := [(1, .val (.int .u64 v1)), (2, .elm 2 0 1 0), (4, .elm 4 0 1 0), (5, .elm 5 0 1 0), (7, .val (.int .i64 v7)), (8, .val (.int .u64 (IntKind.wrap .u64 ((IntKind.wrap .u64 (((b2)[Int.toNat v7]?.getD 0) * v1)) + v6))))]) (L' := [(2, 38, [.rowc false (α := Int) 0 E_u64 b2]), (4, 38, [.rowc false (α := Int) 0 E_u64 b4]), (5, 38, [.rowc false (α := Int) 0 E_u64 (List.set b5 (Int.toNat v7) (Int.tmod (IntKind.wrap .u64 ((IntKind.wrap .u64 (((b2)[Int.toNat v7]?.getD 0) * v1)) + v6)) 16777216))])]) (ob := [((16777216 != 0)) = true, (decide (0 ≤ v7 ∧ v7 < (5 : Int))) = true, (decide (0 ≤ v7 ∧ v7 < (List.length b5 : Int))) = true, UpdOb 0 E_u64 b5 v7 0 [.val (.int .u64 (Int.tmod (IntKind.wrap .u64 ((IntKind.wrap .u64 (((b2)[Int.toNat v7]?.getD 0) * v1)) + v6)) 16777216))] (.recs (α := Int) 0 E_u64 (List.set b5 (Int.toNat v7) (Int.tmod (IntKind.wrap .u64 ((IntKind.wrap .u64 (((b2)[Int.toNat v7]?.getD 0) * v1)) + v6)) 16777216)))]) (by kernel_rfl) (AllP.cons hc5 (AllP.cons hc6 (AllP.cons hc7 (AllP.cons (updOb (by kernel_rfl)) AllP.nil)))) ?_
      refine To.eq (K' := [(1, .val (.int .u64 v1)), (2, .elm 2 0 1 0), (4, .elm 4 0 1 0), (5, .elm 5 0 1 0), (7, .val (.int .i64 v7)), (8, .val (.int .u64 (IntKind.wrap .u64 ((IntKind.wrap .u64 (((b2)[Int.toNat v7]?.getD 0) * v1)) + v6))))]) (L' := [(2, 38, [.rowc false (α := Int) 0 E_u64 b2]), (4, 38, [.rowc false (α := Int) 0 E_u64 b4]), (5, 38, [.rowc false (α := Int) 0 E_u64 x2])]) (by cases hx2; rfl) (by cases hx2; rfl) ?_
      refine To.thenN ?_
      obtain ⟨hc4, h⟩ := chk_of h
      obtain ⟨x3, hx3, h⟩ := lett_of h
      refine Wp.region hΓ [] [] [] [1, 2, 4, 5, 6, 7] [2, 4, 5] (K' := [(1, .val (.int .u64 v1)), (2, .elm 2 0 1 0), (4, .elm 4 0 1 0), (5, .elm 5 0 1 0), (6, .val (.int .u64 (IntKind.wrap .u64 (Int.tdiv (IntKind.wrap .u64 ((IntKind.wrap .u64 (((b2)[Int.toNat v7]?.getD 0) * v1)) + v6)) 16777216)))), (7, .val (.int .i64 v7))]) (L' := [(2, 38, [.rowc false (α := Int) 0 E_u64 b2]), (4, 38, [.rowc false (α := Int) 0 E_u64 b4]), (5, 38, [.rowc false (α := Int) 0 E_u64 x2])]) (ob := [((16777216 != 0)) = true]) (by kernel_rfl) (AllP.cons hc4 AllP.nil) ?_
      refine To.eq (K' := [(1, .val (.int .u64 v1)), (2, .elm 2 0 1 0), (4, .elm 4 0 1 0), (5, .elm 5 0 1 0), (6, .val (.int .u64 x3)), (7, .val (.int .i64 v7))]) (L' := [(2, 38, [.rowc false (α := Int) 0 E_u64 b2]), (4, 38, [.rowc false (α := Int) 0 E_u64 b4]), (5, 38, [.rowc false (α := Int) 0 E_u64 x2])]) (by cases hx3; rfl) (by cases hx3; rfl) ?_
      refine To.blockN ?_
      refine To.thenN ?_
      refine Wp.region hΓ [] [] [] [1, 2, 4, 5, 6, 7] [2, 4, 5] (K' := [(1, .val (.int .u64 v1)), (2, .elm 2 0 1 0), (4, .elm 4 0 1 0), (5, .elm 5 0 1 0), (6, .val (.int .u64 x3)), (7, .val (.int .i64 (IntKind.wrap .i64 (v7 + 1))))]) (L' := [(2, 38, [.rowc false (α := Int) 0 E_u64 b2]), (4, 38, [.rowc false (α := Int) 0 E_u64 b4]), (5, 38, [.rowc false (α := Int) 0 E_u64 x2])]) (ob := []) (by kernel_rfl) AllP.nil ?_
      refine To.keep (kk := [1, 2, 4, 5, 6, 7]) (kl := [2, 4, 5]) (K' := [(1, .val (.int .u64 v1)), (2, .elm 2 0 1 0), (4, .elm 4 0 1 0), (5, .elm 5 0 1 0), (6, .val (.int .u64 x3)), (7, .val (.int .i64 (IntKind.wrap .i64 (v7 + 1))))]) (L' := [(2, 38, [.rowc false (α := Int) 0 E_u64 b2]), (4, 38, [.rowc false (α := Int) 0 E_u64 b4]), (5, 38, [.rowc false (α := Int) 0 E_u64 x2])]) (by kernel_rfl) (by kernel_rfl) ?_
      refine To.again ?_
      exact ih x3 (IntKind.wrap .i64 (v7 + 1)) x2 _ h hQ
    · replace h := if_f hb h
      refine Wp.exit ?_
      refine To.thenX ?_
      refine To.thenX ?_
      refine To.keep (kk := [4, 5]) (kl := [4, 5]) (K' := [(4, .elm 4 0 1 0), (5, .elm 5 0 1 0)]) (L' := [(4, 38, [.rowc false (α := Int) 0 E_u64 b4]), (5, 38, [.rowc false (α := Int) 0 E_u64 b5])]) (by kernel_rfl) (by kernel_rfl) ?_
      cases h
      exact hQ
def ref05_times (n : Nat) (a0 : List (Int)) (a1 : Int) : Option ((List (Int))) :=
  if (decide (List.length a0 = 5)) = true then ((ref05_times_l1 n a1 a0 (List.replicate 5 0) n 0 0 (List.replicate 5 0)).bind fun o2 =>
  if (decide (List.length o2 = 5)) = true then (if (decide (List.length (List.replicate 5 0) = 5)) = true then (if (decide (List.length o2 = 5)) = true then (if (decide (List.length o2 = 5)) = true then some o2 else none) else none) else none) else none) else none
theorem ok_ref05_times (n : Nat) (a0 : List (Int)) (a1 : Int) (r : (List (Int))) (h : ref05_times n a0 a1 = some r) : CallsX Try.prog 32 [.arr (α := Int) 0 E_u64 a0, .val (.int .u64 a1)] (.arr (α := Int) 0 E_u64 r) := by
  unfold ref05_times at h
  refine callsX_of (fn := Try.f32) (by kernel_rfl) rfl (by kernel_rfl) (Nat.le_of_ble_eq_true (by kernel_rfl)) fun F0 w0 _ => ?_
  refine Wp.keep (kk := [0, 1]) (kl := []) (K' := [(0, .arr (α := Int) 0 E_u64 a0), (1, .val (.int .u64 a1))]) (L' := []) (by kernel_rfl) (by kernel_rfl) ?_
  refine Wp.seq ?_
  obtain ⟨u1, h⟩ := chk_of h
  refine Wp.region hΓ [] [(0, .recs (α := Int) 0 E_u64 a0)] [] [1, 2, 4] [2, 4] (K' := [(1, .val (.int .u64 a1)), (2, .elm 2 0 1 0), (4, .own 4 0)]) (L' := [(2, 38, [.rowc false (α := Int) 0 E_u64 a0]), (4, 38, [.val (.int .u64 0), .val (.int .u64 0), .val (.int .u64 0), .val (.int .u64 0), .val (.int .u64 0)])]) (ob := [(MkOb 1 (D.cells (.arr (α := Int) 0 E_u64 a0)) 5 (.recs (α := Int) 0 E_u64 a0) ∧ GoodR (.recs (α := Int) 0 E_u64 a0))]) (by kernel_rfl) (AllP.cons (mkOb rfl (of_decide_eq_true u1) rfl (good_E_u64 _)) AllP.nil) ?_
  refine To.pre (St.toRow (t := 38) (l := (List.replicate 5 0)) 4 1 5 (by decide) (by decide) (good_E_u64 _) (by kernel_rfl) (by kernel_rfl) (by kernel_rfl) (by kernel_rfl) (K' := [(1, .val (.int .u64 a1)), (2, .elm 2 0 1 0), (4, .elm 4 0 1 0)]) (L' := [(4, 38, [.rowc false (α := Int) 0 E_u64 (List.replicate 5 0)]), (2, 38, [.rowc false (α := Int) 0 E_u64 a0])]) (by kernel_rfl) (by kernel_rfl)) ?_
  refine To.thenN ?_
  refine Wp.seq ?_
  refine Wp.region hΓ [] [] [] [1, 2, 4, 5] [2, 4, 5] (K' := [(1, .val (.int .u64 a1)), (2, .elm 2 0 1 0), (4, .elm 4 0 1 0), (5, .own 5 0)]) (L' := [(2, 38, [.rowc false (α := Int) 0 E_u64 a0]), (4, 38, [.rowc false (α := Int) 0 E_u64 (List.replicate 5 0)]), (5, 38, [.val (.int .u64 0), .val (.int .u64 0), .val (.int .u64 0), .val (.int .u64 0), .val (.int .u64 0)])]) (ob := []) (by kernel_rfl) AllP.nil ?_
  refine To.pre (St.toRow (t := 38) (l := (List.replicate 5 0)) 5 1 5 (by decide) (by decide) (good_E_u64 _) (by kernel_rfl) (by kernel_rfl) (by kernel_rfl) (by kernel_rfl) (K' := [(1, .val (.int .u64 a1)), (2, .elm 2 0 1 0), (4, .elm 4 0 1 0), (5, .elm 5 0 1 0)]) (L' := [(5, 38, [.rowc false (α := Int) 0 E_u64 (List.replicate 5 0)]), (2, 38, [.rowc false (α := Int) 0 E_u64 a0]), (4, 38, [.rowc false (α := Int) 0 E_u64 (List.replicate 5 0)])]) (by kernel_rfl) (by kernel_rfl)) ?_
  refine To.thenN ?_
  refine Wp.seq ?_
  refine Wp.region hΓ [] [] [] [1, 2, 4, 5, 6] [2, 4, 5] (K' := [(1, .val (.int .u64 a1)), (2, .elm 2 0 1 0), (4, .elm 4 0 1 0), (5, .elm 5 0 1 0), (6, .val (.int .u64 0))]) (L' := [(2, 38, [.rowc false (α := Int) 0 E_u64 a0]), (4, 38, [.rowc false (α := Int) 0 E_u64 (List.replicate 5 0)]), (5, 38, [.rowc false (α := Int) 0 E_u64 (List.replicate 5 0)])]) (ob := []) (by kernel_rfl) AllP.nil ?_
  refine To.thenN ?_
  refine Wp.seq ?_
  refine Wp.seq ?_
  refine Wp.region hΓ [] [] [] [1, 2, 4, 5, 6, 7] [2, 4, 5] (K' := [(1, .val (.int .u64 a1)), (2, .elm 2 0 1 0), (4, .elm 4 0 1 0), (5, .elm 5 0 1 0), (6, .val (.int .u64 0)), (7, .val (.int .i64 0))]) (L' := [(2, 38, [.rowc false (α := Int) 0 E_u64 a0]), (4, 38, [.rowc false (α := Int) 0 E_u64 (List.replicate 5 0)]), (5, 38, [.rowc false (α := Int) 0 E_u64 (List.replicate 5 0)])]) (ob := []) (by kernel_rfl) AllP.nil ?_
  refine To.thenN ?_
  refine Wp.block ?_
  obtain ⟨o2, ho2, h⟩ := bind_of h
  refine Wp.keep (kk := [1, 2, 4, 5, 6, 7]) (kl := [2, 4, 5]) (K' := [(1, .val (.int .u64 a1)), (2, .elm 2 0 1 0), (4, .elm 4 0 1 0), (5, .elm 5 0 1 0), (6, .val (.int .u64 0)), (7, .val (.int .i64 0))]) (L' := [(2, 38, [.rowc false (α := Int) 0 E_u64 a0]), (4, 38, [.rowc false (α := Int) 0 E_u64 (List.replicate 5 0)]), (5, 38, [.rowc false (α := Int) 0 E_u64 (List.replicate 5 0)])]) (by kernel_rfl) (by kernel_rfl) ?_
  refine Wp.loopL ?_
  refine ok_ref05_times_l1 n a1 a0 (List.replicate 5 0) n 0 0 (List.replicate 5 0) o2 ho2 ?_
  refine To.blockX ?_
  refine To.thenN ?_
  refine Wp.seq ?_
  obtain ⟨hc5, h⟩ := chk_of h
  obtain ⟨hc6, h⟩ := chk_of h
  obtain ⟨u3, h⟩ := chk_of h
  refine Wp.region hΓ [] [(1, .recs (α := Int) 0 E_u64 o2)] [] [4] [4] (K' := [(4, .elm 4 0 1 0)]) (L' := [(4, 38, [.rowc false (α := Int) 0 E_u64 o2])]) (ob := [(decide (List.length o2 = 5)) = true, (decide (List.length (List.replicate 5 0) = 5)) = true, (MkOb 1 (D.cells (.arr (α := Int) 0 E_u64 o2)) 5 (.recs (α := Int) 0 E_u64 o2) ∧ GoodR (.recs (α := Int) 0 E_u64 o2))]) (by kernel_rfl) (AllP.cons hc5 (AllP.cons hc6 (AllP.cons (mkOb rfl (of_decide_eq_true u3) rfl (good_E_u64 _)) AllP.nil))) ?_
  refine To.thenN ?_
  refine Wp.ret ?_
  refine To.keep (kk := [4]) (kl := [4]) (K' := [(4, .elm 4 0 1 0)]) (L' := [(4, 38, [.rowc false (α := Int) 0 E_u64 o2])]) (by kernel_rfl) (by kernel_rfl) ?_
  obtain ⟨hc4, h⟩ := chk_of h
  cases h
  exact To.doneA hΓ (by kernel_rfl) hc4
def ref05_mul_j3 (n : Nat) (v9 : Int) (v10 : Int) (v29 : Bool) (b4 : List (Int)) (b5 : List (Int)) (b6 : List (Int)) (b7 : List (Int)) : Option (Int) :=
  if v29 = true then (if (decide (0 ≤ (IntKind.wrap .i64 (v9 - 1)) ∧ (IntKind.wrap .i64 (v9 - 1)) < (5 : Int))) = true then (if (decide (0 ≤ (IntKind.wrap .i64 (v9 - 1)) ∧ (IntKind.wrap .i64 (v9 - 1)) < (List.length b6 : Int))) = true then (some (IntKind.wrap .u64 (v10 + ((b6)[Int.toNat (IntKind.wrap .i64 (v9 - 1))]?.getD 0)))) else none) else none)
  else some v10
theorem ok_ref05_mul_j3 (n : Nat) (v9 : Int) (v10 : Int) (v29 : Bool) (b4 : List (Int)) (b5 : List (Int)) (b6 : List (Int)) (b7 : List (Int)) (o : Int) (h : ref05_mul_j3 n v9 v10 v29 b4 b5 b6 b7 = some o) {F0 : Fz} {w0 : Pt Try.prog} {Q : Exit → Act → World → Prop} (hQ : To 43 F0 w0 [(4, .elm 4 0 1 0), (5, .elm 5 0 1 0), (6, .elm 6 0 1 0), (7, .elm 7 0 1 0), (9, .val (.int .i64 v9)), (10, .val (.int .u64 o))] [(4, 38, [.rowc false (α := Int) 0 E_u64 b4]), (5, 38, [.rowc false (α := Int) 0 E_u64 b5]), (6, 38, [.rowc false (α := Int) 0 E_u64 b6]), (7, 38, [.rowc false (α := Int) 0 E_u64 b7])] .normal Q) : Wp Try.prog 43 F0 w0 [(4, .elm 4 0 1 0), (5, .elm 5 0 1 0), (6, .elm 6 0 1 0), (7, .elm 7 0 1 0), (9, .val (.int .i64 v9)), (10, .val (.int .u64 v10)), (29, .val (.bool v29))] [(4, 38, [.rowc false (α := Int) 0 E_u64 b4]), (5, 38, [.rowc false (α := Int) 0 E_u64 b5]), (6, 38, [.rowc false (α := Int) 0 E_u64 b6]), (7, 38, [.rowc false (α := Int) 0 E_u64 b7])] (cB (cA (cB (cI (cA (cB (cI (cI (cB (cA (cB (cB (cB (cB (cB (cF Try.f23)))))))))))))))) Q := by
  unfold ref05_mul_j3 at h
  refine Wp.cond (b := v29) (by kernel_rfl) (fun hb => ?_) (fun hb => ?_)
  · replace h := if_t hb h
    obtain ⟨hc6, h⟩ := chk_of h
    obtain ⟨hc7, h⟩ := chk_of h
    refine Wp.region hΓ [] [] [] [4, 5, 6, 7, 9, 10] [4, 5, 6, 7] (K' := [(4, .elm 4 0 1 0), (5, .elm 5 0 1 0), (6, .elm 6 0 1 0), (7, .elm 7 0 1 0), (9, .val (.int .i64 v9)), (10, .val (.int .u64 (IntKind.wrap .u64 (v10 + ((b6)[Int.toNat (IntKind.wrap .i64 (v9 - 1))]?.getD 0)))))]) (L' := [(4, 38, [.rowc false (α := Int) 0 E_u64 b4]), (5, 38, [.rowc false (α := Int) 0 E_u64 b5]), (6, 38, [.rowc false (α := Int) 0 E_u64 b6]), (7, 38, [.rowc false (α := Int) 0 E_u64 b7])]) (ob := [(decide (0 ≤ (IntKind.wrap .i64 (v9 - 1)) ∧ (IntKind.wrap .i64 (v9 - 1)) < (5 : Int))) = true, (decide (0 ≤ (IntKind.wrap .i64 (v9 - 1)) ∧ (IntKind.wrap .i64 (v9 - 1)) < (List.length b6 : Int))) = true]) (by kernel_rfl) (AllP.cons hc6 (AllP.cons hc7 AllP.nil)) ?_
    refine To.keep (kk := [4, 5, 6, 7, 9, 10]) (kl := [4, 5, 6, 7]) (K' := [(4, .elm 4 0 1 0), (5, .elm 5 0 1 0), (6, .elm 6 0 1 0), (7, .elm 7 0 1 0), (9, .val (.int .i64 v9)), (10, .val (.int .u64 (IntKind.wrap .u64 (v10 + ((b6)[Int.toNat (IntKind.wrap .i64 (v9 - 1))]?.getD 0)))))]) (L' := [(4, 38, [.rowc false (α := Int) 0 E_u64 b4]), (5, 38, [.rowc false (α := Int) 0 E_u64 b5]), (6, 38, [.rowc false (α := Int) 0 E_u64 b6]), (7, 38, [.rowc false (α := Int) 0 E_u64 b7])]) (by kernel_rfl) (by kernel_rfl) ?_
    cases h
    exact hQ
  · replace h := if_f hb h
    refine Wp.skip ?_
    refine To.keep (kk := [4, 5, 6, 7, 9, 10]) (kl := [4, 5, 6, 7]) (K' := [(4, .elm 4 0 1 0), (5, .elm 5 0 1 0), (6, .elm 6 0 1 0), (7, .elm 7 0 1 0), (9, .val (.int .i64 v9)), (10, .val (.int .u64 v10))]) (L' := [(4, 38, [.rowc false (α := Int) 0 E_u64 b4]), (5, 38, [.rowc false (α := Int) 0 E_u64 b5]), (6, 38, [.rowc false (α := Int) 0 E_u64 b6]), (7, 38, [.rowc false (α := Int) 0 E_u64 b7])]) (by kernel_rfl) (by kernel_rfl) ?_
    cases h
    exact hQ
def ref05_mul_j2 (n : Nat) (v8 : Int) (v9 : Int) (b4 : List (Int)) (b5 : List (Int)) (b6 : List (Int)) (b7 : List (Int)) : Option (Int × (List (Int))) :=
  if (decide (0 ≤ v9 ∧ v9 < (5 : Int))) = true then (if (decide (0 ≤ v9 ∧ v9 < (List.length b5 : Int))) = true then ((ref05_mul_j3 n v9 (IntKind.wrap .u64 (((b5)[Int.toNat v9]?.getD 0) + v8)) (decide (v9 > 0)) b4 b5 b6 b7).bind fun o6 =>
  if ((16777216 != 0)) = true then (if (decide (0 ≤ v9 ∧ v9 < (5 : Int))) = true then (if (decide (0 ≤ v9 ∧ v9 < (List.length b7 : Int))) = true then (if ((16777216 != 0)) = true then (some ((IntKind.wrap .u64 (Int.tdiv o6 16777216)), (List.set b7 (Int.toNat v9) (Int.tmod o6 16777216)))) else none) else none) else none) else none) else none) else none
theorem ok_ref05_mul_j2 (n : Nat) (v8 : Int) (v9 : Int) (b4 : List (Int)) (b5 : List (Int)) (b6 : List (Int)) (b7 : List (Int)) (o : Int × (List (Int))) (h : ref05_mul_j2 n v8 v9 b4 b5 b6 b7 = some o) {F0 : Fz} {w0 : Pt Try.prog} {Q : Exit → Act → World → Prop} (hQ : To 43 F0 w0 [(4, .elm 4 0 1 0), (5, .elm 5 0 1 0), (6, .elm 6 0 1 0), (7, .elm 7 0 1 0), (8, .val (.int .u64 o.1)), (9, .val (.int .i64 v9))] [(4, 38, [.rowc false (α := Int) 0 E_u64 b4]), (5, 38, [.rowc false (α := Int) 0 E_u64 b5]), (6, 38, [.rowc false (α := Int) 0 E_u64 b6]), (7, 38, [.rowc false (α := Int) 0 E_u64 o.2])] .normal Q) : Wp Try.prog 43 F0 w0 [(4, .elm 4 0 1 0), (5, .elm 5 0 1 0), (6, .elm 6 0 1 0), (7, .elm 7 0 1 0), (8, .val (.int .u64 v8)), (9, .val (.int .i64 v9))] [(4, 38, [.rowc false (α := Int) 0 E_u64 b4]), (5, 38, [.rowc false (α := Int) 0 E_u64 b5]), (6, 38, [.rowc false (α := Int) 0 E_u64 b6]), (7, 38, [.rowc false (α := Int) 0 E_u64 b7])] (cA (cB (cI (cI (cB (cA (cB (cB (cB (cB (cB (cF Try.f23)))))))))))) Q := by
  unfold ref05_mul_j2 at h
  refine Wp.block ?_
  refine Wp.seq ?_
  obtain ⟨hc11, h⟩ := chk_of h
  obtain ⟨hc12, h⟩ := chk_of h
  refine Wp.region hΓ [] [] [] [4, 5, 6, 7, 9, 10] [4, 5, 6, 7] (K' := [(4, .elm 4 0 1 0), (5, .elm 5 0 1 0), (6, .elm 6 0 1 0), (7, .elm 7 0 1 0), (9, .val (.int .i64 v9)), (10, .val (.int .u64 (IntKind.wrap .u64 (((b5)[Int.toNat v9]?.getD 0) + v8))))]) (L' := [(4, 38, [.rowc false (α := Int) 0 E_u64 b4]), (5, 38, [.rowc false (α := Int) 0 E_u64 b5]), (6, 38, [.rowc false (α := Int) 0 E_u64 b6]), (7, 38, [.rowc false (α := Int) 0 E_u64 b7])]) (ob := [(decide (0 ≤ v9 ∧ v9 < (5 : Int))) = true, (decide (0 ≤ v9 ∧ v9 < (List.length b5 : Int))) = true]) (by kernel_rfl) (AllP.cons hc11 (AllP.cons hc12 AllP.nil)) ?_
  refine To.thenN ?_
  refine Wp.seq ?_
  refine Wp.seq ?_
  refine Wp.region hΓ [] [] [] [4, 5, 6, 7, 9, 10, 29] [4, 5, 6, 7] (K' := [(4, .elm 4 0 1 0), (5, .elm 5 0 1 0), (6, .elm 6 0 1 0), (7, .elm 7 0 1 0), (9, .val (.int .i64 v9)), (10, .val (.int .u64 (IntKind.wrap .u64 (((b5)[Int.toNat v9]?.getD 0) + v8)))), (29, .val (.bool (decide (v9 > 0))))]) (L' := [(4, 38, [.rowc false (α := Int) 0 E_u64 b4]), (5, 38, [.rowc false (α := Int) 0 E_u64 b5]), (6, 38, [.rowc false (α := Int) 0 E_u64 b6]), (7, 38, [.rowc false (α := Int) 0 E_u64 b7])]) (ob := []) (by kernel_rfl) AllP.nil ?_
  refine To.thenN ?_
  obtain ⟨o6, ho6, h⟩ := bind_of h
  refine Wp.keep (kk := [4, 5, 6, 7, 9, 10, 29]) (kl := [4, 5, 6, 7]) (K' := [(4, .elm 4 0 1 0), (5, .elm 5 0 1 0), (6, .elm 6 0 1 0), (7, .elm 7 0 1 0), (9, .val (.int .i64 v9)), (10, .val (.int .u64 (IntKind.wrap .u64 (((b5)[Int.toNat v9]?.getD 0) + v8)))), (29, .val (.bool (decide (v9 > 0))))]) (L' := [(4, 38, [.rowc false (α := Int) 0 E_u64 b4]), (5, 38, [.rowc false (α := Int) 0 E_u64 b5]), (6, 38, [.rowc false (α := Int) 0 E_u64 b6]), (7, 38, [.rowc false (α := Int) 0 E_u64 b7])]) (by kernel_rfl) (by kernel_rfl) ?_
  refine ok_ref05_mul_j3 n v9 (IntKind.wrap .u64 (((b5)[Int.toNat v9]?.getD 0) + v8)) (decide (v9 > 0)) b4 b5 b6 b7 o6 ho6 ?_
  refine To.thenN ?_
  refine Wp.seq ?_
  obtain ⟨hc8, h⟩ := chk_of h
  obtain ⟨hc9, h⟩ := chk_of h
  obtain ⟨hc10, h⟩ := chk_of h
  refine Wp.region hΓ [] [(4, .recs (α := Int) 0 E_u64 (List.set b7 (Int.toNat v9) (Int.tmod o6 16777216)))] [] [4, 5, 6, 7, 9, 10] [4, 5, 6, 7] (K' := [(4, .elm 4 0 1 0), (5, .elm 5 0 1 0), (6, .elm 6 0 1 0), (7, .elm 7 0 1 0), (9, .val (.int .i64 v9)), (10, .val (.int .u64 o6))]) (L' := [(4, 38, [.rowc false (α := Int) 0 E_u64 b4]), (5, 38, [.rowc false (α := Int) 0 E_u64 b5]), (6, 38, [.rowc false (α := Int) 0 E_u64 b6]), (7, 38, [.rowc false (α := Int) 0 E_u64 (List.set b7 (Int.toNat v9) (Int.tmod o6 16777216))])]) (ob := [((16777216 != 0)) = true, (decide (0 ≤ v9 ∧ v9 < (5 : Int))) = true, (decide (0 ≤ v9 ∧ v9 < (List.length b7 : Int))) = true, UpdOb 0 E_u64 b7 v9 0 [.val (.int .u64 (Int.tmod o6 16777216))] (.recs (α := Int) 0 E_u64 (List.set b7 (Int.toNat v9) (Int.tmod o6 16777216)))]) (by kernel_rfl) (AllP.cons hc8 (AllP.cons hc9 (AllP.cons hc10 (AllP.cons (updOb (by kernel_rfl)) AllP.nil)))) ?_
  refine To.thenN ?_
  obtain ⟨hc7, h⟩ := chk_of h
  refine Wp.region hΓ [] [] [] [4, 5, 6, 7, 8, 9] [4, 5, 6, 7] (K' := [(4, .elm 4 0 1 0), (5, .elm 5 0 1 0), (6, .elm 6 0 1 0), (7, .elm 7 0 1 0), (8, .val (.int .u64 (IntKind.wrap .u64 (Int.tdiv o6 16777216)))), (9, .val (.int .i64 v9))]) (L' := [(4, 38, [.rowc false (α := Int) 0 E_u64 b4]), (5, 38, [.rowc false (α := Int) 0 E_u64 b5]), (6, 38, [.rowc false (α := Int) 0 E_u64 b6]), (7, 38, [.rowc false (α := Int) 0 E_u64 (List.set b7 (Int.toNat v9) (Int.tmod o6 16777216))])]) (ob := [((16777216 != 0)) = true]) (by kernel_rfl) (AllP.cons hc7 AllP.nil) ?_
  refine To.blockN ?_
  refine To.keep (kk := [4, 5, 6, 7, 8, 9]) (kl := [4, 5, 6, 7]) (K' := [(4, .elm 4 0 1 0), (5, .elm 5 0 1 0), (6, .elm 6 0 1 0), (7, .elm 7 0 1 0), (8, .val (.int .u64 (IntKind.wrap .u64 (Int.tdiv o6 16777216)))), (9, .val (.int .i64 v9))]) (L' := [(4, 38, [.rowc false (α := Int) 0 E_u64 b4]), (5, 38, [.rowc false (α := Int) 0 E_u64 b5]), (6, 38, [.rowc false (α := Int) 0 E_u64 b6]), (7, 38, [.rowc false (α := Int) 0 E_u64 (List.set b7 (Int.toNat v9) (Int.tmod o6 16777216))])]) (by kernel_rfl) (by kernel_rfl) ?_
  cases h
  exact hQ
def ref05_mul_l1 (n : Nat) (b4 : List (Int)) (b5 : List (Int)) (b6 : List (Int)) : Nat → Int → Int → (List (Int)) → Option ((List (Int)))
  | 0, _, _, _ => none
  | k + 1, v8, v9, b7 => if (decide (v9 < 5)) = true then ((ref05_mul_j2 n v8 v9 b4 b5 b6 b7).bind fun o6 =>
  ref05_mul_l1 n b4 b5 b6 k o6.1 (IntKind.wrap .i64 (v9 + 1)) o6.2)
  else some b7
theorem ok_ref05_mul_l1 (n : Nat) (b4 : List (Int)) (b5 : List (Int)) (b6 : List (Int)) {F0 : Fz} {w0 : Pt Try.prog} {Q : Exit → Act → World → Prop} (k : Nat) : ∀ (v8 : Int) (v9 : Int) (b7 : List (Int)) (o : (List (Int))), ref05_mul_l1 n b4 b5 b6 k v8 v9 b7 = some o → To 43 F0 w0 [(4, .elm 4 0 1 0), (7, .elm 7 0 1 0)] [(4, 38, [.rowc false (α := Int) 0 E_u64 b4]), (7, 38, [.rowc false (α := Int) 0 E_u64 o])] (.exit 0) Q → WL Try.prog 43 F0 w0 [(4, .elm 4 0 1 0), (5, .elm 5 0 1 0), (6, .elm 6 0 1 0), (7, .elm 7 0 1 0), (8, .val (.int .u64 v8)), (9, .val (.int .i64 v9))] [(4, 38, [.rowc false (α := Int) 0 E_u64 b4]), (5, 38, [.rowc false (α := Int) 0 E_u64 b5]), (6, 38, [.rowc false (α := Int) 0 E_u64 b6]), (7, 38, [.rowc false (α := Int) 0 E_u64 b7])] (cI (cI (cB (cA (cB (cB (cB (cB (cB (cF Try.f23)))))))))) Q := by
  induction k with
  | zero => intro v8 v9 b7 o h; cases h
  | succ k ih =>
    intro v8 v9 b7 o h hQ
    rw [ref05_mul_l1] at h
    refine WL.round ?_
    refine Wp.seq ?_
    refine Wp.seq ?_
    refine Wp.region hΓ [] [] [] [4, 5, 6, 7, 8, 9, 20] [4, 5, 6, 7] (K' := [(4, .elm 4 0 1 0), (5, .elm 5 0 1 0), (6, .elm 6 0 1 0), (7, .elm 7 0 1 0), (8, .val (.int .u64 v8)), (9, .val (.int .i64 v9)), (20, .val (.bool (decide (v9 < 5))))]) (L' := [(4, 38, [.rowc false (α := Int) 0 E_u64 b4]), (5, 38, [.rowc false (α := Int) 0 E_u64 b5]), (6, 38, [.rowc false (α := Int) 0 E_u64 b6]), (7, 38, [.rowc false (α := Int) 0 E_u64 b7])]) (ob := []) (by kernel_rfl) AllP.nil ?_
    refine To.thenN ?_
    refine Wp.cond (b := (decide (v9 < 5))) (by kernel_rfl) (fun hb => ?_) (fun hb => ?_)
    · replace h := if_t hb h
      refine Wp.skip ?_
      refine To.thenN ?_
      refine Wp.seq ?_
      obtain ⟨o6, ho6, h⟩ := bind_of h
      refine Wp.keep (kk := [4, 5, 6, 7, 8, 9]) (kl := [4, 5, 6, 7]) (K' := [(4, .elm 4 0 1 0), (5, .elm 5 0 1 0), (6, .elm 6 0 1 0), (7, .elm 7 0 1 0), (8, .val (.int .u64 v8)), (9, .val (.int .i64 v9))]) (L' := [(4, 38, [.rowc false (α := Int) 0 E_u64 b4]), (5, 38, [.rowc false (α := Int) 0 E_u64 b5]), (6, 38, [.rowc false (α := Int) 0 E_u64 b6]), (7, 38, [.rowc false (α := Int) 0 E_u64 b7])]) (by kernel_rfl) (by kernel_rfl) ?_
      refine ok_ref05_mul_j2 n v8 v9 b4 b5 b6 b7 o6 ho6 ?_
      refine To.thenN ?_
      refine Wp.region hΓ [] [] [] [4, 5, 6, 7, 8, 9] [4, 5, 6, 7] (K' := [(4, .elm 4 0 1 0), (5, .elm 5 0 1 0), (6, .elm 6 0 1 0), (7, .elm 7 0 1 0), (8, .val (.int .u64 o6.1)), (9, .val (.int .i64 (IntKind.wrap .i64 (v9 + 1))))]) (L' := [(4, 38, [.rowc false (α := Int) 0 E_u64 b4]), (5, 38, [.rowc false (α := Int) 0 E_u64 b5]), (6, 38, [.rowc false (α := Int) 0 E_u64 b6]), (7, 38, [.rowc false (α := Int) 0 E_u64 o6.2])]) (ob := []) (by kernel_rfl) AllP.nil ?_
      refine To.keep (kk := [4, 5, 6, 7, 8, 9]) (kl := [4, 5, 6, 7]) (K' := [(4, .elm 4 0 1 0), (5, .elm 5 0 1 0), (6, .elm 6 0 1 0), (7, .elm 7 0 1 0), (8, .val (.int .u64 o6.1)), (9, .val (.int .i64 (IntKind.wrap .i64 (v9 + 1))))]) (L' := [(4, 38, [.rowc false (α := Int) 0 E_u64 b4]), (5, 38, [.rowc false (α := Int) 0 E_u64 b5]), (6, 38, [.rowc false (α := Int) 0 E_u64 b6]), (7, 38, [.rowc false (α := Int) 0 E_u64 o6.2])]) (by kernel_rfl) (by kernel_rfl) ?_
      refine To.again ?_
      exact ih o6.1 (IntKind.wrap .i64 (v9 + 1)) o6.2 _ h hQ
    · replace h := if_f hb h
      refine Wp.exit ?_
      refine To.thenX ?_
      refine To.thenX ?_
      refine To.keep (kk := [4, 7]) (kl := [4, 7]) (K' := [(4, .elm 4 0 1 0), (7, .elm 7 0 1 0)]) (L' := [(4, 38, [.rowc false (α := Int) 0 E_u64 b4]), (7, 38, [.rowc false (α := Int) 0 E_u64 b7])]) (by kernel_rfl) (by kernel_rfl) ?_
      cases h
      exact hQ
def ref05_mul (n : Nat) (a0 : List (Int)) (a1 : Int) : Option ((List (Int))) :=
  if (decide (List.length a0 = 5)) = true then (if (decide (List.length a0 = 5)) = true then (if ((16777216 != 0)) = true then ((ref05_times n a0 (Int.tmod a1 16777216)).bind fun r2 =>
  if (decide (List.length r2 = 5)) = true then (if (decide (List.length a0 = 5)) = true then (if ((16777216 != 0)) = true then ((ref05_times n a0 (IntKind.wrap .u64 (Int.tdiv a1 16777216))).bind fun r4 =>
  if (decide (List.length r4 = 5)) = true then ((ref05_mul_l1 n (List.replicate 5 0) r2 r4 n 0 0 (List.replicate 5 0)).bind fun o6 =>
  if (decide (List.length o6 = 5)) = true then (if (decide (List.length (List.replicate 5 0) = 5)) = true then (if (decide (List.length o6 = 5)) = true then (if (decide (List.length o6 = 5)) = true then some o6 else none) else none) else none) else none) else none) else none) else none) else none) else none) else none) else none
end Go.Proofs.Yteliiabopphgmaa.M