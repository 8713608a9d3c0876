/-
  Printed by wip/tools/gen.py: models and walks of functions.
-/
import Derived.Test.YteliiabopphgmaaM05a
namespace Go.Proofs.Yteliiabopphgmaa.M
open Go.RowKit Go.Proofs.Yteliiabopphgmaa.RX
set_option maxRecDepth 100000
theorem ok_ref05_mul (n : Nat) (a0 : List (Int)) (a1 : Int) (r : (List (Int))) (h : ref05_mul n a0 a1 = some r) : CallsX Try.prog 23 [.arr (α := Int) 0 E_u64 a0, .val (.int .u64 a1)] (.arr (α := Int) 0 E_u64 r) := by
  unfold ref05_mul at h
  refine callsX_of (fn := Try.f23) (by kernel_rfl) rfl (by kernel_rfl) (Nat.le_of_ble_eq_true (by kernel_rfl)) fun F0 w0 _ => ?_
  refine Wp.keep (kk := [0, 1]) (kl := []) (K' := [(0, .arr (α := Int) 0 E_u64 a0), (1, .val (.int .u64 a1))]) (L' := []) (by kernel_rfl) (by kernel_rfl) ?_
  refine Wp.seq ?_
  obtain ⟨u1, h⟩ := chk_of h
  refine Wp.region hΓ [] [(0, .recs (α := Int) 0 E_u64 a0)] [] [1, 2, 4] [2, 4] (K' := [(1, .val (.int .u64 a1)), (2, .elm 2 0 1 0), (4, .own 4 0)]) (L' := [(2, 38, [.rowc false (α := Int) 0 E_u64 a0]), (4, 38, [.val (.int .u64 0), .val (.int .u64 0), .val (.int .u64 0), .val (.int .u64 0), .val (.int .u64 0)])]) (ob := [(MkOb 1 (D.cells (.arr (α := Int) 0 E_u64 a0)) 5 (.recs (α := Int) 0 E_u64 a0) ∧ GoodR (.recs (α := Int) 0 E_u64 a0))]) (by kernel_rfl) (AllP.cons (mkOb rfl (of_decide_eq_true u1) rfl (good_E_u64 _)) AllP.nil) ?_
  refine To.pre (St.toRow (t := 38) (l := (List.replicate 5 0)) 4 1 5 (by decide) (by decide) (good_E_u64 _) (by kernel_rfl) (by kernel_rfl) (by kernel_rfl) (by kernel_rfl) (K' := [(1, .val (.int .u64 a1)), (2, .elm 2 0 1 0), (4, .elm 4 0 1 0)]) (L' := [(4, 38, [.rowc false (α := Int) 0 E_u64 (List.replicate 5 0)]), (2, 38, [.rowc false (α := Int) 0 E_u64 a0])]) (by kernel_rfl) (by kernel_rfl)) ?_
  refine To.thenN ?_
  refine Wp.seq ?_
  obtain ⟨hc13, h⟩ := chk_of h
  obtain ⟨hc14, h⟩ := chk_of h
  obtain ⟨r2, hr2, h⟩ := bind_of h
  obtain ⟨u3, h⟩ := chk_of h
  refine Wp.region hΓ [] [(3, .arr (α := Int) 0 E_u64 r2), (5, .recs (α := Int) 0 E_u64 r2)] [] [1, 2, 4, 5] [2, 4, 5] (K' := [(1, .val (.int .u64 a1)), (2, .elm 2 0 1 0), (4, .elm 4 0 1 0), (5, .elm 5 0 1 0)]) (L' := [(2, 38, [.rowc false (α := Int) 0 E_u64 a0]), (4, 38, [.rowc false (α := Int) 0 E_u64 (List.replicate 5 0)]), (5, 38, [.rowc false (α := Int) 0 E_u64 r2])]) (ob := [(decide (List.length a0 = 5)) = true, ((16777216 != 0)) = true, (true = true → CX Try.prog 32 [.arr (α := Int) 0 E_u64 a0, .val (.int .u64 (Int.tmod a1 16777216))] (.arr (α := Int) 0 E_u64 r2)), (MkOb 1 (D.cells (.arr (α := Int) 0 E_u64 r2)) 5 (.recs (α := Int) 0 E_u64 r2) ∧ GoodR (.recs (α := Int) 0 E_u64 r2))]) (by kernel_rfl) (AllP.cons hc13 (AllP.cons hc14 (AllP.cons (fun _ => cx (ok_ref05_times n a0 (Int.tmod a1 16777216) _ hr2)) (AllP.cons (mkOb rfl (of_decide_eq_true u3) rfl (good_E_u64 _)) AllP.nil)))) ?_
  refine To.thenN ?_
  refine Wp.seq ?_
  obtain ⟨hc11, h⟩ := chk_of h
  obtain ⟨hc12, h⟩ := chk_of h
  obtain ⟨r4, hr4, h⟩ := bind_of h
  obtain ⟨u5, h⟩ := chk_of h
  refine Wp.region hΓ [] [(3, .arr (α := Int) 0 E_u64 r4), (5, .recs (α := Int) 0 E_u64 r4)] [] [4, 5, 6] [4, 5, 6] (K' := [(4, .elm 4 0 1 0), (5, .elm 5 0 1 0), (6, .elm 6 0 1 0)]) (L' := [(4, 38, [.rowc false (α := Int) 0 E_u64 (List.replicate 5 0)]), (5, 38, [.rowc false (α := Int) 0 E_u64 r2]), (6, 38, [.rowc false (α := Int) 0 E_u64 r4])]) (ob := [(decide (List.length a0 = 5)) = true, ((16777216 != 0)) = true, (true = true → CX Try.prog 32 [.arr (α := Int) 0 E_u64 a0, .val (.int .u64 (IntKind.wrap .u64 (Int.tdiv a1 16777216)))] (.arr (α := Int) 0 E_u64 r4)), (MkOb 1 (D.cells (.arr (α := Int) 0 E_u64 r4)) 5 (.recs (α := Int) 0 E_u64 r4) ∧ GoodR (.recs (α := Int) 0 E_u64 r4))]) (by kernel_rfl) (AllP.cons hc11 (AllP.cons hc12 (AllP.cons (fun _ => cx (ok_ref05_times n a0 (IntKind.wrap .u64 (Int.tdiv a1 16777216)) _ hr4)) (AllP.cons (mkOb rfl (of_decide_eq_true u5) rfl (good_E_u64 _)) AllP.nil)))) ?_
  refine To.thenN ?_
  refine Wp.seq ?_
  refine Wp.region hΓ [] [] [] [4, 5, 6, 7] [4, 5, 6, 7] (K' := [(4, .elm 4 0 1 0), (5, .elm 5 0 1 0), (6, .elm 6 0 1 0), (7, .own 7 0)]) (L' := [(4, 38, [.rowc false (α := Int) 0 E_u64 (List.replicate 5 0)]), (5, 38, [.rowc false (α := Int) 0 E_u64 r2]), (6, 38, [.rowc false (α := Int) 0 E_u64 r4]), (7, 38, [.val (.int .u64 0), .val (.int .u64 0), .val (.int .u64 0), .val (.int .u64 0), .val (.int .u64 0)])]) (ob := []) (by kernel_rfl) AllP.nil ?_
  refine To.pre (St.toRow (t := 38) (l := (List.replicate 5 0)) 7 1 5 (by decide) (by decide) (good_E_u64 _) (by kernel_rfl) (by kernel_rfl) (by kernel_rfl) (by kernel_rfl) (K' := [(4, .elm 4 0 1 0), (5, .elm 5 0 1 0), (6, .elm 6 0 1 0), (7, .elm 7 0 1 0)]) (L' := [(7, 38, [.rowc false (α := Int) 0 E_u64 (List.replicate 5 0)]), (4, 38, [.rowc false (α := Int) 0 E_u64 (List.replicate 5 0)]), (5, 38, [.rowc false (α := Int) 0 E_u64 r2]), (6, 38, [.rowc false (α := Int) 0 E_u64 r4])]) (by kernel_rfl) (by kernel_rfl)) ?_
  refine To.thenN ?_
  refine Wp.seq ?_
  refine Wp.region hΓ [] [] [] [4, 5, 6, 7, 8] [4, 5, 6, 7] (K' := [(4, .elm 4 0 1 0), (5, .elm 5 0 1 0), (6, .elm 6 0 1 0), (7, .elm 7 0 1 0), (8, .val (.int .u64 0))]) (L' := [(4, 38, [.rowc false (α := Int) 0 E_u64 (List.replicate 5 0)]), (5, 38, [.rowc false (α := Int) 0 E_u64 r2]), (6, 38, [.rowc false (α := Int) 0 E_u64 r4]), (7, 38, [.rowc false (α := Int) 0 E_u64 (List.replicate 5 0)])]) (ob := []) (by kernel_rfl) AllP.nil ?_
  refine To.thenN ?_
  refine Wp.seq ?_
  refine Wp.seq ?_
  refine Wp.region hΓ [] [] [] [4, 5, 6, 7, 8, 9] [4, 5, 6, 7] (K' := [(4, .elm 4 0 1 0), (5, .elm 5 0 1 0), (6, .elm 6 0 1 0), (7, .elm 7 0 1 0), (8, .val (.int .u64 0)), (9, .val (.int .i64 0))]) (L' := [(4, 38, [.rowc false (α := Int) 0 E_u64 (List.replicate 5 0)]), (5, 38, [.rowc false (α := Int) 0 E_u64 r2]), (6, 38, [.rowc false (α := Int) 0 E_u64 r4]), (7, 38, [.rowc false (α := Int) 0 E_u64 (List.replicate 5 0)])]) (ob := []) (by kernel_rfl) AllP.nil ?_
  refine To.thenN ?_
  refine Wp.block ?_
  obtain ⟨o6, ho6, h⟩ := bind_of h
  refine Wp.keep (kk := [4, 5, 6, 7, 8, 9]) (kl := [4, 5, 6, 7]) (K' := [(4, .elm 4 0 1 0), (5, .elm 5 0 1 0), (6, .elm 6 0 1 0), (7, .elm 7 0 1 0), (8, .val (.int .u64 0)), (9, .val (.int .i64 0))]) (L' := [(4, 38, [.rowc false (α := Int) 0 E_u64 (List.replicate 5 0)]), (5, 38, [.rowc false (α := Int) 0 E_u64 r2]), (6, 38, [.rowc false (α := Int) 0 E_u64 r4]), (7, 38, [.rowc false (α := Int) 0 E_u64 (List.replicate 5 0)])]) (by kernel_rfl) (by kernel_rfl) ?_
  refine Wp.loopL ?_
  refine ok_ref05_mul_l1 n (List.replicate 5 0) r2 r4 n 0 0 (List.replicate 5 0) o6 ho6 ?_
  refine To.blockX ?_
  refine To.thenN ?_
  refine Wp.seq ?_
  obtain ⟨hc9, h⟩ := chk_of h
  obtain ⟨hc10, h⟩ := chk_of h
  obtain ⟨u7, h⟩ := chk_of h
  refine Wp.region hΓ [] [(1, .recs (α := Int) 0 E_u64 o6)] [] [4] [4] (K' := [(4, .elm 4 0 1 0)]) (L' := [(4, 38, [.rowc false (α := Int) 0 E_u64 o6])]) (ob := [(decide (List.length o6 = 5)) = true, (decide (List.length (List.replicate 5 0) = 5)) = true, (MkOb 1 (D.cells (.arr (α := Int) 0 E_u64 o6)) 5 (.recs (α := Int) 0 E_u64 o6) ∧ GoodR (.recs (α := Int) 0 E_u64 o6))]) (by kernel_rfl) (AllP.cons hc9 (AllP.cons hc10 (AllP.cons (mkOb rfl (of_decide_eq_true u7) rfl (good_E_u64 _)) AllP.nil))) ?_
  refine To.thenN ?_
  refine Wp.ret ?_
  refine To.keep (kk := [4]) (kl := [4]) (K' := [(4, .elm 4 0 1 0)]) (L' := [(4, 38, [.rowc false (α := Int) 0 E_u64 o6])]) (by kernel_rfl) (by kernel_rfl) ?_
  obtain ⟨hc8, h⟩ := chk_of h
  cases h
  exact To.doneA hΓ (by kernel_rfl) hc8
def ref05_most_l1 (n : Nat) (b2 : List (Int)) (b3 : List (Int)) : Nat → Int → Option (Sum (Unit) (Bool))
  | 0, _ => none
  | k + 1, v5 => if (decide (v5 ≥ 0)) = true then (if (decide (0 ≤ v5 ∧ v5 < (5 : Int))) = true then (if (decide (0 ≤ v5 ∧ v5 < (List.length b2 : Int))) = true then (if (decide (0 ≤ v5 ∧ v5 < (List.length b3 : Int))) = true then (if (((b2)[Int.toNat v5]?.getD 0) != ((b3)[Int.toNat v5]?.getD 0)) = true then (if (decide (0 ≤ v5 ∧ v5 < (5 : Int))) = true then (if (decide (0 ≤ v5 ∧ v5 < (List.length b2 : Int))) = true then (if (decide (0 ≤ v5 ∧ v5 < (List.length b3 : Int))) = true then (some (.inr (decide (((b2)[Int.toNat v5]?.getD 0) < ((b3)[Int.toNat v5]?.getD 0))))) else none) else none) else none)
  else (ref05_most_l1 n b2 b3 k (IntKind.wrap .i64 (v5 - 1)))) else none) else none) else none)
  else (some (.inl ()))
theorem ok_ref05_most_l1 (n : Nat) (b2 : List (Int)) (b3 : List (Int)) {F0 : Fz} {w0 : Pt Try.prog} {Q : Exit → Act → World → Prop} (k : Nat) : ∀ (v5 : Int) (o : Sum (Unit) (Bool)), ref05_most_l1 n b2 b3 k v5 = some o → (Sum.elim (fun s => To 24 F0 w0 [] [] (.exit 0) Q) (fun s => To 24 F0 w0 [(4, .val (.bool s))] [] .ret Q)) o → WL Try.prog 24 F0 w0 [(2, .elm 2 0 1 0), (3, .elm 3 0 1 0), (5, .val (.int .i64 v5))] [(2, 38, [.rowc false (α := Int) 0 E_u64 b2]), (3, 38, [.rowc false (α := Int) 0 E_u64 b3])] (cI (cI (cB (cA (cB (cF Try.f24)))))) Q := by
  induction k with
  | zero => intro v5 o h; cases h
  | succ k ih =>
    intro v5 o h hQ
    rw [ref05_most_l1] at h
    refine WL.round ?_
    refine Wp.seq ?_
    refine Wp.seq ?_
    refine Wp.region hΓ [] [] [] [2, 3, 5, 7] [2, 3] (K' := [(2, .elm 2 0 1 0), (3, .elm 3 0 1 0), (5, .val (.int .i64 v5)), (7, .val (.bool (decide (v5 ≥ 0))))]) (L' := [(2, 38, [.rowc false (α := Int) 0 E_u64 b2]), (3, 38, [.rowc false (α := Int) 0 E_u64 b3])]) (ob := []) (by kernel_rfl) AllP.nil ?_
    refine To.thenN ?_
    refine Wp.cond (b := (decide (v5 ≥ 0))) (by kernel_rfl) (fun hb => ?_) (fun hb => ?_)
    · replace h := if_t hb h
      refine Wp.skip ?_
      refine To.thenN ?_
      refine Wp.seq ?_
      refine Wp.block ?_
      refine Wp.seq ?_
      obtain ⟨hc6, h⟩ := chk_of h
      obtain ⟨hc7, h⟩ := chk_of h
      obtain ⟨hc8, h⟩ := chk_of h
      refine Wp.regionD hm hΓ [] [2, 3, 5, 16] [2, 3] (K' := [(2, .elm 2 0 1 0), (3, .elm 3 0 1 0), (5, .val (.int .i64 v5)), (16, .val (.bool (((b2)[Int.toNat v5]?.getD 0) != ((b3)[Int.toNat v5]?.getD 0))))]) (L' := [(2, 38, [.rowc false (α := Int) 0 E_u64 b2]), (3, 38, [.rowc false (α := Int) 0 E_u64 b3])]) (ob := [(decide (0 ≤ v5 ∧ v5 < (5 : Int))) = true, (decide (0 ≤ v5 ∧ v5 < (List.length b2 : Int))) = true, (decide (0 ≤ v5 ∧ v5 < (5 : Int))) = true, (decide (0 ≤ v5 ∧ v5 < (List.length b3 : Int))) = true]) (by kernel_rfl) (AllP.cons hc6 (AllP.cons hc7 (AllP.cons hc6 (AllP.cons hc8 AllP.nil)))) ?_
      refine To.thenN ?_
      refine Wp.cond (b := (((b2)[Int.toNat v5]?.getD 0) != ((b3)[Int.toNat v5]?.getD 0))) (by kernel_rfl) (fun hb => ?_) (fun hb => ?_)
      · replace h := if_t hb h
        refine Wp.seq ?_
        obtain ⟨hc3, h⟩ := chk_of h
        obtain ⟨hc4, h⟩ := chk_of h
        obtain ⟨hc5, h⟩ := chk_of h
        refine Wp.regionD hm hΓ [] [4] [] (K' := [(4, .val (.bool (decide (((b2)[Int.toNat v5]?.getD 0) < ((b3)[Int.toNat v5]?.getD 0)))))]) (L' := []) (ob := [(decide (0 ≤ v5 ∧ v5 < (5 : Int))) = true, (decide (0 ≤ v5 ∧ v5 < (List.length b2 : Int))) = true, (decide (0 ≤ v5 ∧ v5 < (5 : Int))) = true, (decide (0 ≤ v5 ∧ v5 < (List.length b3 : Int))) = true]) (by kernel_rfl) (AllP.cons hc3 (AllP.cons hc4 (AllP.cons hc3 (AllP.cons hc5 AllP.nil)))) ?_
        refine To.thenN ?_
        refine Wp.ret ?_
        refine To.blockR ?_
        refine To.thenR ?_
        refine To.thenR ?_
        refine To.keep (kk := [4]) (kl := []) (K' := [(4, .val (.bool (decide (((b2)[Int.toNat v5]?.getD 0) < ((b3)[Int.toNat v5]?.getD 0)))))]) (L' := []) (by kernel_rfl) (by kernel_rfl) ?_
        cases h
        exact hQ
      · replace h := if_f hb h
        refine Wp.skip ?_
        refine To.blockN ?_
        refine To.thenN ?_
        refine Wp.region hΓ [] [] [] [2, 3, 5] [2, 3] (K' := [(2, .elm 2 0 1 0), (3, .elm 3 0 1 0), (5, .val (.int .i64 (IntKind.wrap .i64 (v5 - 1))))]) (L' := [(2, 38, [.rowc false (α := Int) 0 E_u64 b2]), (3, 38, [.rowc false (α := Int) 0 E_u64 b3])]) (ob := []) (by kernel_rfl) AllP.nil ?_
        refine To.keep (kk := [2, 3, 5]) (kl := [2, 3]) (K' := [(2, .elm 2 0 1 0), (3, .elm 3 0 1 0), (5, .val (.int .i64 (IntKind.wrap .i64 (v5 - 1))))]) (L' := [(2, 38, [.rowc false (α := Int) 0 E_u64 b2]), (3, 38, [.rowc false (α := Int) 0 E_u64 b3])]) (by kernel_rfl) (by kernel_rfl) ?_
        refine To.again ?_
        exact ih (IntKind.wrap .i64 (v5 - 1)) _ h hQ
    · replace h := if_f hb h
      refine Wp.exit ?_
      refine To.thenX ?_
      refine To.thenX ?_
      refine To.keep (kk := []) (kl := []) (K' := []) (L' := []) (by kernel_rfl) (by kernel_rfl) ?_
      cases h
      exact hQ
def ref05_most (n : Nat) (a0 : List (Int)) (a1 : List (Int)) : Option (Bool) :=
  if (decide (List.length a0 = 5)) = true then (if (decide (List.length a1 = 5)) = true then ((ref05_most_l1 n a0 a1 n 4).bind fun o3 =>
  (Sum.elim (fun o3 => some true) (fun o3 => some o3)) o3) else none) else none
theorem ok_ref05_most (n : Nat) (a0 : List (Int)) (a1 : List (Int)) (r : Bool) (h : ref05_most n a0 a1 = some r) : CallsX Try.prog 24 [.arr (α := Int) 0 E_u64 a0, .arr (α := Int) 0 E_u64 a1] (.val (.bool r)) := by
  unfold ref05_most at h
  refine callsX_of (fn := Try.f24) (by kernel_rfl) rfl (by kernel_rfl) (Nat.le_of_ble_eq_true (by kernel_rfl)) fun F0 w0 _ => ?_
  refine Wp.keep (kk := [0, 1]) (kl := []) (K' := [(0, .arr (α := Int) 0 E_u64 a0), (1, .arr (α := Int) 0 E_u64 a1)]) (L' := []) (by kernel_rfl) (by kernel_rfl) ?_
  refine Wp.seq ?_
  obtain ⟨u1, h⟩ := chk_of h
  obtain ⟨u2, h⟩ := chk_of h
  refine Wp.region hΓ [] [(0, .recs (α := Int) 0 E_u64 a0), (1, .recs (α := Int) 0 E_u64 a1)] [] [2, 3] [2, 3] (K' := [(2, .elm 2 0 1 0), (3, .elm 3 0 1 0)]) (L' := [(2, 38, [.rowc false (α := Int) 0 E_u64 a0]), (3, 38, [.rowc false (α := Int) 0 E_u64 a1])]) (ob := [(MkOb 1 (D.cells (.arr (α := Int) 0 E_u64 a0)) 5 (.recs (α := Int) 0 E_u64 a0) ∧ GoodR (.recs (α := Int) 0 E_u64 a0)), (MkOb 1 (D.cells (.arr (α := Int) 0 E_u64 a1)) 5 (.recs (α := Int) 0 E_u64 a1) ∧ GoodR (.recs (α := Int) 0 E_u64 a1))]) (by kernel_rfl) (AllP.cons (mkOb rfl (of_decide_eq_true u1) rfl (good_E_u64 _)) (AllP.cons (mkOb rfl (of_decide_eq_true u2) rfl (good_E_u64 _)) AllP.nil)) ?_
  refine To.thenN ?_
  refine Wp.seq ?_
  refine Wp.seq ?_
  refine Wp.region hΓ [] [] [] [2, 3, 5] [2, 3] (K' := [(2, .elm 2 0 1 0), (3, .elm 3 0 1 0), (5, .val (.int .i64 4))]) (L' := [(2, 38, [.rowc false (α := Int) 0 E_u64 a0]), (3, 38, [.rowc false (α := Int) 0 E_u64 a1])]) (ob := []) (by kernel_rfl) AllP.nil ?_
  refine To.thenN ?_
  refine Wp.block ?_
  obtain ⟨o3, ho3, h⟩ := bind_of h
  refine Wp.keep (kk := [2, 3, 5]) (kl := [2, 3]) (K' := [(2, .elm 2 0 1 0), (3, .elm 3 0 1 0), (5, .val (.int .i64 4))]) (L' := [(2, 38, [.rowc false (α := Int) 0 E_u64 a0]), (3, 38, [.rowc false (α := Int) 0 E_u64 a1])]) (by kernel_rfl) (by kernel_rfl) ?_
  refine Wp.loopL ?_
  refine ok_ref05_most_l1 n a0 a1 n 4 o3 ho3 ?_
  rcases o3 with o3 | o3
  · replace h := sum_l h
    refine To.blockX ?_
    refine To.thenN ?_
    refine Wp.seq ?_
    refine Wp.region hΓ [] [] [] [4] [] (K' := [(4, .val (.bool true))]) (L' := []) (ob := []) (by kernel_rfl) AllP.nil ?_
    refine To.thenN ?_
    refine Wp.ret ?_
    refine To.keep (kk := [4]) (kl := []) (K' := [(4, .val (.bool true))]) (L' := []) (by kernel_rfl) (by kernel_rfl) ?_
    cases h
    exact To.done hΓ (by kernel_rfl)
  · replace h := sum_r h
    refine To.blockR ?_
    refine To.thenR ?_
    refine To.keep (kk := [4]) (kl := []) (K' := [(4, .val (.bool o3))]) (L' := []) (by kernel_rfl) (by kernel_rfl) ?_
    cases h
    exact To.done hΓ (by kernel_rfl)
def ref05_Root_j1 (n : Nat) (v0 : Int) (v1 : Int) (v27 : Bool) (b5 : List (Int)) : Option ((List (Int))) :=
  if v27 = true then (if ((16777216 != 0)) = true then (if (decide (0 ≤ (2 : Int) ∧ (2 : Int) < (5 : Int))) = true then (if (decide (0 ≤ (2 : Int) ∧ (2 : Int) < (List.length b5 : Int))) = true then (if ((16777216 != 0)) = true then (if (decide (0 ≤ (3 : Int) ∧ (3 : Int) < (5 : Int))) = true then (if (decide (0 ≤ (3 : Int) ∧ (3 : Int) < (List.length (List.set b5 (Int.toNat 2) (Int.tmod (IntKind.wrap .u64 ((IntKind.wrap .u64 (v0)) * 65536)) 16777216)) : Int))) = true then (lett ((List.set (List.set b5 (Int.toNat 2) (Int.tmod (IntKind.wrap .u64 ((IntKind.wrap .u64 (v0)) * 65536)) 16777216)) (Int.toNat 3) (IntKind.wrap .u64 (Int.tdiv (IntKind.wrap .u64 ((IntKind.wrap .u64 (v0)) * 65536)) 16777216))) : List (Int)) fun x2 =>
  some x2) else none) else none) else none) else none) else none) else none)
  else (if (decide (0 ≤ (4 : Int) ∧ (4 : Int) < (5 : Int))) = true then (if (decide (0 ≤ (4 : Int) ∧ (4 : Int) < (List.length b5 : Int))) = true then (some (List.set b5 (Int.toNat 4) (IntKind.wrap .u64 (v0)))) else none) else none)
theorem ok_ref05_Root_j1 (n : Nat) (v0 : Int) (v1 : Int) (v27 : Bool) (b5 : List (Int)) (o : (List (Int))) (h : ref05_Root_j1 n v0 v1 v27 b5 = some o) {F0 : Fz} {w0 : Pt Try.prog} {Q : Exit → Act → World → Prop} (hQ : To 68 F0 w0 [(1, .val (.int .i64 v1)), (5, .elm 5 0 1 0)] [(5, 38, [.rowc false (α := Int) 0 E_u64 o])] .normal Q) : Wp Try.prog 68 F0 w0 [(0, .val (.int .i64 v0)), (1, .val (.int .i64 v1)), (5, .elm 5 0 1 0), (27, .val (.bool v27))] [(5, 38, [.rowc false (α := Int) 0 E_u64 b5])] (cB (cA (cB (cB (cB (cF Try.f11)))))) Q := by
  unfold ref05_Root_j1 at h
  refine Wp.cond (b := v27) (by kernel_rfl) (fun hb => ?_) (fun hb => ?_)
  · replace h := if_t hb h
    refine Wp.seq ?_
    obtain ⟨hc6, h⟩ := chk_of h
    obtain ⟨hc7, h⟩ := chk_of h
    obtain ⟨hc8, h⟩ := chk_of h
    refine Wp.region hΓ [] [(5, .recs (α := Int) 0 E_u64 (List.set b5 (Int.toNat 2) (Int.tmod (IntKind.wrap .u64 ((IntKind.wrap .u64 (v0)) * 65536)) 16777216)))] [] [0, 1, 5] [5] (K' := [(0, .val (.int .i64 v0)), (1, .val (.int .i64 v1)), (5, .elm 5 0 1 0)]) (L' := [(5, 38, [.rowc false (α := Int) 0 E_u64 (List.set b5 (Int.toNat 2) (Int.tmod (IntKind.wrap .u64 ((IntKind.wrap .u64 (v0)) * 65536)) 16777216))])]) (ob := [((16777216 != 0)) = true, (decide (0 ≤ (2 : Int) ∧ (2 : Int) < (5 : Int))) = true, (decide (0 ≤ (2 : Int) ∧ (2 : Int) < (List.length b5 : Int))) = true, UpdOb 0 E_u64 b5 2 0 [.val (.int .u64 (Int.tmod (IntKind.wrap .u64 ((IntKind.wrap .u64 (v0)) * 65536)) 16777216))] (.recs (α := Int) 0 E_u64 (List.set b5 (Int.toNat 2) (Int.tmod (IntKind.wrap .u64 ((IntKind.wrap .u64 (v0)) * 65536)) 16777216)))]) (by kernel_rfl) (AllP.cons hc6 (AllP.cons hc7 (AllP.cons hc8 (AllP.cons (updOb (by kernel_rfl)) AllP.nil)))) ?_
    refine To.thenN ?_
    obtain ⟨hc3, h⟩ := chk_of h
    obtain ⟨hc4, h⟩ := chk_of h
    obtain ⟨hc5, h⟩ := chk_of h
    obtain ⟨x2, hx2, h⟩ := lett_of h
    refine Wp.region hΓ [] [(5, .recs (α := Int) 0 E_u64 (List.set (List.set b5 (Int.toNat 2) (Int.tmod (IntKind.wrap .u64 ((IntKind.wrap .u64 (v0)) * 65536)) 16777216)) (Int.toNat 3) (IntKind.wrap .u64 (Int.tdiv (IntKind.wrap .u64 ((IntKind.wrap .u64 (v0)) * 65536)) 16777216))))] [] [1, 5] [5] (K' := [(1, .val (.int .i64 v1)), (5, .elm 5 0 1 0)]) (L' := [(5, 38, [.rowc false (α := Int) 0 E_u64 (List.set (List.set b5 (Int.toNat 2) (Int.tmod (IntKind.wrap .u64 ((IntKind.wrap .u64 (v0)) * 65536)) 16777216)) (Int.toNat 3) (IntKind.wrap .u64 (Int.tdiv (IntKind.wrap .u64 ((IntKind.wrap .u64 (v0)) * 65536)) 16777216)))])]) (ob := [((16777216 != 0)) = true, (decide (0 ≤ (3 : Int) ∧ (3 : Int) < (5 : Int))) = true, (decide (0 ≤ (3 : Int) ∧ (3 : Int) < (List.length (List.set b5 (Int.toNat 2) (Int.tmod (IntKind.wrap .u64 ((IntKind.wrap .u64 (v0)) * 65536)) 16777216)) : Int))) = true, UpdOb 0 E_u64 (List.set b5 (Int.toNat 2) (Int.tmod (IntKind.wrap .u64 ((IntKind.wrap .u64 (v0)) * 65536)) 16777216)) 3 0 [.val (.int .u64 (IntKind.wrap .u64 (Int.tdiv (IntKind.wrap .u64 ((IntKind.wrap .u64 (v0)) * 65536)) 16777216)))] (.recs (α := Int) 0 E_u64 (List.set (List.set b5 (Int.toNat 2) (Int.tmod (IntKind.wrap .u64 ((IntKind.wrap .u64 (v0)) * 65536)) 16777216)) (Int.toNat 3) (IntKind.wrap .u64 (Int.tdiv (IntKind.wrap .u64 ((IntKind.wrap .u64 (v0)) * 65536)) 16777216))))]) (by kernel_rfl) (AllP.cons hc3 (AllP.cons hc4 (AllP.cons hc5 (AllP.cons (updOb (by kernel_rfl)) AllP.nil)))) ?_
    refine To.eq (K' := [(1, .val (.int .i64 v1)), (5, .elm 5 0 1 0)]) (L' := [(5, 38, [.rowc false (α := Int) 0 E_u64 x2])]) (by cases hx2; rfl) (by cases hx2; rfl) ?_
    refine To.keep (kk := [1, 5]) (kl := [5]) (K' := [(1, .val (.int .i64 v1)), (5, .elm 5 0 1 0)]) (L' := [(5, 38, [.rowc false (α := Int) 0 E_u64 x2])]) (by kernel_rfl) (by kernel_rfl) ?_
    cases h
    exact hQ
  · replace h := if_f hb h
    obtain ⟨hc9, h⟩ := chk_of h
    obtain ⟨hc10, h⟩ := chk_of h
    refine Wp.region hΓ [] [(3, .recs (α := Int) 0 E_u64 (List.set b5 (Int.toNat 4) (IntKind.wrap .u64 (v0))))] [] [1, 5] [5] (K' := [(1, .val (.int .i64 v1)), (5, .elm 5 0 1 0)]) (L' := [(5, 38, [.rowc false (α := Int) 0 E_u64 (List.set b5 (Int.toNat 4) (IntKind.wrap .u64 (v0)))])]) (ob := [(decide (0 ≤ (4 : Int) ∧ (4 : Int) < (5 : Int))) = true, (decide (0 ≤ (4 : Int) ∧ (4 : Int) < (List.length b5 : Int))) = true, UpdOb 0 E_u64 b5 4 0 [.val (.int .u64 (IntKind.wrap .u64 (v0)))] (.recs (α := Int) 0 E_u64 (List.set b5 (Int.toNat 4) (IntKind.wrap .u64 (v0))))]) (by kernel_rfl) (AllP.cons hc9 (AllP.cons hc10 (AllP.cons (updOb (by kernel_rfl)) AllP.nil))) ?_
    refine To.keep (kk := [1, 5]) (kl := [5]) (K' := [(1, .val (.int .i64 v1)), (5, .elm 5 0 1 0)]) (L' := [(5, 38, [.rowc false (α := Int) 0 E_u64 (List.set b5 (Int.toNat 4) (IntKind.wrap .u64 (v0)))])]) (by kernel_rfl) (by kernel_rfl) ?_
    cases h
    exact hQ
def ref05_Root_j3 (n : Nat) (v1 : Int) (v6 : Int) (v7 : Int) (v8 : Int) (v55 : Bool) (b5 : List (Int)) (b10 : List (Int)) : Option ((List (Int))) :=
  if v55 = true then (if (decide (List.length b10 = 5)) = true then ((ref05_mul n b10 v8).bind fun r5 =>
  if (decide (List.length r5 = 5)) = true then some r5 else none) else none)
  else some b10
theorem ok_ref05_Root_j3 (n : Nat) (v1 : Int) (v6 : Int) (v7 : Int) (v8 : Int) (v55 : Bool) (b5 : List (Int)) (b10 : List (Int)) (o : (List (Int))) (h : ref05_Root_j3 n v1 v6 v7 v8 v55 b5 b10 = some o) {F0 : Fz} {w0 : Pt Try.prog} {Q : Exit → Act → World → Prop} (hQ : To 68 F0 w0 [(1, .val (.int .i64 v1)), (5, .elm 5 0 1 0), (6, .val (.int .u64 v6)), (7, .val (.int .u64 v7)), (8, .val (.int .u64 v8)), (10, .elm 10 0 1 0)] [(5, 38, [.rowc false (α := Int) 0 E_u64 b5]), (10, 38, [.rowc false (α := Int) 0 E_u64 o])] .normal Q) : Wp Try.prog 68 F0 w0 [(1, .val (.int .i64 v1)), (5, .elm 5 0 1 0), (6, .val (.int .u64 v6)), (7, .val (.int .u64 v7)), (8, .val (.int .u64 v8)), (10, .elm 10 0 1 0), (55, .val (.bool v55))] [(5, 38, [.rowc false (α := Int) 0 E_u64 b5]), (10, 38, [.rowc false (α := Int) 0 E_u64 b10])] (cB (cA (cB (cB (cB (cI (cB (cI (cI (cA (cB (cB (cB (cB (cB (cB (cF Try.f11))))))))))))))))) Q := by
  unfold ref05_Root_j3 at h
  refine Wp.cond (b := v55) (by kernel_rfl) (fun hb => ?_) (fun hb => ?_)
  · replace h := if_t hb h
    obtain ⟨hc7, h⟩ := chk_of h
    obtain ⟨r5, hr5, h⟩ := bind_of h
    obtain ⟨u6, h⟩ := chk_of h
    refine Wp.region hΓ [] [(2, .arr (α := Int) 0 E_u64 r5), (3, .recs (α := Int) 0 E_u64 r5)] [] [1, 5, 6, 7, 8, 10] [5, 10] (K' := [(1, .val (.int .i64 v1)), (5, .elm 5 0 1 0), (6, .val (.int .u64 v6)), (7, .val (.int .u64 v7)), (8, .val (.int .u64 v8)), (10, .elm 10 0 1 0)]) (L' := [(5, 38, [.rowc false (α := Int) 0 E_u64 b5]), (10, 38, [.rowc false (α := Int) 0 E_u64 r5])]) (ob := [(decide (List.length b10 = 5)) = true, (true = true → CX Try.prog 23 [.arr (α := Int) 0 E_u64 b10, .val (.int .u64 v8)] (.arr (α := Int) 0 E_u64 r5)), (decide (List.length b10 = 5)) = true, (MkOb 1 (D.cells (.arr (α := Int) 0 E_u64 r5)) 5 (.recs (α := Int) 0 E_u64 r5) ∧ GoodR (.recs (α := Int) 0 E_u64 r5))]) (by kernel_rfl) (AllP.cons hc7 (AllP.cons (fun _ => cx (ok_ref05_mul n b10 v8 _ hr5)) (AllP.cons hc7 (AllP.cons (mkOb rfl (of_decide_eq_true u6) rfl (good_E_u64 _)) AllP.nil)))) ?_
    refine To.keep (kk := [1, 5, 6, 7, 8, 10]) (kl := [5, 10]) (K' := [(1, .val (.int .i64 v1)), (5, .elm 5 0 1 0), (6, .val (.int .u64 v6)), (7, .val (.int .u64 v7)), (8, .val (.int .u64 v8)), (10, .elm 10 0 1 0)]) (L' := [(5, 38, [.rowc false (α := Int) 0 E_u64 b5]), (10, 38, [.rowc false (α := Int) 0 E_u64 r5])]) (by kernel_rfl) (by kernel_rfl) ?_
    cases h
    exact hQ
  · replace h := if_f hb h
    refine Wp.skip ?_
    refine To.keep (kk := [1, 5, 6, 7, 8, 10]) (kl := [5, 10]) (K' := [(1, .val (.int .i64 v1)), (5, .elm 5 0 1 0), (6, .val (.int .u64 v6)), (7, .val (.int .u64 v7)), (8, .val (.int .u64 v8)), (10, .elm 10 0 1 0)]) (L' := [(5, 38, [.rowc false (α := Int) 0 E_u64 b5]), (10, 38, [.rowc false (α := Int) 0 E_u64 b10])]) (by kernel_rfl) (by kernel_rfl) ?_
    cases h
    exact hQ
def ref05_Root_j4 (n : Nat) (v1 : Int) (v6 : Int) (v7 : Int) (v8 : Int) (v61 : Bool) (b5 : List (Int)) : Option (Int) :=
  if v61 = true then some v8
  else some v6
theorem ok_ref05_Root_j4 (n : Nat) (v1 : Int) (v6 : Int) (v7 : Int) (v8 : Int) (v61 : Bool) (b5 : List (Int)) (o : Int) (h : ref05_Root_j4 n v1 v6 v7 v8 v61 b5 = some o) {F0 : Fz} {w0 : Pt Try.prog} {Q : Exit → Act → World → Prop} (hQ : To 68 F0 w0 [(1, .val (.int .i64 v1)), (5, .elm 5 0 1 0), (6, .val (.int .u64 o)), (7, .val (.int .u64 v7))] [(5, 38, [.rowc false (α := Int) 0 E_u64 b5])] .normal Q) : Wp Try.prog 68 F0 w0 [(1, .val (.int .i64 v1)), (5, .elm 5 0 1 0), (6, .val (.int .u64 v6)), (7, .val (.int .u64 v7)), (8, .val (.int .u64 v8)), (61, .val (.bool v61))] [(5, 38, [.rowc false (α := Int) 0 E_u64 b5])] (cB (cA (cB (cB (cB (cB (cI (cB (cI (cI (cA (cB (cB (cB (cB (cB (cB (cF Try.f11)))))))))))))))))) Q := by
  unfold ref05_Root_j4 at h
  refine Wp.cond (b := v61) (by kernel_rfl) (fun hb => ?_) (fun hb => ?_)
  · replace h := if_t hb h
    refine Wp.region hΓ [] [] [] [1, 5, 6, 7] [5] (K' := [(1, .val (.int .i64 v1)), (5, .elm 5 0 1 0), (6, .val (.int .u64 v8)), (7, .val (.int .u64 v7))]) (L' := [(5, 38, [.rowc false (α := Int) 0 E_u64 b5])]) (ob := []) (by kernel_rfl) AllP.nil ?_
    refine To.keep (kk := [1, 5, 6, 7]) (kl := [5]) (K' := [(1, .val (.int .i64 v1)), (5, .elm 5 0 1 0), (6, .val (.int .u64 v8)), (7, .val (.int .u64 v7))]) (L' := [(5, 38, [.rowc false (α := Int) 0 E_u64 b5])]) (by kernel_rfl) (by kernel_rfl) ?_
    cases h
    exact hQ
  · replace h := if_f hb h
    refine Wp.skip ?_
    refine To.keep (kk := [1, 5, 6, 7]) (kl := [5]) (K' := [(1, .val (.int .i64 v1)), (5, .elm 5 0 1 0), (6, .val (.int .u64 v6)), (7, .val (.int .u64 v7))]) (L' := [(5, 38, [.rowc false (α := Int) 0 E_u64 b5])]) (by kernel_rfl) (by kernel_rfl) ?_
    cases h
    exact hQ
def ref05_Root_l2 (n : Nat) (v1 : Int) (b5 : List (Int)) : Nat → Int → Int → Option (Int)
  | 0, _, _ => none
  | k + 1, v6, v7 => if (decide (v7 > 0)) = true then (if ((16777216 != 0)) = true then (if (decide (List.length ([(Int.tmod (IntKind.wrap .u64 (v6 + v7)) 16777216), (IntKind.wrap .u64 (Int.tdiv (IntKind.wrap .u64 (v6 + v7)) 16777216)), 0, 0, 0] : List (Int)) = 5)) = true then ((ref05_mul n ([(Int.tmod (IntKind.wrap .u64 (v6 + v7)) 16777216), (IntKind.wrap .u64 (Int.tdiv (IntKind.wrap .u64 (v6 + v7)) 16777216)), 0, 0, 0] : List (Int)) (IntKind.wrap .u64 (v6 + v7))).bind fun r3 =>
  if (decide (List.length r3 = 5)) = true then ((ref05_Root_j3 n v1 v6 v7 (IntKind.wrap .u64 (v6 + v7)) (v1 == 3) b5 r3).bind fun o5 =>
  if (decide (List.length o5 = 5)) = true then (if (decide (List.length b5 = 5)) = true then ((ref05_most n o5 b5).bind fun r6 =>
  (ref05_Root_j4 n v1 v6 v7 (IntKind.wrap .u64 (v6 + v7)) r6 b5).bind fun o7 =>
  if ((2 != 0)) = true then (ref05_Root_l2 n v1 b5 k o7 (IntKind.wrap .u64 (Int.tdiv v7 2))) else none) else none) else none) else none) else none) else none)
  else some v6
theorem ok_ref05_Root_l2 (n : Nat) (v1 : Int) (b5 : List (Int)) {F0 : Fz} {w0 : Pt Try.prog} {Q : Exit → Act → World → Prop} (k : Nat) : ∀ (v6 : Int) (v7 : Int) (o : Int), ref05_Root_l2 n v1 b5 k v6 v7 = some o → To 68 F0 w0 [(6, .val (.int .u64 o))] [] (.exit 0) Q → WL Try.prog 68 F0 w0 [(1, .val (.int .i64 v1)), (5, .elm 5 0 1 0), (6, .val (.int .u64 v6)), (7, .val (.int .u64 v7))] [(5, 38, [.rowc false (α := Int) 0 E_u64 b5])] (cI (cI (cA (cB (cB (cB (cB (cB (cB (cF Try.f11)))))))))) Q := by
  induction k with
  | zero => intro v6 v7 o h; cases h
  | succ k ih =>
    intro v6 v7 o h hQ
    rw [ref05_Root_l2] at h
    refine WL.round ?_
    refine Wp.seq ?_
    refine Wp.seq ?_
    refine Wp.region hΓ [] [] [] [1, 5, 6, 7, 42] [5] (K' := [(1, .val (.int .i64 v1)), (5, .elm 5 0 1 0), (6, .val (.int .u64 v6)), (7, .val (.int .u64 v7)), (42, .val (.bool (decide (v7 > 0))))]) (L' := [(5, 38, [.rowc false (α := Int) 0 E_u64 b5])]) (ob := []) (by kernel_rfl) AllP.nil ?_
    refine To.thenN ?_
    refine Wp.cond (b := (decide (v7 > 0))) (by kernel_rfl) (fun hb => ?_) (fun hb => ?_)
    · replace h := if_t hb h
      refine Wp.skip ?_
      refine To.thenN ?_
      refine Wp.block ?_
      refine Wp.seq ?_
      refine Wp.region hΓ [] [] [] [1, 5, 6, 7, 8] [5] (K' := [(1, .val (.int .i64 v1)), (5, .elm 5 0 1 0), (6, .val (.int .u64 v6)), (7, .val (.int .u64 v7)), (8, .val (.int .u64 (IntKind.wrap .u64 (v6 + v7))))]) (L' := [(5, 38, [.rowc false (α := Int) 0 E_u64 b5])]) (ob := []) (by kernel_rfl) AllP.nil ?_
      refine To.thenN ?_
      refine Wp.seq ?_
      obtain ⟨hc12, h⟩ := chk_of h
      refine Wp.region hΓ [] [] [] [1, 5, 6, 7, 8, 9] [5, 9] (K' := [(1, .val (.int .i64 v1)), (5, .elm 5 0 1 0), (6, .val (.int .u64 v6)), (7, .val (.int .u64 v7)), (8, .val (.int .u64 (IntKind.wrap .u64 (v6 + v7)))), (9, .own 9 0)]) (L' := [(5, 38, [.rowc false (α := Int) 0 E_u64 b5]), (9, 38, [.val (.int .u64 (Int.tmod (IntKind.wrap .u64 (v6 + v7)) 16777216)), .val (.int .u64 (IntKind.wrap .u64 (Int.tdiv (IntKind.wrap .u64 (v6 + v7)) 16777216))), .val (.int .u64 0), .val (.int .u64 0), .val (.int .u64 0)])]) (ob := [((16777216 != 0)) = true, ((16777216 != 0)) = true]) (by kernel_rfl) (AllP.cons hc12 (AllP.cons hc12 AllP.nil)) ?_
      refine To.pre (St.toRow (t := 38) (l := ([(Int.tmod (IntKind.wrap .u64 (v6 + v7)) 16777216), (IntKind.wrap .u64 (Int.tdiv (IntKind.wrap .u64 (v6 + v7)) 16777216)), 0, 0, 0] : List (Int))) 9 1 5 (by decide) (by decide) (good_E_u64 _) (by kernel_rfl) (by kernel_rfl) (by kernel_rfl) (by kernel_rfl) (K' := [(1, .val (.int .i64 v1)), (5, .elm 5 0 1 0), (6, .val (.int .u64 v6)), (7, .val (.int .u64 v7)), (8, .val (.int .u64 (IntKind.wrap .u64 (v6 + v7)))), (9, .elm 9 0 1 0)]) (L' := [(9, 38, [.rowc false (α := Int) 0 E_u64 ([(Int.tmod (IntKind.wrap .u64 (v6 + v7)) 16777216), (IntKind.wrap .u64 (Int.tdiv (IntKind.wrap .u64 (v6 + v7)) 16777216)), 0, 0, 0] : List (Int))]), (5, 38, [.rowc false (α := Int) 0 E_u64 b5])]) (by kernel_rfl) (by kernel_rfl)) ?_
      refine To.thenN ?_
      refine Wp.seq ?_
      obtain ⟨hc11, h⟩ := chk_of h
      obtain ⟨r3, hr3, h⟩ := bind_of h
      obtain ⟨u4, h⟩ := chk_of h
      refine Wp.region hΓ [] [(2, .arr (α := Int) 0 E_u64 r3), (4, .recs (α := Int) 0 E_u64 r3)] [] [1, 5, 6, 7, 8, 10] [5, 10] (K' := [(1, .val (.int .i64 v1)), (5, .elm 5 0 1 0), (6, .val (.int .u64 v6)), (7, .val (.int .u64 v7)), (8, .val (.int .u64 (IntKind.wrap .u64 (v6 + v7)))), (10, .elm 10 0 1 0)]) (L' := [(5, 38, [.rowc false (α := Int) 0 E_u64 b5]), (10, 38, [.rowc false (α := Int) 0 E_u64 r3])]) (ob := [(decide (List.length ([(Int.tmod (IntKind.wrap .u64 (v6 + v7)) 16777216), (IntKind.wrap .u64 (Int.tdiv (IntKind.wrap .u64 (v6 + v7)) 16777216)), 0, 0, 0] : List (Int)) = 5)) = true, (true = true → CX Try.prog 23 [.arr (α := Int) 0 E_u64 ([(Int.tmod (IntKind.wrap .u64 (v6 + v7)) 16777216), (IntKind.wrap .u64 (Int.tdiv (IntKind.wrap .u64 (v6 + v7)) 16777216)), 0, 0, 0] : List (Int)), .val (.int .u64 (IntKind.wrap .u64 (v6 + v7)))] (.arr (α := Int) 0 E_u64 r3)), (MkOb 1 (D.cells (.arr (α := Int) 0 E_u64 r3)) 5 (.recs (α := Int) 0 E_u64 r3) ∧ GoodR (.recs (α := Int) 0 E_u64 r3))]) (by kernel_rfl) (AllP.cons hc11 (AllP.cons (fun _ => cx (ok_ref05_mul n ([(Int.tmod (IntKind.wrap .u64 (v6 + v7)) 16777216), (IntKind.wrap .u64 (Int.tdiv (IntKind.wrap .u64 (v6 + v7)) 16777216)), 0, 0, 0] : List (Int)) (IntKind.wrap .u64 (v6 + v7)) _ hr3)) (AllP.cons (mkOb rfl (of_decide_eq_true u4) rfl (good_E_u64 _)) AllP.nil))) ?_
      refine To.thenN ?_
      refine Wp.seq ?_
      refine Wp.seq ?_
      refine Wp.region hΓ [] [] [] [1, 5, 6, 7, 8, 10, 55] [5, 10] (K' := [(1, .val (.int .i64 v1)), (5, .elm 5 0 1 0), (6, .val (.int .u64 v6)), (7, .val (.int .u64 v7)), (8, .val (.int .u64 (IntKind.wrap .u64 (v6 + v7)))), (10, .elm 10 0 1 0), (55, .val (.bool (v1 == 3)))]) (L' := [(5, 38, [.rowc false (α := Int) 0 E_u64 b5]), (10, 38, [.rowc false (α := Int) 0 E_u64 r3])]) (ob := []) (by kernel_rfl) AllP.nil ?_
      refine To.thenN ?_
      obtain ⟨o5, ho5, h⟩ := bind_of h
      refine Wp.keep (kk := [1, 5, 6, 7, 8, 10, 55]) (kl := [5, 10]) (K' := [(1, .val (.int .i64 v1)), (5, .elm 5 0 1 0), (6, .val (.int .u64 v6)), (7, .val (.int .u64 v7)), (8, .val (.int .u64 (IntKind.wrap .u64 (v6 + v7)))), (10, .elm 10 0 1 0), (55, .val (.bool (v1 == 3)))]) (L' := [(5, 38, [.rowc false (α := Int) 0 E_u64 b5]), (10, 38, [.rowc false (α := Int) 0 E_u64 r3])]) (by kernel_rfl) (by kernel_rfl) ?_
      refine ok_ref05_Root_j3 n v1 v6 v7 (IntKind.wrap .u64 (v6 + v7)) (v1 == 3) b5 r3 o5 ho5 ?_
      refine To.thenN ?_
      refine Wp.seq ?_
      refine Wp.seq ?_
      obtain ⟨hc9, h⟩ := chk_of h
      obtain ⟨hc10, h⟩ := chk_of h
      obtain ⟨r6, hr6, h⟩ := bind_of h
      refine Wp.region hΓ [] [(2, .val (.bool r6))] [] [1, 5, 6, 7, 8, 61] [5] (K' := [(1, .val (.int .i64 v1)), (5, .elm 5 0 1 0), (6, .val (.int .u64 v6)), (7, .val (.int .u64 v7)), (8, .val (.int .u64 (IntKind.wrap .u64 (v6 + v7)))), (61, .val (.bool r6))]) (L' := [(5, 38, [.rowc false (α := Int) 0 E_u64 b5])]) (ob := [(decide (List.length o5 = 5)) = true, (decide (List.length b5 = 5)) = true, (true = true → CX Try.prog 24 [.arr (α := Int) 0 E_u64 o5, .arr (α := Int) 0 E_u64 b5] (.val (.bool r6)))]) (by kernel_rfl) (AllP.cons hc9 (AllP.cons hc10 (AllP.cons (fun _ => cx (ok_ref05_most n o5 b5 _ hr6)) AllP.nil))) ?_
      refine To.thenN ?_
      obtain ⟨o7, ho7, h⟩ := bind_of h
      refine Wp.keep (kk := [1, 5, 6, 7, 8, 61]) (kl := [5]) (K' := [(1, .val (.int .i64 v1)), (5, .elm 5 0 1 0), (6, .val (.int .u64 v6)), (7, .val (.int .u64 v7)), (8, .val (.int .u64 (IntKind.wrap .u64 (v6 + v7)))), (61, .val (.bool r6))]) (L' := [(5, 38, [.rowc false (α := Int) 0 E_u64 b5])]) (by kernel_rfl) (by kernel_rfl) ?_
      refine ok_ref05_Root_j4 n v1 v6 v7 (IntKind.wrap .u64 (v6 + v7)) r6 b5 o7 ho7 ?_
      refine To.thenN ?_
      obtain ⟨hc8, h⟩ := chk_of h
      refine Wp.region hΓ [] [] [] [1, 5, 6, 7] [5] (K' := [(1, .val (.int .i64 v1)), (5, .elm 5 0 1 0), (6, .val (.int .u64 o7)), (7, .val (.int .u64 (IntKind.wrap .u64 (Int.tdiv v7 2))))]) (L' := [(5, 38, [.rowc false (α := Int) 0 E_u64 b5])]) (ob := [((2 != 0)) = true]) (by kernel_rfl) (AllP.cons hc8 AllP.nil) ?_
      refine To.blockN ?_
      refine To.keep (kk := [1, 5, 6, 7]) (kl := [5]) (K' := [(1, .val (.int .i64 v1)), (5, .elm 5 0 1 0), (6, .val (.int .u64 o7)), (7, .val (.int .u64 (IntKind.wrap .u64 (Int.tdiv v7 2))))]) (L' := [(5, 38, [.rowc false (α := Int) 0 E_u64 b5])]) (by kernel_rfl) (by kernel_rfl) ?_
      refine To.again ?_
      exact ih o7 (IntKind.wrap .u64 (Int.tdiv v7 2)) _ h hQ
    · replace h := if_f hb h
      refine Wp.exit ?_
      refine To.thenX ?_
      refine To.thenX ?_
      refine To.keep (kk := [6]) (kl := []) (K' := [(6, .val (.int .u64 v6))]) (L' := []) (by kernel_rfl) (by kernel_rfl) ?_
      cases h
      exact hQ
def ref05_Root (n : Nat) (a0 : Int) (a1 : Int) : Option (Int) :=
  lett ((bif (bif (decide (a0 < 1)) then true else (decide (a0 > 1000))) then true else (bif (a1 != 2) then (a1 != 3) else false)) : Bool) fun x1 =>
  if x1 = true then some 0
  else ((ref05_Root_j1 n a0 a1 (a1 == 2) (List.replicate 5 0)).bind fun o2 =>
  (ref05_Root_l2 n a1 o2 n 0 137438953472).bind fun o3 =>
  if ((4294967296 != 0)) = true then (some (IntKind.wrap .u32 ((Int.tmod o3 4294967296)))) else none)
theorem ok_ref05_Root (n : Nat) (a0 : Int) (a1 : Int) (r : Int) (h : ref05_Root n a0 a1 = some r) : CallsX Try.prog 11 [.val (.int .i64 a0), .val (.int .i64 a1)] (.val (.int .u32 r)) := by
  unfold ref05_Root at h
  refine callsX_of (fn := Try.f11) (by kernel_rfl) rfl (by kernel_rfl) (Nat.le_of_ble_eq_true (by kernel_rfl)) fun F0 w0 _ => ?_
  refine Wp.keep (kk := [0, 1]) (kl := []) (K' := [(0, .val (.int .i64 a0)), (1, .val (.int .i64 a1))]) (L' := []) (by kernel_rfl) (by kernel_rfl) ?_
  refine Wp.seq ?_
  refine Wp.region hΓ [] [] [] [0, 1] [] (K' := [(0, .val (.int .i64 a0)), (1, .val (.int .i64 a1))]) (L' := []) (ob := []) (by kernel_rfl) AllP.nil ?_
  refine To.thenN ?_
  refine Wp.seq ?_
  refine Wp.seq ?_
  obtain ⟨x1, hx1, h⟩ := lett_of h
  refine Wp.region hΓ [] [] [] [0, 1, 24] [] (K' := [(0, .val (.int .i64 a0)), (1, .val (.int .i64 a1)), (24, .val (.bool (bif (bif (decide (a0 < 1)) then true else (decide (a0 > 1000))) then true else (bif (a1 != 2) then (a1 != 3) else false))))]) (L' := []) (ob := []) (by kernel_rfl) AllP.nil ?_
  refine To.eq (K' := [(0, .val (.int .i64 a0)), (1, .val (.int .i64 a1)), (24, .val (.bool x1))]) (L' := []) (by cases hx1; rfl) (by cases hx1; rfl) ?_
  refine To.thenN ?_
  refine Wp.cond (b := x1) (by kernel_rfl) (fun hb => ?_) (fun hb => ?_)
  · replace h := if_t hb h
    refine Wp.seq ?_
    refine Wp.region hΓ [] [] [] [4] [] (K' := [(4, .val (.int .u32 0))]) (L' := []) (ob := []) (by kernel_rfl) AllP.nil ?_
    refine To.thenN ?_
    refine Wp.ret ?_
    refine To.thenR ?_
    refine To.keep (kk := [4]) (kl := []) (K' := [(4, .val (.int .u32 0))]) (L' := []) (by kernel_rfl) (by kernel_rfl) ?_
    cases h
    exact To.done hΓ (by kernel_rfl)
  · replace h := if_f hb h
    refine Wp.skip ?_
    refine To.thenN ?_
    refine Wp.seq ?_
    refine Wp.region hΓ [] [] [] [0, 1, 5] [5] (K' := [(0, .val (.int .i64 a0)), (1, .val (.int .i64 a1)), (5, .own 5 0)]) (L' := [(5, 38, [.val (.int .u64 0), .val (.int .u64 0), .val (.int .u64 0), .val (.int .u64 0), .val (.int .u64 0)])]) (ob := []) (by kernel_rfl) AllP.nil ?_
    refine To.pre (St.toRow (t := 38) (l := (List.replicate 5 0)) 5 1 5 (by decide) (by decide) (good_E_u64 _) (by kernel_rfl) (by kernel_rfl) (by kernel_rfl) (by kernel_rfl) (K' := [(0, .val (.int .i64 a0)), (1, .val (.int .i64 a1)), (5, .elm 5 0 1 0)]) (L' := [(5, 38, [.rowc false (α := Int) 0 E_u64 (List.replicate 5 0)])]) (by kernel_rfl) (by kernel_rfl)) ?_
    refine To.thenN ?_
    refine Wp.seq ?_
    refine Wp.seq ?_
    refine Wp.region hΓ [] [] [] [0, 1, 5, 27] [5] (K' := [(0, .val (.int .i64 a0)), (1, .val (.int .i64 a1)), (5, .elm 5 0 1 0), (27, .val (.bool (a1 == 2)))]) (L' := [(5, 38, [.rowc false (α := Int) 0 E_u64 (List.replicate 5 0)])]) (ob := []) (by kernel_rfl) AllP.nil ?_
    refine To.thenN ?_
    obtain ⟨o2, ho2, h⟩ := bind_of h
    refine Wp.keep (kk := [0, 1, 5, 27]) (kl := [5]) (K' := [(0, .val (.int .i64 a0)), (1, .val (.int .i64 a1)), (5, .elm 5 0 1 0), (27, .val (.bool (a1 == 2)))]) (L' := [(5, 38, [.rowc false (α := Int) 0 E_u64 (List.replicate 5 0)])]) (by kernel_rfl) (by kernel_rfl) ?_
    refine ok_ref05_Root_j1 n a0 a1 (a1 == 2) (List.replicate 5 0) o2 ho2 ?_
    refine To.thenN ?_
    refine Wp.seq ?_
    refine Wp.region hΓ [] [] [] [1, 5, 6] [5] (K' := [(1, .val (.int .i64 a1)), (5, .elm 5 0 1 0), (6, .val (.int .u64 0))]) (L' := [(5, 38, [.rowc false (α := Int) 0 E_u64 o2])]) (ob := []) (by kernel_rfl) AllP.nil ?_
    refine To.thenN ?_
    refine Wp.seq ?_
    refine Wp.region hΓ [] [] [] [1, 5, 6, 7] [5] (K' := [(1, .val (.int .i64 a1)), (5, .elm 5 0 1 0), (6, .val (.int .u64 0)), (7, .val (.int .u64 137438953472))]) (L' := [(5, 38, [.rowc false (α := Int) 0 E_u64 o2])]) (ob := []) (by kernel_rfl) AllP.nil ?_
    refine To.thenN ?_
    refine Wp.seq ?_
    refine Wp.block ?_
    obtain ⟨o3, ho3, h⟩ := bind_of h
    refine Wp.keep (kk := [1, 5, 6, 7]) (kl := [5]) (K' := [(1, .val (.int .i64 a1)), (5, .elm 5 0 1 0), (6, .val (.int .u64 0)), (7, .val (.int .u64 137438953472))]) (L' := [(5, 38, [.rowc false (α := Int) 0 E_u64 o2])]) (by kernel_rfl) (by kernel_rfl) ?_
    refine Wp.loopL ?_
    refine ok_ref05_Root_l2 n a1 o2 n 0 137438953472 o3 ho3 ?_
    refine To.blockX ?_
    refine To.thenN ?_
    refine Wp.seq ?_
    obtain ⟨hc4, h⟩ := chk_of h
    refine Wp.region hΓ [] [] [] [4] [] (K' := [(4, .val (.int .u32 (IntKind.wrap .u32 ((Int.tmod o3 4294967296)))))]) (L' := []) (ob := [((4294967296 != 0)) = true]) (by kernel_rfl) (AllP.cons hc4 AllP.nil) ?_
    refine To.thenN ?_
    refine Wp.ret ?_
    refine To.keep (kk := [4]) (kl := []) (K' := [(4, .val (.int .u32 (IntKind.wrap .u32 ((Int.tmod o3 4294967296)))))]) (L' := []) (by kernel_rfl) (by kernel_rfl) ?_
    cases h
    exact To.done hΓ (by kernel_rfl)
def ref05_constants_l1 (n : Nat) (v2 : List (Int)) : Nat → (List (Int)) → Int → Option ((List (Int)))
  | 0, _, _ => none
  | k + 1, v1, v3 => if (decide (v3 < (List.length v2 : Int))) = true then (if (decide (0 ≤ v3 ∧ v3 < (List.length v2 : Int))) = true then ((ref05_Root n ((v2)[Int.toNat v3]?.getD 0) 3).bind fun r2 =>
  if (decide ((List.length v1 + List.length ([r2] : List (Int))) * (4 + 1) ≤ limit)) = true then (ref05_constants_l1 n v2 k (v1 ++ ([r2] : List (Int))) (IntKind.wrap .i64 (v3 + 1))) else none) else none)
  else some v1
theorem ok_ref05_constants_l1 (n : Nat) (v2 : List (Int)) {F0 : Fz} {w0 : Pt Try.prog} {Q : Exit → Act → World → Prop} (k : Nat) : ∀ (v1 : List (Int)) (v3 : Int) (o : (List (Int))), ref05_constants_l1 n v2 k v1 v3 = some o → To 21 F0 w0 [(1, .row 1001)] [(1001, 25, [.rowc false (α := Int) 0 E_u32 o])] (.exit 0) Q → WL Try.prog 21 F0 w0 [(1, .row 1001), (2, .recs (α := Int) 0 E_i64 v2), (3, .val (.int .i64 v3))] [(1001, 25, [.rowc false (α := Int) 0 E_u32 v1])] (cI (cI (cB (cA (cB (cB (cB (cF Try.f28)))))))) Q := by
  induction k with
  | zero => intro v1 v3 o h; cases h
  | succ k ih =>
    intro v1 v3 o h hQ
    rw [ref05_constants_l1] at h
    refine WL.round ?_
    refine Wp.seq ?_
    refine Wp.seq ?_
    refine Wp.region hΓ [] [] [] [1, 2, 3, 9] [1001] (K' := [(1, .row 1001), (2, .recs (α := Int) 0 E_i64 v2), (3, .val (.int .i64 v3)), (9, .val (.bool (decide (v3 < (List.length v2 : Int)))))]) (L' := [(1001, 25, [.rowc false (α := Int) 0 E_u32 v1])]) (ob := []) (by kernel_rfl) AllP.nil ?_
    refine To.thenN ?_
    refine Wp.cond (b := (decide (v3 < (List.length v2 : Int)))) (by kernel_rfl) (fun hb => ?_) (fun hb => ?_)
    · replace h := if_t hb h
      refine Wp.skip ?_
      refine To.thenN ?_
      refine Wp.seq ?_
      refine Wp.block ?_
      obtain ⟨hc3, h⟩ := chk_of h
      obtain ⟨r2, hr2, h⟩ := bind_of h
      obtain ⟨hc4, h⟩ := chk_of h
      refine Wp.region hΓ [] [(5, .val (.int .u32 r2)), (6, .recs (α := Int) 0 E_u32 [r2]), (7, .recs (α := Int) 0 E_u32 (v1 ++ ([r2] : List (Int))))] [] [1, 2, 3] [19] (K' := [(1, .row 19), (2, .recs (α := Int) 0 E_i64 v2), (3, .val (.int .i64 v3))]) (L' := [(19, 25, [.rowc false (α := Int) 0 E_u32 (v1 ++ ([r2] : List (Int)))])]) (ob := [(decide (0 ≤ v3 ∧ v3 < (List.length v2 : Int))) = true, (true = true → CX Try.prog 11 [.val (.int .i64 ((v2)[Int.toNat v3]?.getD 0)), .val (.int .i64 3)] (.val (.int .u32 r2))), (MkOb 1 [.val (.int .u32 r2)] 1 (.recs (α := Int) 0 E_u32 [r2]) ∧ GoodR (.recs (α := Int) 0 E_u32 [r2])), (decide ((List.length v1 + List.length ([r2] : List (Int))) * (4 + 1) ≤ limit)) = true, (AppOb 0 E_u32 v1 (List.flatMap E_u32 ([r2] : List (Int))) (List.length ([r2] : List (Int))) (.recs (α := Int) 0 E_u32 (v1 ++ ([r2] : List (Int)))) ∧ GoodR (.recs (α := Int) 0 E_u32 (v1 ++ ([r2] : List (Int)))))]) (by kernel_rfl) (AllP.cons hc3 (AllP.cons (fun _ => cx (ok_ref05_Root n ((v2)[Int.toNat v3]?.getD 0) 3 _ hr2)) (AllP.cons (mkOb (by kernel_rfl) rfl (by kernel_rfl) (good_E_u32 _)) (AllP.cons hc4 (AllP.cons (appOb rfl rfl (good_E_u32 _)) AllP.nil))))) ?_
      refine To.blockN ?_
      refine To.thenN ?_
      refine Wp.region hΓ [] [] [] [1, 2, 3] [19] (K' := [(1, .row 19), (2, .recs (α := Int) 0 E_i64 v2), (3, .val (.int .i64 (IntKind.wrap .i64 (v3 + 1))))]) (L' := [(19, 25, [.rowc false (α := Int) 0 E_u32 (v1 ++ ([r2] : List (Int)))])]) (ob := []) (by kernel_rfl) AllP.nil ?_
      refine To.keep (kk := [1, 2, 3]) (kl := [19]) (K' := [(1, .row 19), (2, .recs (α := Int) 0 E_i64 v2), (3, .val (.int .i64 (IntKind.wrap .i64 (v3 + 1))))]) (L' := [(19, 25, [.rowc false (α := Int) 0 E_u32 (v1 ++ ([r2] : List (Int)))])]) (by kernel_rfl) (by kernel_rfl) ?_
      refine To.pre (St.rename 19 1001 (by decide) (K' := [(1, .row 1001), (2, .recs (α := Int) 0 E_i64 v2), (3, .val (.int .i64 (IntKind.wrap .i64 (v3 + 1))))]) (L' := [(1001, 25, [.rowc false (α := Int) 0 E_u32 (v1 ++ ([r2] : List (Int)))])]) (by kernel_rfl) (by kernel_rfl) (by kernel_rfl)) ?_
      refine To.keep (kk := [1, 2, 3]) (kl := [1001]) (K' := [(1, .row 1001), (2, .recs (α := Int) 0 E_i64 v2), (3, .val (.int .i64 (IntKind.wrap .i64 (v3 + 1))))]) (L' := [(1001, 25, [.rowc false (α := Int) 0 E_u32 (v1 ++ ([r2] : List (Int)))])]) (by kernel_rfl) (by kernel_rfl) ?_
      refine To.again ?_
      exact ih (v1 ++ ([r2] : List (Int))) (IntKind.wrap .i64 (v3 + 1)) _ h hQ
    · replace h := if_f hb h
      refine Wp.exit ?_
      refine To.thenX ?_
      refine To.thenX ?_
      refine To.keep (kk := [1]) (kl := [1001]) (K' := [(1, .row 1001)]) (L' := [(1001, 25, [.rowc false (α := Int) 0 E_u32 v1])]) (by kernel_rfl) (by kernel_rfl) ?_
      cases h
      exact hQ
def ref05_constants (n : Nat) : Option ((List (Int))) :=
  (ref05_Primes n 64).bind fun r1 =>
  (ref05_constants_l1 n r1 n ([] : List (Int)) 0).bind fun o2 =>
  some o2
theorem ok_ref05_constants (n : Nat) (r : (List (Int))) (h : ref05_constants n = some r) : CallsX Try.prog 28 [] (.recs (α := Int) 0 E_u32 r) := by
  unfold ref05_constants at h
  refine callsX_of (fn := Try.f28) (by kernel_rfl) rfl (by kernel_rfl) (Nat.le_of_ble_eq_true (by kernel_rfl)) fun F0 w0 _ => ?_
  refine Wp.keep (kk := []) (kl := []) (K' := []) (L' := []) (by kernel_rfl) (by kernel_rfl) ?_
  refine Wp.seq ?_
  refine Wp.region hΓ [] [] [] [] [] (K' := []) (L' := []) (ob := []) (by kernel_rfl) AllP.nil ?_
  refine To.thenN ?_
  refine Wp.seq ?_
  refine Wp.region hΓ [] [(0, .recs (α := Int) 0 E_u32 [])] [] [1] [4] (K' := [(1, .row 4)]) (L' := [(4, 25, [.rowc false (α := Int) 0 E_u32 []])]) (ob := [(MkOb 1 [] 0 (.recs (α := Int) 0 E_u32 []) ∧ GoodR (.recs (α := Int) 0 E_u32 []))]) (by kernel_rfl) (AllP.cons (mkOb (by kernel_rfl) rfl (by kernel_rfl) (good_E_u32 _)) AllP.nil) ?_
  refine To.thenN ?_
  refine Wp.seq ?_
  obtain ⟨r1, hr1, h⟩ := bind_of h
  refine Wp.region hΓ [] [(0, .recs (α := Int) 0 E_i64 r1)] [] [1, 2] [4] (K' := [(1, .row 4), (2, .recs (α := Int) 0 E_i64 r1)]) (L' := [(4, 25, [.rowc false (α := Int) 0 E_u32 []])]) (ob := [(true = true → CX Try.prog 9 [.val (.int .i64 64)] (.recs (α := Int) 0 E_i64 r1))]) (by kernel_rfl) (AllP.cons (fun _ => cx (ok_ref05_Primes n 64 _ hr1)) AllP.nil) ?_
  refine To.thenN ?_
  refine Wp.seq ?_
  refine Wp.seq ?_
  refine Wp.region hΓ [] [] [] [1, 2, 3] [4] (K' := [(1, .row 4), (2, .recs (α := Int) 0 E_i64 r1), (3, .val (.int .i64 0))]) (L' := [(4, 25, [.rowc false (α := Int) 0 E_u32 []])]) (ob := []) (by kernel_rfl) AllP.nil ?_
  refine To.thenN ?_
  refine Wp.block ?_
  obtain ⟨o2, ho2, h⟩ := bind_of h
  refine Wp.keep (kk := [1, 2, 3]) (kl := [4]) (K' := [(1, .row 4), (2, .recs (α := Int) 0 E_i64 r1), (3, .val (.int .i64 0))]) (L' := [(4, 25, [.rowc false (α := Int) 0 E_u32 []])]) (by kernel_rfl) (by kernel_rfl) ?_
  refine Wp.pre (St.rename 4 1001 (by decide) (K' := [(1, .row 1001), (2, .recs (α := Int) 0 E_i64 r1), (3, .val (.int .i64 0))]) (L' := [(1001, 25, [.rowc false (α := Int) 0 E_u32 []])]) (by kernel_rfl) (by kernel_rfl) (by kernel_rfl)) ?_
  refine Wp.keep (kk := [1, 2, 3]) (kl := [1001]) (K' := [(1, .row 1001), (2, .recs (α := Int) 0 E_i64 r1), (3, .val (.int .i64 0))]) (L' := [(1001, 25, [.rowc false (α := Int) 0 E_u32 []])]) (by kernel_rfl) (by kernel_rfl) ?_
  refine Wp.loopL ?_
  refine ok_ref05_constants_l1 n r1 n ([] : List (Int)) 0 o2 ho2 ?_
  refine To.blockX ?_
  refine To.thenN ?_
  refine Wp.seq ?_
  refine Wp.region hΓ [] [] [] [0] [1001] (K' := [(0, .row 1001)]) (L' := [(1001, 25, [.rowc false (α := Int) 0 E_u32 o2])]) (ob := []) (by kernel_rfl) AllP.nil ?_
  refine To.thenN ?_
  refine Wp.ret ?_
  refine To.keep (kk := [0]) (kl := [1001]) (K' := [(0, .row 1001)]) (L' := [(1001, 25, [.rowc false (α := Int) 0 E_u32 o2])]) (by kernel_rfl) (by kernel_rfl) ?_
  refine To.pre (St.settle (ks := [1001]) (kk := [0]) (kl := [1001]) (K' := [(0, .row 1001)]) (L' := [(1001, 25, [.rowc true (α := Int) 0 E_u32 o2])]) (by kernel_rfl)) ?_
  refine To.pre (St.sealK [0] (K' := [(0, .recs (α := Int) 0 E_u32 o2)]) (by kernel_rfl)) ?_
  refine To.keep (kk := [0]) (kl := []) (K' := [(0, .recs (α := Int) 0 E_u32 o2)]) (L' := []) (by kernel_rfl) (by kernel_rfl) ?_
  cases h
  exact To.done hΓ (by kernel_rfl)
def ref05_turn (n : Nat) (a0 : Int) (a1 : Int) : Option (Int) :=
  if (decide (0 ≤ a1)) = true then (if (decide (0 ≤ (IntKind.wrap .u64 (32 - a1)))) = true then (lett ((IntKind.wrap .u32 ((BitVec.ofInt (IntKind.bits .u32) (Int.fdiv a0 (2 ^ (min (Int.toNat a1) (IntKind.bits .u32)))) ||| BitVec.ofInt (IntKind.bits .u32) (IntKind.wrap .u32 (a0 * 2 ^ (min (Int.toNat (IntKind.wrap .u64 (32 - a1))) (IntKind.bits .u32))))).toNat)) : Int) fun x1 =>
  some x1) else none) else none
theorem ok_ref05_turn (n : Nat) (a0 : Int) (a1 : Int) (r : Int) (h : ref05_turn n a0 a1 = some r) : CallsX Try.prog 35 [.val (.int .u32 a0), .val (.int .u64 a1)] (.val (.int .u32 r)) := by
  unfold ref05_turn at h
  refine callsX_of (fn := Try.f35) (by kernel_rfl) rfl (by kernel_rfl) (Nat.le_of_ble_eq_true (by kernel_rfl)) fun F0 w0 _ => ?_
  refine Wp.keep (kk := [0, 1]) (kl := []) (K' := [(0, .val (.int .u32 a0)), (1, .val (.int .u64 a1))]) (L' := []) (by kernel_rfl) (by kernel_rfl) ?_
  refine Wp.seq ?_
  refine Wp.region hΓ [] [] [] [0, 1] [] (K' := [(0, .val (.int .u32 a0)), (1, .val (.int .u64 a1))]) (L' := []) (ob := []) (by kernel_rfl) AllP.nil ?_
  refine To.thenN ?_
  refine Wp.seq ?_
  obtain ⟨hc2, h⟩ := chk_of h
  obtain ⟨hc3, h⟩ := chk_of h
  obtain ⟨x1, hx1, h⟩ := lett_of h
  refine Wp.region hΓ [] [] [] [4] [] (K' := [(4, .val (.int .u32 (IntKind.wrap .u32 ((BitVec.ofInt (IntKind.bits .u32) (Int.fdiv a0 (2 ^ (min (Int.toNat a1) (IntKind.bits .u32)))) ||| BitVec.ofInt (IntKind.bits .u32) (IntKind.wrap .u32 (a0 * 2 ^ (min (Int.toNat (IntKind.wrap .u64 (32 - a1))) (IntKind.bits .u32))))).toNat))))]) (L' := []) (ob := [(decide (0 ≤ a1)) = true, (decide (0 ≤ (IntKind.wrap .u64 (32 - a1)))) = true]) (by kernel_rfl) (AllP.cons hc2 (AllP.cons hc3 AllP.nil)) ?_
  refine To.eq (K' := [(4, .val (.int .u32 x1))]) (L' := []) (by cases hx1; rfl) (by cases hx1; rfl) ?_
  refine To.thenN ?_
  refine Wp.ret ?_
  refine To.keep (kk := [4]) (kl := []) (K' := [(4, .val (.int .u32 x1))]) (L' := []) (by kernel_rfl) (by kernel_rfl) ?_
  cases h
  exact To.done hΓ (by kernel_rfl)
def ref05_Block_l1 (n : Nat) (v1 : List UInt8) (v2 : List (Int)) (b3 : List (Int)) (b6 : List (Int)) : Nat → Int → (List (Int)) → Option ((List (Int)))
  | 0, _, _ => none
  | k + 1, v8, b7 => if (decide (v8 < 16)) = true then (if (decide (0 ≤ (IntKind.wrap .i64 (4 * v8)) ∧ (IntKind.wrap .i64 (4 * v8)) < (List.length v1 : Int))) = true then (if (decide (0 ≤ (IntKind.wrap .i64 ((IntKind.wrap .i64 (4 * v8)) + 1)) ∧ (IntKind.wrap .i64 ((IntKind.wrap .i64 (4 * v8)) + 1)) < (List.length v1 : Int))) = true then (if (decide (0 ≤ (IntKind.wrap .i64 ((IntKind.wrap .i64 (4 * v8)) + 2)) ∧ (IntKind.wrap .i64 ((IntKind.wrap .i64 (4 * v8)) + 2)) < (List.length v1 : Int))) = true then (if (decide (0 ≤ (IntKind.wrap .i64 ((IntKind.wrap .i64 (4 * v8)) + 3)) ∧ (IntKind.wrap .i64 ((IntKind.wrap .i64 (4 * v8)) + 3)) < (List.length v1 : Int))) = true then (if (decide (0 ≤ v8 ∧ v8 < (64 : Int))) = true then (if (decide (0 ≤ v8 ∧ v8 < (List.length b7 : Int))) = true then (lett ((List.set b7 (Int.toNat v8) (IntKind.wrap .u32 ((IntKind.wrap .u32 ((IntKind.wrap .u32 ((IntKind.wrap .u32 ((IntKind.wrap .u32 ((((v1)[Int.toNat (IntKind.wrap .i64 (4 * v8))]?.getD 0).toNat : Int))) * 16777216)) + (IntKind.wrap .u32 ((IntKind.wrap .u32 ((((v1)[Int.toNat (IntKind.wrap .i64 ((IntKind.wrap .i64 (4 * v8)) + 1))]?.getD 0).toNat : Int))) * 65536)))) + (IntKind.wrap .u32 ((IntKind.wrap .u32 ((((v1)[Int.toNat (IntKind.wrap .i64 ((IntKind.wrap .i64 (4 * v8)) + 2))]?.getD 0).toNat : Int))) * 256)))) + (IntKind.wrap .u32 ((((v1)[Int.toNat (IntKind.wrap .i64 ((IntKind.wrap .i64 (4 * v8)) + 3))]?.getD 0).toNat : Int)))))) : List (Int)) fun x6 =>
  ref05_Block_l1 n v1 v2 b3 b6 k (IntKind.wrap .i64 (v8 + 1)) x6) else none) else none) else none) else none) else none) else none)
  else some b7
theorem ok_ref05_Block_l1 (n : Nat) (v1 : List UInt8) (v2 : List (Int)) (b3 : List (Int)) (b6 : List (Int)) {F0 : Fz} {w0 : Pt Try.prog} {Q : Exit → Act → World → Prop} (k : Nat) : ∀ (v8 : Int) (b7 : List (Int)) (o : (List (Int))), ref05_Block_l1 n v1 v2 b3 b6 k v8 b7 = some o → To 237 F0 w0 [(2, .recs (α := Int) 0 E_u32 v2), (3, .elm 3 0 1 0), (6, .elm 6 0 1 0), (7, .elm 7 0 1 0)] [(3, 29, [.rowc false (α := Int) 0 E_u32 b3]), (6, 29, [.rowc false (α := Int) 0 E_u32 b6]), (7, 41, [.rowc false (α := Int) 0 E_u32 o])] (.exit 0) Q → WL Try.prog 237 F0 w0 [(1, .str v1), (2, .recs (α := Int) 0 E_u32 v2), (3, .elm 3 0 1 0), (6, .elm 6 0 1 0), (7, .elm 7 0 1 0), (8, .val (.int .i64 v8))] [(3, 29, [.rowc false (α := Int) 0 E_u32 b3]), (6, 29, [.rowc false (α := Int) 0 E_u32 b6]), (7, 41, [.rowc false (α := Int) 0 E_u32 b7])] (cI (cI (cB (cA (cB (cB (cB (cF Try.f27)))))))) Q := by
  induction k with
  | zero => intro v8 b7 o h; cases h
  | succ k ih =>
    intro v8 b7 o h hQ
    rw [ref05_Block_l1] at h
    refine WL.round ?_
    refine Wp.seq ?_
    refine Wp.seq ?_
    refine Wp.region hΓ [] [] [] [1, 2, 3, 6, 7, 8, 35] [3, 6, 7] (K' := [(1, .str v1), (2, .recs (α := Int) 0 E_u32 v2), (3, .elm 3 0 1 0), (6, .elm 6 0 1 0), (7, .elm 7 0 1 0), (8, .val (.int .i64 v8)), (35, .val (.bool (decide (v8 < 16))))]) (L' := [(3, 29, [.rowc false (α := Int) 0 E_u32 b3]), (6, 29, [.rowc false (α := Int) 0 E_u32 b6]), (7, 41, [.rowc false (α := Int) 0 E_u32 b7])]) (ob := []) (by kernel_rfl) AllP.nil ?_
    refine To.thenN ?_
    refine Wp.cond (b := (decide (v8 < 16))) (by kernel_rfl) (fun hb => ?_) (fun hb => ?_)
    · replace h := if_t hb h
      refine Wp.skip ?_
      refine To.thenN ?_
      refine Wp.seq ?_
      refine Wp.block ?_
      obtain ⟨hc7, h⟩ := chk_of h
      obtain ⟨hc8, h⟩ := chk_of h
      obtain ⟨hc9, h⟩ := chk_of h
      obtain ⟨hc10, h⟩ := chk_of h
      obtain ⟨hc11, h⟩ := chk_of h
      obtain ⟨hc12, h⟩ := chk_of h
      obtain ⟨x6, hx6, h⟩ := lett_of h
      refine Wp.regionS hm hΓ 30 [] [(31, .recs (α := Int) 0 E_u32 (List.set b7 (Int.toNat v8) (IntKind.wrap .u32 ((IntKind.wrap .u32 ((IntKind.wrap .u32 ((IntKind.wrap .u32 ((IntKind.wrap .u32 ((((v1)[Int.toNat (IntKind.wrap .i64 (4 * v8))]?.getD 0).toNat : Int))) * 16777216)) + (IntKind.wrap .u32 ((IntKind.wrap .u32 ((((v1)[Int.toNat (IntKind.wrap .i64 ((IntKind.wrap .i64 (4 * v8)) + 1))]?.getD 0).toNat : Int))) * 65536)))) + (IntKind.wrap .u32 ((IntKind.wrap .u32 ((((v1)[Int.toNat (IntKind.wrap .i64 ((IntKind.wrap .i64 (4 * v8)) + 2))]?.getD 0).toNat : Int))) * 256)))) + (IntKind.wrap .u32 ((((v1)[Int.toNat (IntKind.wrap .i64 ((IntKind.wrap .i64 (4 * v8)) + 3))]?.getD 0).toNat : Int)))))))] [] [1, 2, 3, 6, 7, 8] [3, 6, 7] (K' := [(1, .str v1), (2, .recs (α := Int) 0 E_u32 v2), (3, .elm 3 0 1 0), (6, .elm 6 0 1 0), (7, .elm 7 0 1 0), (8, .val (.int .i64 v8))]) (L' := [(3, 29, [.rowc false (α := Int) 0 E_u32 b3]), (6, 29, [.rowc false (α := Int) 0 E_u32 b6]), (7, 41, [.rowc false (α := Int) 0 E_u32 (List.set b7 (Int.toNat v8) (IntKind.wrap .u32 ((IntKind.wrap .u32 ((IntKind.wrap .u32 ((IntKind.wrap .u32 ((IntKind.wrap .u32 ((((v1)[Int.toNat (IntKind.wrap .i64 (4 * v8))]?.getD 0).toNat : Int))) * 16777216)) + (IntKind.wrap .u32 ((IntKind.wrap .u32 ((((v1)[Int.toNat (IntKind.wrap .i64 ((IntKind.wrap .i64 (4 * v8)) + 1))]?.getD 0).toNat : Int))) * 65536)))) + (IntKind.wrap .u32 ((IntKind.wrap .u32 ((((v1)[Int.toNat (IntKind.wrap .i64 ((IntKind.wrap .i64 (4 * v8)) + 2))]?.getD 0).toNat : Int))) * 256)))) + (IntKind.wrap .u32 ((((v1)[Int.toNat (IntKind.wrap .i64 ((IntKind.wrap .i64 (4 * v8)) + 3))]?.getD 0).toNat : Int))))))])]) (ob := [(decide (0 ≤ (IntKind.wrap .i64 (4 * v8)) ∧ (IntKind.wrap .i64 (4 * v8)) < (List.length v1 : Int))) = true, (decide (0 ≤ (IntKind.wrap .i64 ((IntKind.wrap .i64 (4 * v8)) + 1)) ∧ (IntKind.wrap .i64 ((IntKind.wrap .i64 (4 * v8)) + 1)) < (List.length v1 : Int))) = true, (decide (0 ≤ (IntKind.wrap .i64 ((IntKind.wrap .i64 (4 * v8)) + 2)) ∧ (IntKind.wrap .i64 ((IntKind.wrap .i64 (4 * v8)) + 2)) < (List.length v1 : Int))) = true, (decide (0 ≤ (IntKind.wrap .i64 ((IntKind.wrap .i64 (4 * v8)) + 3)) ∧ (IntKind.wrap .i64 ((IntKind.wrap .i64 (4 * v8)) + 3)) < (List.length v1 : Int))) = true, (decide (0 ≤ v8 ∧ v8 < (64 : Int))) = true, (decide (0 ≤ v8 ∧ v8 < (List.length b7 : Int))) = true, UpdOb 0 E_u32 b7 v8 0 [.val (.int .u32 (IntKind.wrap .u32 ((IntKind.wrap .u32 ((IntKind.wrap .u32 ((IntKind.wrap .u32 ((IntKind.wrap .u32 ((((v1)[Int.toNat (IntKind.wrap .i64 (4 * v8))]?.getD 0).toNat : Int))) * 16777216)) + (IntKind.wrap .u32 ((IntKind.wrap .u32 ((((v1)[Int.toNat (IntKind.wrap .i64 ((IntKind.wrap .i64 (4 * v8)) + 1))]?.getD 0).toNat : Int))) * 65536)))) + (IntKind.wrap .u32 ((IntKind.wrap .u32 ((((v1)[Int.toNat (IntKind.wrap .i64 ((IntKind.wrap .i64 (4 * v8)) + 2))]?.getD 0).toNat : Int))) * 256)))) + (IntKind.wrap .u32 ((((v1)[Int.toNat (IntKind.wrap .i64 ((IntKind.wrap .i64 (4 * v8)) + 3))]?.getD 0).toNat : Int))))))] (.recs (α := Int) 0 E_u32 (List.set b7 (Int.toNat v8) (IntKind.wrap .u32 ((IntKind.wrap .u32 ((IntKind.wrap .u32 ((IntKind.wrap .u32 ((IntKind.wrap .u32 ((((v1)[Int.toNat (IntKind.wrap .i64 (4 * v8))]?.getD 0).toNat : Int))) * 16777216)) + (IntKind.wrap .u32 ((IntKind.wrap .u32 ((((v1)[Int.toNat (IntKind.wrap .i64 ((IntKind.wrap .i64 (4 * v8)) + 1))]?.getD 0).toNat : Int))) * 65536)))) + (IntKind.wrap .u32 ((IntKind.wrap .u32 ((((v1)[Int.toNat (IntKind.wrap .i64 ((IntKind.wrap .i64 (4 * v8)) + 2))]?.getD 0).toNat : Int))) * 256)))) + (IntKind.wrap .u32 ((((v1)[Int.toNat (IntKind.wrap .i64 ((IntKind.wrap .i64 (4 * v8)) + 3))]?.getD 0).toNat : Int)))))))]) (by kernel_rfl) (AllP.cons hc7 (AllP.cons hc8 (AllP.cons hc9 (AllP.cons hc10 (AllP.cons hc11 (AllP.cons hc12 (AllP.cons (updOb (by kernel_rfl)) AllP.nil))))))) ?_
      refine To.eq (K' := [(1, .str v1), (2, .recs (α := Int) 0 E_u32 v2), (3, .elm 3 0 1 0), (6, .elm 6 0 1 0), (7, .elm 7 0 1 0), (8, .val (.int .i64 v8))]) (L' := [(3, 29, [.rowc false (α := Int) 0 E_u32 b3]), (6, 29, [.rowc false (α := Int) 0 E_u32 b6]), (7, 41, [.rowc false (α := Int) 0 E_u32 x6])]) (by cases hx6; rfl) (by cases hx6; rfl) ?_
      refine To.blockN ?_
      refine To.thenN ?_
      refine Wp.region hΓ [] [] [] [1, 2, 3, 6, 7, 8] [3, 6, 7] (K' := [(1, .str v1), (2, .recs (α := Int) 0 E_u32 v2), (3, .elm 3 0 1 0), (6, .elm 6 0 1 0), (7, .elm 7 0 1 0), (8, .val (.int .i64 (IntKind.wrap .i64 (v8 + 1))))]) (L' := [(3, 29, [.rowc false (α := Int) 0 E_u32 b3]), (6, 29, [.rowc false (α := Int) 0 E_u32 b6]), (7, 41, [.rowc false (α := Int) 0 E_u32 x6])]) (ob := []) (by kernel_rfl) AllP.nil ?_
      refine To.keep (kk := [1, 2, 3, 6, 7, 8]) (kl := [3, 6, 7]) (K' := [(1, .str v1), (2, .recs (α := Int) 0 E_u32 v2), (3, .elm 3 0 1 0), (6, .elm 6 0 1 0), (7, .elm 7 0 1 0), (8, .val (.int .i64 (IntKind.wrap .i64 (v8 + 1))))]) (L' := [(3, 29, [.rowc false (α := Int) 0 E_u32 b3]), (6, 29, [.rowc false (α := Int) 0 E_u32 b6]), (7, 41, [.rowc false (α := Int) 0 E_u32 x6])]) (by kernel_rfl) (by kernel_rfl) ?_
      refine To.again ?_
      exact ih (IntKind.wrap .i64 (v8 + 1)) x6 _ h hQ
    · replace h := if_f hb h
      refine Wp.exit ?_
      refine To.thenX ?_
      refine To.thenX ?_
      refine To.keep (kk := [2, 3, 6, 7]) (kl := [3, 6, 7]) (K' := [(2, .recs (α := Int) 0 E_u32 v2), (3, .elm 3 0 1 0), (6, .elm 6 0 1 0), (7, .elm 7 0 1 0)]) (L' := [(3, 29, [.rowc false (α := Int) 0 E_u32 b3]), (6, 29, [.rowc false (α := Int) 0 E_u32 b6]), (7, 41, [.rowc false (α := Int) 0 E_u32 b7])]) (by kernel_rfl) (by kernel_rfl) ?_
      cases h
      exact hQ
def ref05_Block_l2 (n : Nat) (v2 : List (Int)) (b3 : List (Int)) (b6 : List (Int)) : Nat → Int → (List (Int)) → Option ((List (Int)))
  | 0, _, _ => none
  | k + 1, v9, b7 => if (decide (v9 < 64)) = true then (if (decide (0 ≤ (IntKind.wrap .i64 (v9 - 15)) ∧ (IntKind.wrap .i64 (v9 - 15)) < (64 : Int))) = true then (if (decide (0 ≤ (IntKind.wrap .i64 (v9 - 15)) ∧ (IntKind.wrap .i64 (v9 - 15)) < (List.length b7 : Int))) = true then ((ref05_turn n ((b7)[Int.toNat (IntKind.wrap .i64 (v9 - 15))]?.getD 0) 7).bind fun r7 =>
  (ref05_turn n ((b7)[Int.toNat (IntKind.wrap .i64 (v9 - 15))]?.getD 0) 18).bind fun r8 =>
  if (decide (0 ≤ (3 : Int))) = true then (lett ((IntKind.wrap .u32 ((BitVec.ofInt (IntKind.bits .u32) (IntKind.wrap .u32 ((BitVec.ofInt (IntKind.bits .u32) r7 ^^^ BitVec.ofInt (IntKind.bits .u32) r8).toNat)) ^^^ BitVec.ofInt (IntKind.bits .u32) (Int.fdiv ((b7)[Int.toNat (IntKind.wrap .i64 (v9 - 15))]?.getD 0) (2 ^ (min (Int.toNat 3) (IntKind.bits .u32))))).toNat)) : Int) fun x9 =>
  if (decide (0 ≤ (IntKind.wrap .i64 (v9 - 2)) ∧ (IntKind.wrap .i64 (v9 - 2)) < (64 : Int))) = true then (if (decide (0 ≤ (IntKind.wrap .i64 (v9 - 2)) ∧ (IntKind.wrap .i64 (v9 - 2)) < (List.length b7 : Int))) = true then ((ref05_turn n ((b7)[Int.toNat (IntKind.wrap .i64 (v9 - 2))]?.getD 0) 17).bind fun r10 =>
  (ref05_turn n ((b7)[Int.toNat (IntKind.wrap .i64 (v9 - 2))]?.getD 0) 19).bind fun r11 =>
  if (decide (0 ≤ (10 : Int))) = true then (lett ((IntKind.wrap .u32 ((BitVec.ofInt (IntKind.bits .u32) (IntKind.wrap .u32 ((BitVec.ofInt (IntKind.bits .u32) r10 ^^^ BitVec.ofInt (IntKind.bits .u32) r11).toNat)) ^^^ BitVec.ofInt (IntKind.bits .u32) (Int.fdiv ((b7)[Int.toNat (IntKind.wrap .i64 (v9 - 2))]?.getD 0) (2 ^ (min (Int.toNat 10) (IntKind.bits .u32))))).toNat)) : Int) fun x12 =>
  if (decide (0 ≤ (IntKind.wrap .i64 (v9 - 7)) ∧ (IntKind.wrap .i64 (v9 - 7)) < (64 : Int))) = true then (if (decide (0 ≤ (IntKind.wrap .i64 (v9 - 7)) ∧ (IntKind.wrap .i64 (v9 - 7)) < (List.length b7 : Int))) = true then (if (decide (0 ≤ (IntKind.wrap .i64 (v9 - 16)) ∧ (IntKind.wrap .i64 (v9 - 16)) < (64 : Int))) = true then (if (decide (0 ≤ (IntKind.wrap .i64 (v9 - 16)) ∧ (IntKind.wrap .i64 (v9 - 16)) < (List.length b7 : Int))) = true then (if (decide (0 ≤ v9 ∧ v9 < (64 : Int))) = true then (if (decide (0 ≤ v9 ∧ v9 < (List.length b7 : Int))) = true then (lett ((List.set b7 (Int.toNat v9) (IntKind.wrap .u32 ((IntKind.wrap .u32 ((IntKind.wrap .u32 (x12 + ((b7)[Int.toNat (IntKind.wrap .i64 (v9 - 7))]?.getD 0))) + x9)) + ((b7)[Int.toNat (IntKind.wrap .i64 (v9 - 16))]?.getD 0)))) : List (Int)) fun x13 =>
  ref05_Block_l2 n v2 b3 b6 k (IntKind.wrap .i64 (v9 + 1)) x13) else none) else none) else none) else none) else none) else none) else none) else none) else none) else none) else none) else none)
  else some b7
theorem ok_ref05_Block_l2 (n : Nat) (v2 : List (Int)) (b3 : List (Int)) (b6 : List (Int)) {F0 : Fz} {w0 : Pt Try.prog} {Q : Exit → Act → World → Prop} (k : Nat) : ∀ (v9 : Int) (b7 : List (Int)) (o : (List (Int))), ref05_Block_l2 n v2 b3 b6 k v9 b7 = some o → To 237 F0 w0 [(2, .recs (α := Int) 0 E_u32 v2), (3, .elm 3 0 1 0), (6, .elm 6 0 1 0), (7, .elm 7 0 1 0)] [(3, 29, [.rowc false (α := Int) 0 E_u32 b3]), (6, 29, [.rowc false (α := Int) 0 E_u32 b6]), (7, 41, [.rowc false (α := Int) 0 E_u32 o])] (.exit 2) Q → WL Try.prog 237 F0 w0 [(2, .recs (α := Int) 0 E_u32 v2), (3, .elm 3 0 1 0), (6, .elm 6 0 1 0), (7, .elm 7 0 1 0), (9, .val (.int .i64 v9))] [(3, 29, [.rowc false (α := Int) 0 E_u32 b3]), (6, 29, [.rowc false (α := Int) 0 E_u32 b6]), (7, 41, [.rowc false (α := Int) 0 E_u32 b7])] (cI (cI (cB (cA (cB (cB (cB (cB (cF Try.f27))))))))) Q := by
  induction k with
  | zero => intro v9 b7 o h; cases h
  | succ k ih =>
    intro v9 b7 o h hQ
    rw [ref05_Block_l2] at h
    refine WL.round ?_
    refine Wp.seq ?_
    refine Wp.seq ?_
    refine Wp.region hΓ [] [] [] [2, 3, 6, 7, 9, 70] [3, 6, 7] (K' := [(2, .recs (α := Int) 0 E_u32 v2), (3, .elm 3 0 1 0), (6, .elm 6 0 1 0), (7, .elm 7 0 1 0), (9, .val (.int .i64 v9)), (70, .val (.bool (decide (v9 < 64))))]) (L' := [(3, 29, [.rowc false (α := Int) 0 E_u32 b3]), (6, 29, [.rowc false (α := Int) 0 E_u32 b6]), (7, 41, [.rowc false (α := Int) 0 E_u32 b7])]) (ob := []) (by kernel_rfl) AllP.nil ?_
    refine To.thenN ?_
    refine Wp.cond (b := (decide (v9 < 64))) (by kernel_rfl) (fun hb => ?_) (fun hb => ?_)
    · replace h := if_t hb h
      refine Wp.skip ?_
      refine To.thenN ?_
      refine Wp.seq ?_
      refine Wp.block ?_
      refine Wp.seq ?_
      obtain ⟨hc23, h⟩ := chk_of h
      obtain ⟨hc24, h⟩ := chk_of h
      obtain ⟨r7, hr7, h⟩ := bind_of h
      obtain ⟨r8, hr8, h⟩ := bind_of h
      obtain ⟨hc25, h⟩ := chk_of h
      obtain ⟨x9, hx9, h⟩ := lett_of h
      refine Wp.regionD hm hΓ [(4, .val (.int .u32 r7)), (9, .val (.int .u32 r8))] [2, 3, 6, 7, 9, 10] [3, 6, 7] (K' := [(2, .recs (α := Int) 0 E_u32 v2), (3, .elm 3 0 1 0), (6, .elm 6 0 1 0), (7, .elm 7 0 1 0), (9, .val (.int .i64 v9)), (10, .val (.int .u32 (IntKind.wrap .u32 ((BitVec.ofInt (IntKind.bits .u32) (IntKind.wrap .u32 ((BitVec.ofInt (IntKind.bits .u32) r7 ^^^ BitVec.ofInt (IntKind.bits .u32) r8).toNat)) ^^^ BitVec.ofInt (IntKind.bits .u32) (Int.fdiv ((b7)[Int.toNat (IntKind.wrap .i64 (v9 - 15))]?.getD 0) (2 ^ (min (Int.toNat 3) (IntKind.bits .u32))))).toNat))))]) (L' := [(3, 29, [.rowc false (α := Int) 0 E_u32 b3]), (6, 29, [.rowc false (α := Int) 0 E_u32 b6]), (7, 41, [.rowc false (α := Int) 0 E_u32 b7])]) (ob := [(decide (0 ≤ (IntKind.wrap .i64 (v9 - 15)) ∧ (IntKind.wrap .i64 (v9 - 15)) < (64 : Int))) = true, (decide (0 ≤ (IntKind.wrap .i64 (v9 - 15)) ∧ (IntKind.wrap .i64 (v9 - 15)) < (List.length b7 : Int))) = true, (true = true → CX Try.prog 35 [.val (.int .u32 ((b7)[Int.toNat (IntKind.wrap .i64 (v9 - 15))]?.getD 0)), .val (.int .u64 7)] (.val (.int .u32 r7))), (decide (0 ≤ (IntKind.wrap .i64 (v9 - 15)) ∧ (IntKind.wrap .i64 (v9 - 15)) < (64 : Int))) = true, (decide (0 ≤ (IntKind.wrap .i64 (v9 - 15)) ∧ (IntKind.wrap .i64 (v9 - 15)) < (List.length b7 : Int))) = true, (true = true → CX Try.prog 35 [.val (.int .u32 ((b7)[Int.toNat (IntKind.wrap .i64 (v9 - 15))]?.getD 0)), .val (.int .u64 18)] (.val (.int .u32 r8))), (decide (0 ≤ (IntKind.wrap .i64 (v9 - 15)) ∧ (IntKind.wrap .i64 (v9 - 15)) < (64 : Int))) = true, (decide (0 ≤ (IntKind.wrap .i64 (v9 - 15)) ∧ (IntKind.wrap .i64 (v9 - 15)) < (List.length b7 : Int))) = true, (decide (0 ≤ (3 : Int))) = true]) (by kernel_rfl) (AllP.cons hc23 (AllP.cons hc24 (AllP.cons (fun _ => cx (ok_ref05_turn n ((b7)[Int.toNat (IntKind.wrap .i64 (v9 - 15))]?.getD 0) 7 _ hr7)) (AllP.cons hc23 (AllP.cons hc24 (AllP.cons (fun _ => cx (ok_ref05_turn n ((b7)[Int.toNat (IntKind.wrap .i64 (v9 - 15))]?.getD 0) 18 _ hr8)) (AllP.cons hc23 (AllP.cons hc24 (AllP.cons hc25 AllP.nil))))))))) ?_
      refine To.eq (K' := [(2, .recs (α := Int) 0 E_u32 v2), (3, .elm 3 0 1 0), (6, .elm 6 0 1 0), (7, .elm 7 0 1 0), (9, .val (.int .i64 v9)), (10, .val (.int .u32 x9))]) (L' := [(3, 29, [.rowc false (α := Int) 0 E_u32 b3]), (6, 29, [.rowc false (α := Int) 0 E_u32 b6]), (7, 41, [.rowc false (α := Int) 0 E_u32 b7])]) (by cases hx9; rfl) (by cases hx9; rfl) ?_
      refine To.thenN ?_
      refine Wp.seq ?_
      obtain ⟨hc20, h⟩ := chk_of h
      obtain ⟨hc21, h⟩ := chk_of h
      obtain ⟨r10, hr10, h⟩ := bind_of h
      obtain ⟨r11, hr11, h⟩ := bind_of h
      obtain ⟨hc22, h⟩ := chk_of h
      obtain ⟨x12, hx12, h⟩ := lett_of h
      refine Wp.regionD hm hΓ [(4, .val (.int .u32 r10)), (9, .val (.int .u32 r11))] [2, 3, 6, 7, 9, 10, 11] [3, 6, 7] (K' := [(2, .recs (α := Int) 0 E_u32 v2), (3, .elm 3 0 1 0), (6, .elm 6 0 1 0), (7, .elm 7 0 1 0), (9, .val (.int .i64 v9)), (10, .val (.int .u32 x9)), (11, .val (.int .u32 (IntKind.wrap .u32 ((BitVec.ofInt (IntKind.bits .u32) (IntKind.wrap .u32 ((BitVec.ofInt (IntKind.bits .u32) r10 ^^^ BitVec.ofInt (IntKind.bits .u32) r11).toNat)) ^^^ BitVec.ofInt (IntKind.bits .u32) (Int.fdiv ((b7)[Int.toNat (IntKind.wrap .i64 (v9 - 2))]?.getD 0) (2 ^ (min (Int.toNat 10) (IntKind.bits .u32))))).toNat))))]) (L' := [(3, 29, [.rowc false (α := Int) 0 E_u32 b3]), (6, 29, [.rowc false (α := Int) 0 E_u32 b6]), (7, 41, [.rowc false (α := Int) 0 E_u32 b7])]) (ob := [(decide (0 ≤ (IntKind.wrap .i64 (v9 - 2)) ∧ (IntKind.wrap .i64 (v9 - 2)) < (64 : Int))) = true, (decide (0 ≤ (IntKind.wrap .i64 (v9 - 2)) ∧ (IntKind.wrap .i64 (v9 - 2)) < (List.length b7 : Int))) = true, (true = true → CX Try.prog 35 [.val (.int .u32 ((b7)[Int.toNat (IntKind.wrap .i64 (v9 - 2))]?.getD 0)), .val (.int .u64 17)] (.val (.int .u32 r10))), (decide (0 ≤ (IntKind.wrap .i64 (v9 - 2)) ∧ (IntKind.wrap .i64 (v9 - 2)) < (64 : Int))) = true, (decide (0 ≤ (IntKind.wrap .i64 (v9 - 2)) ∧ (IntKind.wrap .i64 (v9 - 2)) < (List.length b7 : Int))) = true, (true = true → CX Try.prog 35 [.val (.int .u32 ((b7)[Int.toNat (IntKind.wrap .i64 (v9 - 2))]?.getD 0)), .val (.int .u64 19)] (.val (.int .u32 r11))), (decide (0 ≤ (IntKind.wrap .i64 (v9 - 2)) ∧ (IntKind.wrap .i64 (v9 - 2)) < (64 : Int))) = true, (decide (0 ≤ (IntKind.wrap .i64 (v9 - 2)) ∧ (IntKind.wrap .i64 (v9 - 2)) < (List.length b7 : Int))) = true, (decide (0 ≤ (10 : Int))) = true]) (by kernel_rfl) (AllP.cons hc20 (AllP.cons hc21 (AllP.cons (fun _ => cx (ok_ref05_turn n ((b7)[Int.toNat (IntKind.wrap .i64 (v9 - 2))]?.getD 0) 17 _ hr10)) (AllP.cons hc20 (AllP.cons hc21 (AllP.cons (fun _ => cx (ok_ref05_turn n ((b7)[Int.toNat (IntKind.wrap .i64 (v9 - 2))]?.getD 0) 19 _ hr11)) (AllP.cons hc20 (AllP.cons hc21 (AllP.cons hc22 AllP.nil))))))))) ?_
      refine To.eq (K' := [(2, .recs (α := Int) 0 E_u32 v2), (3, .elm 3 0 1 0), (6, .elm 6 0 1 0), (7, .elm 7 0 1 0), (9, .val (.int .i64 v9)), (10, .val (.int .u32 x9)), (11, .val (.int .u32 x12))]) (L' := [(3, 29, [.rowc false (α := Int) 0 E_u32 b3]), (6, 29, [.rowc false (α := Int) 0 E_u32 b6]), (7, 41, [.rowc false (α := Int) 0 E_u32 b7])]) (by cases hx12; rfl) (by cases hx12; rfl) ?_
      refine To.thenN ?_
      obtain ⟨hc14, h⟩ := chk_of h
      obtain ⟨hc15, h⟩ := chk_of h
      obtain ⟨hc16, h⟩ := chk_of h
      obtain ⟨hc17, h⟩ := chk_of h
      obtain ⟨hc18, h⟩ := chk_of h
      obtain ⟨hc19, h⟩ := chk_of h
      obtain ⟨x13, hx13, h⟩ := lett_of h
      refine Wp.regionS hm hΓ 14 [] [(15, .recs (α := Int) 0 E_u32 (List.set b7 (Int.toNat v9) (IntKind.wrap .u32 ((IntKind.wrap .u32 ((IntKind.wrap .u32 (x12 + ((b7)[Int.toNat (IntKind.wrap .i64 (v9 - 7))]?.getD 0))) + x9)) + ((b7)[Int.toNat (IntKind.wrap .i64 (v9 - 16))]?.getD 0)))))] [] [2, 3, 6, 7, 9] [3, 6, 7] (K' := [(2, .recs (α := Int) 0 E_u32 v2), (3, .elm 3 0 1 0), (6, .elm 6 0 1 0), (7, .elm 7 0 1 0), (9, .val (.int .i64 v9))]) (L' := [(3, 29, [.rowc false (α := Int) 0 E_u32 b3]), (6, 29, [.rowc false (α := Int) 0 E_u32 b6]), (7, 41, [.rowc false (α := Int) 0 E_u32 (List.set b7 (Int.toNat v9) (IntKind.wrap .u32 ((IntKind.wrap .u32 ((IntKind.wrap .u32 (x12 + ((b7)[Int.toNat (IntKind.wrap .i64 (v9 - 7))]?.getD 0))) + x9)) + ((b7)[Int.toNat (IntKind.wrap .i64 (v9 - 16))]?.getD 0))))])]) (ob := [(decide (0 ≤ (IntKind.wrap .i64 (v9 - 7)) ∧ (IntKind.wrap .i64 (v9 - 7)) < (64 : Int))) = true, (decide (0 ≤ (IntKind.wrap .i64 (v9 - 7)) ∧ (IntKind.wrap .i64 (v9 - 7)) < (List.length b7 : Int))) = true, (decide (0 ≤ (IntKind.wrap .i64 (v9 - 16)) ∧ (IntKind.wrap .i64 (v9 - 16)) < (64 : Int))) = true, (decide (0 ≤ (IntKind.wrap .i64 (v9 - 16)) ∧ (IntKind.wrap .i64 (v9 - 16)) < (List.length b7 : Int))) = true, (decide (0 ≤ v9 ∧ v9 < (64 : Int))) = true, (decide (0 ≤ v9 ∧ v9 < (List.length b7 : Int))) = true, UpdOb 0 E_u32 b7 v9 0 [.val (.int .u32 (IntKind.wrap .u32 ((IntKind.wrap .u32 ((IntKind.wrap .u32 (x12 + ((b7)[Int.toNat (IntKind.wrap .i64 (v9 - 7))]?.getD 0))) + x9)) + ((b7)[Int.toNat (IntKind.wrap .i64 (v9 - 16))]?.getD 0))))] (.recs (α := Int) 0 E_u32 (List.set b7 (Int.toNat v9) (IntKind.wrap .u32 ((IntKind.wrap .u32 ((IntKind.wrap .u32 (x12 + ((b7)[Int.toNat (IntKind.wrap .i64 (v9 - 7))]?.getD 0))) + x9)) + ((b7)[Int.toNat (IntKind.wrap .i64 (v9 - 16))]?.getD 0)))))]) (by kernel_rfl) (AllP.cons hc14 (AllP.cons hc15 (AllP.cons hc16 (AllP.cons hc17 (AllP.cons hc18 (AllP.cons hc19 (AllP.cons (updOb (by kernel_rfl)) AllP.nil))))))) ?_
      refine To.eq (K' := [(2, .recs (α := Int) 0 E_u32 v2), (3, .elm 3 0 1 0), (6, .elm 6 0 1 0), (7, .elm 7 0 1 0), (9, .val (.int .i64 v9))]) (L' := [(3, 29, [.rowc false (α := Int) 0 E_u32 b3]), (6, 29, [.rowc false (α := Int) 0 E_u32 b6]), (7, 41, [.rowc false (α := Int) 0 E_u32 x13])]) (by cases hx13; rfl) (by cases hx13; rfl) ?_
      refine To.blockN ?_
      refine To.thenN ?_
      refine Wp.region hΓ [] [] [] [2, 3, 6, 7, 9] [3, 6, 7] (K' := [(2, .recs (α := Int) 0 E_u32 v2), (3, .elm 3 0 1 0), (6, .elm 6 0 1 0), (7, .elm 7 0 1 0), (9, .val (.int .i64 (IntKind.wrap .i64 (v9 + 1))))]) (L' := [(3, 29, [.rowc false (α := Int) 0 E_u32 b3]), (6, 29, [.rowc false (α := Int) 0 E_u32 b6]), (7, 41, [.rowc false (α := Int) 0 E_u32 x13])]) (ob := []) (by kernel_rfl) AllP.nil ?_
      refine To.keep (kk := [2, 3, 6, 7, 9]) (kl := [3, 6, 7]) (K' := [(2, .recs (α := Int) 0 E_u32 v2), (3, .elm 3 0 1 0), (6, .elm 6 0 1 0), (7, .elm 7 0 1 0), (9, .val (.int .i64 (IntKind.wrap .i64 (v9 + 1))))]) (L' := [(3, 29, [.rowc false (α := Int) 0 E_u32 b3]), (6, 29, [.rowc false (α := Int) 0 E_u32 b6]), (7, 41, [.rowc false (α := Int) 0 E_u32 x13])]) (by kernel_rfl) (by kernel_rfl) ?_
      refine To.again ?_
      exact ih (IntKind.wrap .i64 (v9 + 1)) x13 _ h hQ
    · replace h := if_f hb h
      refine Wp.exit ?_
      refine To.thenX ?_
      refine To.thenX ?_
      refine To.keep (kk := [2, 3, 6, 7]) (kl := [3, 6, 7]) (K' := [(2, .recs (α := Int) 0 E_u32 v2), (3, .elm 3 0 1 0), (6, .elm 6 0 1 0), (7, .elm 7 0 1 0)]) (L' := [(3, 29, [.rowc false (α := Int) 0 E_u32 b3]), (6, 29, [.rowc false (α := Int) 0 E_u32 b6]), (7, 41, [.rowc false (α := Int) 0 E_u32 b7])]) (by kernel_rfl) (by kernel_rfl) ?_
      cases h
      exact hQ
def ref05_Block_l3 (n : Nat) (v2 : List (Int)) (b3 : List (Int)) (b6 : List (Int)) (b7 : List (Int)) : Nat → Int → Int → Int → Int → Int → Int → Int → Int → Int → Option (Int × Int × Int × Int × Int × Int × Int × Int)
  | 0, _, _, _, _, _, _, _, _, _ => none
  | k + 1, v12, v13, v14, v15, v16, v17, v18, v19, v20 => if (decide (v20 < 64)) = true then ((ref05_turn n v16 6).bind fun r8 =>
  (ref05_turn n v16 11).bind fun r9 =>
  (ref05_turn n v16 25).bind fun r10 =>
  lett ((IntKind.wrap .u32 ((BitVec.ofInt (IntKind.bits .u32) (IntKind.wrap .u32 ((BitVec.ofInt (IntKind.bits .u32) r8 ^^^ BitVec.ofInt (IntKind.bits .u32) r9).toNat)) ^^^ BitVec.ofInt (IntKind.bits .u32) r10).toNat)) : Int) fun x11 =>
  lett ((IntKind.wrap .u32 ((BitVec.ofInt (IntKind.bits .u32) (IntKind.wrap .u32 ((BitVec.ofInt (IntKind.bits .u32) v16 &&& BitVec.ofInt (IntKind.bits .u32) v17).toNat)) ^^^ BitVec.ofInt (IntKind.bits .u32) (IntKind.wrap .u32 ((BitVec.ofInt (IntKind.bits .u32) (IntKind.wrap .u32 (4294967295 - v16)) &&& BitVec.ofInt (IntKind.bits .u32) v18).toNat))).toNat)) : Int) fun x12 =>
  if (decide (0 ≤ v20 ∧ v20 < (List.length v2 : Int))) = true then (if (decide (0 ≤ v20 ∧ v20 < (64 : Int))) = true then (if (decide (0 ≤ v20 ∧ v20 < (List.length b7 : Int))) = true then (lett ((IntKind.wrap .u32 ((IntKind.wrap .u32 ((IntKind.wrap .u32 ((IntKind.wrap .u32 (v19 + x11)) + x12)) + ((v2)[Int.toNat v20]?.getD 0))) + ((b7)[Int.toNat v20]?.getD 0))) : Int) fun x13 =>
  (ref05_turn n v12 2).bind fun r14 =>
  (ref05_turn n v12 13).bind fun r15 =>
  (ref05_turn n v12 22).bind fun r16 =>
  lett ((IntKind.wrap .u32 ((IntKind.wrap .u32 ((BitVec.ofInt (IntKind.bits .u32) (IntKind.wrap .u32 ((BitVec.ofInt (IntKind.bits .u32) r14 ^^^ BitVec.ofInt (IntKind.bits .u32) r15).toNat)) ^^^ BitVec.ofInt (IntKind.bits .u32) r16).toNat)) + (IntKind.wrap .u32 ((BitVec.ofInt (IntKind.bits .u32) (IntKind.wrap .u32 ((BitVec.ofInt (IntKind.bits .u32) (IntKind.wrap .u32 ((BitVec.ofInt (IntKind.bits .u32) v12 &&& BitVec.ofInt (IntKind.bits .u32) v13).toNat)) ^^^ BitVec.ofInt (IntKind.bits .u32) (IntKind.wrap .u32 ((BitVec.ofInt (IntKind.bits .u32) v12 &&& BitVec.ofInt (IntKind.bits .u32) v14).toNat))).toNat)) ^^^ BitVec.ofInt (IntKind.bits .u32) (IntKind.wrap .u32 ((BitVec.ofInt (IntKind.bits .u32) v13 &&& BitVec.ofInt (IntKind.bits .u32) v14).toNat))).toNat)))) : Int) fun x17 =>
  ref05_Block_l3 n v2 b3 b6 b7 k (IntKind.wrap .u32 (x13 + x17)) v12 v13 v14 (IntKind.wrap .u32 (v15 + x13)) v16 v17 v18 (IntKind.wrap .i64 (v20 + 1))) else none) else none) else none)
  else (some (v12, v13, v14, v15, v16, v17, v18, v19))
theorem ok_ref05_Block_l3 (n : Nat) (v2 : List (Int)) (b3 : List (Int)) (b6 : List (Int)) (b7 : List (Int)) {F0 : Fz} {w0 : Pt Try.prog} {Q : Exit → Act → World → Prop} (k : Nat) : ∀ (v12 : Int) (v13 : Int) (v14 : Int) (v15 : Int) (v16 : Int) (v17 : Int) (v18 : Int) (v19 : Int) (v20 : Int) (o : Int × Int × Int × Int × Int × Int × Int × Int), ref05_Block_l3 n v2 b3 b6 b7 k v12 v13 v14 v15 v16 v17 v18 v19 v20 = some o → To 237 F0 w0 [(3, .elm 3 0 1 0), (6, .elm 6 0 1 0), (12, .val (.int .u32 o.1)), (13, .val (.int .u32 o.2.1)), (14, .val (.int .u32 o.2.2.1)), (15, .val (.int .u32 o.2.2.2.1)), (16, .val (.int .u32 o.2.2.2.2.1)), (17, .val (.int .u32 o.2.2.2.2.2.1)), (18, .val (.int .u32 o.2.2.2.2.2.2.1)), (19, .val (.int .u32 o.2.2.2.2.2.2.2))] [(3, 29, [.rowc false (α := Int) 0 E_u32 b3]), (6, 29, [.rowc false (α := Int) 0 E_u32 b6])] (.exit 4) Q → WL Try.prog 237 F0 w0 [(2, .recs (α := Int) 0 E_u32 v2), (3, .elm 3 0 1 0), (6, .elm 6 0 1 0), (7, .elm 7 0 1 0), (12, .val (.int .u32 v12)), (13, .val (.int .u32 v13)), (14, .val (.int .u32 v14)), (15, .val (.int .u32 v15)), (16, .val (.int .u32 v16)), (17, .val (.int .u32 v17)), (18, .val (.int .u32 v18)), (19, .val (.int .u32 v19)), (20, .val (.int .i64 v20))] [(3, 29, [.rowc false (α := Int) 0 E_u32 b3]), (6, 29, [.rowc false (α := Int) 0 E_u32 b6]), (7, 41, [.rowc false (α := Int) 0 E_u32 b7])] (cI (cI (cB (cA (cB (cB (cB (cB (cB (cB (cF Try.f27))))))))))) Q := by
  induction k with
  | zero => intro v12 v13 v14 v15 v16 v17 v18 v19 v20 o h; cases h
  | succ k ih =>
    intro v12 v13 v14 v15 v16 v17 v18 v19 v20 o h hQ
    rw [ref05_Block_l3] at h
    refine WL.round ?_
    refine Wp.seq ?_
    refine Wp.seq ?_
    refine Wp.region hΓ [] [] [] [2, 3, 6, 7, 12, 13, 14, 15, 16, 17, 18, 19, 20, 139] [3, 6, 7] (K' := [(2, .recs (α := Int) 0 E_u32 v2), (3, .elm 3 0 1 0), (6, .elm 6 0 1 0), (7, .elm 7 0 1 0), (12, .val (.int .u32 v12)), (13, .val (.int .u32 v13)), (14, .val (.int .u32 v14)), (15, .val (.int .u32 v15)), (16, .val (.int .u32 v16)), (17, .val (.int .u32 v17)), (18, .val (.int .u32 v18)), (19, .val (.int .u32 v19)), (20, .val (.int .i64 v20)), (139, .val (.bool (decide (v20 < 64))))]) (L' := [(3, 29, [.rowc false (α := Int) 0 E_u32 b3]), (6, 29, [.rowc false (α := Int) 0 E_u32 b6]), (7, 41, [.rowc false (α := Int) 0 E_u32 b7])]) (ob := []) (by kernel_rfl) AllP.nil ?_
    refine To.thenN ?_
    refine Wp.cond (b := (decide (v20 < 64))) (by kernel_rfl) (fun hb => ?_) (fun hb => ?_)
    · replace h := if_t hb h
      refine Wp.skip ?_
      refine To.thenN ?_
      refine Wp.seq ?_
      refine Wp.block ?_
      refine Wp.seq ?_
      obtain ⟨r8, hr8, h⟩ := bind_of h
      obtain ⟨r9, hr9, h⟩ := bind_of h
      obtain ⟨r10, hr10, h⟩ := bind_of h
      obtain ⟨x11, hx11, h⟩ := lett_of h
      refine Wp.region hΓ [] [(1, .val (.int .u32 r8)), (3, .val (.int .u32 r9)), (6, .val (.int .u32 r10))] [] [2, 3, 6, 7, 12, 13, 14, 15, 16, 17, 18, 19, 20, 21] [3, 6, 7] (K' := [(2, .recs (α := Int) 0 E_u32 v2), (3, .elm 3 0 1 0), (6, .elm 6 0 1 0), (7, .elm 7 0 1 0), (12, .val (.int .u32 v12)), (13, .val (.int .u32 v13)), (14, .val (.int .u32 v14)), (15, .val (.int .u32 v15)), (16, .val (.int .u32 v16)), (17, .val (.int .u32 v17)), (18, .val (.int .u32 v18)), (19, .val (.int .u32 v19)), (20, .val (.int .i64 v20)), (21, .val (.int .u32 (IntKind.wrap .u32 ((BitVec.ofInt (IntKind.bits .u32) (IntKind.wrap .u32 ((BitVec.ofInt (IntKind.bits .u32) r8 ^^^ BitVec.ofInt (IntKind.bits .u32) r9).toNat)) ^^^ BitVec.ofInt (IntKind.bits .u32) r10).toNat))))]) (L' := [(3, 29, [.rowc false (α := Int) 0 E_u32 b3]), (6, 29, [.rowc false (α := Int) 0 E_u32 b6]), (7, 41, [.rowc false (α := Int) 0 E_u32 b7])]) (ob := [(true = true → CX Try.prog 35 [.val (.int .u32 v16), .val (.int .u64 6)] (.val (.int .u32 r8))), (true = true → CX Try.prog 35 [.val (.int .u32 v16), .val (.int .u64 11)] (.val (.int .u32 r9))), (true = true → CX Try.prog 35 [.val (.int .u32 v16), .val (.int .u64 25)] (.val (.int .u32 r10)))]) (by kernel_rfl) (AllP.cons (fun _ => cx (ok_ref05_turn n v16 6 _ hr8)) (AllP.cons (fun _ => cx (ok_ref05_turn n v16 11 _ hr9)) (AllP.cons (fun _ => cx (ok_ref05_turn n v16 25 _ hr10)) AllP.nil))) ?_
      refine To.eq (K' := [(2, .recs (α := Int) 0 E_u32 v2), (3, .elm 3 0 1 0), (6, .elm 6 0 1 0), (7, .elm 7 0 1 0), (12, .val (.int .u32 v12)), (13, .val (.int .u32 v13)), (14, .val (.int .u32 v14)), (15, .val (.int .u32 v15)), (16, .val (.int .u32 v16)), (17, .val (.int .u32 v17)), (18, .val (.int .u32 v18)), (19, .val (.int .u32 v19)), (20, .val (.int .i64 v20)), (21, .val (.int .u32 x11))]) (L' := [(3, 29, [.rowc false (α := Int) 0 E_u32 b3]), (6, 29, [.rowc false (α := Int) 0 E_u32 b6]), (7, 41, [.rowc false (α := Int) 0 E_u32 b7])]) (by cases hx11; rfl) (by cases hx11; rfl) ?_
      refine To.thenN ?_
      refine Wp.seq ?_
      obtain ⟨x12, hx12, h⟩ := lett_of h
      refine Wp.region hΓ [] [] [] [2, 3, 6, 7, 12, 13, 14, 15, 16, 17, 18, 19, 20, 21, 22] [3, 6, 7] (K' := [(2, .recs (α := Int) 0 E_u32 v2), (3, .elm 3 0 1 0), (6, .elm 6 0 1 0), (7, .elm 7 0 1 0), (12, .val (.int .u32 v12)), (13, .val (.int .u32 v13)), (14, .val (.int .u32 v14)), (15, .val (.int .u32 v15)), (16, .val (.int .u32 v16)), (17, .val (.int .u32 v17)), (18, .val (.int .u32 v18)), (19, .val (.int .u32 v19)), (20, .val (.int .i64 v20)), (21, .val (.int .u32 x11)), (22, .val (.int .u32 (IntKind.wrap .u32 ((BitVec.ofInt (IntKind.bits .u32) (IntKind.wrap .u32 ((BitVec.ofInt (IntKind.bits .u32) v16 &&& BitVec.ofInt (IntKind.bits .u32) v17).toNat)) ^^^ BitVec.ofInt (IntKind.bits .u32) (IntKind.wrap .u32 ((BitVec.ofInt (IntKind.bits .u32) (IntKind.wrap .u32 (4294967295 - v16)) &&& BitVec.ofInt (IntKind.bits .u32) v18).toNat))).toNat))))]) (L' := [(3, 29, [.rowc false (α := Int) 0 E_u32 b3]), (6, 29, [.rowc false (α := Int) 0 E_u32 b6]), (7, 41, [.rowc false (α := Int) 0 E_u32 b7])]) (ob := []) (by kernel_rfl) AllP.nil ?_
      refine To.eq (K' := [(2, .recs (α := Int) 0 E_u32 v2), (3, .elm 3 0 1 0), (6, .elm 6 0 1 0), (7, .elm 7 0 1 0), (12, .val (.int .u32 v12)), (13, .val (.int .u32 v13)), (14, .val (.int .u32 v14)), (15, .val (.int .u32 v15)), (16, .val (.int .u32 v16)), (17, .val (.int .u32 v17)), (18, .val (.int .u32 v18)), (19, .val (.int .u32 v19)), (20, .val (.int .i64 v20)), (21, .val (.int .u32 x11)), (22, .val (.int .u32 x12))]) (L' := [(3, 29, [.rowc false (α := Int) 0 E_u32 b3]), (6, 29, [.rowc false (α := Int) 0 E_u32 b6]), (7, 41, [.rowc false (α := Int) 0 E_u32 b7])]) (by cases hx12; rfl) (by cases hx12; rfl) ?_
      refine To.thenN ?_
      refine Wp.seq ?_
      obtain ⟨hc18, h⟩ := chk_of h
      obtain ⟨hc19, h⟩ := chk_of h
      obtain ⟨hc20, h⟩ := chk_of h
      obtain ⟨x13, hx13, h⟩ := lett_of h
      refine Wp.regionD hm hΓ [] [2, 3, 6, 7, 12, 13, 14, 15, 16, 17, 18, 20, 23] [3, 6, 7] (K' := [(2, .recs (α := Int) 0 E_u32 v2), (3, .elm 3 0 1 0), (6, .elm 6 0 1 0), (7, .elm 7 0 1 0), (12, .val (.int .u32 v12)), (13, .val (.int .u32 v13)), (14, .val (.int .u32 v14)), (15, .val (.int .u32 v15)), (16, .val (.int .u32 v16)), (17, .val (.int .u32 v17)), (18, .val (.int .u32 v18)), (20, .val (.int .i64 v20)), (23, .val (.int .u32 (IntKind.wrap .u32 ((IntKind.wrap .u32 ((IntKind.wrap .u32 ((IntKind.wrap .u32 (v19 + x11)) + x12)) + ((v2)[Int.toNat v20]?.getD 0))) + ((b7)[Int.toNat v20]?.getD 0)))))]) (L' := [(3, 29, [.rowc false (α := Int) 0 E_u32 b3]), (6, 29, [.rowc false (α := Int) 0 E_u32 b6]), (7, 41, [.rowc false (α := Int) 0 E_u32 b7])]) (ob := [(decide (0 ≤ v20 ∧ v20 < (List.length v2 : Int))) = true, (decide (0 ≤ v20 ∧ v20 < (64 : Int))) = true, (decide (0 ≤ v20 ∧ v20 < (List.length b7 : Int))) = true]) (by kernel_rfl) (AllP.cons hc18 (AllP.cons hc19 (AllP.cons hc20 AllP.nil))) ?_
      refine To.eq (K' := [(2, .recs (α := Int) 0 E_u32 v2), (3, .elm 3 0 1 0), (6, .elm 6 0 1 0), (7, .elm 7 0 1 0), (12, .val (.int .u32 v12)), (13, .val (.int .u32 v13)), (14, .val (.int .u32 v14)), (15, .val (.int .u32 v15)), (16, .val (.int .u32 v16)), (17, .val (.int .u32 v17)), (18, .val (.int .u32 v18)), (20, .val (.int .i64 v20)), (23, .val (.int .u32 x13))]) (L' := [(3, 29, [.rowc false (α := Int) 0 E_u32 b3]), (6, 29, [.rowc false (α := Int) 0 E_u32 b6]), (7, 41, [.rowc false (α := Int) 0 E_u32 b7])]) (by cases hx13; rfl) (by cases hx13; rfl) ?_
      refine To.thenN ?_
      refine Wp.seq ?_
      obtain ⟨r14, hr14, h⟩ := bind_of h
      obtain ⟨r15, hr15, h⟩ := bind_of h
      obtain ⟨r16, hr16, h⟩ := bind_of h
      obtain ⟨x17, hx17, h⟩ := lett_of h
      refine Wp.region hΓ [] [(1, .val (.int .u32 r14)), (3, .val (.int .u32 r15)), (6, .val (.int .u32 r16))] [] [2, 3, 6, 7, 12, 13, 14, 15, 16, 17, 18, 20, 23, 24] [3, 6, 7] (K' := [(2, .recs (α := Int) 0 E_u32 v2), (3, .elm 3 0 1 0), (6, .elm 6 0 1 0), (7, .elm 7 0 1 0), (12, .val (.int .u32 v12)), (13, .val (.int .u32 v13)), (14, .val (.int .u32 v14)), (15, .val (.int .u32 v15)), (16, .val (.int .u32 v16)), (17, .val (.int .u32 v17)), (18, .val (.int .u32 v18)), (20, .val (.int .i64 v20)), (23, .val (.int .u32 x13)), (24, .val (.int .u32 (IntKind.wrap .u32 ((IntKind.wrap .u32 ((BitVec.ofInt (IntKind.bits .u32) (IntKind.wrap .u32 ((BitVec.ofInt (IntKind.bits .u32) r14 ^^^ BitVec.ofInt (IntKind.bits .u32) r15).toNat)) ^^^ BitVec.ofInt (IntKind.bits .u32) r16).toNat)) + (IntKind.wrap .u32 ((BitVec.ofInt (IntKind.bits .u32) (IntKind.wrap .u32 ((BitVec.ofInt (IntKind.bits .u32) (IntKind.wrap .u32 ((BitVec.ofInt (IntKind.bits .u32) v12 &&& BitVec.ofInt (IntKind.bits .u32) v13).toNat)) ^^^ BitVec.ofInt (IntKind.bits .u32) (IntKind.wrap .u32 ((BitVec.ofInt (IntKind.bits .u32) v12 &&& BitVec.ofInt (IntKind.bits .u32) v14).toNat))).toNat)) ^^^ BitVec.ofInt (IntKind.bits .u32) (IntKind.wrap .u32 ((BitVec.ofInt (IntKind.bits .u32) v13 &&& BitVec.ofInt (IntKind.bits .u32) v14).toNat))).toNat))))))]) (L' := [(3, 29, [.rowc false (α := Int) 0 E_u32 b3]), (6, 29, [.rowc false (α := Int) 0 E_u32 b6]), (7, 41, [.rowc false (α := Int) 0 E_u32 b7])]) (ob := [(true = true → CX Try.prog 35 [.val (.int .u32 v12), .val (.int .u64 2)] (.val (.int .u32 r14))), (true = true → CX Try.prog 35 [.val (.int .u32 v12), .val (.int .u64 13)] (.val (.int .u32 r15))), (true = true → CX Try.prog 35 [.val (.int .u32 v12), .val (.int .u64 22)] (.val (.int .u32 r16)))]) (by kernel_rfl) (AllP.cons (fun _ => cx (ok_ref05_turn n v12 2 _ hr14)) (AllP.cons (fun _ => cx (ok_ref05_turn n v12 13 _ hr15)) (AllP.cons (fun _ => cx (ok_ref05_turn n v12 22 _ hr16)) AllP.nil))) ?_
      refine To.eq (K' := [(2, .recs (α := Int) 0 E_u32 v2), (3, .elm 3 0 1 0), (6, .elm 6 0 1 0), (7, .elm 7 0 1 0), (12, .val (.int .u32 v12)), (13, .val (.int .u32 v13)), (14, .val (.int .u32 v14)), (15, .val (.int .u32 v15)), (16, .val (.int .u32 v16)), (17, .val (.int .u32 v17)), (18, .val (.int .u32 v18)), (20, .val (.int .i64 v20)), (23, .val (.int .u32 x13)), (24, .val (.int .u32 x17))]) (L' := [(3, 29, [.rowc false (α := Int) 0 E_u32 b3]), (6, 29, [.rowc false (α := Int) 0 E_u32 b6]), (7, 41, [.rowc false (α := Int) 0 E_u32 b7])]) (by cases hx17; rfl) (by cases hx17; rfl) ?_
      refine To.thenN ?_
      refine Wp.seq ?_
      refine Wp.region hΓ [] [] [] [2, 3, 6, 7, 12, 13, 14, 15, 16, 17, 19, 20, 23, 24] [3, 6, 7] (K' := [(2, .recs (α := Int) 0 E_u32 v2), (3, .elm 3 0 1 0), (6, .elm 6 0 1 0), (7, .elm 7 0 1 0), (12, .val (.int .u32 v12)), (13, .val (.int .u32 v13)), (14, .val (.int .u32 v14)), (15, .val (.int .u32 v15)), (16, .val (.int .u32 v16)), (17, .val (.int .u32 v17)), (19, .val (.int .u32 v18)), (20, .val (.int .i64 v20)), (23, .val (.int .u32 x13)), (24, .val (.int .u32 x17))]) (L' := [(3, 29, [.rowc false (α := Int) 0 E_u32 b3]), (6, 29, [.rowc false (α := Int) 0 E_u32 b6]), (7, 41, [.rowc false (α := Int) 0 E_u32 b7])]) (ob := []) (by kernel_rfl) AllP.nil ?_
      refine To.thenN ?_
      refine Wp.seq ?_
      refine Wp.region hΓ [] [] [] [2, 3, 6, 7, 12, 13, 14, 15, 16, 18, 19, 20, 23, 24] [3, 6, 7] (K' := [(2, .recs (α := Int) 0 E_u32 v2), (3, .elm 3 0 1 0), (6, .elm 6 0 1 0), (7, .elm 7 0 1 0), (12, .val (.int .u32 v12)), (13, .val (.int .u32 v13)), (14, .val (.int .u32 v14)), (15, .val (.int .u32 v15)), (16, .val (.int .u32 v16)), (18, .val (.int .u32 v17)), (19, .val (.int .u32 v18)), (20, .val (.int .i64 v20)), (23, .val (.int .u32 x13)), (24, .val (.int .u32 x17))]) (L' := [(3, 29, [.rowc false (α := Int) 0 E_u32 b3]), (6, 29, [.rowc false (α := Int) 0 E_u32 b6]), (7, 41, [.rowc false (α := Int) 0 E_u32 b7])]) (ob := []) (by kernel_rfl) AllP.nil ?_
      refine To.thenN ?_
      refine Wp.seq ?_
      refine Wp.region hΓ [] [] [] [2, 3, 6, 7, 12, 13, 14, 15, 17, 18, 19, 20, 23, 24] [3, 6, 7] (K' := [(2, .recs (α := Int) 0 E_u32 v2), (3, .elm 3 0 1 0), (6, .elm 6 0 1 0), (7, .elm 7 0 1 0), (12, .val (.int .u32 v12)), (13, .val (.int .u32 v13)), (14, .val (.int .u32 v14)), (15, .val (.int .u32 v15)), (17, .val (.int .u32 v16)), (18, .val (.int .u32 v17)), (19, .val (.int .u32 v18)), (20, .val (.int .i64 v20)), (23, .val (.int .u32 x13)), (24, .val (.int .u32 x17))]) (L' := [(3, 29, [.rowc false (α := Int) 0 E_u32 b3]), (6, 29, [.rowc false (α := Int) 0 E_u32 b6]), (7, 41, [.rowc false (α := Int) 0 E_u32 b7])]) (ob := []) (by kernel_rfl) AllP.nil ?_
      refine To.thenN ?_
      refine Wp.seq ?_
      refine Wp.region hΓ [] [] [] [2, 3, 6, 7, 12, 13, 14, 16, 17, 18, 19, 20, 23, 24] [3, 6, 7] (K' := [(2, .recs (α := Int) 0 E_u32 v2), (3, .elm 3 0 1 0), (6, .elm 6 0 1 0), (7, .elm 7 0 1 0), (12, .val (.int .u32 v12)), (13, .val (.int .u32 v13)), (14, .val (.int .u32 v14)), (16, .val (.int .u32 (IntKind.wrap .u32 (v15 + x13)))), (17, .val (.int .u32 v16)), (18, .val (.int .u32 v17)), (19, .val (.int .u32 v18)), (20, .val (.int .i64 v20)), (23, .val (.int .u32 x13)), (24, .val (.int .u32 x17))]) (L' := [(3, 29, [.rowc false (α := Int) 0 E_u32 b3]), (6, 29, [.rowc false (α := Int) 0 E_u32 b6]), (7, 41, [.rowc false (α := Int) 0 E_u32 b7])]) (ob := []) (by kernel_rfl) AllP.nil ?_
      refine To.thenN ?_
      refine Wp.seq ?_
      refine Wp.region hΓ [] [] [] [2, 3, 6, 7, 12, 13, 15, 16, 17, 18, 19, 20, 23, 24] [3, 6, 7] (K' := [(2, .recs (α := Int) 0 E_u32 v2), (3, .elm 3 0 1 0), (6, .elm 6 0 1 0), (7, .elm 7 0 1 0), (12, .val (.int .u32 v12)), (13, .val (.int .u32 v13)), (15, .val (.int .u32 v14)), (16, .val (.int .u32 (IntKind.wrap .u32 (v15 + x13)))), (17, .val (.int .u32 v16)), (18, .val (.int .u32 v17)), (19, .val (.int .u32 v18)), (20, .val (.int .i64 v20)), (23, .val (.int .u32 x13)), (24, .val (.int .u32 x17))]) (L' := [(3, 29, [.rowc false (α := Int) 0 E_u32 b3]), (6, 29, [.rowc false (α := Int) 0 E_u32 b6]), (7, 41, [.rowc false (α := Int) 0 E_u32 b7])]) (ob := []) (by kernel_rfl) AllP.nil ?_
      refine To.thenN ?_
      refine Wp.seq ?_
      refine Wp.region hΓ [] [] [] [2, 3, 6, 7, 12, 14, 15, 16, 17, 18, 19, 20, 23, 24] [3, 6, 7] (K' := [(2, .recs (α := Int) 0 E_u32 v2), (3, .elm 3 0 1 0), (6, .elm 6 0 1 0), (7, .elm 7 0 1 0), (12, .val (.int .u32 v12)), (14, .val (.int .u32 v13)), (15, .val (.int .u32 v14)), (16, .val (.int .u32 (IntKind.wrap .u32 (v15 + x13)))), (17, .val (.int .u32 v16)), (18, .val (.int .u32 v17)), (19, .val (.int .u32 v18)), (20, .val (.int .i64 v20)), (23, .val (.int .u32 x13)), (24, .val (.int .u32 x17))]) (L' := [(3, 29, [.rowc false (α := Int) 0 E_u32 b3]), (6, 29, [.rowc false (α := Int) 0 E_u32 b6]), (7, 41, [.rowc false (α := Int) 0 E_u32 b7])]) (ob := []) (by kernel_rfl) AllP.nil ?_
      refine To.thenN ?_
      refine Wp.seq ?_
      refine Wp.region hΓ [] [] [] [2, 3, 6, 7, 13, 14, 15, 16, 17, 18, 19, 20, 23, 24] [3, 6, 7] (K' := [(2, .recs (α := Int) 0 E_u32 v2), (3, .elm 3 0 1 0), (6, .elm 6 0 1 0), (7, .elm 7 0 1 0), (13, .val (.int .u32 v12)), (14, .val (.int .u32 v13)), (15, .val (.int .u32 v14)), (16, .val (.int .u32 (IntKind.wrap .u32 (v15 + x13)))), (17, .val (.int .u32 v16)), (18, .val (.int .u32 v17)), (19, .val (.int .u32 v18)), (20, .val (.int .i64 v20)), (23, .val (.int .u32 x13)), (24, .val (.int .u32 x17))]) (L' := [(3, 29, [.rowc false (α := Int) 0 E_u32 b3]), (6, 29, [.rowc false (α := Int) 0 E_u32 b6]), (7, 41, [.rowc false (α := Int) 0 E_u32 b7])]) (ob := []) (by kernel_rfl) AllP.nil ?_
      refine To.thenN ?_
      refine Wp.region hΓ [] [] [] [2, 3, 6, 7, 12, 13, 14, 15, 16, 17, 18, 19, 20] [3, 6, 7] (K' := [(2, .recs (α := Int) 0 E_u32 v2), (3, .elm 3 0 1 0), (6, .elm 6 0 1 0), (7, .elm 7 0 1 0), (12, .val (.int .u32 (IntKind.wrap .u32 (x13 + x17)))), (13, .val (.int .u32 v12)), (14, .val (.int .u32 v13)), (15, .val (.int .u32 v14)), (16, .val (.int .u32 (IntKind.wrap .u32 (v15 + x13)))), (17, .val (.int .u32 v16)), (18, .val (.int .u32 v17)), (19, .val (.int .u32 v18)), (20, .val (.int .i64 v20))]) (L' := [(3, 29, [.rowc false (α := Int) 0 E_u32 b3]), (6, 29, [.rowc false (α := Int) 0 E_u32 b6]), (7, 41, [.rowc false (α := Int) 0 E_u32 b7])]) (ob := []) (by kernel_rfl) AllP.nil ?_
      refine To.blockN ?_
      refine To.thenN ?_
      refine Wp.region hΓ [] [] [] [2, 3, 6, 7, 12, 13, 14, 15, 16, 17, 18, 19, 20] [3, 6, 7] (K' := [(2, .recs (α := Int) 0 E_u32 v2), (3, .elm 3 0 1 0), (6, .elm 6 0 1 0), (7, .elm 7 0 1 0), (12, .val (.int .u32 (IntKind.wrap .u32 (x13 + x17)))), (13, .val (.int .u32 v12)), (14, .val (.int .u32 v13)), (15, .val (.int .u32 v14)), (16, .val (.int .u32 (IntKind.wrap .u32 (v15 + x13)))), (17, .val (.int .u32 v16)), (18, .val (.int .u32 v17)), (19, .val (.int .u32 v18)), (20, .val (.int .i64 (IntKind.wrap .i64 (v20 + 1))))]) (L' := [(3, 29, [.rowc false (α := Int) 0 E_u32 b3]), (6, 29, [.rowc false (α := Int) 0 E_u32 b6]), (7, 41, [.rowc false (α := Int) 0 E_u32 b7])]) (ob := []) (by kernel_rfl) AllP.nil ?_
      refine To.keep (kk := [2, 3, 6, 7, 12, 13, 14, 15, 16, 17, 18, 19, 20]) (kl := [3, 6, 7]) (K' := [(2, .recs (α := Int) 0 E_u32 v2), (3, .elm 3 0 1 0), (6, .elm 6 0 1 0), (7, .elm 7 0 1 0), (12, .val (.int .u32 (IntKind.wrap .u32 (x13 + x17)))), (13, .val (.int .u32 v12)), (14, .val (.int .u32 v13)), (15, .val (.int .u32 v14)), (16, .val (.int .u32 (IntKind.wrap .u32 (v15 + x13)))), (17, .val (.int .u32 v16)), (18, .val (.int .u32 v17)), (19, .val (.int .u32 v18)), (20, .val (.int .i64 (IntKind.wrap .i64 (v20 + 1))))]) (L' := [(3, 29, [.rowc false (α := Int) 0 E_u32 b3]), (6, 29, [.rowc false (α := Int) 0 E_u32 b6]), (7, 41, [.rowc false (α := Int) 0 E_u32 b7])]) (by kernel_rfl) (by kernel_rfl) ?_
      refine To.again ?_
      exact ih (IntKind.wrap .u32 (x13 + x17)) v12 v13 v14 (IntKind.wrap .u32 (v15 + x13)) v16 v17 v18 (IntKind.wrap .i64 (v20 + 1)) _ h hQ
    · replace h := if_f hb h
      refine Wp.exit ?_
      refine To.thenX ?_
      refine To.thenX ?_
      refine To.keep (kk := [3, 6, 12, 13, 14, 15, 16, 17, 18, 19]) (kl := [3, 6]) (K' := [(3, .elm 3 0 1 0), (6, .elm 6 0 1 0), (12, .val (.int .u32 v12)), (13, .val (.int .u32 v13)), (14, .val (.int .u32 v14)), (15, .val (.int .u32 v15)), (16, .val (.int .u32 v16)), (17, .val (.int .u32 v17)), (18, .val (.int .u32 v18)), (19, .val (.int .u32 v19))]) (L' := [(3, 29, [.rowc false (α := Int) 0 E_u32 b3]), (6, 29, [.rowc false (α := Int) 0 E_u32 b6])]) (by kernel_rfl) (by kernel_rfl) ?_
      cases h
      exact hQ
def ref05_Block (n : Nat) (a0 : List (Int)) (a1 : List UInt8) (a2 : List (Int)) : Option ((List (Int))) :=
  if (decide (List.length a0 = 8)) = true then (if (bif (decide ((List.length a1 : Int) < 64)) then true else (decide ((List.length a2 : Int) < 64))) = true then (if (decide (List.length a0 = 8)) = true then (if (decide (List.length (List.replicate 8 0) = 8)) = true then (if (decide (List.length a0 = 8)) = true then (if (decide (List.length a0 = 8)) = true then some a0 else none) else none) else none) else none)
  else ((ref05_Block_l1 n a1 a2 a0 (List.replicate 8 0) n 0 (List.replicate 64 0)).bind fun o6 =>
  (ref05_Block_l2 n a2 a0 (List.replicate 8 0) n 16 o6).bind fun o7 =>
  if (decide (0 ≤ (0 : Int) ∧ (0 : Int) < (8 : Int))) = true then (if (decide (0 ≤ (0 : Int) ∧ (0 : Int) < (List.length a0 : Int))) = true then (if (decide (0 ≤ (1 : Int) ∧ (1 : Int) < (8 : Int))) = true then (if (decide (0 ≤ (1 : Int) ∧ (1 : Int) < (List.length a0 : Int))) = true then (if (decide (0 ≤ (2 : Int) ∧ (2 : Int) < (8 : Int))) = true then (if (decide (0 ≤ (2 : Int) ∧ (2 : Int) < (List.length a0 : Int))) = true then (if (decide (0 ≤ (3 : Int) ∧ (3 : Int) < (8 : Int))) = true then (if (decide (0 ≤ (3 : Int) ∧ (3 : Int) < (List.length a0 : Int))) = true then (if (decide (0 ≤ (4 : Int) ∧ (4 : Int) < (8 : Int))) = true then (if (decide (0 ≤ (4 : Int) ∧ (4 : Int) < (List.length a0 : Int))) = true then (if (decide (0 ≤ (5 : Int) ∧ (5 : Int) < (8 : Int))) = true then (if (decide (0 ≤ (5 : Int) ∧ (5 : Int) < (List.length a0 : Int))) = true then (if (decide (0 ≤ (6 : Int) ∧ (6 : Int) < (8 : Int))) = true then (if (decide (0 ≤ (6 : Int) ∧ (6 : Int) < (List.length a0 : Int))) = true then (if (decide (0 ≤ (7 : Int) ∧ (7 : Int) < (8 : Int))) = true then (if (decide (0 ≤ (7 : Int) ∧ (7 : Int) < (List.length a0 : Int))) = true then ((ref05_Block_l3 n a2 a0 (List.replicate 8 0) o7 n ((a0)[Int.toNat 0]?.getD 0) ((a0)[Int.toNat 1]?.getD 0) ((a0)[Int.toNat 2]?.getD 0) ((a0)[Int.toNat 3]?.getD 0) ((a0)[Int.toNat 4]?.getD 0) ((a0)[Int.toNat 5]?.getD 0) ((a0)[Int.toNat 6]?.getD 0) ((a0)[Int.toNat 7]?.getD 0) 0).bind fun o8 =>
  if (decide (0 ≤ (0 : Int) ∧ (0 : Int) < (8 : Int))) = true then (if (decide (0 ≤ (0 : Int) ∧ (0 : Int) < (List.length a0 : Int))) = true then (if (decide (0 ≤ (1 : Int) ∧ (1 : Int) < (8 : Int))) = true then (if (decide (0 ≤ (1 : Int) ∧ (1 : Int) < (List.length a0 : Int))) = true then (if (decide (0 ≤ (2 : Int) ∧ (2 : Int) < (8 : Int))) = true then (if (decide (0 ≤ (2 : Int) ∧ (2 : Int) < (List.length a0 : Int))) = true then (if (decide (0 ≤ (3 : Int) ∧ (3 : Int) < (8 : Int))) = true then (if (decide (0 ≤ (3 : Int) ∧ (3 : Int) < (List.length a0 : Int))) = true then (if (decide (0 ≤ (4 : Int) ∧ (4 : Int) < (8 : Int))) = true then (if (decide (0 ≤ (4 : Int) ∧ (4 : Int) < (List.length a0 : Int))) = true then (if (decide (0 ≤ (5 : Int) ∧ (5 : Int) < (8 : Int))) = true then (if (decide (0 ≤ (5 : Int) ∧ (5 : Int) < (List.length a0 : Int))) = true then (if (decide (0 ≤ (6 : Int) ∧ (6 : Int) < (8 : Int))) = true then (if (decide (0 ≤ (6 : Int) ∧ (6 : Int) < (List.length a0 : Int))) = true then (if (decide (0 ≤ (7 : Int) ∧ (7 : Int) < (8 : Int))) = true then (if (decide (0 ≤ (7 : Int) ∧ (7 : Int) < (List.length a0 : Int))) = true then (if (decide (List.length (List.replicate 8 0) = 8)) = true then (lett (([(IntKind.wrap .u32 (((a0)[Int.toNat 0]?.getD 0) + o8.1)), (IntKind.wrap .u32 (((a0)[Int.toNat 1]?.getD 0) + o8.2.1)), (IntKind.wrap .u32 (((a0)[Int.toNat 2]?.getD 0) + o8.2.2.1)), (IntKind.wrap .u32 (((a0)[Int.toNat 3]?.getD 0) + o8.2.2.2.1)), (IntKind.wrap .u32 (((a0)[Int.toNat 4]?.getD 0) + o8.2.2.2.2.1)), (IntKind.wrap .u32 (((a0)[Int.toNat 5]?.getD 0) + o8.2.2.2.2.2.1)), (IntKind.wrap .u32 (((a0)[Int.toNat 6]?.getD 0) + o8.2.2.2.2.2.2.1)), (IntKind.wrap .u32 (((a0)[Int.toNat 7]?.getD 0) + o8.2.2.2.2.2.2.2))] : List (Int)) : List (Int)) fun x9 =>
  if (decide (List.length x9 = 8)) = true then some x9 else none) else none) else none) else none) else none) else none) else none) else none) else none) else none) else none) else none) else none) else none) else none) else none) else none) else none) else none) else none) else none) else none) else none) else none) else none) else none) else none) else none) else none) else none) else none) else none) else none) else none)) else none
theorem ok_ref05_Block (n : Nat) (a0 : List (Int)) (a1 : List UInt8) (a2 : List (Int)) (r : (List (Int))) (h : ref05_Block n a0 a1 a2 = some r) : CallsX Try.prog 27 [.arr (α := Int) 0 E_u32 a0, .str a1, .recs (α := Int) 0 E_u32 a2] (.arr (α := Int) 0 E_u32 r) := by
  unfold ref05_Block at h
  refine callsX_of (fn := Try.f27) (by kernel_rfl) rfl (by kernel_rfl) (Nat.le_of_ble_eq_true (by kernel_rfl)) fun F0 w0 _ => ?_
  refine Wp.keep (kk := [0, 1, 2]) (kl := []) (K' := [(0, .arr (α := Int) 0 E_u32 a0), (1, .str a1), (2, .recs (α := Int) 0 E_u32 a2)]) (L' := []) (by kernel_rfl) (by kernel_rfl) ?_
  refine Wp.seq ?_
  obtain ⟨u1, h⟩ := chk_of h
  refine Wp.region hΓ [] [(0, .recs (α := Int) 0 E_u32 a0)] [] [1, 2, 3, 6] [3, 6] (K' := [(1, .str a1), (2, .recs (α := Int) 0 E_u32 a2), (3, .elm 3 0 1 0), (6, .own 6 0)]) (L' := [(3, 29, [.rowc false (α := Int) 0 E_u32 a0]), (6, 29, [.val (.int .u32 0), .val (.int .u32 0), .val (.int .u32 0), .val (.int .u32 0), .val (.int .u32 0), .val (.int .u32 0), .val (.int .u32 0), .val (.int .u32 0)])]) (ob := [(MkOb 1 (D.cells (.arr (α := Int) 0 E_u32 a0)) 8 (.recs (α := Int) 0 E_u32 a0) ∧ GoodR (.recs (α := Int) 0 E_u32 a0))]) (by kernel_rfl) (AllP.cons (mkOb rfl (of_decide_eq_true u1) rfl (good_E_u32 _)) AllP.nil) ?_
  refine To.pre (St.toRow (t := 29) (l := (List.replicate 8 0)) 6 1 8 (by decide) (by decide) (good_E_u32 _) (by kernel_rfl) (by kernel_rfl) (by kernel_rfl) (by kernel_rfl) (K' := [(1, .str a1), (2, .recs (α := Int) 0 E_u32 a2), (3, .elm 3 0 1 0), (6, .elm 6 0 1 0)]) (L' := [(6, 29, [.rowc false (α := Int) 0 E_u32 (List.replicate 8 0)]), (3, 29, [.rowc false (α := Int) 0 E_u32 a0])]) (by kernel_rfl) (by kernel_rfl)) ?_
  refine To.thenN ?_
  refine Wp.seq ?_
  refine Wp.seq ?_
  refine Wp.region hΓ [] [] [] [1, 2, 3, 6, 32] [3, 6] (K' := [(1, .str a1), (2, .recs (α := Int) 0 E_u32 a2), (3, .elm 3 0 1 0), (6, .elm 6 0 1 0), (32, .val (.bool (bif (decide ((List.length a1 : Int) < 64)) then true else (decide ((List.length a2 : Int) < 64)))))]) (L' := [(3, 29, [.rowc false (α := Int) 0 E_u32 a0]), (6, 29, [.rowc false (α := Int) 0 E_u32 (List.replicate 8 0)])]) (ob := []) (by kernel_rfl) AllP.nil ?_
  refine To.thenN ?_
  refine Wp.cond (b := (bif (decide ((List.length a1 : Int) < 64)) then true else (decide ((List.length a2 : Int) < 64)))) (by kernel_rfl) (fun hb => ?_) (fun hb => ?_)
  · replace h := if_t hb h
    refine Wp.seq ?_
    obtain ⟨hc4, h⟩ := chk_of h
    obtain ⟨hc5, h⟩ := chk_of h
    obtain ⟨u2, h⟩ := chk_of h
    refine Wp.region hΓ [] [(1, .recs (α := Int) 0 E_u32 a0)] [] [6] [6] (K' := [(6, .elm 6 0 1 0)]) (L' := [(6, 29, [.rowc false (α := Int) 0 E_u32 a0])]) (ob := [(decide (List.length a0 = 8)) = true, (decide (List.length (List.replicate 8 0) = 8)) = true, (MkOb 1 (D.cells (.arr (α := Int) 0 E_u32 a0)) 8 (.recs (α := Int) 0 E_u32 a0) ∧ GoodR (.recs (α := Int) 0 E_u32 a0))]) (by kernel_rfl) (AllP.cons hc4 (AllP.cons hc5 (AllP.cons (mkOb rfl (of_decide_eq_true u2) rfl (good_E_u32 _)) AllP.nil))) ?_
    refine To.thenN ?_
    refine Wp.ret ?_
    refine To.thenR ?_
    refine To.keep (kk := [6]) (kl := [6]) (K' := [(6, .elm 6 0 1 0)]) (L' := [(6, 29, [.rowc false (α := Int) 0 E_u32 a0])]) (by kernel_rfl) (by kernel_rfl) ?_
    obtain ⟨hc3, h⟩ := chk_of h
    cases h
    exact To.doneA hΓ (by kernel_rfl) hc3
  · replace h := if_f hb h
    refine Wp.skip ?_
    refine To.thenN ?_
    refine Wp.seq ?_
    refine Wp.region hΓ [] [] [] [1, 2, 3, 6, 7] [3, 6, 7] (K' := [(1, .str a1), (2, .recs (α := Int) 0 E_u32 a2), (3, .elm 3 0 1 0), (6, .elm 6 0 1 0), (7, .own 7 0)]) (L' := [(3, 29, [.rowc false (α := Int) 0 E_u32 a0]), (6, 29, [.rowc false (α := Int) 0 E_u32 (List.replicate 8 0)]), (7, 41, [.val (.int .u32 0), .val (.int .u32 0), .val (.int .u32 0), .val (.int .u32 0), .val (.int .u32 0), .val (.int .u32 0), .val (.int .u32 0), .val (.int .u32 0), .val (.int .u32 0), .val (.int .u32 0), .val (.int .u32 0), .val (.int .u32 0), .val (.int .u32 0), .val (.int .u32 0), .val (.int .u32 0), .val (.int .u32 0), .val (.int .u32 0), .val (.int .u32 0), .val (.int .u32 0), .val (.int .u32 0), .val (.int .u32 0), .val (.int .u32 0), .val (.int .u32 0), .val (.int .u32 0), .val (.int .u32 0), .val (.int .u32 0), .val (.int .u32 0), .val (.int .u32 0), .val (.int .u32 0), .val (.int .u32 0), .val (.int .u32 0), .val (.int .u32 0), .val (.int .u32 0), .val (.int .u32 0), .val (.int .u32 0), .val (.int .u32 0), .val (.int .u32 0), .val (.int .u32 0), .val (.int .u32 0), .val (.int .u32 0), .val (.int .u32 0), .val (.int .u32 0), .val (.int .u32 0), .val (.int .u32 0), .val (.int .u32 0), .val (.int .u32 0), .val (.int .u32 0), .val (.int .u32 0), .val (.int .u32 0), .val (.int .u32 0), .val (.int .u32 0), .val (.int .u32 0), .val (.int .u32 0), .val (.int .u32 0), .val (.int .u32 0), .val (.int .u32 0), .val (.int .u32 0), .val (.int .u32 0), .val (.int .u32 0), .val (.int .u32 0), .val (.int .u32 0), .val (.int .u32 0), .val (.int .u32 0), .val (.int .u32 0)])]) (ob := []) (by kernel_rfl) AllP.nil ?_
    refine To.pre (St.toRow (t := 41) (l := (List.replicate 64 0)) 7 1 64 (by decide) (by decide) (good_E_u32 _) (by kernel_rfl) (by kernel_rfl) (by kernel_rfl) (by kernel_rfl) (K' := [(1, .str a1), (2, .recs (α := Int) 0 E_u32 a2), (3, .elm 3 0 1 0), (6, .elm 6 0 1 0), (7, .elm 7 0 1 0)]) (L' := [(7, 41, [.rowc false (α := Int) 0 E_u32 (List.replicate 64 0)]), (3, 29, [.rowc false (α := Int) 0 E_u32 a0]), (6, 29, [.rowc false (α := Int) 0 E_u32 (List.replicate 8 0)])]) (by kernel_rfl) (by kernel_rfl)) ?_
    refine To.thenN ?_
    refine Wp.seq ?_
    refine Wp.seq ?_
    refine Wp.region hΓ [] [] [] [1, 2, 3, 6, 7, 8] [3, 6, 7] (K' := [(1, .str a1), (2, .recs (α := Int) 0 E_u32 a2), (3, .elm 3 0 1 0), (6, .elm 6 0 1 0), (7, .elm 7 0 1 0), (8, .val (.int .i64 0))]) (L' := [(3, 29, [.rowc false (α := Int) 0 E_u32 a0]), (6, 29, [.rowc false (α := Int) 0 E_u32 (List.replicate 8 0)]), (7, 41, [.rowc false (α := Int) 0 E_u32 (List.replicate 64 0)])]) (ob := []) (by kernel_rfl) AllP.nil ?_
    refine To.thenN ?_
    refine Wp.block ?_
    obtain ⟨o6, ho6, h⟩ := bind_of h
    refine Wp.keep (kk := [1, 2, 3, 6, 7, 8]) (kl := [3, 6, 7]) (K' := [(1, .str a1), (2, .recs (α := Int) 0 E_u32 a2), (3, .elm 3 0 1 0), (6, .elm 6 0 1 0), (7, .elm 7 0 1 0), (8, .val (.int .i64 0))]) (L' := [(3, 29, [.rowc false (α := Int) 0 E_u32 a0]), (6, 29, [.rowc false (α := Int) 0 E_u32 (List.replicate 8 0)]), (7, 41, [.rowc false (α := Int) 0 E_u32 (List.replicate 64 0)])]) (by kernel_rfl) (by kernel_rfl) ?_
    refine Wp.loopL ?_
    refine ok_ref05_Block_l1 n a1 a2 a0 (List.replicate 8 0) n 0 (List.replicate 64 0) o6 ho6 ?_
    refine To.blockX ?_
    refine To.thenN ?_
    refine Wp.seq ?_
    refine Wp.seq ?_
    refine Wp.region hΓ [] [] [] [2, 3, 6, 7, 9] [3, 6, 7] (K' := [(2, .recs (α := Int) 0 E_u32 a2), (3, .elm 3 0 1 0), (6, .elm 6 0 1 0), (7, .elm 7 0 1 0), (9, .val (.int .i64 16))]) (L' := [(3, 29, [.rowc false (α := Int) 0 E_u32 a0]), (6, 29, [.rowc false (α := Int) 0 E_u32 (List.replicate 8 0)]), (7, 41, [.rowc false (α := Int) 0 E_u32 o6])]) (ob := []) (by kernel_rfl) AllP.nil ?_
    refine To.thenN ?_
    refine Wp.block ?_
    obtain ⟨o7, ho7, h⟩ := bind_of h
    refine Wp.keep (kk := [2, 3, 6, 7, 9]) (kl := [3, 6, 7]) (K' := [(2, .recs (α := Int) 0 E_u32 a2), (3, .elm 3 0 1 0), (6, .elm 6 0 1 0), (7, .elm 7 0 1 0), (9, .val (.int .i64 16))]) (L' := [(3, 29, [.rowc false (α := Int) 0 E_u32 a0]), (6, 29, [.rowc false (α := Int) 0 E_u32 (List.replicate 8 0)]), (7, 41, [.rowc false (α := Int) 0 E_u32 o6])]) (by kernel_rfl) (by kernel_rfl) ?_
    refine Wp.loopL ?_
    refine ok_ref05_Block_l2 n a2 a0 (List.replicate 8 0) n 16 o6 o7 ho7 ?_
    refine To.blockX ?_
    refine To.thenN ?_
    refine Wp.seq ?_
    obtain ⟨hc28, h⟩ := chk_of h
    obtain ⟨hc29, h⟩ := chk_of h
    obtain ⟨hc30, h⟩ := chk_of h
    obtain ⟨hc31, h⟩ := chk_of h
    obtain ⟨hc32, h⟩ := chk_of h
    obtain ⟨hc33, h⟩ := chk_of h
    obtain ⟨hc34, h⟩ := chk_of h
    obtain ⟨hc35, h⟩ := chk_of h
    obtain ⟨hc36, h⟩ := chk_of h
    obtain ⟨hc37, h⟩ := chk_of h
    obtain ⟨hc38, h⟩ := chk_of h
    obtain ⟨hc39, h⟩ := chk_of h
    obtain ⟨hc40, h⟩ := chk_of h
    obtain ⟨hc41, h⟩ := chk_of h
    obtain ⟨hc42, h⟩ := chk_of h
    obtain ⟨hc43, h⟩ := chk_of h
    refine Wp.regionD hm hΓ [] [2, 3, 6, 7, 12, 13, 14, 15, 16, 17, 18, 19] [3, 6, 7] (K' := [(2, .recs (α := Int) 0 E_u32 a2), (3, .elm 3 0 1 0), (6, .elm 6 0 1 0), (7, .elm 7 0 1 0), (12, .val (.int .u32 ((a0)[Int.toNat 0]?.getD 0))), (13, .val (.int .u32 ((a0)[Int.toNat 1]?.getD 0))), (14, .val (.int .u32 ((a0)[Int.toNat 2]?.getD 0))), (15, .val (.int .u32 ((a0)[Int.toNat 3]?.getD 0))), (16, .val (.int .u32 ((a0)[Int.toNat 4]?.getD 0))), (17, .val (.int .u32 ((a0)[Int.toNat 5]?.getD 0))), (18, .val (.int .u32 ((a0)[Int.toNat 6]?.getD 0))), (19, .val (.int .u32 ((a0)[Int.toNat 7]?.getD 0)))]) (L' := [(3, 29, [.rowc false (α := Int) 0 E_u32 a0]), (6, 29, [.rowc false (α := Int) 0 E_u32 (List.replicate 8 0)]), (7, 41, [.rowc false (α := Int) 0 E_u32 o7])]) (ob := [(decide (0 ≤ (0 : Int) ∧ (0 : Int) < (8 : Int))) = true, (decide (0 ≤ (0 : Int) ∧ (0 : Int) < (List.length a0 : Int))) = true, (decide (0 ≤ (1 : Int) ∧ (1 : Int) < (8 : Int))) = true, (decide (0 ≤ (1 : Int) ∧ (1 : Int) < (List.length a0 : Int))) = true, (decide (0 ≤ (2 : Int) ∧ (2 : Int) < (8 : Int))) = true, (decide (0 ≤ (2 : Int) ∧ (2 : Int) < (List.length a0 : Int))) = true, (decide (0 ≤ (3 : Int) ∧ (3 : Int) < (8 : Int))) = true, (decide (0 ≤ (3 : Int) ∧ (3 : Int) < (List.length a0 : Int))) = true, (decide (0 ≤ (4 : Int) ∧ (4 : Int) < (8 : Int))) = true, (decide (0 ≤ (4 : Int) ∧ (4 : Int) < (List.length a0 : Int))) = true, (decide (0 ≤ (5 : Int) ∧ (5 : Int) < (8 : Int))) = true, (decide (0 ≤ (5 : Int) ∧ (5 : Int) < (List.length a0 : Int))) = true, (decide (0 ≤ (6 : Int) ∧ (6 : Int) < (8 : Int))) = true, (decide (0 ≤ (6 : Int) ∧ (6 : Int) < (List.length a0 : Int))) = true, (decide (0 ≤ (7 : Int) ∧ (7 : Int) < (8 : Int))) = true, (decide (0 ≤ (7 : Int) ∧ (7 : Int) < (List.length a0 : Int))) = true]) (by kernel_rfl) (AllP.cons hc28 (AllP.cons hc29 (AllP.cons hc30 (AllP.cons hc31 (AllP.cons hc32 (AllP.cons hc33 (AllP.cons hc34 (AllP.cons hc35 (AllP.cons hc36 (AllP.cons hc37 (AllP.cons hc38 (AllP.cons hc39 (AllP.cons hc40 (AllP.cons hc41 (AllP.cons hc42 (AllP.cons hc43 AllP.nil)))))))))))))))) ?_
    refine To.thenN ?_
    refine Wp.seq ?_
    refine Wp.seq ?_
    refine Wp.region hΓ [] [] [] [2, 3, 6, 7, 12, 13, 14, 15, 16, 17, 18, 19, 20] [3, 6, 7] (K' := [(2, .recs (α := Int) 0 E_u32 a2), (3, .elm 3 0 1 0), (6, .elm 6 0 1 0), (7, .elm 7 0 1 0), (12, .val (.int .u32 ((a0)[Int.toNat 0]?.getD 0))), (13, .val (.int .u32 ((a0)[Int.toNat 1]?.getD 0))), (14, .val (.int .u32 ((a0)[Int.toNat 2]?.getD 0))), (15, .val (.int .u32 ((a0)[Int.toNat 3]?.getD 0))), (16, .val (.int .u32 ((a0)[Int.toNat 4]?.getD 0))), (17, .val (.int .u32 ((a0)[Int.toNat 5]?.getD 0))), (18, .val (.int .u32 ((a0)[Int.toNat 6]?.getD 0))), (19, .val (.int .u32 ((a0)[Int.toNat 7]?.getD 0))), (20, .val (.int .i64 0))]) (L' := [(3, 29, [.rowc false (α := Int) 0 E_u32 a0]), (6, 29, [.rowc false (α := Int) 0 E_u32 (List.replicate 8 0)]), (7, 41, [.rowc false (α := Int) 0 E_u32 o7])]) (ob := []) (by kernel_rfl) AllP.nil ?_
    refine To.thenN ?_
    refine Wp.block ?_
    obtain ⟨o8, ho8, h⟩ := bind_of h
    refine Wp.keep (kk := [2, 3, 6, 7, 12, 13, 14, 15, 16, 17, 18, 19, 20]) (kl := [3, 6, 7]) (K' := [(2, .recs (α := Int) 0 E_u32 a2), (3, .elm 3 0 1 0), (6, .elm 6 0 1 0), (7, .elm 7 0 1 0), (12, .val (.int .u32 ((a0)[Int.toNat 0]?.getD 0))), (13, .val (.int .u32 ((a0)[Int.toNat 1]?.getD 0))), (14, .val (.int .u32 ((a0)[Int.toNat 2]?.getD 0))), (15, .val (.int .u32 ((a0)[Int.toNat 3]?.getD 0))), (16, .val (.int .u32 ((a0)[Int.toNat 4]?.getD 0))), (17, .val (.int .u32 ((a0)[Int.toNat 5]?.getD 0))), (18, .val (.int .u32 ((a0)[Int.toNat 6]?.getD 0))), (19, .val (.int .u32 ((a0)[Int.toNat 7]?.getD 0))), (20, .val (.int .i64 0))]) (L' := [(3, 29, [.rowc false (α := Int) 0 E_u32 a0]), (6, 29, [.rowc false (α := Int) 0 E_u32 (List.replicate 8 0)]), (7, 41, [.rowc false (α := Int) 0 E_u32 o7])]) (by kernel_rfl) (by kernel_rfl) ?_
    refine Wp.loopL ?_
    refine ok_ref05_Block_l3 n a2 a0 (List.replicate 8 0) o7 n ((a0)[Int.toNat 0]?.getD 0) ((a0)[Int.toNat 1]?.getD 0) ((a0)[Int.toNat 2]?.getD 0) ((a0)[Int.toNat 3]?.getD 0) ((a0)[Int.toNat 4]?.getD 0) ((a0)[Int.toNat 5]?.getD 0) ((a0)[Int.toNat 6]?.getD 0) ((a0)[Int.toNat 7]?.getD 0) 0 o8 ho8 ?_
    refine To.blockX ?_
    refine To.thenN ?_
    refine Wp.seq ?_
    obtain ⟨hc11, h⟩ := chk_of h
    obtain ⟨hc12, h⟩ := chk_of h
    obtain ⟨hc13, h⟩ := chk_of h
    obtain ⟨hc14, h⟩ := chk_of h
    obtain ⟨hc15, h⟩ := chk_of h
    obtain ⟨hc16, h⟩ := chk_of h
    obtain ⟨hc17, h⟩ := chk_of h
    obtain ⟨hc18, h⟩ := chk_of h
    obtain ⟨hc19, h⟩ := chk_of h
    obtain ⟨hc20, h⟩ := chk_of h
    obtain ⟨hc21, h⟩ := chk_of h
    obtain ⟨hc22, h⟩ := chk_of h
    obtain ⟨hc23, h⟩ := chk_of h
    obtain ⟨hc24, h⟩ := chk_of h
    obtain ⟨hc25, h⟩ := chk_of h
    obtain ⟨hc26, h⟩ := chk_of h
    obtain ⟨hc27, h⟩ := chk_of h
    obtain ⟨x9, hx9, h⟩ := lett_of h
    refine Wp.region hΓ [] [(33, .recs (α := Int) 0 E_u32 ([(IntKind.wrap .u32 (((a0)[Int.toNat 0]?.getD 0) + o8.1)), (IntKind.wrap .u32 (((a0)[Int.toNat 1]?.getD 0) + o8.2.1)), (IntKind.wrap .u32 (((a0)[Int.toNat 2]?.getD 0) + o8.2.2.1)), (IntKind.wrap .u32 (((a0)[Int.toNat 3]?.getD 0) + o8.2.2.2.1)), (IntKind.wrap .u32 (((a0)[Int.toNat 4]?.getD 0) + o8.2.2.2.2.1)), (IntKind.wrap .u32 (((a0)[Int.toNat 5]?.getD 0) + o8.2.2.2.2.2.1)), (IntKind.wrap .u32 (((a0)[Int.toNat 6]?.getD 0) + o8.2.2.2.2.2.2.1)), (IntKind.wrap .u32 (((a0)[Int.toNat 7]?.getD 0) + o8.2.2.2.2.2.2.2))] : List (Int)))] [] [6] [6] (K' := [(6, .elm 6 0 1 0)]) (L' := [(6, 29, [.rowc false (α := Int) 0 E_u32 ([(IntKind.wrap .u32 (((a0)[Int.toNat 0]?.getD 0) + o8.1)), (IntKind.wrap .u32 (((a0)[Int.toNat 1]?.getD 0) + o8.2.1)), (IntKind.wrap .u32 (((a0)[Int.toNat 2]?.getD 0) + o8.2.2.1)), (IntKind.wrap .u32 (((a0)[Int.toNat 3]?.getD 0) + o8.2.2.2.1)), (IntKind.wrap .u32 (((a0)[Int.toNat 4]?.getD 0) + o8.2.2.2.2.1)), (IntKind.wrap .u32 (((a0)[Int.toNat 5]?.getD 0) + o8.2.2.2.2.2.1)), (IntKind.wrap .u32 (((a0)[Int.toNat 6]?.getD 0) + o8.2.2.2.2.2.2.1)), (IntKind.wrap .u32 (((a0)[Int.toNat 7]?.getD 0) + o8.2.2.2.2.2.2.2))] : List (Int))])]) (ob := [(decide (0 ≤ (0 : Int) ∧ (0 : Int) < (8 : Int))) = true, (decide (0 ≤ (0 : Int) ∧ (0 : Int) < (List.length a0 : Int))) = true, (decide (0 ≤ (1 : Int) ∧ (1 : Int) < (8 : Int))) = true, (decide (0 ≤ (1 : Int) ∧ (1 : Int) < (List.length a0 : Int))) = true, (decide (0 ≤ (2 : Int) ∧ (2 : Int) < (8 : Int))) = true, (decide (0 ≤ (2 : Int) ∧ (2 : Int) < (List.length a0 : Int))) = true, (decide (0 ≤ (3 : Int) ∧ (3 : Int) < (8 : Int))) = true, (decide (0 ≤ (3 : Int) ∧ (3 : Int) < (List.length a0 : Int))) = true, (decide (0 ≤ (4 : Int) ∧ (4 : Int) < (8 : Int))) = true, (decide (0 ≤ (4 : Int) ∧ (4 : Int) < (List.length a0 : Int))) = true, (decide (0 ≤ (5 : Int) ∧ (5 : Int) < (8 : Int))) = true, (decide (0 ≤ (5 : Int) ∧ (5 : Int) < (List.length a0 : Int))) = true, (decide (0 ≤ (6 : Int) ∧ (6 : Int) < (8 : Int))) = true, (decide (0 ≤ (6 : Int) ∧ (6 : Int) < (List.length a0 : Int))) = true, (decide (0 ≤ (7 : Int) ∧ (7 : Int) < (8 : Int))) = true, (decide (0 ≤ (7 : Int) ∧ (7 : Int) < (List.length a0 : Int))) = true, (decide (List.length (List.replicate 8 0) = 8)) = true, (MkOb 1 (D.cells (.agg [.val (.int .u32 (IntKind.wrap .u32 (((a0)[Int.toNat 0]?.getD 0) + o8.1))), .val (.int .u32 (IntKind.wrap .u32 (((a0)[Int.toNat 1]?.getD 0) + o8.2.1))), .val (.int .u32 (IntKind.wrap .u32 (((a0)[Int.toNat 2]?.getD 0) + o8.2.2.1))), .val (.int .u32 (IntKind.wrap .u32 (((a0)[Int.toNat 3]?.getD 0) + o8.2.2.2.1))), .val (.int .u32 (IntKind.wrap .u32 (((a0)[Int.toNat 4]?.getD 0) + o8.2.2.2.2.1))), .val (.int .u32 (IntKind.wrap .u32 (((a0)[Int.toNat 5]?.getD 0) + o8.2.2.2.2.2.1))), .val (.int .u32 (IntKind.wrap .u32 (((a0)[Int.toNat 6]?.getD 0) + o8.2.2.2.2.2.2.1))), .val (.int .u32 (IntKind.wrap .u32 (((a0)[Int.toNat 7]?.getD 0) + o8.2.2.2.2.2.2.2)))])) 8 (.recs (α := Int) 0 E_u32 ([(IntKind.wrap .u32 (((a0)[Int.toNat 0]?.getD 0) + o8.1)), (IntKind.wrap .u32 (((a0)[Int.toNat 1]?.getD 0) + o8.2.1)), (IntKind.wrap .u32 (((a0)[Int.toNat 2]?.getD 0) + o8.2.2.1)), (IntKind.wrap .u32 (((a0)[Int.toNat 3]?.getD 0) + o8.2.2.2.1)), (IntKind.wrap .u32 (((a0)[Int.toNat 4]?.getD 0) + o8.2.2.2.2.1)), (IntKind.wrap .u32 (((a0)[Int.toNat 5]?.getD 0) + o8.2.2.2.2.2.1)), (IntKind.wrap .u32 (((a0)[Int.toNat 6]?.getD 0) + o8.2.2.2.2.2.2.1)), (IntKind.wrap .u32 (((a0)[Int.toNat 7]?.getD 0) + o8.2.2.2.2.2.2.2))] : List (Int))) ∧ GoodR (.recs (α := Int) 0 E_u32 ([(IntKind.wrap .u32 (((a0)[Int.toNat 0]?.getD 0) + o8.1)), (IntKind.wrap .u32 (((a0)[Int.toNat 1]?.getD 0) + o8.2.1)), (IntKind.wrap .u32 (((a0)[Int.toNat 2]?.getD 0) + o8.2.2.1)), (IntKind.wrap .u32 (((a0)[Int.toNat 3]?.getD 0) + o8.2.2.2.1)), (IntKind.wrap .u32 (((a0)[Int.toNat 4]?.getD 0) + o8.2.2.2.2.1)), (IntKind.wrap .u32 (((a0)[Int.toNat 5]?.getD 0) + o8.2.2.2.2.2.1)), (IntKind.wrap .u32 (((a0)[Int.toNat 6]?.getD 0) + o8.2.2.2.2.2.2.1)), (IntKind.wrap .u32 (((a0)[Int.toNat 7]?.getD 0) + o8.2.2.2.2.2.2.2))] : List (Int))))]) (by kernel_rfl) (AllP.cons hc11 (AllP.cons hc12 (AllP.cons hc13 (AllP.cons hc14 (AllP.cons hc15 (AllP.cons hc16 (AllP.cons hc17 (AllP.cons hc18 (AllP.cons hc19 (AllP.cons hc20 (AllP.cons hc21 (AllP.cons hc22 (AllP.cons hc23 (AllP.cons hc24 (AllP.cons hc25 (AllP.cons hc26 (AllP.cons hc27 (AllP.cons (mkOb (by kernel_rfl) rfl (by kernel_rfl) (good_E_u32 _)) AllP.nil)))))))))))))))))) ?_
    refine To.eq (K' := [(6, .elm 6 0 1 0)]) (L' := [(6, 29, [.rowc false (α := Int) 0 E_u32 x9])]) (by cases hx9; rfl) (by cases hx9; rfl) ?_
    refine To.thenN ?_
    refine Wp.ret ?_
    refine To.keep (kk := [6]) (kl := [6]) (K' := [(6, .elm 6 0 1 0)]) (L' := [(6, 29, [.rowc false (α := Int) 0 E_u32 x9])]) (by kernel_rfl) (by kernel_rfl) ?_
    obtain ⟨hc10, h⟩ := chk_of h
    cases h
    exact To.doneA hΓ (by kernel_rfl) hc10
def ref05_Blocks (n : Nat) (a0 : List (Int)) (a1 : List UInt8) : Option ((List (Int))) :=
  if (decide (List.length a0 = 8)) = true then (if (decide (List.length a0 = 8)) = true then ((ref05_constants n).bind fun r2 =>
  (ref05_Block n a0 a1 r2).bind fun r3 =>
  if (decide (List.length (List.replicate 8 0) = 8)) = true then (if (decide (List.length r3 = 8)) = true then (if (decide (List.length r3 = 8)) = true then some r3 else none) else none) else none) else none) else none
theorem ok_ref05_Blocks (n : Nat) (a0 : List (Int)) (a1 : List UInt8) (r : (List (Int))) (h : ref05_Blocks n a0 a1 = some r) : CallsX Try.prog 14 [.arr (α := Int) 0 E_u32 a0, .str a1] (.arr (α := Int) 0 E_u32 r) := by
  unfold ref05_Blocks at h
  refine callsX_of (fn := Try.f14) (by kernel_rfl) rfl (by kernel_rfl) (Nat.le_of_ble_eq_true (by kernel_rfl)) fun F0 w0 _ => ?_
  refine Wp.keep (kk := [0, 1]) (kl := []) (K' := [(0, .arr (α := Int) 0 E_u32 a0), (1, .str a1)]) (L' := []) (by kernel_rfl) (by kernel_rfl) ?_
  refine Wp.seq ?_
  obtain ⟨u1, h⟩ := chk_of h
  refine Wp.region hΓ [] [(0, .recs (α := Int) 0 E_u32 a0)] [] [1, 2, 4] [2, 4] (K' := [(1, .str a1), (2, .elm 2 0 1 0), (4, .own 4 0)]) (L' := [(2, 29, [.rowc false (α := Int) 0 E_u32 a0]), (4, 29, [.val (.int .u32 0), .val (.int .u32 0), .val (.int .u32 0), .val (.int .u32 0), .val (.int .u32 0), .val (.int .u32 0), .val (.int .u32 0), .val (.int .u32 0)])]) (ob := [(MkOb 1 (D.cells (.arr (α := Int) 0 E_u32 a0)) 8 (.recs (α := Int) 0 E_u32 a0) ∧ GoodR (.recs (α := Int) 0 E_u32 a0))]) (by kernel_rfl) (AllP.cons (mkOb rfl (of_decide_eq_true u1) rfl (good_E_u32 _)) AllP.nil) ?_
  refine To.pre (St.toRow (t := 29) (l := (List.replicate 8 0)) 4 1 8 (by decide) (by decide) (good_E_u32 _) (by kernel_rfl) (by kernel_rfl) (by kernel_rfl) (by kernel_rfl) (K' := [(1, .str a1), (2, .elm 2 0 1 0), (4, .elm 4 0 1 0)]) (L' := [(4, 29, [.rowc false (α := Int) 0 E_u32 (List.replicate 8 0)]), (2, 29, [.rowc false (α := Int) 0 E_u32 a0])]) (by kernel_rfl) (by kernel_rfl)) ?_
  refine To.thenN ?_
  refine Wp.seq ?_
  obtain ⟨hc6, h⟩ := chk_of h
  obtain ⟨r2, hr2, h⟩ := bind_of h
  obtain ⟨r3, hr3, h⟩ := bind_of h
  obtain ⟨hc7, h⟩ := chk_of h
  obtain ⟨u4, h⟩ := chk_of h
  refine Wp.regionS hm hΓ 3 [] [(2, .recs (α := Int) 0 E_u32 r2), (3, .arr (α := Int) 0 E_u32 r3), (4, .recs (α := Int) 0 E_u32 r3)] [] [4] [4] (K' := [(4, .elm 4 0 1 0)]) (L' := [(4, 29, [.rowc false (α := Int) 0 E_u32 r3])]) (ob := [(decide (List.length a0 = 8)) = true, (true = true → CX Try.prog 28 [] (.recs (α := Int) 0 E_u32 r2)), (true = true → CX Try.prog 27 [.arr (α := Int) 0 E_u32 a0, .str a1, .recs (α := Int) 0 E_u32 r2] (.arr (α := Int) 0 E_u32 r3)), (decide (List.length (List.replicate 8 0) = 8)) = true, (MkOb 1 (D.cells (.arr (α := Int) 0 E_u32 r3)) 8 (.recs (α := Int) 0 E_u32 r3) ∧ GoodR (.recs (α := Int) 0 E_u32 r3))]) (by kernel_rfl) (AllP.cons hc6 (AllP.cons (fun _ => cx (ok_ref05_constants n  _ hr2)) (AllP.cons (fun _ => cx (ok_ref05_Block n a0 a1 r2 _ hr3)) (AllP.cons hc7 (AllP.cons (mkOb rfl (of_decide_eq_true u4) rfl (good_E_u32 _)) AllP.nil))))) ?_
  refine To.thenN ?_
  refine Wp.ret ?_
  refine To.keep (kk := [4]) (kl := [4]) (K' := [(4, .elm 4 0 1 0)]) (L' := [(4, 29, [.rowc false (α := Int) 0 E_u32 r3])]) (by kernel_rfl) (by kernel_rfl) ?_
  obtain ⟨hc5, h⟩ := chk_of h
  cases h
  exact To.doneA hΓ (by kernel_rfl) hc5
def law05_ShaBlocks (n : Nat) (a0 : List (Int)) (a1 : List UInt8) : Option (Bool) :=
  if (decide (List.length a0 = 8)) = true then (if (decide ((List.length a1 : Int) > 2000)) = true then ((law05_awake n).bind fun r2 =>
  some r2)
  else (if (decide (List.length a0 = 8)) = true then ((sha_Block n a0 a1).bind fun r3 =>
  (ref05_Blocks n a0 a1).bind fun r4 =>
  if (decide (List.length r3 = 8)) = true then (if (decide (List.length r4 = 8)) = true then (((if ((r3 == r4) == true) = true then law05_awake n else some false)).bind fun r7 =>
  some (bif (r3 == r4) then r7 else false)) else none) else none) else none)) else none
theorem ok_law05_ShaBlocks (n : Nat) (a0 : List (Int)) (a1 : List UInt8) (r : Bool) (h : law05_ShaBlocks n a0 a1 = some r) : CallsX Try.prog 4 [.arr (α := Int) 0 E_u32 a0, .str a1] (.val (.bool r)) := by
  unfold law05_ShaBlocks at h
  refine callsX_of (fn := Try.f4) (by kernel_rfl) rfl (by kernel_rfl) (Nat.le_of_ble_eq_true (by kernel_rfl)) fun F0 w0 _ => ?_
  refine Wp.keep (kk := [0, 1]) (kl := []) (K' := [(0, .arr (α := Int) 0 E_u32 a0), (1, .str a1)]) (L' := []) (by kernel_rfl) (by kernel_rfl) ?_
  refine Wp.seq ?_
  obtain ⟨u1, h⟩ := chk_of h
  refine Wp.region hΓ [] [(0, .recs (α := Int) 0 E_u32 a0)] [] [1, 2] [2] (K' := [(1, .str a1), (2, .elm 2 0 1 0)]) (L' := [(2, 30, [.rowc false (α := Int) 0 E_u32 a0])]) (ob := [(MkOb 1 (D.cells (.arr (α := Int) 0 E_u32 a0)) 8 (.recs (α := Int) 0 E_u32 a0) ∧ GoodR (.recs (α := Int) 0 E_u32 a0))]) (by kernel_rfl) (AllP.cons (mkOb rfl (of_decide_eq_true u1) rfl (good_E_u32 _)) AllP.nil) ?_
  refine To.thenN ?_
  refine Wp.seq ?_
  refine Wp.seq ?_
  refine Wp.region hΓ [] [] [] [1, 2, 7] [2] (K' := [(1, .str a1), (2, .elm 2 0 1 0), (7, .val (.bool (decide ((List.length a1 : Int) > 2000))))]) (L' := [(2, 30, [.rowc false (α := Int) 0 E_u32 a0])]) (ob := []) (by kernel_rfl) AllP.nil ?_
  refine To.thenN ?_
  refine Wp.cond (b := (decide ((List.length a1 : Int) > 2000))) (by kernel_rfl) (fun hb => ?_) (fun hb => ?_)
  · replace h := if_t hb h
    refine Wp.seq ?_
    obtain ⟨r2, hr2, h⟩ := bind_of h
    refine Wp.region hΓ [] [(0, .val (.bool r2))] [] [4] [] (K' := [(4, .val (.bool r2))]) (L' := []) (ob := [(true = true → CX Try.prog 12 [] (.val (.bool r2)))]) (by kernel_rfl) (AllP.cons (fun _ => cx (ok_law05_awake n  _ hr2)) AllP.nil) ?_
    refine To.thenN ?_
    refine Wp.ret ?_
    refine To.thenR ?_
    refine To.keep (kk := [4]) (kl := []) (K' := [(4, .val (.bool r2))]) (L' := []) (by kernel_rfl) (by kernel_rfl) ?_
    cases h
    exact To.done hΓ (by kernel_rfl)
  · replace h := if_f hb h
    refine Wp.skip ?_
    refine To.thenN ?_
    refine Wp.seq ?_
    obtain ⟨hc8, h⟩ := chk_of h
    obtain ⟨r3, hr3, h⟩ := bind_of h
    obtain ⟨r4, hr4, h⟩ := bind_of h
    obtain ⟨u5, h⟩ := chk_of h
    obtain ⟨u6, h⟩ := chk_of h
    obtain ⟨r7, hr7, h⟩ := bind_of h
    refine Wp.regionD hm hΓ [(2, .arr (α := Int) 0 E_u32 r3), (5, .arr (α := Int) 0 E_u32 r4), (6, .val (.bool (r3 == r4))), (8, .val (.bool r7))] [4] [] (K' := [(4, .val (.bool (bif (r3 == r4) then r7 else false)))]) (L' := []) (ob := [(decide (List.length a0 = 8)) = true, (true = true → CX Try.prog 13 [.arr (α := Int) 0 E_u32 a0, .str a1] (.arr (α := Int) 0 E_u32 r3)), (decide (List.length a0 = 8)) = true, (true = true → CX Try.prog 14 [.arr (α := Int) 0 E_u32 a0, .str a1] (.arr (α := Int) 0 E_u32 r4)), (true = true → EqOb [0, 0, 0, 0, 0, 0, 0, 0] false (List.flatMap E_u32 r3) (List.flatMap E_u32 r4) (.val (.bool (r3 == r4)))), (((r3 == r4) == true) = true → CX Try.prog 12 [] (.val (.bool r7)))]) (by kernel_rfl) (AllP.cons hc8 (AllP.cons (fun _ => cx (ok_sha_Block n a0 a1 _ hr3)) (AllP.cons hc8 (AllP.cons (fun _ => cx (ok_ref05_Blocks n a0 a1 _ hr4)) (AllP.cons (fun _ => eqOb_ints u5 u6) (AllP.cons (fun hg => cx (ok_law05_awake n  _ (if_t hg hr7))) AllP.nil)))))) ?_
    refine To.thenN ?_
    refine Wp.ret ?_
    refine To.keep (kk := [4]) (kl := []) (K' := [(4, .val (.bool (bif (r3 == r4) then r7 else false)))]) (L' := []) (by kernel_rfl) (by kernel_rfl) ?_
    cases h
    exact To.done hΓ (by kernel_rfl)
def sha_Pad_l1 (n : Nat) (v0 : List UInt8) (v3 : Int) (v4 : Int) : Nat → Int → (List (UInt8)) → Option ((List (UInt8)))
  | 0, _, _ => none
  | k + 1, v13, b5 => if (decide (v13 < 8)) = true then (if (decide (0 ≤ (IntKind.wrap .i64 (56 - (IntKind.wrap .i64 (8 * v13)))))) = true then (if (decide (0 ≤ v13 ∧ v13 < (8 : Int))) = true then (if (decide (0 ≤ (IntKind.wrap .u8 ((Int.fdiv (IntKind.wrap .u64 ((IntKind.wrap .u64 (v3)) * 8)) (2 ^ (min (Int.toNat (IntKind.wrap .i64 (56 - (IntKind.wrap .i64 (8 * v13))))) (IntKind.bits .u64)))))) ∧ (IntKind.wrap .u8 ((Int.fdiv (IntKind.wrap .u64 ((IntKind.wrap .u64 (v3)) * 8)) (2 ^ (min (Int.toNat (IntKind.wrap .i64 (56 - (IntKind.wrap .i64 (8 * v13))))) (IntKind.bits .u64)))))) < 256)) = true then (if (decide (0 ≤ v13 ∧ v13 < (List.length b5 : Int))) = true then (lett ((List.set b5 (Int.toNat v13) (UInt8.ofNat (Int.toNat (IntKind.wrap .u8 ((Int.fdiv (IntKind.wrap .u64 ((IntKind.wrap .u64 (v3)) * 8)) (2 ^ (min (Int.toNat (IntKind.wrap .i64 (56 - (IntKind.wrap .i64 (8 * v13))))) (IntKind.bits .u64))))))))) : List (UInt8)) fun x2 =>
  sha_Pad_l1 n v0 v3 v4 k (IntKind.wrap .i64 (v13 + 1)) x2) else none) else none) else none) else none)
  else some b5
theorem ok_sha_Pad_l1 (n : Nat) (v0 : List UInt8) (v3 : Int) (v4 : Int) {F0 : Fz} {w0 : Pt Try.prog} {Q : Exit → Act → World → Prop} (k : Nat) : ∀ (v13 : Int) (b5 : List (UInt8)) (o : (List (UInt8))), sha_Pad_l1 n v0 v3 v4 k v13 b5 = some o → To 35 F0 w0 [(0, .str v0), (4, .val (.int .i64 v4)), (5, .elm 5 0 1 0)] [(5, 48, [.rowc false (α := UInt8) 0 e8 o])] (.exit 0) Q → WL Try.prog 35 F0 w0 [(0, .str v0), (3, .val (.int .i64 v3)), (4, .val (.int .i64 v4)), (5, .elm 5 0 1 0), (13, .val (.int .i64 v13))] [(5, 48, [.rowc false (α := UInt8) 0 e8 b5])] (cI (cI (cB (cA (cB (cB (cB (cB (cF Try.f15))))))))) Q := by
  induction k with
  | zero => intro v13 b5 o h; cases h
  | succ k ih =>
    intro v13 b5 o h hQ
    rw [sha_Pad_l1] at h
    refine WL.round ?_
    refine Wp.seq ?_
    refine Wp.region hΓ [] [] [] [0, 3, 4, 5, 13, 14] [5] (K' := [(0, .str v0), (3, .val (.int .i64 v3)), (4, .val (.int .i64 v4)), (5, .elm 5 0 1 0), (13, .val (.int .i64 v13)), (14, .val (.bool (decide (v13 < 8))))]) (L' := [(5, 48, [.rowc false (α := UInt8) 0 e8 b5])]) (ob := []) (by kernel_rfl) AllP.nil ?_
    refine To.thenN ?_
    refine Wp.seq ?_
    refine Wp.cond (b := (decide (v13 < 8))) (by kernel_rfl) (fun hb => ?_) (fun hb => ?_)
    · replace h := if_t hb h
      refine Wp.skip ?_
      refine To.thenN ?_
      refine Wp.seq ?_
      refine Wp.block ?_
      refine Wp.seq ?_
      refine Wp.region hΓ [] [] [] [0, 3, 4, 5, 6, 13] [5] (K' := [(0, .str v0), (3, .val (.int .i64 v3)), (4, .val (.int .i64 v4)), (5, .elm 5 0 1 0), (6, .val (.int .i64 v13)), (13, .val (.int .i64 v13))]) (L' := [(5, 48, [.rowc false (α := UInt8) 0 e8 b5])]) (ob := []) (by kernel_rfl) AllP.nil ?_
      refine To.thenN ?_
      obtain ⟨hc3, h⟩ := chk_of h
      obtain ⟨hc4, h⟩ := chk_of h
      obtain ⟨u1, h⟩ := chk_of h
      obtain ⟨hc5, h⟩ := chk_of h
      obtain ⟨x2, hx2, h⟩ := lett_of h
      refine Wp.region hΓ [] [(10, .recs (α := UInt8) 0 e8 (List.set b5 (Int.toNat v13) (UInt8.ofNat (Int.toNat (IntKind.wrap .u8 ((Int.fdiv (IntKind.wrap .u64 ((IntKind.wrap .u64 (v3)) * 8)) (2 ^ (min (Int.toNat (IntKind.wrap .i64 (56 - (IntKind.wrap .i64 (8 * v13))))) (IntKind.bits .u64))))))))))] [] [0, 3, 4, 5, 13] [5] (K' := [(0, .str v0), (3, .val (.int .i64 v3)), (4, .val (.int .i64 v4)), (5, .elm 5 0 1 0), (13, .val (.int .i64 v13))]) (L' := [(5, 48, [.rowc false (α := UInt8) 0 e8 (List.set b5 (Int.toNat v13) (UInt8.ofNat (Int.toNat (IntKind.wrap .u8 ((Int.fdiv (IntKind.wrap .u64 ((IntKind.wrap .u64 (v3)) * 8)) (2 ^ (min (Int.toNat (IntKind.wrap .i64 (56 - (IntKind.wrap .i64 (8 * v13))))) (IntKind.bits .u64)))))))))])]) (ob := [(decide (0 ≤ (IntKind.wrap .i64 (56 - (IntKind.wrap .i64 (8 * v13)))))) = true, (decide (0 ≤ v13 ∧ v13 < (8 : Int))) = true, (decide (0 ≤ v13 ∧ v13 < (List.length b5 : Int))) = true, UpdOb 0 e8 b5 v13 0 [.val (.int .u8 (IntKind.wrap .u8 ((Int.fdiv (IntKind.wrap .u64 ((IntKind.wrap .u64 (v3)) * 8)) (2 ^ (min (Int.toNat (IntKind.wrap .i64 (56 - (IntKind.wrap .i64 (8 * v13))))) (IntKind.bits .u64)))))))] (.recs (α := UInt8) 0 e8 (List.set b5 (Int.toNat v13) (UInt8.ofNat (Int.toNat (IntKind.wrap .u8 ((Int.fdiv (IntKind.wrap .u64 ((IntKind.wrap .u64 (v3)) * 8)) (2 ^ (min (Int.toNat (IntKind.wrap .i64 (56 - (IntKind.wrap .i64 (8 * v13))))) (IntKind.bits .u64))))))))))]) (by kernel_rfl) (AllP.cons hc3 (AllP.cons hc4 (AllP.cons hc5 (AllP.cons (upd8 (u8_of u1)) AllP.nil)))) ?_
      refine To.eq (K' := [(0, .str v0), (3, .val (.int .i64 v3)), (4, .val (.int .i64 v4)), (5, .elm 5 0 1 0), (13, .val (.int .i64 v13))]) (L' := [(5, 48, [.rowc false (α := UInt8) 0 e8 x2])]) (by cases hx2; rfl) (by cases hx2; rfl) ?_
      refine To.blockN ?_
      refine To.thenN ?_
      refine Wp.region hΓ [] [] [] [0, 3, 4, 5, 13] [5] (K' := [(0, .str v0), (3, .val (.int .i64 v3)), (4, .val (.int .i64 v4)), (5, .elm 5 0 1 0), (13, .val (.int .i64 (IntKind.wrap .i64 (v13 + 1))))]) (L' := [(5, 48, [.rowc false (α := UInt8) 0 e8 x2])]) (ob := []) (by kernel_rfl) AllP.nil ?_
      refine To.keep (kk := [0, 3, 4, 5, 13]) (kl := [5]) (K' := [(0, .str v0), (3, .val (.int .i64 v3)), (4, .val (.int .i64 v4)), (5, .elm 5 0 1 0), (13, .val (.int .i64 (IntKind.wrap .i64 (v13 + 1))))]) (L' := [(5, 48, [.rowc false (α := UInt8) 0 e8 x2])]) (by kernel_rfl) (by kernel_rfl) ?_
      refine To.again ?_
      exact ih (IntKind.wrap .i64 (v13 + 1)) x2 _ h hQ
    · replace h := if_f hb h
      refine Wp.exit ?_
      refine To.thenX ?_
      refine To.thenX ?_
      refine To.keep (kk := [0, 4, 5]) (kl := [5]) (K' := [(0, .str v0), (4, .val (.int .i64 v4)), (5, .elm 5 0 1 0)]) (L' := [(5, 48, [.rowc false (α := UInt8) 0 e8 b5])]) (by kernel_rfl) (by kernel_rfl) ?_
      cases h
      exact hQ
def sha_Pad (n : Nat) (a0 : List UInt8) : Option ((List UInt8)) :=
  if ((64 != 0)) = true then ((sha_Pad_l1 n a0 (List.length a0 : Int) (Int.tmod (IntKind.wrap .i64 (119 - (Int.tmod (List.length a0 : Int) 64))) 64) n 0 (List.replicate 8 0)).bind fun o1 =>
  if (decide (((List.length a0 + List.length ([128] : List UInt8) : Nat) : Int) ≤ 9223372036854775807)) = true then (if (decide (0 ≤ (Int.tmod (IntKind.wrap .i64 (119 - (Int.tmod (List.length a0 : Int) 64))) 64) ∧ (Int.tmod (IntKind.wrap .i64 (119 - (Int.tmod (List.length a0 : Int) 64))) 64) ≤ 1000000000000 ∧ (List.length ([0] : List UInt8) : Int) * (Int.tmod (IntKind.wrap .i64 (119 - (Int.tmod (List.length a0 : Int) 64))) 64) ≤ (limit : Int))) = true then (if (decide (((List.length (a0 ++ [128]) + List.length (Lib.repeatL ([0] : List UInt8) (Int.toNat (Int.tmod (IntKind.wrap .i64 (119 - (Int.tmod (List.length a0 : Int) 64))) 64))) : Nat) : Int) ≤ 9223372036854775807)) = true then (if (decide (List.length o1 = 8)) = true then (if (decide (((List.length ((a0 ++ [128]) ++ (Lib.repeatL ([0] : List UInt8) (Int.toNat (Int.tmod (IntKind.wrap .i64 (119 - (Int.tmod (List.length a0 : Int) 64))) 64)))) + List.length o1 : Nat) : Int) ≤ 9223372036854775807)) = true then (lett ((((a0 ++ [128]) ++ (Lib.repeatL ([0] : List UInt8) (Int.toNat (Int.tmod (IntKind.wrap .i64 (119 - (Int.tmod (List.length a0 : Int) 64))) 64)))) ++ o1) : List UInt8) fun x3 =>
  some x3) else none) else none) else none) else none) else none) else none
theorem ok_sha_Pad (n : Nat) (a0 : List UInt8) (r : (List UInt8)) (h : sha_Pad n a0 = some r) : CallsX Try.prog 15 [.str a0] (.str r) := by
  unfold sha_Pad at h
  refine callsX_of (fn := Try.f15) (by kernel_rfl) rfl (by kernel_rfl) (Nat.le_of_ble_eq_true (by kernel_rfl)) fun F0 w0 _ => ?_
  refine Wp.keep (kk := [0]) (kl := []) (K' := [(0, .str a0)]) (L' := []) (by kernel_rfl) (by kernel_rfl) ?_
  refine Wp.seq ?_
  refine Wp.region hΓ [] [] [] [0] [] (K' := [(0, .str a0)]) (L' := []) (ob := []) (by kernel_rfl) AllP.nil ?_
  refine To.thenN ?_
  refine Wp.seq ?_
  refine Wp.region hΓ [] [] [] [0, 3] [] (K' := [(0, .str a0), (3, .val (.int .i64 (List.length a0 : Int)))]) (L' := []) (ob := []) (by kernel_rfl) AllP.nil ?_
  refine To.thenN ?_
  refine Wp.seq ?_
  obtain ⟨hc8, h⟩ := chk_of h
  refine Wp.region hΓ [] [] [] [0, 3, 4] [] (K' := [(0, .str a0), (3, .val (.int .i64 (List.length a0 : Int))), (4, .val (.int .i64 (Int.tmod (IntKind.wrap .i64 (119 - (Int.tmod (List.length a0 : Int) 64))) 64)))]) (L' := []) (ob := [((64 != 0)) = true, ((64 != 0)) = true]) (by kernel_rfl) (AllP.cons hc8 (AllP.cons hc8 AllP.nil)) ?_
  refine To.thenN ?_
  refine Wp.seq ?_
  refine Wp.region hΓ [] [] [] [0, 3, 4, 5] [5] (K' := [(0, .str a0), (3, .val (.int .i64 (List.length a0 : Int))), (4, .val (.int .i64 (Int.tmod (IntKind.wrap .i64 (119 - (Int.tmod (List.length a0 : Int) 64))) 64))), (5, .own 5 0)]) (L' := [(5, 48, [.val (.int .u8 0), .val (.int .u8 0), .val (.int .u8 0), .val (.int .u8 0), .val (.int .u8 0), .val (.int .u8 0), .val (.int .u8 0), .val (.int .u8 0)])]) (ob := []) (by kernel_rfl) AllP.nil ?_
  refine To.pre (St.toRow (t := 48) (l := (List.replicate 8 0)) 5 1 8 (by decide) (by decide) (good8 _) (by kernel_rfl) (by kernel_rfl) (by kernel_rfl) (by kernel_rfl) (K' := [(0, .str a0), (3, .val (.int .i64 (List.length a0 : Int))), (4, .val (.int .i64 (Int.tmod (IntKind.wrap .i64 (119 - (Int.tmod (List.length a0 : Int) 64))) 64))), (5, .elm 5 0 1 0)]) (L' := [(5, 48, [.rowc false (α := UInt8) 0 e8 (List.replicate 8 0)])]) (by kernel_rfl) (by kernel_rfl)) ?_
  refine To.thenN ?_
  refine Wp.seq ?_
  refine Wp.seq ?_
  refine Wp.region hΓ [] [] [] [0, 3, 4, 5, 13] [5] (K' := [(0, .str a0), (3, .val (.int .i64 (List.length a0 : Int))), (4, .val (.int .i64 (Int.tmod (IntKind.wrap .i64 (119 - (Int.tmod (List.length a0 : Int) 64))) 64))), (5, .elm 5 0 1 0), (13, .val (.int .i64 0))]) (L' := [(5, 48, [.rowc false (α := UInt8) 0 e8 (List.replicate 8 0)])]) (ob := []) (by kernel_rfl) AllP.nil ?_
  refine To.thenN ?_
  refine Wp.block ?_
  obtain ⟨o1, ho1, h⟩ := bind_of h
  refine Wp.keep (kk := [0, 3, 4, 5, 13]) (kl := [5]) (K' := [(0, .str a0), (3, .val (.int .i64 (List.length a0 : Int))), (4, .val (.int .i64 (Int.tmod (IntKind.wrap .i64 (119 - (Int.tmod (List.length a0 : Int) 64))) 64))), (5, .elm 5 0 1 0), (13, .val (.int .i64 0))]) (L' := [(5, 48, [.rowc false (α := UInt8) 0 e8 (List.replicate 8 0)])]) (by kernel_rfl) (by kernel_rfl) ?_
  refine Wp.loopL ?_
  refine ok_sha_Pad_l1 n a0 (List.length a0 : Int) (Int.tmod (IntKind.wrap .i64 (119 - (Int.tmod (List.length a0 : Int) 64))) 64) n 0 (List.replicate 8 0) o1 ho1 ?_
  refine To.blockX ?_
  refine To.thenN ?_
  refine Wp.seq ?_
  obtain ⟨hc4, h⟩ := chk_of h
  obtain ⟨u2, h⟩ := chk_of h
  obtain ⟨hc5, h⟩ := chk_of h
  obtain ⟨hc6, h⟩ := chk_of h
  obtain ⟨hc7, h⟩ := chk_of h
  obtain ⟨x3, hx3, h⟩ := lett_of h
  refine Wp.pre (St.settle (ks := [5]) (kk := [0, 4, 5]) (kl := [5]) (K' := [(0, .str a0), (4, .val (.int .i64 (Int.tmod (IntKind.wrap .i64 (119 - (Int.tmod (List.length a0 : Int) 64))) 64))), (5, .elm 5 0 1 0)]) (L' := [(5, 48, [.rowc true (α := UInt8) 0 e8 o1])]) (by kernel_rfl)) ?_
  refine Wp.regionD hm hΓ [(3, .str (Lib.repeatL ([0] : List UInt8) (Int.toNat (Int.tmod (IntKind.wrap .i64 (119 - (Int.tmod (List.length a0 : Int) 64))) 64)))), (6, .str o1)] [2] [] (K' := [(2, .str (((a0 ++ [128]) ++ (Lib.repeatL ([0] : List UInt8) (Int.toNat (Int.tmod (IntKind.wrap .i64 (119 - (Int.tmod (List.length a0 : Int) 64))) 64)))) ++ o1))]) (L' := []) (ob := [(decide (((List.length a0 + List.length ([128] : List UInt8) : Nat) : Int) ≤ 9223372036854775807)) = true, (true = true → CX Try.prog 29 [.str [0], .val (.int .i64 (Int.tmod (IntKind.wrap .i64 (119 - (Int.tmod (List.length a0 : Int) 64))) 64))] (.str (Lib.repeatL ([0] : List UInt8) (Int.toNat (Int.tmod (IntKind.wrap .i64 (119 - (Int.tmod (List.length a0 : Int) 64))) 64))))), (decide (((List.length (a0 ++ [128]) + List.length (Lib.repeatL ([0] : List UInt8) (Int.toNat (Int.tmod (IntKind.wrap .i64 (119 - (Int.tmod (List.length a0 : Int) 64))) 64))) : Nat) : Int) ≤ 9223372036854775807)) = true, (decide (List.length o1 = 8)) = true, (true = true → StrOb (List.flatMap e8 o1) (.str o1)), (decide (((List.length ((a0 ++ [128]) ++ (Lib.repeatL ([0] : List UInt8) (Int.toNat (Int.tmod (IntKind.wrap .i64 (119 - (Int.tmod (List.length a0 : Int) 64))) 64)))) + List.length o1 : Nat) : Int) ≤ 9223372036854775807)) = true]) (by kernel_rfl) (AllP.cons hc4 (AllP.cons (fun _ => cx (Sh.repeat29 u2)) (AllP.cons hc5 (AllP.cons hc6 (AllP.cons (fun _ => strOb (flat8 _)) (AllP.cons hc7 AllP.nil)))))) ?_
  refine To.eq (K' := [(2, .str x3)]) (L' := []) (by cases hx3; rfl) (by cases hx3; rfl) ?_
  refine To.thenN ?_
  refine Wp.ret ?_
  refine To.keep (kk := [2]) (kl := []) (K' := [(2, .str x3)]) (L' := []) (by kernel_rfl) (by kernel_rfl) ?_
  cases h
  exact To.done hΓ (by kernel_rfl)
def sha_Sum_l1 (n : Nat) (v0 : List UInt8) (v10 : List (Int)) (v11 : Int) : Nat → Int → (List (Int)) → Option ((List (Int)))
  | 0, _, _ => none
  | k + 1, v12, b3 => if (decide (v12 < v11)) = true then (if (decide (0 ≤ v12 ∧ v12 < (List.length v10 : Int))) = true then ((sha_Root n ((v10)[Int.toNat v12]?.getD 0) 2).bind fun r2 =>
  if (decide (0 ≤ v12 ∧ v12 < (8 : Int))) = true then (if (decide (0 ≤ v12 ∧ v12 < (List.length b3 : Int))) = true then (sha_Sum_l1 n v0 v10 v11 k (IntKind.wrap .i64 (v12 + 1)) (List.set b3 (Int.toNat v12) r2)) else none) else none) else none)
  else some b3
theorem ok_sha_Sum_l1 (n : Nat) (v0 : List UInt8) (v10 : List (Int)) (v11 : Int) {F0 : Fz} {w0 : Pt Try.prog} {Q : Exit → Act → World → Prop} (k : Nat) : ∀ (v12 : Int) (b3 : List (Int)) (o : (List (Int))), sha_Sum_l1 n v0 v10 v11 k v12 b3 = some o → To 50 F0 w0 [(0, .str v0), (3, .elm 3 0 1 0)] [(3, 30, [.rowc false (α := Int) 0 E_u32 o])] (.exit 0) Q → WL Try.prog 50 F0 w0 [(0, .str v0), (3, .elm 3 0 1 0), (10, .recs (α := Int) 0 E_i64 v10), (11, .val (.int .i64 v11)), (12, .val (.int .i64 v12))] [(3, 30, [.rowc false (α := Int) 0 E_u32 b3])] (cI (cI (cB (cA (cB (cB (cF Try.f19))))))) Q := by
  induction k with
  | zero => intro v12 b3 o h; cases h
  | succ k ih =>
    intro v12 b3 o h hQ
    rw [sha_Sum_l1] at h
    refine WL.round ?_
    refine Wp.seq ?_
    refine Wp.region hΓ [] [] [] [0, 3, 10, 11, 12, 13] [3] (K' := [(0, .str v0), (3, .elm 3 0 1 0), (10, .recs (α := Int) 0 E_i64 v10), (11, .val (.int .i64 v11)), (12, .val (.int .i64 v12)), (13, .val (.bool (decide (v12 < v11))))]) (L' := [(3, 30, [.rowc false (α := Int) 0 E_u32 b3])]) (ob := []) (by kernel_rfl) AllP.nil ?_
    refine To.thenN ?_
    refine Wp.seq ?_
    refine Wp.cond (b := (decide (v12 < v11))) (by kernel_rfl) (fun hb => ?_) (fun hb => ?_)
    · replace h := if_t hb h
      refine Wp.skip ?_
      refine To.thenN ?_
      refine Wp.seq ?_
      refine Wp.block ?_
      refine Wp.seq ?_
      obtain ⟨hc5, h⟩ := chk_of h
      refine Wp.region hΓ [] [] [] [0, 3, 4, 5, 10, 11, 12] [3] (K' := [(0, .str v0), (3, .elm 3 0 1 0), (4, .val (.int .i64 v12)), (5, .val (.int .i64 ((v10)[Int.toNat v12]?.getD 0))), (10, .recs (α := Int) 0 E_i64 v10), (11, .val (.int .i64 v11)), (12, .val (.int .i64 v12))]) (L' := [(3, 30, [.rowc false (α := Int) 0 E_u32 b3])]) (ob := [(decide (0 ≤ v12 ∧ v12 < (List.length v10 : Int))) = true]) (by kernel_rfl) (AllP.cons hc5 AllP.nil) ?_
      refine To.thenN ?_
      obtain ⟨r2, hr2, h⟩ := bind_of h
      obtain ⟨hc3, h⟩ := chk_of h
      obtain ⟨hc4, h⟩ := chk_of h
      refine Wp.region hΓ [] [(2, .val (.int .u32 r2)), (4, .recs (α := Int) 0 E_u32 (List.set b3 (Int.toNat v12) r2))] [] [0, 3, 10, 11, 12] [3] (K' := [(0, .str v0), (3, .elm 3 0 1 0), (10, .recs (α := Int) 0 E_i64 v10), (11, .val (.int .i64 v11)), (12, .val (.int .i64 v12))]) (L' := [(3, 30, [.rowc false (α := Int) 0 E_u32 (List.set b3 (Int.toNat v12) r2)])]) (ob := [(true = true → CX Try.prog 10 [.val (.int .i64 ((v10)[Int.toNat v12]?.getD 0)), .val (.int .i64 2)] (.val (.int .u32 r2))), (decide (0 ≤ v12 ∧ v12 < (8 : Int))) = true, (decide (0 ≤ v12 ∧ v12 < (List.length b3 : Int))) = true, UpdOb 0 E_u32 b3 v12 0 [.val (.int .u32 r2)] (.recs (α := Int) 0 E_u32 (List.set b3 (Int.toNat v12) r2))]) (by kernel_rfl) (AllP.cons (fun _ => cx (ok_sha_Root n ((v10)[Int.toNat v12]?.getD 0) 2 _ hr2)) (AllP.cons hc3 (AllP.cons hc4 (AllP.cons (updOb (by kernel_rfl)) AllP.nil)))) ?_
      refine To.blockN ?_
      refine To.thenN ?_
      refine Wp.region hΓ [] [] [] [0, 3, 10, 11, 12] [3] (K' := [(0, .str v0), (3, .elm 3 0 1 0), (10, .recs (α := Int) 0 E_i64 v10), (11, .val (.int .i64 v11)), (12, .val (.int .i64 (IntKind.wrap .i64 (v12 + 1))))]) (L' := [(3, 30, [.rowc false (α := Int) 0 E_u32 (List.set b3 (Int.toNat v12) r2)])]) (ob := []) (by kernel_rfl) AllP.nil ?_
      refine To.keep (kk := [0, 3, 10, 11, 12]) (kl := [3]) (K' := [(0, .str v0), (3, .elm 3 0 1 0), (10, .recs (α := Int) 0 E_i64 v10), (11, .val (.int .i64 v11)), (12, .val (.int .i64 (IntKind.wrap .i64 (v12 + 1))))]) (L' := [(3, 30, [.rowc false (α := Int) 0 E_u32 (List.set b3 (Int.toNat v12) r2)])]) (by kernel_rfl) (by kernel_rfl) ?_
      refine To.again ?_
      exact ih (IntKind.wrap .i64 (v12 + 1)) (List.set b3 (Int.toNat v12) r2) _ h hQ
    · replace h := if_f hb h
      refine Wp.exit ?_
      refine To.thenX ?_
      refine To.thenX ?_
      refine To.keep (kk := [0, 3]) (kl := [3]) (K' := [(0, .str v0), (3, .elm 3 0 1 0)]) (L' := [(3, 30, [.rowc false (α := Int) 0 E_u32 b3])]) (by kernel_rfl) (by kernel_rfl) ?_
      cases h
      exact hQ
def sha_Sum_l2 (n : Nat) : Nat → (List UInt8) → (List (Int)) → (List (Int)) → Option ((List (Int)))
  | 0, _, _, _ => none
  | k + 1, v7, b3, b6 => if (!(v7 == [])) = true then (if (decide (List.length b3 = 8)) = true then ((sha_block__a0 n b3 v7 b6).bind fun r6 =>
  if (decide (List.length r6.1 = 8)) = true then (if (decide (0 ≤ (64 : Int) ∧ (64 : Int) ≤ (List.length v7 : Int))) = true then (sha_Sum_l2 n k (List.drop (Int.toNat 64) v7) r6.1 r6.2) else none) else none) else none)
  else some b3
theorem ok_sha_Sum_l2 (n : Nat) {F0 : Fz} {w0 : Pt Try.prog} {Q : Exit → Act → World → Prop} (k : Nat) : ∀ (v7 : List UInt8) (b3 : List (Int)) (b6 : List (Int)) (o : (List (Int))), sha_Sum_l2 n k v7 b3 b6 = some o → To 50 F0 w0 [(3, .elm 3 0 1 0)] [(3, 30, [.rowc false (α := Int) 0 E_u32 o])] (.exit 2) Q → WL Try.prog 50 F0 w0 [(3, .elm 3 0 1 0), (6, .elm 6 0 1 0), (7, .str v7)] [(3, 30, [.rowc false (α := Int) 0 E_u32 b3]), (6, 41, [.rowc false (α := Int) 0 E_u32 b6])] (cI (cI (cB (cA (cB (cB (cB (cB (cF Try.f19))))))))) Q := by
  induction k with
  | zero => intro v7 b3 b6 o h; cases h
  | succ k ih =>
    intro v7 b3 b6 o h hQ
    rw [sha_Sum_l2] at h
    refine WL.round ?_
    refine Wp.seq ?_
    refine Wp.seq ?_
    refine Wp.region hΓ [] [] [] [3, 6, 7, 26] [3, 6] (K' := [(3, .elm 3 0 1 0), (6, .elm 6 0 1 0), (7, .str v7), (26, .val (.bool (!(v7 == []))))]) (L' := [(3, 30, [.rowc false (α := Int) 0 E_u32 b3]), (6, 41, [.rowc false (α := Int) 0 E_u32 b6])]) (ob := []) (by kernel_rfl) AllP.nil ?_
    refine To.thenN ?_
    refine Wp.cond (b := (!(v7 == []))) (by kernel_rfl) (fun hb => ?_) (fun hb => ?_)
    · replace h := if_t hb h
      refine Wp.skip ?_
      refine To.thenN ?_
      refine Wp.seq ?_
      refine Wp.block ?_
      obtain ⟨hc9, h⟩ := chk_of h
      obtain ⟨r6, hr6, h⟩ := bind_of h
      obtain ⟨u7, h⟩ := chk_of h
      refine Wp.region hΓ [] [(3, .recs (α := Int) 0 E_u32 r6.1)] [(2, ⟨[(1000000, 6)], [(1000000, 6)], [.arr (α := Int) 0 E_u32 b3, .str v7, .elm 1000000 0 1 0], [(1000000, 41, [.rowc false (α := Int) 0 E_u32 b6])], .arr (α := Int) 0 E_u32 r6.1, [(1000000, 41, [.rowc false (α := Int) 0 E_u32 r6.2])]⟩)] [3, 6, 7] [3, 6] (K' := [(3, .elm 3 0 1 0), (6, .elm 6 0 1 0), (7, .str v7)]) (L' := [(3, 30, [.rowc false (α := Int) 0 E_u32 r6.1]), (6, 41, [.rowc false (α := Int) 0 E_u32 r6.2])]) (ob := [(decide (List.length b3 = 8)) = true, CbOb (CallsB Try.prog) 26 [.arr (α := Int) 0 E_u32 b3, .str v7, .elm 6 0 1 0] [some (41, [.rowc false (α := Int) 0 E_u32 b6])] ⟨[(1000000, 6)], [(1000000, 6)], [.arr (α := Int) 0 E_u32 b3, .str v7, .elm 1000000 0 1 0], [(1000000, 41, [.rowc false (α := Int) 0 E_u32 b6])], .arr (α := Int) 0 E_u32 r6.1, [(1000000, 41, [.rowc false (α := Int) 0 E_u32 r6.2])]⟩, (decide (List.length b3 = 8)) = true, (MkOb 1 (D.cells (.arr (α := Int) 0 E_u32 r6.1)) 8 (.recs (α := Int) 0 E_u32 r6.1) ∧ GoodR (.recs (α := Int) 0 E_u32 r6.1))]) (by kernel_rfl) (AllP.cons hc9 (AllP.cons (⟨(ok_sha_block__a0 n b3 v7 b6 _ hr6), by kernel_rfl, by kernel_rfl⟩) (AllP.cons hc9 (AllP.cons (mkOb rfl (of_decide_eq_true u7) rfl (good_E_u32 _)) AllP.nil)))) ?_
      refine To.blockN ?_
      refine To.thenN ?_
      obtain ⟨hc8, h⟩ := chk_of h
      refine Wp.region hΓ [] [] [] [3, 6, 7] [3, 6] (K' := [(3, .elm 3 0 1 0), (6, .elm 6 0 1 0), (7, .str (List.drop (Int.toNat 64) v7))]) (L' := [(3, 30, [.rowc false (α := Int) 0 E_u32 r6.1]), (6, 41, [.rowc false (α := Int) 0 E_u32 r6.2])]) (ob := [(decide (0 ≤ (64 : Int) ∧ (64 : Int) ≤ (List.length v7 : Int))) = true]) (by kernel_rfl) (AllP.cons hc8 AllP.nil) ?_
      refine To.keep (kk := [3, 6, 7]) (kl := [3, 6]) (K' := [(3, .elm 3 0 1 0), (6, .elm 6 0 1 0), (7, .str (List.drop (Int.toNat 64) v7))]) (L' := [(3, 30, [.rowc false (α := Int) 0 E_u32 r6.1]), (6, 41, [.rowc false (α := Int) 0 E_u32 r6.2])]) (by kernel_rfl) (by kernel_rfl) ?_
      refine To.again ?_
      exact ih (List.drop (Int.toNat 64) v7) r6.1 r6.2 _ h hQ
    · replace h := if_f hb h
      refine Wp.exit ?_
      refine To.thenX ?_
      refine To.thenX ?_
      refine To.keep (kk := [3]) (kl := [3]) (K' := [(3, .elm 3 0 1 0)]) (L' := [(3, 30, [.rowc false (α := Int) 0 E_u32 b3])]) (by kernel_rfl) (by kernel_rfl) ?_
      cases h
      exact hQ
def sha_Sum_l3 (n : Nat) (b3 : List (Int)) : Nat → Int → (List (UInt8)) → Option ((List (UInt8)))
  | 0, _, _ => none
  | k + 1, v32, b8 => if (decide (v32 < 32)) = true then (if ((4 != 0)) = true then (if (decide (0 ≤ (IntKind.wrap .i64 (Int.tdiv v32 4)) ∧ (IntKind.wrap .i64 (Int.tdiv v32 4)) < (8 : Int))) = true then (if (decide (0 ≤ (IntKind.wrap .i64 (Int.tdiv v32 4)) ∧ (IntKind.wrap .i64 (Int.tdiv v32 4)) < (List.length b3 : Int))) = true then (if (decide (0 ≤ (IntKind.wrap .i64 (24 - (IntKind.wrap .i64 ((Int.tmod v32 4) * 8)))))) = true then (if (decide (0 ≤ v32 ∧ v32 < (32 : Int))) = true then (if (decide (0 ≤ (IntKind.wrap .u8 ((Int.fdiv ((b3)[Int.toNat (IntKind.wrap .i64 (Int.tdiv v32 4))]?.getD 0) (2 ^ (min (Int.toNat (IntKind.wrap .i64 (24 - (IntKind.wrap .i64 ((Int.tmod v32 4) * 8))))) (IntKind.bits .u32)))))) ∧ (IntKind.wrap .u8 ((Int.fdiv ((b3)[Int.toNat (IntKind.wrap .i64 (Int.tdiv v32 4))]?.getD 0) (2 ^ (min (Int.toNat (IntKind.wrap .i64 (24 - (IntKind.wrap .i64 ((Int.tmod v32 4) * 8))))) (IntKind.bits .u32)))))) < 256)) = true then (if (decide (0 ≤ v32 ∧ v32 < (List.length b8 : Int))) = true then (lett ((List.set b8 (Int.toNat v32) (UInt8.ofNat (Int.toNat (IntKind.wrap .u8 ((Int.fdiv ((b3)[Int.toNat (IntKind.wrap .i64 (Int.tdiv v32 4))]?.getD 0) (2 ^ (min (Int.toNat (IntKind.wrap .i64 (24 - (IntKind.wrap .i64 ((Int.tmod v32 4) * 8))))) (IntKind.bits .u32))))))))) : List (UInt8)) fun x8 =>
  sha_Sum_l3 n b3 k (IntKind.wrap .i64 (v32 + 1)) x8) else none) else none) else none) else none) else none) else none) else none)
  else some b8
theorem ok_sha_Sum_l3 (n : Nat) (b3 : List (Int)) {F0 : Fz} {w0 : Pt Try.prog} {Q : Exit → Act → World → Prop} (k : Nat) : ∀ (v32 : Int) (b8 : List (UInt8)) (o : (List (UInt8))), sha_Sum_l3 n b3 k v32 b8 = some o → To 50 F0 w0 [(8, .elm 8 0 1 0)] [(8, 53, [.rowc false (α := UInt8) 0 e8 o])] (.exit 4) Q → WL Try.prog 50 F0 w0 [(3, .elm 3 0 1 0), (8, .elm 8 0 1 0), (32, .val (.int .i64 v32))] [(3, 30, [.rowc false (α := Int) 0 E_u32 b3]), (8, 53, [.rowc false (α := UInt8) 0 e8 b8])] (cI (cI (cB (cA (cB (cB (cB (cB (cB (cB (cF Try.f19))))))))))) Q := by
  induction k with
  | zero => intro v32 b8 o h; cases h
  | succ k ih =>
    intro v32 b8 o h hQ
    rw [sha_Sum_l3] at h
    refine WL.round ?_
    refine Wp.seq ?_
    refine Wp.region hΓ [] [] [] [3, 8, 32, 33] [3, 8] (K' := [(3, .elm 3 0 1 0), (8, .elm 8 0 1 0), (32, .val (.int .i64 v32)), (33, .val (.bool (decide (v32 < 32))))]) (L' := [(3, 30, [.rowc false (α := Int) 0 E_u32 b3]), (8, 53, [.rowc false (α := UInt8) 0 e8 b8])]) (ob := []) (by kernel_rfl) AllP.nil ?_
    refine To.thenN ?_
    refine Wp.seq ?_
    refine Wp.cond (b := (decide (v32 < 32))) (by kernel_rfl) (fun hb => ?_) (fun hb => ?_)
    · replace h := if_t hb h
      refine Wp.skip ?_
      refine To.thenN ?_
      refine Wp.seq ?_
      refine Wp.block ?_
      refine Wp.seq ?_
      refine Wp.region hΓ [] [] [] [3, 8, 9, 32] [3, 8] (K' := [(3, .elm 3 0 1 0), (8, .elm 8 0 1 0), (9, .val (.int .i64 v32)), (32, .val (.int .i64 v32))]) (L' := [(3, 30, [.rowc false (α := Int) 0 E_u32 b3]), (8, 53, [.rowc false (α := UInt8) 0 e8 b8])]) (ob := []) (by kernel_rfl) AllP.nil ?_
      refine To.thenN ?_
      obtain ⟨hc9, h⟩ := chk_of h
      obtain ⟨hc10, h⟩ := chk_of h
      obtain ⟨hc11, h⟩ := chk_of h
      obtain ⟨hc12, h⟩ := chk_of h
      obtain ⟨hc13, h⟩ := chk_of h
      obtain ⟨u7, h⟩ := chk_of h
      obtain ⟨hc14, h⟩ := chk_of h
      obtain ⟨x8, hx8, h⟩ := lett_of h
      refine Wp.region hΓ [] [(12, .recs (α := UInt8) 0 e8 (List.set b8 (Int.toNat v32) (UInt8.ofNat (Int.toNat (IntKind.wrap .u8 ((Int.fdiv ((b3)[Int.toNat (IntKind.wrap .i64 (Int.tdiv v32 4))]?.getD 0) (2 ^ (min (Int.toNat (IntKind.wrap .i64 (24 - (IntKind.wrap .i64 ((Int.tmod v32 4) * 8))))) (IntKind.bits .u32))))))))))] [] [3, 8, 32] [3, 8] (K' := [(3, .elm 3 0 1 0), (8, .elm 8 0 1 0), (32, .val (.int .i64 v32))]) (L' := [(3, 30, [.rowc false (α := Int) 0 E_u32 b3]), (8, 53, [.rowc false (α := UInt8) 0 e8 (List.set b8 (Int.toNat v32) (UInt8.ofNat (Int.toNat (IntKind.wrap .u8 ((Int.fdiv ((b3)[Int.toNat (IntKind.wrap .i64 (Int.tdiv v32 4))]?.getD 0) (2 ^ (min (Int.toNat (IntKind.wrap .i64 (24 - (IntKind.wrap .i64 ((Int.tmod v32 4) * 8))))) (IntKind.bits .u32)))))))))])]) (ob := [((4 != 0)) = true, (decide (0 ≤ (IntKind.wrap .i64 (Int.tdiv v32 4)) ∧ (IntKind.wrap .i64 (Int.tdiv v32 4)) < (8 : Int))) = true, (decide (0 ≤ (IntKind.wrap .i64 (Int.tdiv v32 4)) ∧ (IntKind.wrap .i64 (Int.tdiv v32 4)) < (List.length b3 : Int))) = true, ((4 != 0)) = true, (decide (0 ≤ (IntKind.wrap .i64 (24 - (IntKind.wrap .i64 ((Int.tmod v32 4) * 8)))))) = true, (decide (0 ≤ v32 ∧ v32 < (32 : Int))) = true, (decide (0 ≤ v32 ∧ v32 < (List.length b8 : Int))) = true, UpdOb 0 e8 b8 v32 0 [.val (.int .u8 (IntKind.wrap .u8 ((Int.fdiv ((b3)[Int.toNat (IntKind.wrap .i64 (Int.tdiv v32 4))]?.getD 0) (2 ^ (min (Int.toNat (IntKind.wrap .i64 (24 - (IntKind.wrap .i64 ((Int.tmod v32 4) * 8))))) (IntKind.bits .u32)))))))] (.recs (α := UInt8) 0 e8 (List.set b8 (Int.toNat v32) (UInt8.ofNat (Int.toNat (IntKind.wrap .u8 ((Int.fdiv ((b3)[Int.toNat (IntKind.wrap .i64 (Int.tdiv v32 4))]?.getD 0) (2 ^ (min (Int.toNat (IntKind.wrap .i64 (24 - (IntKind.wrap .i64 ((Int.tmod v32 4) * 8))))) (IntKind.bits .u32))))))))))]) (by kernel_rfl) (AllP.cons hc9 (AllP.cons hc10 (AllP.cons hc11 (AllP.cons hc9 (AllP.cons hc12 (AllP.cons hc13 (AllP.cons hc14 (AllP.cons (upd8 (u8_of u7)) AllP.nil)))))))) ?_
      refine To.eq (K' := [(3, .elm 3 0 1 0), (8, .elm 8 0 1 0), (32, .val (.int .i64 v32))]) (L' := [(3, 30, [.rowc false (α := Int) 0 E_u32 b3]), (8, 53, [.rowc false (α := UInt8) 0 e8 x8])]) (by cases hx8; rfl) (by cases hx8; rfl) ?_
      refine To.blockN ?_
      refine To.thenN ?_
      refine Wp.region hΓ [] [] [] [3, 8, 32] [3, 8] (K' := [(3, .elm 3 0 1 0), (8, .elm 8 0 1 0), (32, .val (.int .i64 (IntKind.wrap .i64 (v32 + 1))))]) (L' := [(3, 30, [.rowc false (α := Int) 0 E_u32 b3]), (8, 53, [.rowc false (α := UInt8) 0 e8 x8])]) (ob := []) (by kernel_rfl) AllP.nil ?_
      refine To.keep (kk := [3, 8, 32]) (kl := [3, 8]) (K' := [(3, .elm 3 0 1 0), (8, .elm 8 0 1 0), (32, .val (.int .i64 (IntKind.wrap .i64 (v32 + 1))))]) (L' := [(3, 30, [.rowc false (α := Int) 0 E_u32 b3]), (8, 53, [.rowc false (α := UInt8) 0 e8 x8])]) (by kernel_rfl) (by kernel_rfl) ?_
      refine To.again ?_
      exact ih (IntKind.wrap .i64 (v32 + 1)) x8 _ h hQ
    · replace h := if_f hb h
      refine Wp.exit ?_
      refine To.thenX ?_
      refine To.thenX ?_
      refine To.keep (kk := [8]) (kl := [8]) (K' := [(8, .elm 8 0 1 0)]) (L' := [(8, 53, [.rowc false (α := UInt8) 0 e8 b8])]) (by kernel_rfl) (by kernel_rfl) ?_
      cases h
      exact hQ
def sha_Sum (n : Nat) (a0 : List UInt8) : Option ((List UInt8)) :=
  (sha_Primes n 8).bind fun r1 =>
  (sha_Sum_l1 n a0 r1 (List.length r1 : Int) n 0 (List.replicate 8 0)).bind fun o2 =>
  (sha_constants n).bind fun r3 =>
  if (decide (List.length r3 = 64)) = true then ((sha_Pad n a0).bind fun r5 =>
  (sha_Sum_l2 n n r5 o2 r3).bind fun o6 =>
  (sha_Sum_l3 n o6 n 0 (List.replicate 32 0)).bind fun o7 =>
  if (decide (List.length o7 = 32)) = true then some o7 else none) else none
theorem ok_sha_Sum (n : Nat) (a0 : List UInt8) (r : (List UInt8)) (h : sha_Sum n a0 = some r) : CallsX Try.prog 19 [.str a0] (.str r) := by
  unfold sha_Sum at h
  refine callsX_of (fn := Try.f19) (by kernel_rfl) rfl (by kernel_rfl) (Nat.le_of_ble_eq_true (by kernel_rfl)) fun F0 w0 _ => ?_
  refine Wp.keep (kk := [0]) (kl := []) (K' := [(0, .str a0)]) (L' := []) (by kernel_rfl) (by kernel_rfl) ?_
  refine Wp.seq ?_
  refine Wp.region hΓ [] [] [] [0] [] (K' := [(0, .str a0)]) (L' := []) (ob := []) (by kernel_rfl) AllP.nil ?_
  refine To.thenN ?_
  refine Wp.seq ?_
  refine Wp.region hΓ [] [] [] [0, 3] [3] (K' := [(0, .str a0), (3, .own 3 0)]) (L' := [(3, 30, [.val (.int .u32 0), .val (.int .u32 0), .val (.int .u32 0), .val (.int .u32 0), .val (.int .u32 0), .val (.int .u32 0), .val (.int .u32 0), .val (.int .u32 0)])]) (ob := []) (by kernel_rfl) AllP.nil ?_
  refine To.pre (St.toRow (t := 30) (l := (List.replicate 8 0)) 3 1 8 (by decide) (by decide) (good_E_u32 _) (by kernel_rfl) (by kernel_rfl) (by kernel_rfl) (by kernel_rfl) (K' := [(0, .str a0), (3, .elm 3 0 1 0)]) (L' := [(3, 30, [.rowc false (α := Int) 0 E_u32 (List.replicate 8 0)])]) (by kernel_rfl) (by kernel_rfl)) ?_
  refine To.thenN ?_
  refine Wp.seq ?_
  refine Wp.seq ?_
  obtain ⟨r1, hr1, h⟩ := bind_of h
  refine Wp.region hΓ [] [(0, .recs (α := Int) 0 E_i64 r1)] [] [0, 3, 10, 11, 12] [3] (K' := [(0, .str a0), (3, .elm 3 0 1 0), (10, .recs (α := Int) 0 E_i64 r1), (11, .val (.int .i64 (List.length r1 : Int))), (12, .val (.int .i64 0))]) (L' := [(3, 30, [.rowc false (α := Int) 0 E_u32 (List.replicate 8 0)])]) (ob := [(true = true → CX Try.prog 8 [.val (.int .i64 8)] (.recs (α := Int) 0 E_i64 r1))]) (by kernel_rfl) (AllP.cons (fun _ => cx (ok_sha_Primes n 8 _ hr1)) AllP.nil) ?_
  refine To.thenN ?_
  refine Wp.block ?_
  obtain ⟨o2, ho2, h⟩ := bind_of h
  refine Wp.keep (kk := [0, 3, 10, 11, 12]) (kl := [3]) (K' := [(0, .str a0), (3, .elm 3 0 1 0), (10, .recs (α := Int) 0 E_i64 r1), (11, .val (.int .i64 (List.length r1 : Int))), (12, .val (.int .i64 0))]) (L' := [(3, 30, [.rowc false (α := Int) 0 E_u32 (List.replicate 8 0)])]) (by kernel_rfl) (by kernel_rfl) ?_
  refine Wp.loopL ?_
  refine ok_sha_Sum_l1 n a0 r1 (List.length r1 : Int) n 0 (List.replicate 8 0) o2 ho2 ?_
  refine To.blockX ?_
  refine To.thenN ?_
  refine Wp.seq ?_
  obtain ⟨r3, hr3, h⟩ := bind_of h
  obtain ⟨u4, h⟩ := chk_of h
  refine Wp.region hΓ [] [(0, .arr (α := Int) 0 E_u32 r3), (2, .recs (α := Int) 0 E_u32 r3)] [] [0, 3, 6] [3, 6] (K' := [(0, .str a0), (3, .elm 3 0 1 0), (6, .elm 6 0 1 0)]) (L' := [(3, 30, [.rowc false (α := Int) 0 E_u32 o2]), (6, 41, [.rowc false (α := Int) 0 E_u32 r3])]) (ob := [(true = true → CX Try.prog 25 [] (.arr (α := Int) 0 E_u32 r3)), (MkOb 1 (D.cells (.arr (α := Int) 0 E_u32 r3)) 64 (.recs (α := Int) 0 E_u32 r3) ∧ GoodR (.recs (α := Int) 0 E_u32 r3))]) (by kernel_rfl) (AllP.cons (fun _ => cx (ok_sha_constants n  _ hr3)) (AllP.cons (mkOb rfl (of_decide_eq_true u4) rfl (good_E_u32 _)) AllP.nil)) ?_
  refine To.thenN ?_
  refine Wp.seq ?_
  refine Wp.seq ?_
  obtain ⟨r5, hr5, h⟩ := bind_of h
  refine Wp.region hΓ [] [(1, .str r5)] [] [3, 6, 7] [3, 6] (K' := [(3, .elm 3 0 1 0), (6, .elm 6 0 1 0), (7, .str r5)]) (L' := [(3, 30, [.rowc false (α := Int) 0 E_u32 o2]), (6, 41, [.rowc false (α := Int) 0 E_u32 r3])]) (ob := [(true = true → CX Try.prog 15 [.str a0] (.str r5))]) (by kernel_rfl) (AllP.cons (fun _ => cx (ok_sha_Pad n a0 _ hr5)) AllP.nil) ?_
  refine To.thenN ?_
  refine Wp.block ?_
  obtain ⟨o6, ho6, h⟩ := bind_of h
  refine Wp.keep (kk := [3, 6, 7]) (kl := [3, 6]) (K' := [(3, .elm 3 0 1 0), (6, .elm 6 0 1 0), (7, .str r5)]) (L' := [(3, 30, [.rowc false (α := Int) 0 E_u32 o2]), (6, 41, [.rowc false (α := Int) 0 E_u32 r3])]) (by kernel_rfl) (by kernel_rfl) ?_
  refine Wp.loopL ?_
  refine ok_sha_Sum_l2 n n r5 o2 r3 o6 ho6 ?_
  refine To.blockX ?_
  refine To.thenN ?_
  refine Wp.seq ?_
  refine Wp.region hΓ [] [] [] [3, 8] [3, 8] (K' := [(3, .elm 3 0 1 0), (8, .own 8 0)]) (L' := [(3, 30, [.rowc false (α := Int) 0 E_u32 o6]), (8, 53, [.val (.int .u8 0), .val (.int .u8 0), .val (.int .u8 0), .val (.int .u8 0), .val (.int .u8 0), .val (.int .u8 0), .val (.int .u8 0), .val (.int .u8 0), .val (.int .u8 0), .val (.int .u8 0), .val (.int .u8 0), .val (.int .u8 0), .val (.int .u8 0), .val (.int .u8 0), .val (.int .u8 0), .val (.int .u8 0), .val (.int .u8 0), .val (.int .u8 0), .val (.int .u8 0), .val (.int .u8 0), .val (.int .u8 0), .val (.int .u8 0), .val (.int .u8 0), .val (.int .u8 0), .val (.int .u8 0), .val (.int .u8 0), .val (.int .u8 0), .val (.int .u8 0), .val (.int .u8 0), .val (.int .u8 0), .val (.int .u8 0), .val (.int .u8 0)])]) (ob := []) (by kernel_rfl) AllP.nil ?_
  refine To.pre (St.toRow (t := 53) (l := (List.replicate 32 0)) 8 1 32 (by decide) (by decide) (good8 _) (by kernel_rfl) (by kernel_rfl) (by kernel_rfl) (by kernel_rfl) (K' := [(3, .elm 3 0 1 0), (8, .elm 8 0 1 0)]) (L' := [(8, 53, [.rowc false (α := UInt8) 0 e8 (List.replicate 32 0)]), (3, 30, [.rowc false (α := Int) 0 E_u32 o6])]) (by kernel_rfl) (by kernel_rfl)) ?_
  refine To.thenN ?_
  refine Wp.seq ?_
  refine Wp.seq ?_
  refine Wp.region hΓ [] [] [] [3, 8, 32] [3, 8] (K' := [(3, .elm 3 0 1 0), (8, .elm 8 0 1 0), (32, .val (.int .i64 0))]) (L' := [(3, 30, [.rowc false (α := Int) 0 E_u32 o6]), (8, 53, [.rowc false (α := UInt8) 0 e8 (List.replicate 32 0)])]) (ob := []) (by kernel_rfl) AllP.nil ?_
  refine To.thenN ?_
  refine Wp.block ?_
  obtain ⟨o7, ho7, h⟩ := bind_of h
  refine Wp.keep (kk := [3, 8, 32]) (kl := [3, 8]) (K' := [(3, .elm 3 0 1 0), (8, .elm 8 0 1 0), (32, .val (.int .i64 0))]) (L' := [(3, 30, [.rowc false (α := Int) 0 E_u32 o6]), (8, 53, [.rowc false (α := UInt8) 0 e8 (List.replicate 32 0)])]) (by kernel_rfl) (by kernel_rfl) ?_
  refine Wp.loopL ?_
  refine ok_sha_Sum_l3 n o6 n 0 (List.replicate 32 0) o7 ho7 ?_
  refine To.blockX ?_
  refine To.thenN ?_
  refine Wp.seq ?_
  obtain ⟨hc8, h⟩ := chk_of h
  refine Wp.region hΓ [(0, [8])] [(1, .str o7)] [] [2] [] (K' := [(2, .str o7)]) (L' := []) (ob := [(decide (List.length o7 = 32)) = true, (true = true → StrOb (List.flatMap e8 o7) (.str o7))]) (by kernel_rfl) (AllP.cons hc8 (AllP.cons (fun _ => strOb (flat8 _)) AllP.nil)) ?_
  refine To.thenN ?_
  refine Wp.ret ?_
  refine To.keep (kk := [2]) (kl := []) (K' := [(2, .str o7)]) (L' := []) (by kernel_rfl) (by kernel_rfl) ?_
  cases h
  exact To.done hΓ (by kernel_rfl)
def ref05_Pad_l1 (n : Nat) (v3 : Int) : Nat → (List (UInt8)) → Option ((List (UInt8)))
  | 0, _ => none
  | k + 1, v4 => if ((64 != 0)) = true then (if ((Int.tmod (List.length v4 : Int) 64) != 56) = true then (if (decide ((List.length v4 + List.length ([0] : List (UInt8))) * (1 + 1) ≤ limit)) = true then (ref05_Pad_l1 n v3 k (v4 ++ ([0] : List (UInt8)))) else none)
  else some v4) else none
theorem ok_ref05_Pad_l1 (n : Nat) (v3 : Int) {F0 : Fz} {w0 : Pt Try.prog} {Q : Exit → Act → World → Prop} (k : Nat) : ∀ (v4 : List (UInt8)) (o : (List (UInt8))), ref05_Pad_l1 n v3 k v4 = some o → To 44 F0 w0 [(3, .val (.int .i64 v3)), (4, .row 1004)] [(1004, 5, [.rowc false (α := UInt8) 0 e8 o])] (.exit 0) Q → WL Try.prog 44 F0 w0 [(3, .val (.int .i64 v3)), (4, .row 1004)] [(1004, 5, [.rowc false (α := UInt8) 0 e8 v4])] (cI (cI (cA (cB (cB (cB (cB (cF Try.f16)))))))) Q := by
  induction k with
  | zero => intro v4 o h; cases h
  | succ k ih =>
    intro v4 o h hQ
    rw [ref05_Pad_l1] at h
    refine WL.round ?_
    refine Wp.seq ?_
    refine Wp.seq ?_
    obtain ⟨hc2, h⟩ := chk_of h
    refine Wp.region hΓ [] [] [] [3, 4, 18] [1004] (K' := [(3, .val (.int .i64 v3)), (4, .row 1004), (18, .val (.bool ((Int.tmod (List.length v4 : Int) 64) != 56)))]) (L' := [(1004, 5, [.rowc false (α := UInt8) 0 e8 v4])]) (ob := [((64 != 0)) = true]) (by kernel_rfl) (AllP.cons hc2 AllP.nil) ?_
    refine To.thenN ?_
    refine Wp.cond (b := ((Int.tmod (List.length v4 : Int) 64) != 56)) (by kernel_rfl) (fun hb => ?_) (fun hb => ?_)
    · replace h := if_t hb h
      refine Wp.skip ?_
      refine To.thenN ?_
      refine Wp.block ?_
      obtain ⟨hc1, h⟩ := chk_of h
      refine Wp.region hΓ [] [(1, .recs (α := UInt8) 0 e8 [0]), (2, .recs (α := UInt8) 0 e8 (v4 ++ ([0] : List (UInt8))))] [] [3, 4] [21] (K' := [(3, .val (.int .i64 v3)), (4, .row 21)]) (L' := [(21, 5, [.rowc false (α := UInt8) 0 e8 (v4 ++ ([0] : List (UInt8)))])]) (ob := [(MkOb 1 [.val (.int .u8 0)] 1 (.recs (α := UInt8) 0 e8 [0]) ∧ GoodR (.recs (α := UInt8) 0 e8 [0])), (decide ((List.length v4 + List.length ([0] : List (UInt8))) * (1 + 1) ≤ limit)) = true, (AppOb 0 e8 v4 (List.flatMap e8 ([0] : List (UInt8))) (List.length ([0] : List (UInt8))) (.recs (α := UInt8) 0 e8 (v4 ++ ([0] : List (UInt8)))) ∧ GoodR (.recs (α := UInt8) 0 e8 (v4 ++ ([0] : List (UInt8)))))]) (by kernel_rfl) (AllP.cons (mkOb (All8.cells (ns := [0]) (.cons rfl .nil)) rfl rfl (good8 _)) (AllP.cons hc1 (AllP.cons (appOb rfl rfl (good8 _)) AllP.nil))) ?_
      refine To.blockN ?_
      refine To.keep (kk := [3, 4]) (kl := [21]) (K' := [(3, .val (.int .i64 v3)), (4, .row 21)]) (L' := [(21, 5, [.rowc false (α := UInt8) 0 e8 (v4 ++ ([0] : List (UInt8)))])]) (by kernel_rfl) (by kernel_rfl) ?_
      refine To.pre (St.rename 21 1004 (by decide) (K' := [(3, .val (.int .i64 v3)), (4, .row 1004)]) (L' := [(1004, 5, [.rowc false (α := UInt8) 0 e8 (v4 ++ ([0] : List (UInt8)))])]) (by kernel_rfl) (by kernel_rfl) (by kernel_rfl)) ?_
      refine To.keep (kk := [3, 4]) (kl := [1004]) (K' := [(3, .val (.int .i64 v3)), (4, .row 1004)]) (L' := [(1004, 5, [.rowc false (α := UInt8) 0 e8 (v4 ++ ([0] : List (UInt8)))])]) (by kernel_rfl) (by kernel_rfl) ?_
      refine To.again ?_
      exact ih (v4 ++ ([0] : List (UInt8))) _ h hQ
    · replace h := if_f hb h
      refine Wp.exit ?_
      refine To.thenX ?_
      refine To.thenX ?_
      refine To.keep (kk := [3, 4]) (kl := [1004]) (K' := [(3, .val (.int .i64 v3)), (4, .row 1004)]) (L' := [(1004, 5, [.rowc false (α := UInt8) 0 e8 v4])]) (by kernel_rfl) (by kernel_rfl) ?_
      cases h
      exact hQ
def ref05_Pad_l3 (n : Nat) (v3 : Int) (v4 : List (UInt8)) (v5 : Int) : Nat → Int → Int → Option (Int)
  | 0, _, _ => none
  | k + 1, v6, v7 => if (decide (v7 < v5)) = true then (if ((256 != 0)) = true then (ref05_Pad_l3 n v3 v4 v5 k (IntKind.wrap .u64 (Int.tdiv v6 256)) (IntKind.wrap .i64 (v7 + 1))) else none)
  else some v6
theorem ok_ref05_Pad_l3 (n : Nat) (v3 : Int) (v4 : List (UInt8)) (v5 : Int) {F0 : Fz} {w0 : Pt Try.prog} {Q : Exit → Act → World → Prop} (k : Nat) : ∀ (v6 : Int) (v7 : Int) (o : Int), ref05_Pad_l3 n v3 v4 v5 k v6 v7 = some o → To 44 F0 w0 [(3, .val (.int .i64 v3)), (4, .row 1004), (5, .val (.int .i64 v5)), (6, .val (.int .u64 o))] [(1004, 5, [.rowc false (α := UInt8) 0 e8 v4])] (.exit 4) Q → WL Try.prog 44 F0 w0 [(3, .val (.int .i64 v3)), (4, .row 1004), (5, .val (.int .i64 v5)), (6, .val (.int .u64 v6)), (7, .val (.int .i64 v7))] [(1004, 5, [.rowc false (α := UInt8) 0 e8 v4])] (cI (cI (cB (cA (cB (cI (cA (cB (cI (cI (cB (cA (cB (cB (cB (cB (cB (cF Try.f16)))))))))))))))))) Q := by
  induction k with
  | zero => intro v6 v7 o h; cases h
  | succ k ih =>
    intro v6 v7 o h hQ
    rw [ref05_Pad_l3] at h
    refine WL.round ?_
    refine Wp.seq ?_
    refine Wp.seq ?_
    refine Wp.region hΓ [] [] [] [3, 4, 5, 6, 7, 31] [1004] (K' := [(3, .val (.int .i64 v3)), (4, .row 1004), (5, .val (.int .i64 v5)), (6, .val (.int .u64 v6)), (7, .val (.int .i64 v7)), (31, .val (.bool (decide (v7 < v5))))]) (L' := [(1004, 5, [.rowc false (α := UInt8) 0 e8 v4])]) (ob := []) (by kernel_rfl) AllP.nil ?_
    refine To.thenN ?_
    refine Wp.cond (b := (decide (v7 < v5))) (by kernel_rfl) (fun hb => ?_) (fun hb => ?_)
    · replace h := if_t hb h
      refine Wp.skip ?_
      refine To.thenN ?_
      refine Wp.seq ?_
      refine Wp.block ?_
      obtain ⟨hc2, h⟩ := chk_of h
      refine Wp.region hΓ [] [] [] [3, 4, 5, 6, 7] [1004] (K' := [(3, .val (.int .i64 v3)), (4, .row 1004), (5, .val (.int .i64 v5)), (6, .val (.int .u64 (IntKind.wrap .u64 (Int.tdiv v6 256)))), (7, .val (.int .i64 v7))]) (L' := [(1004, 5, [.rowc false (α := UInt8) 0 e8 v4])]) (ob := [((256 != 0)) = true]) (by kernel_rfl) (AllP.cons hc2 AllP.nil) ?_
      refine To.blockN ?_
      refine To.thenN ?_
      refine Wp.region hΓ [] [] [] [3, 4, 5, 6, 7] [1004] (K' := [(3, .val (.int .i64 v3)), (4, .row 1004), (5, .val (.int .i64 v5)), (6, .val (.int .u64 (IntKind.wrap .u64 (Int.tdiv v6 256)))), (7, .val (.int .i64 (IntKind.wrap .i64 (v7 + 1))))]) (L' := [(1004, 5, [.rowc false (α := UInt8) 0 e8 v4])]) (ob := []) (by kernel_rfl) AllP.nil ?_
      refine To.keep (kk := [3, 4, 5, 6, 7]) (kl := [1004]) (K' := [(3, .val (.int .i64 v3)), (4, .row 1004), (5, .val (.int .i64 v5)), (6, .val (.int .u64 (IntKind.wrap .u64 (Int.tdiv v6 256)))), (7, .val (.int .i64 (IntKind.wrap .i64 (v7 + 1))))]) (L' := [(1004, 5, [.rowc false (α := UInt8) 0 e8 v4])]) (by kernel_rfl) (by kernel_rfl) ?_
      refine To.again ?_
      exact ih (IntKind.wrap .u64 (Int.tdiv v6 256)) (IntKind.wrap .i64 (v7 + 1)) _ h hQ
    · replace h := if_f hb h
      refine Wp.exit ?_
      refine To.thenX ?_
      refine To.thenX ?_
      refine To.keep (kk := [3, 4, 5, 6]) (kl := [1004]) (K' := [(3, .val (.int .i64 v3)), (4, .row 1004), (5, .val (.int .i64 v5)), (6, .val (.int .u64 v6))]) (L' := [(1004, 5, [.rowc false (α := UInt8) 0 e8 v4])]) (by kernel_rfl) (by kernel_rfl) ?_
      cases h
      exact hQ
def ref05_Pad_l2 (n : Nat) (v3 : Int) : Nat → (List (UInt8)) → Int → Option ((List (UInt8)))
  | 0, _, _ => none
  | k + 1, v4, v5 => if (decide (v5 ≥ 0)) = true then ((ref05_Pad_l3 n v3 v4 v5 n (IntKind.wrap .u64 ((IntKind.wrap .u64 (v3)) * 8)) 0).bind fun o2 =>
  if ((256 != 0)) = true then (if (decide (0 ≤ (IntKind.wrap .u8 ((Int.tmod o2 256))) ∧ (IntKind.wrap .u8 ((Int.tmod o2 256))) < 256)) = true then (if (decide ((List.length v4 + List.length ([(UInt8.ofNat (Int.toNat (IntKind.wrap .u8 ((Int.tmod o2 256)))))] : List (UInt8))) * (1 + 1) ≤ limit)) = true then (ref05_Pad_l2 n v3 k (v4 ++ ([(UInt8.ofNat (Int.toNat (IntKind.wrap .u8 ((Int.tmod o2 256)))))] : List (UInt8))) (IntKind.wrap .i64 (v5 - 1))) else none) else none) else none)
  else some v4
theorem ok_ref05_Pad_l2 (n : Nat) (v3 : Int) {F0 : Fz} {w0 : Pt Try.prog} {Q : Exit → Act → World → Prop} (k : Nat) : ∀ (v4 : List (UInt8)) (v5 : Int) (o : (List (UInt8))), ref05_Pad_l2 n v3 k v4 v5 = some o → To 44 F0 w0 [(4, .row 1004)] [(1004, 5, [.rowc false (α := UInt8) 0 e8 o])] (.exit 2) Q → WL Try.prog 44 F0 w0 [(3, .val (.int .i64 v3)), (4, .row 1004), (5, .val (.int .i64 v5))] [(1004, 5, [.rowc false (α := UInt8) 0 e8 v4])] (cI (cI (cB (cA (cB (cB (cB (cB (cB (cF Try.f16)))))))))) Q := by
  induction k with
  | zero => intro v4 v5 o h; cases h
  | succ k ih =>
    intro v4 v5 o h hQ
    rw [ref05_Pad_l2] at h
    refine WL.round ?_
    refine Wp.seq ?_
    refine Wp.seq ?_
    refine Wp.region hΓ [] [] [] [3, 4, 5, 23] [1004] (K' := [(3, .val (.int .i64 v3)), (4, .row 1004), (5, .val (.int .i64 v5)), (23, .val (.bool (decide (v5 ≥ 0))))]) (L' := [(1004, 5, [.rowc false (α := UInt8) 0 e8 v4])]) (ob := []) (by kernel_rfl) AllP.nil ?_
    refine To.thenN ?_
    refine Wp.cond (b := (decide (v5 ≥ 0))) (by kernel_rfl) (fun hb => ?_) (fun hb => ?_)
    · replace h := if_t hb h
      refine Wp.skip ?_
      refine To.thenN ?_
      refine Wp.seq ?_
      refine Wp.block ?_
      refine Wp.seq ?_
      refine Wp.region hΓ [] [] [] [3, 4, 5, 6] [1004] (K' := [(3, .val (.int .i64 v3)), (4, .row 1004), (5, .val (.int .i64 v5)), (6, .val (.int .u64 (IntKind.wrap .u64 ((IntKind.wrap .u64 (v3)) * 8))))]) (L' := [(1004, 5, [.rowc false (α := UInt8) 0 e8 v4])]) (ob := []) (by kernel_rfl) AllP.nil ?_
      refine To.thenN ?_
      refine Wp.seq ?_
      refine Wp.seq ?_
      refine Wp.region hΓ [] [] [] [3, 4, 5, 6, 7] [1004] (K' := [(3, .val (.int .i64 v3)), (4, .row 1004), (5, .val (.int .i64 v5)), (6, .val (.int .u64 (IntKind.wrap .u64 ((IntKind.wrap .u64 (v3)) * 8)))), (7, .val (.int .i64 0))]) (L' := [(1004, 5, [.rowc false (α := UInt8) 0 e8 v4])]) (ob := []) (by kernel_rfl) AllP.nil ?_
      refine To.thenN ?_
      refine Wp.block ?_
      obtain ⟨o2, ho2, h⟩ := bind_of h
      refine Wp.keep (kk := [3, 4, 5, 6, 7]) (kl := [1004]) (K' := [(3, .val (.int .i64 v3)), (4, .row 1004), (5, .val (.int .i64 v5)), (6, .val (.int .u64 (IntKind.wrap .u64 ((IntKind.wrap .u64 (v3)) * 8)))), (7, .val (.int .i64 0))]) (L' := [(1004, 5, [.rowc false (α := UInt8) 0 e8 v4])]) (by kernel_rfl) (by kernel_rfl) ?_
      refine Wp.loopL ?_
      refine ok_ref05_Pad_l3 n v3 v4 v5 n (IntKind.wrap .u64 ((IntKind.wrap .u64 (v3)) * 8)) 0 o2 ho2 ?_
      refine To.blockX ?_
      refine To.thenN ?_
      obtain ⟨hc4, h⟩ := chk_of h
      obtain ⟨u3, h⟩ := chk_of h
      obtain ⟨hc5, h⟩ := chk_of h
      refine Wp.region hΓ [] [(4, .recs (α := UInt8) 0 e8 [(UInt8.ofNat (Int.toNat (IntKind.wrap .u8 ((Int.tmod o2 256)))))]), (5, .recs (α := UInt8) 0 e8 (v4 ++ ([(UInt8.ofNat (Int.toNat (IntKind.wrap .u8 ((Int.tmod o2 256)))))] : List (UInt8))))] [] [3, 4, 5] [41] (K' := [(3, .val (.int .i64 v3)), (4, .row 41), (5, .val (.int .i64 v5))]) (L' := [(41, 5, [.rowc false (α := UInt8) 0 e8 (v4 ++ ([(UInt8.ofNat (Int.toNat (IntKind.wrap .u8 ((Int.tmod o2 256)))))] : List (UInt8)))])]) (ob := [((256 != 0)) = true, (MkOb 1 [.val (.int .u8 (IntKind.wrap .u8 ((Int.tmod o2 256))))] 1 (.recs (α := UInt8) 0 e8 [(UInt8.ofNat (Int.toNat (IntKind.wrap .u8 ((Int.tmod o2 256)))))]) ∧ GoodR (.recs (α := UInt8) 0 e8 [(UInt8.ofNat (Int.toNat (IntKind.wrap .u8 ((Int.tmod o2 256)))))])), (decide ((List.length v4 + List.length ([(UInt8.ofNat (Int.toNat (IntKind.wrap .u8 ((Int.tmod o2 256)))))] : List (UInt8))) * (1 + 1) ≤ limit)) = true, (AppOb 0 e8 v4 (List.flatMap e8 ([(UInt8.ofNat (Int.toNat (IntKind.wrap .u8 ((Int.tmod o2 256)))))] : List (UInt8))) (List.length ([(UInt8.ofNat (Int.toNat (IntKind.wrap .u8 ((Int.tmod o2 256)))))] : List (UInt8))) (.recs (α := UInt8) 0 e8 (v4 ++ ([(UInt8.ofNat (Int.toNat (IntKind.wrap .u8 ((Int.tmod o2 256)))))] : List (UInt8)))) ∧ GoodR (.recs (α := UInt8) 0 e8 (v4 ++ ([(UInt8.ofNat (Int.toNat (IntKind.wrap .u8 ((Int.tmod o2 256)))))] : List (UInt8)))))]) (by kernel_rfl) (AllP.cons hc4 (AllP.cons (mkOb (All8.cells (ns := [(IntKind.wrap .u8 ((Int.tmod o2 256)))]) (.cons (u8_of u3) .nil)) rfl rfl (good8 _)) (AllP.cons hc5 (AllP.cons (appOb rfl rfl (good8 _)) AllP.nil)))) ?_
      refine To.blockN ?_
      refine To.thenN ?_
      refine Wp.region hΓ [] [] [] [3, 4, 5] [41] (K' := [(3, .val (.int .i64 v3)), (4, .row 41), (5, .val (.int .i64 (IntKind.wrap .i64 (v5 - 1))))]) (L' := [(41, 5, [.rowc false (α := UInt8) 0 e8 (v4 ++ ([(UInt8.ofNat (Int.toNat (IntKind.wrap .u8 ((Int.tmod o2 256)))))] : List (UInt8)))])]) (ob := []) (by kernel_rfl) AllP.nil ?_
      refine To.keep (kk := [3, 4, 5]) (kl := [41]) (K' := [(3, .val (.int .i64 v3)), (4, .row 41), (5, .val (.int .i64 (IntKind.wrap .i64 (v5 - 1))))]) (L' := [(41, 5, [.rowc false (α := UInt8) 0 e8 (v4 ++ ([(UInt8.ofNat (Int.toNat (IntKind.wrap .u8 ((Int.tmod o2 256)))))] : List (UInt8)))])]) (by kernel_rfl) (by kernel_rfl) ?_
      refine To.pre (St.rename 41 1004 (by decide) (K' := [(3, .val (.int .i64 v3)), (4, .row 1004), (5, .val (.int .i64 (IntKind.wrap .i64 (v5 - 1))))]) (L' := [(1004, 5, [.rowc false (α := UInt8) 0 e8 (v4 ++ ([(UInt8.ofNat (Int.toNat (IntKind.wrap .u8 ((Int.tmod o2 256)))))] : List (UInt8)))])]) (by kernel_rfl) (by kernel_rfl) (by kernel_rfl)) ?_
      refine To.keep (kk := [3, 4, 5]) (kl := [1004]) (K' := [(3, .val (.int .i64 v3)), (4, .row 1004), (5, .val (.int .i64 (IntKind.wrap .i64 (v5 - 1))))]) (L' := [(1004, 5, [.rowc false (α := UInt8) 0 e8 (v4 ++ ([(UInt8.ofNat (Int.toNat (IntKind.wrap .u8 ((Int.tmod o2 256)))))] : List (UInt8)))])]) (by kernel_rfl) (by kernel_rfl) ?_
      refine To.again ?_
      exact ih (v4 ++ ([(UInt8.ofNat (Int.toNat (IntKind.wrap .u8 ((Int.tmod o2 256)))))] : List (UInt8))) (IntKind.wrap .i64 (v5 - 1)) _ h hQ
    · replace h := if_f hb h
      refine Wp.exit ?_
      refine To.thenX ?_
      refine To.thenX ?_
      refine To.keep (kk := [4]) (kl := [1004]) (K' := [(4, .row 1004)]) (L' := [(1004, 5, [.rowc false (α := UInt8) 0 e8 v4])]) (by kernel_rfl) (by kernel_rfl) ?_
      cases h
      exact hQ
def ref05_Pad (n : Nat) (a0 : List UInt8) : Option ((List UInt8)) :=
  if (decide (List.length a0 ≤ limit)) = true then (if (decide ((List.length a0 + List.length ([128] : List (UInt8))) * (1 + 1) ≤ limit)) = true then ((ref05_Pad_l1 n (List.length a0 : Int) n (a0 ++ ([128] : List (UInt8)))).bind fun o1 =>
  (ref05_Pad_l2 n (List.length a0 : Int) n o1 7).bind fun o2 =>
  some o2) else none) else none
theorem ok_ref05_Pad (n : Nat) (a0 : List UInt8) (r : (List UInt8)) (h : ref05_Pad n a0 = some r) : CallsX Try.prog 16 [.str a0] (.str r) := by
  unfold ref05_Pad at h
  refine callsX_of (fn := Try.f16) (by kernel_rfl) rfl (by kernel_rfl) (Nat.le_of_ble_eq_true (by kernel_rfl)) fun F0 w0 _ => ?_
  refine Wp.keep (kk := [0]) (kl := []) (K' := [(0, .str a0)]) (L' := []) (by kernel_rfl) (by kernel_rfl) ?_
  refine Wp.seq ?_
  refine Wp.region hΓ [] [] [] [0] [] (K' := [(0, .str a0)]) (L' := []) (ob := []) (by kernel_rfl) AllP.nil ?_
  refine To.thenN ?_
  refine Wp.seq ?_
  refine Wp.region hΓ [] [] [] [0, 3] [] (K' := [(0, .str a0), (3, .val (.int .i64 (List.length a0 : Int)))]) (L' := []) (ob := []) (by kernel_rfl) AllP.nil ?_
  refine To.thenN ?_
  refine Wp.seq ?_
  obtain ⟨hc4, h⟩ := chk_of h
  refine Wp.region hΓ [] [(1, .recs (α := UInt8) 0 e8 a0)] [] [3, 4] [11] (K' := [(3, .val (.int .i64 (List.length a0 : Int))), (4, .row 11)]) (L' := [(11, 5, [.rowc false (α := UInt8) 0 e8 a0])]) (ob := [(decide (List.length a0 ≤ limit)) = true, (MkOb 1 (List.map (fun b : UInt8 => D.val (.int .u8 (b.toNat : Int))) a0) (List.length a0) (.recs (α := UInt8) 0 e8 a0) ∧ GoodR (.recs (α := UInt8) 0 e8 a0))]) (by kernel_rfl) (AllP.cons hc4 (AllP.cons (mkOb (flat8 _) rfl rfl (good8 _)) AllP.nil)) ?_
  refine To.thenN ?_
  refine Wp.seq ?_
  obtain ⟨hc3, h⟩ := chk_of h
  refine Wp.region hΓ [] [(1, .recs (α := UInt8) 0 e8 [128]), (2, .recs (α := UInt8) 0 e8 (a0 ++ ([128] : List (UInt8))))] [] [3, 4] [14] (K' := [(3, .val (.int .i64 (List.length a0 : Int))), (4, .row 14)]) (L' := [(14, 5, [.rowc false (α := UInt8) 0 e8 (a0 ++ ([128] : List (UInt8)))])]) (ob := [(MkOb 1 [.val (.int .u8 128)] 1 (.recs (α := UInt8) 0 e8 [128]) ∧ GoodR (.recs (α := UInt8) 0 e8 [128])), (decide ((List.length a0 + List.length ([128] : List (UInt8))) * (1 + 1) ≤ limit)) = true, (AppOb 0 e8 a0 (List.flatMap e8 ([128] : List (UInt8))) (List.length ([128] : List (UInt8))) (.recs (α := UInt8) 0 e8 (a0 ++ ([128] : List (UInt8)))) ∧ GoodR (.recs (α := UInt8) 0 e8 (a0 ++ ([128] : List (UInt8)))))]) (by kernel_rfl) (AllP.cons (mkOb (All8.cells (ns := [128]) (.cons rfl .nil)) rfl rfl (good8 _)) (AllP.cons hc3 (AllP.cons (appOb rfl rfl (good8 _)) AllP.nil))) ?_
  refine To.thenN ?_
  refine Wp.seq ?_
  refine Wp.block ?_
  obtain ⟨o1, ho1, h⟩ := bind_of h
  refine Wp.keep (kk := [3, 4]) (kl := [14]) (K' := [(3, .val (.int .i64 (List.length a0 : Int))), (4, .row 14)]) (L' := [(14, 5, [.rowc false (α := UInt8) 0 e8 (a0 ++ ([128] : List (UInt8)))])]) (by kernel_rfl) (by kernel_rfl) ?_
  refine Wp.pre (St.rename 14 1004 (by decide) (K' := [(3, .val (.int .i64 (List.length a0 : Int))), (4, .row 1004)]) (L' := [(1004, 5, [.rowc false (α := UInt8) 0 e8 (a0 ++ ([128] : List (UInt8)))])]) (by kernel_rfl) (by kernel_rfl) (by kernel_rfl)) ?_
  refine Wp.keep (kk := [3, 4]) (kl := [1004]) (K' := [(3, .val (.int .i64 (List.length a0 : Int))), (4, .row 1004)]) (L' := [(1004, 5, [.rowc false (α := UInt8) 0 e8 (a0 ++ ([128] : List (UInt8)))])]) (by kernel_rfl) (by kernel_rfl) ?_
  refine Wp.loopL ?_
  refine ok_ref05_Pad_l1 n (List.length a0 : Int) n (a0 ++ ([128] : List (UInt8))) o1 ho1 ?_
  refine To.blockX ?_
  refine To.thenN ?_
  refine Wp.seq ?_
  refine Wp.seq ?_
  refine Wp.region hΓ [] [] [] [3, 4, 5] [1004] (K' := [(3, .val (.int .i64 (List.length a0 : Int))), (4, .row 1004), (5, .val (.int .i64 7))]) (L' := [(1004, 5, [.rowc false (α := UInt8) 0 e8 o1])]) (ob := []) (by kernel_rfl) AllP.nil ?_
  refine To.thenN ?_
  refine Wp.block ?_
  obtain ⟨o2, ho2, h⟩ := bind_of h
  refine Wp.keep (kk := [3, 4, 5]) (kl := [1004]) (K' := [(3, .val (.int .i64 (List.length a0 : Int))), (4, .row 1004), (5, .val (.int .i64 7))]) (L' := [(1004, 5, [.rowc false (α := UInt8) 0 e8 o1])]) (by kernel_rfl) (by kernel_rfl) ?_
  refine Wp.loopL ?_
  refine ok_ref05_Pad_l2 n (List.length a0 : Int) n o1 7 o2 ho2 ?_
  refine To.blockX ?_
  refine To.thenN ?_
  refine Wp.seq ?_
  refine Wp.region hΓ [] [(1, .str o2)] [] [2] [] (K' := [(2, .str o2)]) (L' := []) (ob := [(true = true → StrOb (List.flatMap e8 o2) (.str o2))]) (by kernel_rfl) (AllP.cons (fun _ => strOb (flat8 _)) AllP.nil) ?_
  refine To.thenN ?_
  refine Wp.ret ?_
  refine To.keep (kk := [2]) (kl := []) (K' := [(2, .str o2)]) (L' := []) (by kernel_rfl) (by kernel_rfl) ?_
  cases h
  exact To.done hΓ (by kernel_rfl)
def ref05_Sum_l1 (n : Nat) (v0 : List UInt8) (v4 : List (Int)) : Nat → Int → (List (Int)) → Option ((List (Int)))
  | 0, _, _ => none
  | k + 1, v5, b3 => if (decide (v5 < 8)) = true then (if (decide (0 ≤ v5 ∧ v5 < (List.length v4 : Int))) = true then ((ref05_Root n ((v4)[Int.toNat v5]?.getD 0) 2).bind fun r2 =>
  if (decide (0 ≤ v5 ∧ v5 < (8 : Int))) = true then (if (decide (0 ≤ v5 ∧ v5 < (List.length b3 : Int))) = true then (ref05_Sum_l1 n v0 v4 k (IntKind.wrap .i64 (v5 + 1)) (List.set b3 (Int.toNat v5) r2)) else none) else none) else none)
  else some b3
theorem ok_ref05_Sum_l1 (n : Nat) (v0 : List UInt8) (v4 : List (Int)) {F0 : Fz} {w0 : Pt Try.prog} {Q : Exit → Act → World → Prop} (k : Nat) : ∀ (v5 : Int) (b3 : List (Int)) (o : (List (Int))), ref05_Sum_l1 n v0 v4 k v5 b3 = some o → To 71 F0 w0 [(0, .str v0), (3, .elm 3 0 1 0)] [(3, 29, [.rowc false (α := Int) 0 E_u32 o])] (.exit 0) Q → WL Try.prog 71 F0 w0 [(0, .str v0), (3, .elm 3 0 1 0), (4, .recs (α := Int) 0 E_i64 v4), (5, .val (.int .i64 v5))] [(3, 29, [.rowc false (α := Int) 0 E_u32 b3])] (cI (cI (cB (cA (cB (cB (cB (cF Try.f20)))))))) Q := by
  induction k with
  | zero => intro v5 b3 o h; cases h
  | succ k ih =>
    intro v5 b3 o h hQ
    rw [ref05_Sum_l1] at h
    refine WL.round ?_
    refine Wp.seq ?_
    refine Wp.seq ?_
    refine Wp.region hΓ [] [] [] [0, 3, 4, 5, 13] [3] (K' := [(0, .str v0), (3, .elm 3 0 1 0), (4, .recs (α := Int) 0 E_i64 v4), (5, .val (.int .i64 v5)), (13, .val (.bool (decide (v5 < 8))))]) (L' := [(3, 29, [.rowc false (α := Int) 0 E_u32 b3])]) (ob := []) (by kernel_rfl) AllP.nil ?_
    refine To.thenN ?_
    refine Wp.cond (b := (decide (v5 < 8))) (by kernel_rfl) (fun hb => ?_) (fun hb => ?_)
    · replace h := if_t hb h
      refine Wp.skip ?_
      refine To.thenN ?_
      refine Wp.seq ?_
      refine Wp.block ?_
      obtain ⟨hc3, h⟩ := chk_of h
      obtain ⟨r2, hr2, h⟩ := bind_of h
      obtain ⟨hc4, h⟩ := chk_of h
      obtain ⟨hc5, h⟩ := chk_of h
      refine Wp.region hΓ [] [(5, .val (.int .u32 r2)), (7, .recs (α := Int) 0 E_u32 (List.set b3 (Int.toNat v5) r2))] [] [0, 3, 4, 5] [3] (K' := [(0, .str v0), (3, .elm 3 0 1 0), (4, .recs (α := Int) 0 E_i64 v4), (5, .val (.int .i64 v5))]) (L' := [(3, 29, [.rowc false (α := Int) 0 E_u32 (List.set b3 (Int.toNat v5) r2)])]) (ob := [(decide (0 ≤ v5 ∧ v5 < (List.length v4 : Int))) = true, (true = true → CX Try.prog 11 [.val (.int .i64 ((v4)[Int.toNat v5]?.getD 0)), .val (.int .i64 2)] (.val (.int .u32 r2))), (decide (0 ≤ v5 ∧ v5 < (8 : Int))) = true, (decide (0 ≤ v5 ∧ v5 < (List.length b3 : Int))) = true, UpdOb 0 E_u32 b3 v5 0 [.val (.int .u32 r2)] (.recs (α := Int) 0 E_u32 (List.set b3 (Int.toNat v5) r2))]) (by kernel_rfl) (AllP.cons hc3 (AllP.cons (fun _ => cx (ok_ref05_Root n ((v4)[Int.toNat v5]?.getD 0) 2 _ hr2)) (AllP.cons hc4 (AllP.cons hc5 (AllP.cons (updOb (by kernel_rfl)) AllP.nil))))) ?_
      refine To.blockN ?_
      refine To.thenN ?_
      refine Wp.region hΓ [] [] [] [0, 3, 4, 5] [3] (K' := [(0, .str v0), (3, .elm 3 0 1 0), (4, .recs (α := Int) 0 E_i64 v4), (5, .val (.int .i64 (IntKind.wrap .i64 (v5 + 1))))]) (L' := [(3, 29, [.rowc false (α := Int) 0 E_u32 (List.set b3 (Int.toNat v5) r2)])]) (ob := []) (by kernel_rfl) AllP.nil ?_
      refine To.keep (kk := [0, 3, 4, 5]) (kl := [3]) (K' := [(0, .str v0), (3, .elm 3 0 1 0), (4, .recs (α := Int) 0 E_i64 v4), (5, .val (.int .i64 (IntKind.wrap .i64 (v5 + 1))))]) (L' := [(3, 29, [.rowc false (α := Int) 0 E_u32 (List.set b3 (Int.toNat v5) r2)])]) (by kernel_rfl) (by kernel_rfl) ?_
      refine To.again ?_
      exact ih (IntKind.wrap .i64 (v5 + 1)) (List.set b3 (Int.toNat v5) r2) _ h hQ
    · replace h := if_f hb h
      refine Wp.exit ?_
      refine To.thenX ?_
      refine To.thenX ?_
      refine To.keep (kk := [0, 3]) (kl := [3]) (K' := [(0, .str v0), (3, .elm 3 0 1 0)]) (L' := [(3, 29, [.rowc false (α := Int) 0 E_u32 b3])]) (by kernel_rfl) (by kernel_rfl) ?_
      cases h
      exact hQ
def ref05_Sum_l2 (n : Nat) (v6 : List (Int)) (v7 : List UInt8) : Nat → Int → (List (Int)) → Option ((List (Int)))
  | 0, _, _ => none
  | k + 1, v8, b3 => if (decide ((IntKind.wrap .i64 (v8 + 64)) ≤ (List.length v7 : Int))) = true then (if (decide (List.length b3 = 8)) = true then (if (decide (0 ≤ v8 ∧ v8 ≤ (List.length v7 : Int))) = true then ((ref05_Block n b3 (List.drop (Int.toNat v8) v7) v6).bind fun r5 =>
  if (decide (List.length r5 = 8)) = true then (ref05_Sum_l2 n v6 v7 k (IntKind.wrap .i64 (v8 + 64)) r5) else none) else none) else none)
  else some b3
theorem ok_ref05_Sum_l2 (n : Nat) (v6 : List (Int)) (v7 : List UInt8) {F0 : Fz} {w0 : Pt Try.prog} {Q : Exit → Act → World → Prop} (k : Nat) : ∀ (v8 : Int) (b3 : List (Int)) (o : (List (Int))), ref05_Sum_l2 n v6 v7 k v8 b3 = some o → To 71 F0 w0 [(3, .elm 3 0 1 0)] [(3, 29, [.rowc false (α := Int) 0 E_u32 o])] (.exit 2) Q → WL Try.prog 71 F0 w0 [(3, .elm 3 0 1 0), (6, .recs (α := Int) 0 E_u32 v6), (7, .str v7), (8, .val (.int .i64 v8))] [(3, 29, [.rowc false (α := Int) 0 E_u32 b3])] (cI (cI (cB (cA (cB (cB (cB (cB (cB (cB (cF Try.f20))))))))))) Q := by
  induction k with
  | zero => intro v8 b3 o h; cases h
  | succ k ih =>
    intro v8 b3 o h hQ
    rw [ref05_Sum_l2] at h
    refine WL.round ?_
    refine Wp.seq ?_
    refine Wp.seq ?_
    refine Wp.region hΓ [] [] [] [3, 6, 7, 8, 30] [3] (K' := [(3, .elm 3 0 1 0), (6, .recs (α := Int) 0 E_u32 v6), (7, .str v7), (8, .val (.int .i64 v8)), (30, .val (.bool (decide ((IntKind.wrap .i64 (v8 + 64)) ≤ (List.length v7 : Int)))))]) (L' := [(3, 29, [.rowc false (α := Int) 0 E_u32 b3])]) (ob := []) (by kernel_rfl) AllP.nil ?_
    refine To.thenN ?_
    refine Wp.cond (b := (decide ((IntKind.wrap .i64 (v8 + 64)) ≤ (List.length v7 : Int)))) (by kernel_rfl) (fun hb => ?_) (fun hb => ?_)
    · replace h := if_t hb h
      refine Wp.skip ?_
      refine To.thenN ?_
      refine Wp.seq ?_
      refine Wp.block ?_
      obtain ⟨hc7, h⟩ := chk_of h
      obtain ⟨hc8, h⟩ := chk_of h
      obtain ⟨r5, hr5, h⟩ := bind_of h
      obtain ⟨u6, h⟩ := chk_of h
      refine Wp.regionS hm hΓ 5 [] [(5, .arr (α := Int) 0 E_u32 r5), (6, .recs (α := Int) 0 E_u32 r5)] [] [3, 6, 7, 8] [3] (K' := [(3, .elm 3 0 1 0), (6, .recs (α := Int) 0 E_u32 v6), (7, .str v7), (8, .val (.int .i64 v8))]) (L' := [(3, 29, [.rowc false (α := Int) 0 E_u32 r5])]) (ob := [(decide (List.length b3 = 8)) = true, (decide (0 ≤ v8 ∧ v8 ≤ (List.length v7 : Int))) = true, (true = true → CX Try.prog 27 [.arr (α := Int) 0 E_u32 b3, .str (List.drop (Int.toNat v8) v7), .recs (α := Int) 0 E_u32 v6] (.arr (α := Int) 0 E_u32 r5)), (decide (List.length b3 = 8)) = true, (MkOb 1 (D.cells (.arr (α := Int) 0 E_u32 r5)) 8 (.recs (α := Int) 0 E_u32 r5) ∧ GoodR (.recs (α := Int) 0 E_u32 r5))]) (by kernel_rfl) (AllP.cons hc7 (AllP.cons hc8 (AllP.cons (fun _ => cx (ok_ref05_Block n b3 (List.drop (Int.toNat v8) v7) v6 _ hr5)) (AllP.cons hc7 (AllP.cons (mkOb rfl (of_decide_eq_true u6) rfl (good_E_u32 _)) AllP.nil))))) ?_
      refine To.blockN ?_
      refine To.thenN ?_
      refine Wp.region hΓ [] [] [] [3, 6, 7, 8] [3] (K' := [(3, .elm 3 0 1 0), (6, .recs (α := Int) 0 E_u32 v6), (7, .str v7), (8, .val (.int .i64 (IntKind.wrap .i64 (v8 + 64))))]) (L' := [(3, 29, [.rowc false (α := Int) 0 E_u32 r5])]) (ob := []) (by kernel_rfl) AllP.nil ?_
      refine To.keep (kk := [3, 6, 7, 8]) (kl := [3]) (K' := [(3, .elm 3 0 1 0), (6, .recs (α := Int) 0 E_u32 v6), (7, .str v7), (8, .val (.int .i64 (IntKind.wrap .i64 (v8 + 64))))]) (L' := [(3, 29, [.rowc false (α := Int) 0 E_u32 r5])]) (by kernel_rfl) (by kernel_rfl) ?_
      refine To.again ?_
      exact ih (IntKind.wrap .i64 (v8 + 64)) r5 _ h hQ
    · replace h := if_f hb h
      refine Wp.exit ?_
      refine To.thenX ?_
      refine To.thenX ?_
      refine To.keep (kk := [3]) (kl := [3]) (K' := [(3, .elm 3 0 1 0)]) (L' := [(3, 29, [.rowc false (α := Int) 0 E_u32 b3])]) (by kernel_rfl) (by kernel_rfl) ?_
      cases h
      exact hQ
def ref05_Sum_l3 (n : Nat) (b3 : List (Int)) : Nat → (List (UInt8)) → Int → Option ((List (UInt8)))
  | 0, _, _ => none
  | k + 1, v9, v10 => if (decide (v10 < 8)) = true then (if (decide (0 ≤ v10 ∧ v10 < (8 : Int))) = true then (if (decide (0 ≤ v10 ∧ v10 < (List.length b3 : Int))) = true then (if ((16777216 != 0)) = true then (if ((65536 != 0)) = true then (if ((256 != 0)) = true then (if (decide (0 ≤ (IntKind.wrap .u8 ((IntKind.wrap .u32 (Int.tdiv ((b3)[Int.toNat v10]?.getD 0) 16777216)))) ∧ (IntKind.wrap .u8 ((IntKind.wrap .u32 (Int.tdiv ((b3)[Int.toNat v10]?.getD 0) 16777216)))) < 256)) = true then (if (decide (0 ≤ (IntKind.wrap .u8 ((Int.tmod (IntKind.wrap .u32 (Int.tdiv ((b3)[Int.toNat v10]?.getD 0) 65536)) 256))) ∧ (IntKind.wrap .u8 ((Int.tmod (IntKind.wrap .u32 (Int.tdiv ((b3)[Int.toNat v10]?.getD 0) 65536)) 256))) < 256)) = true then (if (decide (0 ≤ (IntKind.wrap .u8 ((Int.tmod (IntKind.wrap .u32 (Int.tdiv ((b3)[Int.toNat v10]?.getD 0) 256)) 256))) ∧ (IntKind.wrap .u8 ((Int.tmod (IntKind.wrap .u32 (Int.tdiv ((b3)[Int.toNat v10]?.getD 0) 256)) 256))) < 256)) = true then (if (decide (0 ≤ (IntKind.wrap .u8 ((Int.tmod ((b3)[Int.toNat v10]?.getD 0) 256))) ∧ (IntKind.wrap .u8 ((Int.tmod ((b3)[Int.toNat v10]?.getD 0) 256))) < 256)) = true then (if (decide ((List.length v9 + List.length ([(UInt8.ofNat (Int.toNat (IntKind.wrap .u8 ((IntKind.wrap .u32 (Int.tdiv ((b3)[Int.toNat v10]?.getD 0) 16777216)))))), (UInt8.ofNat (Int.toNat (IntKind.wrap .u8 ((Int.tmod (IntKind.wrap .u32 (Int.tdiv ((b3)[Int.toNat v10]?.getD 0) 65536)) 256))))), (UInt8.ofNat (Int.toNat (IntKind.wrap .u8 ((Int.tmod (IntKind.wrap .u32 (Int.tdiv ((b3)[Int.toNat v10]?.getD 0) 256)) 256))))), (UInt8.ofNat (Int.toNat (IntKind.wrap .u8 ((Int.tmod ((b3)[Int.toNat v10]?.getD 0) 256)))))] : List (UInt8))) * (1 + 1) ≤ limit)) = true then (lett ((v9 ++ ([(UInt8.ofNat (Int.toNat (IntKind.wrap .u8 ((IntKind.wrap .u32 (Int.tdiv ((b3)[Int.toNat v10]?.getD 0) 16777216)))))), (UInt8.ofNat (Int.toNat (IntKind.wrap .u8 ((Int.tmod (IntKind.wrap .u32 (Int.tdiv ((b3)[Int.toNat v10]?.getD 0) 65536)) 256))))), (UInt8.ofNat (Int.toNat (IntKind.wrap .u8 ((Int.tmod (IntKind.wrap .u32 (Int.tdiv ((b3)[Int.toNat v10]?.getD 0) 256)) 256))))), (UInt8.ofNat (Int.toNat (IntKind.wrap .u8 ((Int.tmod ((b3)[Int.toNat v10]?.getD 0) 256)))))] : List (UInt8))) : List (UInt8)) fun x10 =>
  ref05_Sum_l3 n b3 k x10 (IntKind.wrap .i64 (v10 + 1))) else none) else none) else none) else none) else none) else none) else none) else none) else none) else none)
  else some v9
theorem ok_ref05_Sum_l3 (n : Nat) (b3 : List (Int)) {F0 : Fz} {w0 : Pt Try.prog} {Q : Exit → Act → World → Prop} (k : Nat) : ∀ (v9 : List (UInt8)) (v10 : Int) (o : (List (UInt8))), ref05_Sum_l3 n b3 k v9 v10 = some o → To 71 F0 w0 [(9, .row 1009)] [(1009, 5, [.rowc false (α := UInt8) 0 e8 o])] (.exit 4) Q → WL Try.prog 71 F0 w0 [(3, .elm 3 0 1 0), (9, .row 1009), (10, .val (.int .i64 v10))] [(3, 29, [.rowc false (α := Int) 0 E_u32 b3]), (1009, 5, [.rowc false (α := UInt8) 0 e8 v9])] (cI (cI (cB (cA (cB (cB (cB (cB (cB (cB (cB (cB (cF Try.f20))))))))))))) Q := by
  induction k with
  | zero => intro v9 v10 o h; cases h
  | succ k ih =>
    intro v9 v10 o h hQ
    rw [ref05_Sum_l3] at h
    refine WL.round ?_
    refine Wp.seq ?_
    refine Wp.seq ?_
    refine Wp.region hΓ [] [] [] [3, 9, 10, 41] [3, 1009] (K' := [(3, .elm 3 0 1 0), (9, .row 1009), (10, .val (.int .i64 v10)), (41, .val (.bool (decide (v10 < 8))))]) (L' := [(3, 29, [.rowc false (α := Int) 0 E_u32 b3]), (1009, 5, [.rowc false (α := UInt8) 0 e8 v9])]) (ob := []) (by kernel_rfl) AllP.nil ?_
    refine To.thenN ?_
    refine Wp.cond (b := (decide (v10 < 8))) (by kernel_rfl) (fun hb => ?_) (fun hb => ?_)
    · replace h := if_t hb h
      refine Wp.skip ?_
      refine To.thenN ?_
      refine Wp.seq ?_
      refine Wp.block ?_
      obtain ⟨hc11, h⟩ := chk_of h
      obtain ⟨hc12, h⟩ := chk_of h
      obtain ⟨hc13, h⟩ := chk_of h
      obtain ⟨hc14, h⟩ := chk_of h
      obtain ⟨hc15, h⟩ := chk_of h
      obtain ⟨u6, h⟩ := chk_of h
      obtain ⟨u7, h⟩ := chk_of h
      obtain ⟨u8, h⟩ := chk_of h
      obtain ⟨u9, h⟩ := chk_of h
      obtain ⟨hc16, h⟩ := chk_of h
      obtain ⟨x10, hx10, h⟩ := lett_of h
      refine Wp.regionD hm hΓ [(23, .recs (α := UInt8) 0 e8 ([(UInt8.ofNat (Int.toNat (IntKind.wrap .u8 ((IntKind.wrap .u32 (Int.tdiv ((b3)[Int.toNat v10]?.getD 0) 16777216)))))), (UInt8.ofNat (Int.toNat (IntKind.wrap .u8 ((Int.tmod (IntKind.wrap .u32 (Int.tdiv ((b3)[Int.toNat v10]?.getD 0) 65536)) 256))))), (UInt8.ofNat (Int.toNat (IntKind.wrap .u8 ((Int.tmod (IntKind.wrap .u32 (Int.tdiv ((b3)[Int.toNat v10]?.getD 0) 256)) 256))))), (UInt8.ofNat (Int.toNat (IntKind.wrap .u8 ((Int.tmod ((b3)[Int.toNat v10]?.getD 0) 256)))))])), (24, .row 68), (1024, .recs (α := UInt8) 0 e8 (v9 ++ ([(UInt8.ofNat (Int.toNat (IntKind.wrap .u8 ((IntKind.wrap .u32 (Int.tdiv ((b3)[Int.toNat v10]?.getD 0) 16777216)))))), (UInt8.ofNat (Int.toNat (IntKind.wrap .u8 ((Int.tmod (IntKind.wrap .u32 (Int.tdiv ((b3)[Int.toNat v10]?.getD 0) 65536)) 256))))), (UInt8.ofNat (Int.toNat (IntKind.wrap .u8 ((Int.tmod (IntKind.wrap .u32 (Int.tdiv ((b3)[Int.toNat v10]?.getD 0) 256)) 256))))), (UInt8.ofNat (Int.toNat (IntKind.wrap .u8 ((Int.tmod ((b3)[Int.toNat v10]?.getD 0) 256)))))] : List (UInt8))))] [3, 9, 10] [3, 68] (K' := [(3, .elm 3 0 1 0), (9, .row 68), (10, .val (.int .i64 v10))]) (L' := [(3, 29, [.rowc false (α := Int) 0 E_u32 b3]), (68, 5, [.rowc false (α := UInt8) 0 e8 (v9 ++ ([(UInt8.ofNat (Int.toNat (IntKind.wrap .u8 ((IntKind.wrap .u32 (Int.tdiv ((b3)[Int.toNat v10]?.getD 0) 16777216)))))), (UInt8.ofNat (Int.toNat (IntKind.wrap .u8 ((Int.tmod (IntKind.wrap .u32 (Int.tdiv ((b3)[Int.toNat v10]?.getD 0) 65536)) 256))))), (UInt8.ofNat (Int.toNat (IntKind.wrap .u8 ((Int.tmod (IntKind.wrap .u32 (Int.tdiv ((b3)[Int.toNat v10]?.getD 0) 256)) 256))))), (UInt8.ofNat (Int.toNat (IntKind.wrap .u8 ((Int.tmod ((b3)[Int.toNat v10]?.getD 0) 256)))))] : List (UInt8)))])]) (ob := [(decide (0 ≤ v10 ∧ v10 < (8 : Int))) = true, (decide (0 ≤ v10 ∧ v10 < (List.length b3 : Int))) = true, ((16777216 != 0)) = true, (decide (0 ≤ v10 ∧ v10 < (8 : Int))) = true, (decide (0 ≤ v10 ∧ v10 < (List.length b3 : Int))) = true, ((65536 != 0)) = true, ((256 != 0)) = true, (decide (0 ≤ v10 ∧ v10 < (8 : Int))) = true, (decide (0 ≤ v10 ∧ v10 < (List.length b3 : Int))) = true, ((256 != 0)) = true, ((256 != 0)) = true, (decide (0 ≤ v10 ∧ v10 < (8 : Int))) = true, (decide (0 ≤ v10 ∧ v10 < (List.length b3 : Int))) = true, ((256 != 0)) = true, (true = true → MkOb 1 [.val (.int .u8 (IntKind.wrap .u8 ((IntKind.wrap .u32 (Int.tdiv ((b3)[Int.toNat v10]?.getD 0) 16777216))))), .val (.int .u8 (IntKind.wrap .u8 ((Int.tmod (IntKind.wrap .u32 (Int.tdiv ((b3)[Int.toNat v10]?.getD 0) 65536)) 256)))), .val (.int .u8 (IntKind.wrap .u8 ((Int.tmod (IntKind.wrap .u32 (Int.tdiv ((b3)[Int.toNat v10]?.getD 0) 256)) 256)))), .val (.int .u8 (IntKind.wrap .u8 ((Int.tmod ((b3)[Int.toNat v10]?.getD 0) 256))))] 4 (.recs (α := UInt8) 0 e8 ([(UInt8.ofNat (Int.toNat (IntKind.wrap .u8 ((IntKind.wrap .u32 (Int.tdiv ((b3)[Int.toNat v10]?.getD 0) 16777216)))))), (UInt8.ofNat (Int.toNat (IntKind.wrap .u8 ((Int.tmod (IntKind.wrap .u32 (Int.tdiv ((b3)[Int.toNat v10]?.getD 0) 65536)) 256))))), (UInt8.ofNat (Int.toNat (IntKind.wrap .u8 ((Int.tmod (IntKind.wrap .u32 (Int.tdiv ((b3)[Int.toNat v10]?.getD 0) 256)) 256))))), (UInt8.ofNat (Int.toNat (IntKind.wrap .u8 ((Int.tmod ((b3)[Int.toNat v10]?.getD 0) 256)))))])) ∧ GoodR (.recs (α := UInt8) 0 e8 ([(UInt8.ofNat (Int.toNat (IntKind.wrap .u8 ((IntKind.wrap .u32 (Int.tdiv ((b3)[Int.toNat v10]?.getD 0) 16777216)))))), (UInt8.ofNat (Int.toNat (IntKind.wrap .u8 ((Int.tmod (IntKind.wrap .u32 (Int.tdiv ((b3)[Int.toNat v10]?.getD 0) 65536)) 256))))), (UInt8.ofNat (Int.toNat (IntKind.wrap .u8 ((Int.tmod (IntKind.wrap .u32 (Int.tdiv ((b3)[Int.toNat v10]?.getD 0) 256)) 256))))), (UInt8.ofNat (Int.toNat (IntKind.wrap .u8 ((Int.tmod ((b3)[Int.toNat v10]?.getD 0) 256)))))]))), (decide ((List.length v9 + List.length ([(UInt8.ofNat (Int.toNat (IntKind.wrap .u8 ((IntKind.wrap .u32 (Int.tdiv ((b3)[Int.toNat v10]?.getD 0) 16777216)))))), (UInt8.ofNat (Int.toNat (IntKind.wrap .u8 ((Int.tmod (IntKind.wrap .u32 (Int.tdiv ((b3)[Int.toNat v10]?.getD 0) 65536)) 256))))), (UInt8.ofNat (Int.toNat (IntKind.wrap .u8 ((Int.tmod (IntKind.wrap .u32 (Int.tdiv ((b3)[Int.toNat v10]?.getD 0) 256)) 256))))), (UInt8.ofNat (Int.toNat (IntKind.wrap .u8 ((Int.tmod ((b3)[Int.toNat v10]?.getD 0) 256)))))] : List (UInt8))) * (1 + 1) ≤ limit)) = true, (AppOb 0 e8 v9 (List.flatMap e8 ([(UInt8.ofNat (Int.toNat (IntKind.wrap .u8 ((IntKind.wrap .u32 (Int.tdiv ((b3)[Int.toNat v10]?.getD 0) 16777216)))))), (UInt8.ofNat (Int.toNat (IntKind.wrap .u8 ((Int.tmod (IntKind.wrap .u32 (Int.tdiv ((b3)[Int.toNat v10]?.getD 0) 65536)) 256))))), (UInt8.ofNat (Int.toNat (IntKind.wrap .u8 ((Int.tmod (IntKind.wrap .u32 (Int.tdiv ((b3)[Int.toNat v10]?.getD 0) 256)) 256))))), (UInt8.ofNat (Int.toNat (IntKind.wrap .u8 ((Int.tmod ((b3)[Int.toNat v10]?.getD 0) 256)))))] : List (UInt8))) (List.length ([(UInt8.ofNat (Int.toNat (IntKind.wrap .u8 ((IntKind.wrap .u32 (Int.tdiv ((b3)[Int.toNat v10]?.getD 0) 16777216)))))), (UInt8.ofNat (Int.toNat (IntKind.wrap .u8 ((Int.tmod (IntKind.wrap .u32 (Int.tdiv ((b3)[Int.toNat v10]?.getD 0) 65536)) 256))))), (UInt8.ofNat (Int.toNat (IntKind.wrap .u8 ((Int.tmod (IntKind.wrap .u32 (Int.tdiv ((b3)[Int.toNat v10]?.getD 0) 256)) 256))))), (UInt8.ofNat (Int.toNat (IntKind.wrap .u8 ((Int.tmod ((b3)[Int.toNat v10]?.getD 0) 256)))))] : List (UInt8))) (.recs (α := UInt8) 0 e8 (v9 ++ ([(UInt8.ofNat (Int.toNat (IntKind.wrap .u8 ((IntKind.wrap .u32 (Int.tdiv ((b3)[Int.toNat v10]?.getD 0) 16777216)))))), (UInt8.ofNat (Int.toNat (IntKind.wrap .u8 ((Int.tmod (IntKind.wrap .u32 (Int.tdiv ((b3)[Int.toNat v10]?.getD 0) 65536)) 256))))), (UInt8.ofNat (Int.toNat (IntKind.wrap .u8 ((Int.tmod (IntKind.wrap .u32 (Int.tdiv ((b3)[Int.toNat v10]?.getD 0) 256)) 256))))), (UInt8.ofNat (Int.toNat (IntKind.wrap .u8 ((Int.tmod ((b3)[Int.toNat v10]?.getD 0) 256)))))] : List (UInt8)))) ∧ GoodR (.recs (α := UInt8) 0 e8 (v9 ++ ([(UInt8.ofNat (Int.toNat (IntKind.wrap .u8 ((IntKind.wrap .u32 (Int.tdiv ((b3)[Int.toNat v10]?.getD 0) 16777216)))))), (UInt8.ofNat (Int.toNat (IntKind.wrap .u8 ((Int.tmod (IntKind.wrap .u32 (Int.tdiv ((b3)[Int.toNat v10]?.getD 0) 65536)) 256))))), (UInt8.ofNat (Int.toNat (IntKind.wrap .u8 ((Int.tmod (IntKind.wrap .u32 (Int.tdiv ((b3)[Int.toNat v10]?.getD 0) 256)) 256))))), (UInt8.ofNat (Int.toNat (IntKind.wrap .u8 ((Int.tmod ((b3)[Int.toNat v10]?.getD 0) 256)))))] : List (UInt8)))))]) (by kernel_rfl) (AllP.cons hc11 (AllP.cons hc12 (AllP.cons hc13 (AllP.cons hc11 (AllP.cons hc12 (AllP.cons hc14 (AllP.cons hc15 (AllP.cons hc11 (AllP.cons hc12 (AllP.cons hc15 (AllP.cons hc15 (AllP.cons hc11 (AllP.cons hc12 (AllP.cons hc15 (AllP.cons (fun _ => mkOb (All8.cells (ns := [(IntKind.wrap .u8 ((IntKind.wrap .u32 (Int.tdiv ((b3)[Int.toNat v10]?.getD 0) 16777216)))), (IntKind.wrap .u8 ((Int.tmod (IntKind.wrap .u32 (Int.tdiv ((b3)[Int.toNat v10]?.getD 0) 65536)) 256))), (IntKind.wrap .u8 ((Int.tmod (IntKind.wrap .u32 (Int.tdiv ((b3)[Int.toNat v10]?.getD 0) 256)) 256))), (IntKind.wrap .u8 ((Int.tmod ((b3)[Int.toNat v10]?.getD 0) 256)))]) (.cons (u8_of u6) (.cons (u8_of u7) (.cons (u8_of u8) (.cons (u8_of u9) .nil))))) rfl rfl (good8 _)) (AllP.cons hc16 (AllP.cons (appOb rfl rfl (good8 _)) AllP.nil))))))))))))))))) ?_
      refine To.eq (K' := [(3, .elm 3 0 1 0), (9, .row 68), (10, .val (.int .i64 v10))]) (L' := [(3, 29, [.rowc false (α := Int) 0 E_u32 b3]), (68, 5, [.rowc false (α := UInt8) 0 e8 x10])]) (by cases hx10; rfl) (by cases hx10; rfl) ?_
      refine To.blockN ?_
      refine To.thenN ?_
      refine Wp.region hΓ [] [] [] [3, 9, 10] [3, 68] (K' := [(3, .elm 3 0 1 0), (9, .row 68), (10, .val (.int .i64 (IntKind.wrap .i64 (v10 + 1))))]) (L' := [(3, 29, [.rowc false (α := Int) 0 E_u32 b3]), (68, 5, [.rowc false (α := UInt8) 0 e8 x10])]) (ob := []) (by kernel_rfl) AllP.nil ?_
      refine To.keep (kk := [3, 9, 10]) (kl := [3, 68]) (K' := [(3, .elm 3 0 1 0), (9, .row 68), (10, .val (.int .i64 (IntKind.wrap .i64 (v10 + 1))))]) (L' := [(3, 29, [.rowc false (α := Int) 0 E_u32 b3]), (68, 5, [.rowc false (α := UInt8) 0 e8 x10])]) (by kernel_rfl) (by kernel_rfl) ?_
      refine To.pre (St.rename 68 1009 (by decide) (K' := [(3, .elm 3 0 1 0), (9, .row 1009), (10, .val (.int .i64 (IntKind.wrap .i64 (v10 + 1))))]) (L' := [(3, 29, [.rowc false (α := Int) 0 E_u32 b3]), (1009, 5, [.rowc false (α := UInt8) 0 e8 x10])]) (by kernel_rfl) (by kernel_rfl) (by kernel_rfl)) ?_
      refine To.keep (kk := [3, 9, 10]) (kl := [3, 1009]) (K' := [(3, .elm 3 0 1 0), (9, .row 1009), (10, .val (.int .i64 (IntKind.wrap .i64 (v10 + 1))))]) (L' := [(3, 29, [.rowc false (α := Int) 0 E_u32 b3]), (1009, 5, [.rowc false (α := UInt8) 0 e8 x10])]) (by kernel_rfl) (by kernel_rfl) ?_
      refine To.again ?_
      exact ih x10 (IntKind.wrap .i64 (v10 + 1)) _ h hQ
    · replace h := if_f hb h
      refine Wp.exit ?_
      refine To.thenX ?_
      refine To.thenX ?_
      refine To.keep (kk := [9]) (kl := [1009]) (K' := [(9, .row 1009)]) (L' := [(1009, 5, [.rowc false (α := UInt8) 0 e8 v9])]) (by kernel_rfl) (by kernel_rfl) ?_
      cases h
      exact hQ
def ref05_Sum (n : Nat) (a0 : List UInt8) : Option ((List UInt8)) :=
  (ref05_Primes n 8).bind fun r1 =>
  (ref05_Sum_l1 n a0 r1 n 0 (List.replicate 8 0)).bind fun o2 =>
  (ref05_constants n).bind fun r3 =>
  (ref05_Pad n a0).bind fun r4 =>
  (ref05_Sum_l2 n r3 r4 n 0 o2).bind fun o5 =>
  (ref05_Sum_l3 n o5 n ([] : List (UInt8)) 0).bind fun o6 =>
  some o6
theorem ok_ref05_Sum (n : Nat) (a0 : List UInt8) (r : (List UInt8)) (h : ref05_Sum n a0 = some r) : CallsX Try.prog 20 [.str a0] (.str r) := by
  unfold ref05_Sum at h
  refine callsX_of (fn := Try.f20) (by kernel_rfl) rfl (by kernel_rfl) (Nat.le_of_ble_eq_true (by kernel_rfl)) fun F0 w0 _ => ?_
  refine Wp.keep (kk := [0]) (kl := []) (K' := [(0, .str a0)]) (L' := []) (by kernel_rfl) (by kernel_rfl) ?_
  refine Wp.seq ?_
  refine Wp.region hΓ [] [] [] [0] [] (K' := [(0, .str a0)]) (L' := []) (ob := []) (by kernel_rfl) AllP.nil ?_
  refine To.thenN ?_
  refine Wp.seq ?_
  refine Wp.region hΓ [] [] [] [0, 3] [3] (K' := [(0, .str a0), (3, .own 3 0)]) (L' := [(3, 29, [.val (.int .u32 0), .val (.int .u32 0), .val (.int .u32 0), .val (.int .u32 0), .val (.int .u32 0), .val (.int .u32 0), .val (.int .u32 0), .val (.int .u32 0)])]) (ob := []) (by kernel_rfl) AllP.nil ?_
  refine To.pre (St.toRow (t := 29) (l := (List.replicate 8 0)) 3 1 8 (by decide) (by decide) (good_E_u32 _) (by kernel_rfl) (by kernel_rfl) (by kernel_rfl) (by kernel_rfl) (K' := [(0, .str a0), (3, .elm 3 0 1 0)]) (L' := [(3, 29, [.rowc false (α := Int) 0 E_u32 (List.replicate 8 0)])]) (by kernel_rfl) (by kernel_rfl)) ?_
  refine To.thenN ?_
  refine Wp.seq ?_
  obtain ⟨r1, hr1, h⟩ := bind_of h
  refine Wp.region hΓ [] [(0, .recs (α := Int) 0 E_i64 r1)] [] [0, 3, 4] [3] (K' := [(0, .str a0), (3, .elm 3 0 1 0), (4, .recs (α := Int) 0 E_i64 r1)]) (L' := [(3, 29, [.rowc false (α := Int) 0 E_u32 (List.replicate 8 0)])]) (ob := [(true = true → CX Try.prog 9 [.val (.int .i64 8)] (.recs (α := Int) 0 E_i64 r1))]) (by kernel_rfl) (AllP.cons (fun _ => cx (ok_ref05_Primes n 8 _ hr1)) AllP.nil) ?_
  refine To.thenN ?_
  refine Wp.seq ?_
  refine Wp.seq ?_
  refine Wp.region hΓ [] [] [] [0, 3, 4, 5] [3] (K' := [(0, .str a0), (3, .elm 3 0 1 0), (4, .recs (α := Int) 0 E_i64 r1), (5, .val (.int .i64 0))]) (L' := [(3, 29, [.rowc false (α := Int) 0 E_u32 (List.replicate 8 0)])]) (ob := []) (by kernel_rfl) AllP.nil ?_
  refine To.thenN ?_
  refine Wp.block ?_
  obtain ⟨o2, ho2, h⟩ := bind_of h
  refine Wp.keep (kk := [0, 3, 4, 5]) (kl := [3]) (K' := [(0, .str a0), (3, .elm 3 0 1 0), (4, .recs (α := Int) 0 E_i64 r1), (5, .val (.int .i64 0))]) (L' := [(3, 29, [.rowc false (α := Int) 0 E_u32 (List.replicate 8 0)])]) (by kernel_rfl) (by kernel_rfl) ?_
  refine Wp.loopL ?_
  refine ok_ref05_Sum_l1 n a0 r1 n 0 (List.replicate 8 0) o2 ho2 ?_
  refine To.blockX ?_
  refine To.thenN ?_
  refine Wp.seq ?_
  obtain ⟨r3, hr3, h⟩ := bind_of h
  refine Wp.region hΓ [] [(0, .recs (α := Int) 0 E_u32 r3)] [] [0, 3, 6] [3] (K' := [(0, .str a0), (3, .elm 3 0 1 0), (6, .recs (α := Int) 0 E_u32 r3)]) (L' := [(3, 29, [.rowc false (α := Int) 0 E_u32 o2])]) (ob := [(true = true → CX Try.prog 28 [] (.recs (α := Int) 0 E_u32 r3))]) (by kernel_rfl) (AllP.cons (fun _ => cx (ok_ref05_constants n  _ hr3)) AllP.nil) ?_
  refine To.thenN ?_
  refine Wp.seq ?_
  obtain ⟨r4, hr4, h⟩ := bind_of h
  refine Wp.region hΓ [] [(1, .str r4)] [] [3, 6, 7] [3] (K' := [(3, .elm 3 0 1 0), (6, .recs (α := Int) 0 E_u32 r3), (7, .str r4)]) (L' := [(3, 29, [.rowc false (α := Int) 0 E_u32 o2])]) (ob := [(true = true → CX Try.prog 16 [.str a0] (.str r4))]) (by kernel_rfl) (AllP.cons (fun _ => cx (ok_ref05_Pad n a0 _ hr4)) AllP.nil) ?_
  refine To.thenN ?_
  refine Wp.seq ?_
  refine Wp.seq ?_
  refine Wp.region hΓ [] [] [] [3, 6, 7, 8] [3] (K' := [(3, .elm 3 0 1 0), (6, .recs (α := Int) 0 E_u32 r3), (7, .str r4), (8, .val (.int .i64 0))]) (L' := [(3, 29, [.rowc false (α := Int) 0 E_u32 o2])]) (ob := []) (by kernel_rfl) AllP.nil ?_
  refine To.thenN ?_
  refine Wp.block ?_
  obtain ⟨o5, ho5, h⟩ := bind_of h
  refine Wp.keep (kk := [3, 6, 7, 8]) (kl := [3]) (K' := [(3, .elm 3 0 1 0), (6, .recs (α := Int) 0 E_u32 r3), (7, .str r4), (8, .val (.int .i64 0))]) (L' := [(3, 29, [.rowc false (α := Int) 0 E_u32 o2])]) (by kernel_rfl) (by kernel_rfl) ?_
  refine Wp.loopL ?_
  refine ok_ref05_Sum_l2 n r3 r4 n 0 o2 o5 ho5 ?_
  refine To.blockX ?_
  refine To.thenN ?_
  refine Wp.seq ?_
  refine Wp.region hΓ [] [(0, .recs (α := UInt8) 0 e8 [])] [] [3, 9] [3, 39] (K' := [(3, .elm 3 0 1 0), (9, .row 39)]) (L' := [(3, 29, [.rowc false (α := Int) 0 E_u32 o5]), (39, 5, [.rowc false (α := UInt8) 0 e8 []])]) (ob := [(MkOb 1 [] 0 (.recs (α := UInt8) 0 e8 []) ∧ GoodR (.recs (α := UInt8) 0 e8 []))]) (by kernel_rfl) (AllP.cons (mkOb (All8.cells (ns := []) .nil) rfl rfl (good8 _)) AllP.nil) ?_
  refine To.thenN ?_
  refine Wp.seq ?_
  refine Wp.seq ?_
  refine Wp.region hΓ [] [] [] [3, 9, 10] [3, 39] (K' := [(3, .elm 3 0 1 0), (9, .row 39), (10, .val (.int .i64 0))]) (L' := [(3, 29, [.rowc false (α := Int) 0 E_u32 o5]), (39, 5, [.rowc false (α := UInt8) 0 e8 []])]) (ob := []) (by kernel_rfl) AllP.nil ?_
  refine To.thenN ?_
  refine Wp.block ?_
  obtain ⟨o6, ho6, h⟩ := bind_of h
  refine Wp.keep (kk := [3, 9, 10]) (kl := [3, 39]) (K' := [(3, .elm 3 0 1 0), (9, .row 39), (10, .val (.int .i64 0))]) (L' := [(3, 29, [.rowc false (α := Int) 0 E_u32 o5]), (39, 5, [.rowc false (α := UInt8) 0 e8 []])]) (by kernel_rfl) (by kernel_rfl) ?_
  refine Wp.pre (St.rename 39 1009 (by decide) (K' := [(3, .elm 3 0 1 0), (9, .row 1009), (10, .val (.int .i64 0))]) (L' := [(3, 29, [.rowc false (α := Int) 0 E_u32 o5]), (1009, 5, [.rowc false (α := UInt8) 0 e8 []])]) (by kernel_rfl) (by kernel_rfl) (by kernel_rfl)) ?_
  refine Wp.keep (kk := [3, 9, 10]) (kl := [3, 1009]) (K' := [(3, .elm 3 0 1 0), (9, .row 1009), (10, .val (.int .i64 0))]) (L' := [(3, 29, [.rowc false (α := Int) 0 E_u32 o5]), (1009, 5, [.rowc false (α := UInt8) 0 e8 []])]) (by kernel_rfl) (by kernel_rfl) ?_
  refine Wp.loopL ?_
  refine ok_ref05_Sum_l3 n o5 n ([] : List (UInt8)) 0 o6 ho6 ?_
  refine To.blockX ?_
  refine To.thenN ?_
  refine Wp.seq ?_
  refine Wp.region hΓ [] [(1, .str o6)] [] [2] [] (K' := [(2, .str o6)]) (L' := []) (ob := [(true = true → StrOb (List.flatMap e8 o6) (.str o6))]) (by kernel_rfl) (AllP.cons (fun _ => strOb (flat8 _)) AllP.nil) ?_
  refine To.thenN ?_
  refine Wp.ret ?_
  refine To.keep (kk := [2]) (kl := []) (K' := [(2, .str o6)]) (L' := []) (by kernel_rfl) (by kernel_rfl) ?_
  cases h
  exact To.done hΓ (by kernel_rfl)
def sha_Print (n : Nat) (a0 : List UInt8) : Option ((List UInt8)) :=
  (sha_Sum n a0).bind fun r1 =>
  (sha_Hex n r1).bind fun r2 =>
  some r2
theorem ok_sha_Print (n : Nat) (a0 : List UInt8) (r : (List UInt8)) (h : sha_Print n a0 = some r) : CallsX Try.prog 21 [.str a0] (.str r) := by
  unfold sha_Print at h
  refine callsX_of (fn := Try.f21) (by kernel_rfl) rfl (by kernel_rfl) (Nat.le_of_ble_eq_true (by kernel_rfl)) fun F0 w0 _ => ?_
  refine Wp.keep (kk := [0]) (kl := []) (K' := [(0, .str a0)]) (L' := []) (by kernel_rfl) (by kernel_rfl) ?_
  refine Wp.seq ?_
  refine Wp.region hΓ [] [] [] [0] [] (K' := [(0, .str a0)]) (L' := []) (ob := []) (by kernel_rfl) AllP.nil ?_
  refine To.thenN ?_
  refine Wp.seq ?_
  obtain ⟨r1, hr1, h⟩ := bind_of h
  obtain ⟨r2, hr2, h⟩ := bind_of h
  refine Wp.region hΓ [] [(1, .str r1), (2, .str r2)] [] [2] [] (K' := [(2, .str r2)]) (L' := []) (ob := [(true = true → CX Try.prog 19 [.str a0] (.str r1)), (true = true → CX Try.prog 17 [.str r1] (.str r2))]) (by kernel_rfl) (AllP.cons (fun _ => cx (ok_sha_Sum n a0 _ hr1)) (AllP.cons (fun _ => cx (ok_sha_Hex n r1 _ hr2)) AllP.nil)) ?_
  refine To.thenN ?_
  refine Wp.ret ?_
  refine To.keep (kk := [2]) (kl := []) (K' := [(2, .str r2)]) (L' := []) (by kernel_rfl) (by kernel_rfl) ?_
  cases h
  exact To.done hΓ (by kernel_rfl)
def ref05_digit (a0 : Int) : Int :=
  if (decide (a0 < 10)) = true then ((IntKind.wrap .u8 (48 + a0)))
  else ((IntKind.wrap .u8 (87 + a0)))
theorem ok_ref05_digit (a0 : Int) (r : Int) (h : ref05_digit a0 = r) : CallsX Try.prog 30 [.val (.int .u8 a0)] (.val (.int .u8 r)) := by
  unfold ref05_digit at h
  refine callsX_of (fn := Try.f30) (by kernel_rfl) rfl (by kernel_rfl) (Nat.le_of_ble_eq_true (by kernel_rfl)) fun F0 w0 _ => ?_
  refine Wp.keep (kk := [0]) (kl := []) (K' := [(0, .val (.int .u8 a0))]) (L' := []) (by kernel_rfl) (by kernel_rfl) ?_
  refine Wp.seq ?_
  refine Wp.region hΓ [] [] [] [0] [] (K' := [(0, .val (.int .u8 a0))]) (L' := []) (ob := []) (by kernel_rfl) AllP.nil ?_
  refine To.thenN ?_
  refine Wp.seq ?_
  refine Wp.seq ?_
  refine Wp.region hΓ [] [] [] [0, 4] [] (K' := [(0, .val (.int .u8 a0)), (4, .val (.bool (decide (a0 < 10))))]) (L' := []) (ob := []) (by kernel_rfl) AllP.nil ?_
  refine To.thenN ?_
  refine Wp.cond (b := (decide (a0 < 10))) (by kernel_rfl) (fun hb => ?_) (fun hb => ?_)
  · replace h := if_t hb h
    refine Wp.seq ?_
    refine Wp.region hΓ [] [] [] [2] [] (K' := [(2, .val (.int .u8 (IntKind.wrap .u8 (48 + a0))))]) (L' := []) (ob := []) (by kernel_rfl) AllP.nil ?_
    refine To.thenN ?_
    refine Wp.ret ?_
    refine To.thenR ?_
    refine To.keep (kk := [2]) (kl := []) (K' := [(2, .val (.int .u8 (IntKind.wrap .u8 (48 + a0))))]) (L' := []) (by kernel_rfl) (by kernel_rfl) ?_
    cases h
    exact To.done hΓ (by kernel_rfl)
  · replace h := if_f hb h
    refine Wp.skip ?_
    refine To.thenN ?_
    refine Wp.seq ?_
    refine Wp.region hΓ [] [] [] [2] [] (K' := [(2, .val (.int .u8 (IntKind.wrap .u8 (87 + a0))))]) (L' := []) (ob := []) (by kernel_rfl) AllP.nil ?_
    refine To.thenN ?_
    refine Wp.ret ?_
    refine To.keep (kk := [2]) (kl := []) (K' := [(2, .val (.int .u8 (IntKind.wrap .u8 (87 + a0))))]) (L' := []) (by kernel_rfl) (by kernel_rfl) ?_
    cases h
    exact To.done hΓ (by kernel_rfl)
def ref05_Hex_l1 (n : Nat) (v0 : List UInt8) : Nat → (List (UInt8)) → Int → Option ((List (UInt8)))
  | 0, _, _ => none
  | k + 1, v3, v4 => if (decide (v4 < (List.length v0 : Int))) = true then (if (decide (0 ≤ v4 ∧ v4 < (List.length v0 : Int))) = true then (if ((16 != 0)) = true then (lett (ref05_digit (IntKind.wrap .u8 (Int.tdiv (((v0)[Int.toNat v4]?.getD 0).toNat : Int) 16))) fun r1 =>
  lett (ref05_digit (Int.tmod (((v0)[Int.toNat v4]?.getD 0).toNat : Int) 16)) fun r2 =>
  if (decide (0 ≤ r1 ∧ r1 < 256)) = true then (if (decide (0 ≤ r2 ∧ r2 < 256)) = true then (if (decide ((List.length v3 + List.length ([(UInt8.ofNat (Int.toNat r1)), (UInt8.ofNat (Int.toNat r2))] : List (UInt8))) * (1 + 1) ≤ limit)) = true then (ref05_Hex_l1 n v0 k (v3 ++ ([(UInt8.ofNat (Int.toNat r1)), (UInt8.ofNat (Int.toNat r2))] : List (UInt8))) (IntKind.wrap .i64 (v4 + 1))) else none) else none) else none) else none) else none)
  else some v3
end Go.Proofs.Yteliiabopphgmaa.M