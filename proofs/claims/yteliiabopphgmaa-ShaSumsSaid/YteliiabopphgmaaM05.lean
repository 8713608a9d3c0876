/-
  Printed by wip/tools/gen.py: models and walks of functions.
-/
import Derived.Test.YteliiabopphgmaaM05b
namespace Go.Proofs.Yteliiabopphgmaa.M
open Go.RowKit Go.Proofs.Yteliiabopphgmaa.RX
set_option maxRecDepth 100000
theorem ok_ref05_Hex_l1 (n : Nat) (v0 : List UInt8) {F0 : Fz} {w0 : Pt Try.prog} {Q : Exit → Act → World → Prop} (k : Nat) : ∀ (v3 : List (UInt8)) (v4 : Int) (o : (List (UInt8))), ref05_Hex_l1 n v0 k v3 v4 = some o → To 27 F0 w0 [(3, .row 1003)] [(1003, 5, [.rowc false (α := UInt8) 0 e8 o])] (.exit 0) Q → WL Try.prog 27 F0 w0 [(0, .str v0), (3, .row 1003), (4, .val (.int .i64 v4))] [(1003, 5, [.rowc false (α := UInt8) 0 e8 v3])] (cI (cI (cB (cA (cB (cB (cF Try.f18))))))) Q := by
  induction k with
  | zero => intro v3 v4 o h; cases h
  | succ k ih =>
    intro v3 v4 o h hQ
    rw [ref05_Hex_l1] at h
    refine WL.round ?_
    refine Wp.seq ?_
    refine Wp.seq ?_
    refine Wp.region hΓ [] [] [] [0, 3, 4, 9] [1003] (K' := [(0, .str v0), (3, .row 1003), (4, .val (.int .i64 v4)), (9, .val (.bool (decide (v4 < (List.length v0 : Int)))))]) (L' := [(1003, 5, [.rowc false (α := UInt8) 0 e8 v3])]) (ob := []) (by kernel_rfl) AllP.nil ?_
    refine To.thenN ?_
    refine Wp.cond (b := (decide (v4 < (List.length v0 : Int)))) (by kernel_rfl) (fun hb => ?_) (fun hb => ?_)
    · replace h := if_t hb h
      refine Wp.skip ?_
      refine To.thenN ?_
      refine Wp.seq ?_
      refine Wp.block ?_
      obtain ⟨hc5, h⟩ := chk_of h
      obtain ⟨hc6, h⟩ := chk_of h
      obtain ⟨r1, hr1, h⟩ := lett_of h
      obtain ⟨r2, hr2, h⟩ := lett_of h
      obtain ⟨u3, h⟩ := chk_of h
      obtain ⟨u4, h⟩ := chk_of h
      obtain ⟨hc7, h⟩ := chk_of h
      refine Wp.regionD hm hΓ [(5, .val (.int .u8 r1)), (10, .val (.int .u8 r2)), (11, .recs (α := UInt8) 0 e8 [(UInt8.ofNat (Int.toNat r1)), (UInt8.ofNat (Int.toNat r2))]), (12, .row 24), (1012, .recs (α := UInt8) 0 e8 (v3 ++ ([(UInt8.ofNat (Int.toNat r1)), (UInt8.ofNat (Int.toNat r2))] : List (UInt8))))] [0, 3, 4] [24] (K' := [(0, .str v0), (3, .row 24), (4, .val (.int .i64 v4))]) (L' := [(24, 5, [.rowc false (α := UInt8) 0 e8 (v3 ++ ([(UInt8.ofNat (Int.toNat r1)), (UInt8.ofNat (Int.toNat r2))] : List (UInt8)))])]) (ob := [(decide (0 ≤ v4 ∧ v4 < (List.length v0 : Int))) = true, ((16 != 0)) = true, (true = true → CX Try.prog 30 [.val (.int .u8 (IntKind.wrap .u8 (Int.tdiv (((v0)[Int.toNat v4]?.getD 0).toNat : Int) 16)))] (.val (.int .u8 r1))), (decide (0 ≤ v4 ∧ v4 < (List.length v0 : Int))) = true, ((16 != 0)) = true, (true = true → CX Try.prog 30 [.val (.int .u8 (Int.tmod (((v0)[Int.toNat v4]?.getD 0).toNat : Int) 16))] (.val (.int .u8 r2))), (true = true → MkOb 1 [.val (.int .u8 r1), .val (.int .u8 r2)] 2 (.recs (α := UInt8) 0 e8 [(UInt8.ofNat (Int.toNat r1)), (UInt8.ofNat (Int.toNat r2))]) ∧ GoodR (.recs (α := UInt8) 0 e8 [(UInt8.ofNat (Int.toNat r1)), (UInt8.ofNat (Int.toNat r2))])), (decide ((List.length v3 + List.length ([(UInt8.ofNat (Int.toNat r1)), (UInt8.ofNat (Int.toNat r2))] : List (UInt8))) * (1 + 1) ≤ limit)) = true, (AppOb 0 e8 v3 (List.flatMap e8 ([(UInt8.ofNat (Int.toNat r1)), (UInt8.ofNat (Int.toNat r2))] : List (UInt8))) (List.length ([(UInt8.ofNat (Int.toNat r1)), (UInt8.ofNat (Int.toNat r2))] : List (UInt8))) (.recs (α := UInt8) 0 e8 (v3 ++ ([(UInt8.ofNat (Int.toNat r1)), (UInt8.ofNat (Int.toNat r2))] : List (UInt8)))) ∧ GoodR (.recs (α := UInt8) 0 e8 (v3 ++ ([(UInt8.ofNat (Int.toNat r1)), (UInt8.ofNat (Int.toNat r2))] : List (UInt8)))))]) (by kernel_rfl) (AllP.cons hc5 (AllP.cons hc6 (AllP.cons (fun _ => cx (ok_ref05_digit (IntKind.wrap .u8 (Int.tdiv (((v0)[Int.toNat v4]?.getD 0).toNat : Int) 16)) _ hr1)) (AllP.cons hc5 (AllP.cons hc6 (AllP.cons (fun _ => cx (ok_ref05_digit (Int.tmod (((v0)[Int.toNat v4]?.getD 0).toNat : Int) 16) _ hr2)) (AllP.cons (fun _ => mkOb (All8.cells (ns := [r1, r2]) (.cons (u8_of u3) (.cons (u8_of u4) .nil))) rfl rfl (good8 _)) (AllP.cons hc7 (AllP.cons (appOb rfl rfl (good8 _)) AllP.nil))))))))) ?_
      refine To.blockN ?_
      refine To.thenN ?_
      refine Wp.region hΓ [] [] [] [0, 3, 4] [24] (K' := [(0, .str v0), (3, .row 24), (4, .val (.int .i64 (IntKind.wrap .i64 (v4 + 1))))]) (L' := [(24, 5, [.rowc false (α := UInt8) 0 e8 (v3 ++ ([(UInt8.ofNat (Int.toNat r1)), (UInt8.ofNat (Int.toNat r2))] : List (UInt8)))])]) (ob := []) (by kernel_rfl) AllP.nil ?_
      refine To.keep (kk := [0, 3, 4]) (kl := [24]) (K' := [(0, .str v0), (3, .row 24), (4, .val (.int .i64 (IntKind.wrap .i64 (v4 + 1))))]) (L' := [(24, 5, [.rowc false (α := UInt8) 0 e8 (v3 ++ ([(UInt8.ofNat (Int.toNat r1)), (UInt8.ofNat (Int.toNat r2))] : List (UInt8)))])]) (by kernel_rfl) (by kernel_rfl) ?_
      refine To.pre (St.rename 24 1003 (by decide) (K' := [(0, .str v0), (3, .row 1003), (4, .val (.int .i64 (IntKind.wrap .i64 (v4 + 1))))]) (L' := [(1003, 5, [.rowc false (α := UInt8) 0 e8 (v3 ++ ([(UInt8.ofNat (Int.toNat r1)), (UInt8.ofNat (Int.toNat r2))] : List (UInt8)))])]) (by kernel_rfl) (by kernel_rfl) (by kernel_rfl)) ?_
      refine To.keep (kk := [0, 3, 4]) (kl := [1003]) (K' := [(0, .str v0), (3, .row 1003), (4, .val (.int .i64 (IntKind.wrap .i64 (v4 + 1))))]) (L' := [(1003, 5, [.rowc false (α := UInt8) 0 e8 (v3 ++ ([(UInt8.ofNat (Int.toNat r1)), (UInt8.ofNat (Int.toNat r2))] : List (UInt8)))])]) (by kernel_rfl) (by kernel_rfl) ?_
      refine To.again ?_
      exact ih (v3 ++ ([(UInt8.ofNat (Int.toNat r1)), (UInt8.ofNat (Int.toNat r2))] : List (UInt8))) (IntKind.wrap .i64 (v4 + 1)) _ h hQ
    · replace h := if_f hb h
      refine Wp.exit ?_
      refine To.thenX ?_
      refine To.thenX ?_
      refine To.keep (kk := [3]) (kl := [1003]) (K' := [(3, .row 1003)]) (L' := [(1003, 5, [.rowc false (α := UInt8) 0 e8 v3])]) (by kernel_rfl) (by kernel_rfl) ?_
      cases h
      exact hQ
def ref05_Hex (n : Nat) (a0 : List UInt8) : Option ((List UInt8)) :=
  (ref05_Hex_l1 n a0 n ([] : List (UInt8)) 0).bind fun o1 =>
  some o1
theorem ok_ref05_Hex (n : Nat) (a0 : List UInt8) (r : (List UInt8)) (h : ref05_Hex n a0 = some r) : CallsX Try.prog 18 [.str a0] (.str r) := by
  unfold ref05_Hex at h
  refine callsX_of (fn := Try.f18) (by kernel_rfl) rfl (by kernel_rfl) (Nat.le_of_ble_eq_true (by kernel_rfl)) fun F0 w0 _ => ?_
  refine Wp.keep (kk := [0]) (kl := []) (K' := [(0, .str a0)]) (L' := []) (by kernel_rfl) (by kernel_rfl) ?_
  refine Wp.seq ?_
  refine Wp.region hΓ [] [] [] [0] [] (K' := [(0, .str a0)]) (L' := []) (ob := []) (by kernel_rfl) AllP.nil ?_
  refine To.thenN ?_
  refine Wp.seq ?_
  refine Wp.region hΓ [] [(0, .recs (α := UInt8) 0 e8 [])] [] [0, 3] [5] (K' := [(0, .str a0), (3, .row 5)]) (L' := [(5, 5, [.rowc false (α := UInt8) 0 e8 []])]) (ob := [(MkOb 1 [] 0 (.recs (α := UInt8) 0 e8 []) ∧ GoodR (.recs (α := UInt8) 0 e8 []))]) (by kernel_rfl) (AllP.cons (mkOb (All8.cells (ns := []) .nil) rfl rfl (good8 _)) AllP.nil) ?_
  refine To.thenN ?_
  refine Wp.seq ?_
  refine Wp.seq ?_
  refine Wp.region hΓ [] [] [] [0, 3, 4] [5] (K' := [(0, .str a0), (3, .row 5), (4, .val (.int .i64 0))]) (L' := [(5, 5, [.rowc false (α := UInt8) 0 e8 []])]) (ob := []) (by kernel_rfl) AllP.nil ?_
  refine To.thenN ?_
  refine Wp.block ?_
  obtain ⟨o1, ho1, h⟩ := bind_of h
  refine Wp.keep (kk := [0, 3, 4]) (kl := [5]) (K' := [(0, .str a0), (3, .row 5), (4, .val (.int .i64 0))]) (L' := [(5, 5, [.rowc false (α := UInt8) 0 e8 []])]) (by kernel_rfl) (by kernel_rfl) ?_
  refine Wp.pre (St.rename 5 1003 (by decide) (K' := [(0, .str a0), (3, .row 1003), (4, .val (.int .i64 0))]) (L' := [(1003, 5, [.rowc false (α := UInt8) 0 e8 []])]) (by kernel_rfl) (by kernel_rfl) (by kernel_rfl)) ?_
  refine Wp.keep (kk := [0, 3, 4]) (kl := [1003]) (K' := [(0, .str a0), (3, .row 1003), (4, .val (.int .i64 0))]) (L' := [(1003, 5, [.rowc false (α := UInt8) 0 e8 []])]) (by kernel_rfl) (by kernel_rfl) ?_
  refine Wp.loopL ?_
  refine ok_ref05_Hex_l1 n a0 n ([] : List (UInt8)) 0 o1 ho1 ?_
  refine To.blockX ?_
  refine To.thenN ?_
  refine Wp.seq ?_
  refine Wp.region hΓ [] [(1, .str o1)] [] [2] [] (K' := [(2, .str o1)]) (L' := []) (ob := [(true = true → StrOb (List.flatMap e8 o1) (.str o1))]) (by kernel_rfl) (AllP.cons (fun _ => strOb (flat8 _)) AllP.nil) ?_
  refine To.thenN ?_
  refine Wp.ret ?_
  refine To.keep (kk := [2]) (kl := []) (K' := [(2, .str o1)]) (L' := []) (by kernel_rfl) (by kernel_rfl) ?_
  cases h
  exact To.done hΓ (by kernel_rfl)
def law05_ShaSums (n : Nat) (a0 : List UInt8) : Option (Bool) :=
  if (decide ((List.length a0 : Int) > 300)) = true then ((law05_awake n).bind fun r1 =>
  some r1)
  else ((sha_Sum n a0).bind fun r2 =>
  (ref05_Sum n a0).bind fun r3 =>
  ((if ((bif (r2 == r3) then ((List.length r2 : Int) == 32) else false) == true) = true then sha_Print n a0 else some [])).bind fun r4 =>
  ((if ((bif (r2 == r3) then ((List.length r2 : Int) == 32) else false) == true) = true then ref05_Hex n r2 else some [])).bind fun r5 =>
  ((if ((bif (bif (r2 == r3) then ((List.length r2 : Int) == 32) else false) then (r4 == r5) else false) == true) = true then sha_Print n a0 else some [])).bind fun r6 =>
  ((if ((bif (bif (bif (r2 == r3) then ((List.length r2 : Int) == 32) else false) then (r4 == r5) else false) then ((List.length r6 : Int) == 64) else false) == true) = true then law05_awake n else some false)).bind fun r7 =>
  lett ((bif (bif (bif (bif (r2 == r3) then ((List.length r2 : Int) == 32) else false) then (r4 == r5) else false) then ((List.length r6 : Int) == 64) else false) then r7 else false) : Bool) fun x8 =>
  some x8)
theorem ok_law05_ShaSums (n : Nat) (a0 : List UInt8) (r : Bool) (h : law05_ShaSums n a0 = some r) : CallsX Try.prog 6 [.str a0] (.val (.bool r)) := by
  unfold law05_ShaSums at h
  refine callsX_of (fn := Try.f6) (by kernel_rfl) rfl (by kernel_rfl) (Nat.le_of_ble_eq_true (by kernel_rfl)) fun F0 w0 _ => ?_
  refine Wp.keep (kk := [0]) (kl := []) (K' := [(0, .str a0)]) (L' := []) (by kernel_rfl) (by kernel_rfl) ?_
  refine Wp.seq ?_
  refine Wp.region hΓ [] [] [] [0] [] (K' := [(0, .str a0)]) (L' := []) (ob := []) (by kernel_rfl) AllP.nil ?_
  refine To.thenN ?_
  refine Wp.seq ?_
  refine Wp.seq ?_
  refine Wp.region hΓ [] [] [] [0, 6] [] (K' := [(0, .str a0), (6, .val (.bool (decide ((List.length a0 : Int) > 300))))]) (L' := []) (ob := []) (by kernel_rfl) AllP.nil ?_
  refine To.thenN ?_
  refine Wp.cond (b := (decide ((List.length a0 : Int) > 300))) (by kernel_rfl) (fun hb => ?_) (fun hb => ?_)
  · replace h := if_t hb h
    refine Wp.seq ?_
    obtain ⟨r1, hr1, h⟩ := bind_of h
    refine Wp.region hΓ [] [(0, .val (.bool r1))] [] [2] [] (K' := [(2, .val (.bool r1))]) (L' := []) (ob := [(true = true → CX Try.prog 12 [] (.val (.bool r1)))]) (by kernel_rfl) (AllP.cons (fun _ => cx (ok_law05_awake n  _ hr1)) AllP.nil) ?_
    refine To.thenN ?_
    refine Wp.ret ?_
    refine To.thenR ?_
    refine To.keep (kk := [2]) (kl := []) (K' := [(2, .val (.bool r1))]) (L' := []) (by kernel_rfl) (by kernel_rfl) ?_
    cases h
    exact To.done hΓ (by kernel_rfl)
  · replace h := if_f hb h
    refine Wp.skip ?_
    refine To.thenN ?_
    refine Wp.seq ?_
    obtain ⟨r2, hr2, h⟩ := bind_of h
    refine Wp.region hΓ [] [(1, .str r2)] [] [0, 3] [] (K' := [(0, .str a0), (3, .str r2)]) (L' := []) (ob := [(true = true → CX Try.prog 19 [.str a0] (.str r2))]) (by kernel_rfl) (AllP.cons (fun _ => cx (ok_sha_Sum n a0 _ hr2)) AllP.nil) ?_
    refine To.thenN ?_
    refine Wp.seq ?_
    obtain ⟨r3, hr3, h⟩ := bind_of h
    obtain ⟨r4, hr4, h⟩ := bind_of h
    obtain ⟨r5, hr5, h⟩ := bind_of h
    obtain ⟨r6, hr6, h⟩ := bind_of h
    obtain ⟨r7, hr7, h⟩ := bind_of h
    obtain ⟨x8, hx8, h⟩ := lett_of h
    refine Wp.region hΓ [] [(2, .str r3), (11, .str r4), (13, .str r5), (18, .str r6), (23, .val (.bool r7))] [] [2] [] (K' := [(2, .val (.bool (bif (bif (bif (bif (r2 == r3) then ((List.length r2 : Int) == 32) else false) then (r4 == r5) else false) then ((List.length r6 : Int) == 64) else false) then r7 else false)))]) (L' := []) (ob := [(true = true → CX Try.prog 20 [.str a0] (.str r3)), (((bif (r2 == r3) then ((List.length r2 : Int) == 32) else false) == true) = true → CX Try.prog 21 [.str a0] (.str r4)), (((bif (r2 == r3) then ((List.length r2 : Int) == 32) else false) == true) = true → CX Try.prog 18 [.str r2] (.str r5)), (((bif (bif (r2 == r3) then ((List.length r2 : Int) == 32) else false) then (r4 == r5) else false) == true) = true → CX Try.prog 21 [.str a0] (.str r6)), (((bif (bif (bif (r2 == r3) then ((List.length r2 : Int) == 32) else false) then (r4 == r5) else false) then ((List.length r6 : Int) == 64) else false) == true) = true → CX Try.prog 12 [] (.val (.bool r7)))]) (by kernel_rfl) (AllP.cons (fun _ => cx (ok_ref05_Sum n a0 _ hr3)) (AllP.cons (fun hg => cx (ok_sha_Print n a0 _ (if_t hg hr4))) (AllP.cons (fun hg => cx (ok_ref05_Hex n r2 _ (if_t hg hr5))) (AllP.cons (fun hg => cx (ok_sha_Print n a0 _ (if_t hg hr6))) (AllP.cons (fun hg => cx (ok_law05_awake n  _ (if_t hg hr7))) AllP.nil))))) ?_
    refine To.eq (K' := [(2, .val (.bool x8))]) (L' := []) (by cases hx8; rfl) (by cases hx8; rfl) ?_
    refine To.thenN ?_
    refine Wp.ret ?_
    refine To.keep (kk := [2]) (kl := []) (K' := [(2, .val (.bool x8))]) (L' := []) (by kernel_rfl) (by kernel_rfl) ?_
    cases h
    exact To.done hΓ (by kernel_rfl)
def law05_ShaPads (n : Nat) (a0 : List UInt8) : Option (Bool) :=
  if (decide ((List.length a0 : Int) > 2000)) = true then ((law05_awake n).bind fun r1 =>
  some r1)
  else ((sha_Pad n a0).bind fun r2 =>
  (ref05_Pad n a0).bind fun r3 =>
  if ((!((r2 == r3) == true) || (64 != 0))) = true then (if ((!((bif (bif (bif (r2 == r3) then ((Int.tmod (List.length r2 : Int) 64) == 0) else false) then (decide ((List.length r2 : Int) ≥ (IntKind.wrap .i64 ((List.length a0 : Int) + 9)))) else false) then (decide ((List.length r2 : Int) < (IntKind.wrap .i64 ((List.length a0 : Int) + 73)))) else false) == true) || decide (0 ≤ (List.length a0 : Int) ∧ (List.length a0 : Int) ≤ (List.length r2 : Int)))) = true then (((if ((bif (bif (bif (bif (r2 == r3) then ((Int.tmod (List.length r2 : Int) 64) == 0) else false) then (decide ((List.length r2 : Int) ≥ (IntKind.wrap .i64 ((List.length a0 : Int) + 9)))) else false) then (decide ((List.length r2 : Int) < (IntKind.wrap .i64 ((List.length a0 : Int) + 73)))) else false) then ((List.take (Int.toNat (List.length a0 : Int)) r2) == a0) else false) == true) = true then sha_Hex n a0 else some [])).bind fun r4 =>
  ((if ((bif (bif (bif (bif (r2 == r3) then ((Int.tmod (List.length r2 : Int) 64) == 0) else false) then (decide ((List.length r2 : Int) ≥ (IntKind.wrap .i64 ((List.length a0 : Int) + 9)))) else false) then (decide ((List.length r2 : Int) < (IntKind.wrap .i64 ((List.length a0 : Int) + 73)))) else false) then ((List.take (Int.toNat (List.length a0 : Int)) r2) == a0) else false) == true) = true then ref05_Hex n a0 else some [])).bind fun r5 =>
  ((if ((bif (bif (bif (bif (bif (r2 == r3) then ((Int.tmod (List.length r2 : Int) 64) == 0) else false) then (decide ((List.length r2 : Int) ≥ (IntKind.wrap .i64 ((List.length a0 : Int) + 9)))) else false) then (decide ((List.length r2 : Int) < (IntKind.wrap .i64 ((List.length a0 : Int) + 73)))) else false) then ((List.take (Int.toNat (List.length a0 : Int)) r2) == a0) else false) then (r4 == r5) else false) == true) = true then law05_awake n else some false)).bind fun r6 =>
  lett ((bif (bif (bif (bif (bif (bif (r2 == r3) then ((Int.tmod (List.length r2 : Int) 64) == 0) else false) then (decide ((List.length r2 : Int) ≥ (IntKind.wrap .i64 ((List.length a0 : Int) + 9)))) else false) then (decide ((List.length r2 : Int) < (IntKind.wrap .i64 ((List.length a0 : Int) + 73)))) else false) then ((List.take (Int.toNat (List.length a0 : Int)) r2) == a0) else false) then (r4 == r5) else false) then r6 else false) : Bool) fun x7 =>
  some x7) else none) else none)
theorem ok_law05_ShaPads (n : Nat) (a0 : List UInt8) (r : Bool) (h : law05_ShaPads n a0 = some r) : CallsX Try.prog 5 [.str a0] (.val (.bool r)) := by
  unfold law05_ShaPads at h
  refine callsX_of (fn := Try.f5) (by kernel_rfl) rfl (by kernel_rfl) (Nat.le_of_ble_eq_true (by kernel_rfl)) fun F0 w0 _ => ?_
  refine Wp.keep (kk := [0]) (kl := []) (K' := [(0, .str a0)]) (L' := []) (by kernel_rfl) (by kernel_rfl) ?_
  refine Wp.seq ?_
  refine Wp.region hΓ [] [] [] [0] [] (K' := [(0, .str a0)]) (L' := []) (ob := []) (by kernel_rfl) AllP.nil ?_
  refine To.thenN ?_
  refine Wp.seq ?_
  refine Wp.seq ?_
  refine Wp.region hΓ [] [] [] [0, 6] [] (K' := [(0, .str a0), (6, .val (.bool (decide ((List.length a0 : Int) > 2000))))]) (L' := []) (ob := []) (by kernel_rfl) AllP.nil ?_
  refine To.thenN ?_
  refine Wp.cond (b := (decide ((List.length a0 : Int) > 2000))) (by kernel_rfl) (fun hb => ?_) (fun hb => ?_)
  · replace h := if_t hb h
    refine Wp.seq ?_
    obtain ⟨r1, hr1, h⟩ := bind_of h
    refine Wp.region hΓ [] [(0, .val (.bool r1))] [] [2] [] (K' := [(2, .val (.bool r1))]) (L' := []) (ob := [(true = true → CX Try.prog 12 [] (.val (.bool r1)))]) (by kernel_rfl) (AllP.cons (fun _ => cx (ok_law05_awake n  _ hr1)) AllP.nil) ?_
    refine To.thenN ?_
    refine Wp.ret ?_
    refine To.thenR ?_
    refine To.keep (kk := [2]) (kl := []) (K' := [(2, .val (.bool r1))]) (L' := []) (by kernel_rfl) (by kernel_rfl) ?_
    cases h
    exact To.done hΓ (by kernel_rfl)
  · replace h := if_f hb h
    refine Wp.skip ?_
    refine To.thenN ?_
    refine Wp.seq ?_
    obtain ⟨r2, hr2, h⟩ := bind_of h
    refine Wp.region hΓ [] [(1, .str r2)] [] [0, 3] [] (K' := [(0, .str a0), (3, .str r2)]) (L' := []) (ob := [(true = true → CX Try.prog 15 [.str a0] (.str r2))]) (by kernel_rfl) (AllP.cons (fun _ => cx (ok_sha_Pad n a0 _ hr2)) AllP.nil) ?_
    refine To.thenN ?_
    refine Wp.seq ?_
    obtain ⟨r3, hr3, h⟩ := bind_of h
    obtain ⟨hc8, h⟩ := chk_of h
    obtain ⟨hc9, h⟩ := chk_of h
    obtain ⟨r4, hr4, h⟩ := bind_of h
    obtain ⟨r5, hr5, h⟩ := bind_of h
    obtain ⟨r6, hr6, h⟩ := bind_of h
    obtain ⟨x7, hx7, h⟩ := lett_of h
    refine Wp.region hΓ [] [(2, .str r3), (36, .str r4), (38, .str r5), (42, .val (.bool r6))] [] [2] [] (K' := [(2, .val (.bool (bif (bif (bif (bif (bif (bif (r2 == r3) then ((Int.tmod (List.length r2 : Int) 64) == 0) else false) then (decide ((List.length r2 : Int) ≥ (IntKind.wrap .i64 ((List.length a0 : Int) + 9)))) else false) then (decide ((List.length r2 : Int) < (IntKind.wrap .i64 ((List.length a0 : Int) + 73)))) else false) then ((List.take (Int.toNat (List.length a0 : Int)) r2) == a0) else false) then (r4 == r5) else false) then r6 else false)))]) (L' := []) (ob := [(true = true → CX Try.prog 16 [.str a0] (.str r3)), (!((r2 == r3) == true) || (64 != 0)) = true, (!((bif (bif (bif (r2 == r3) then ((Int.tmod (List.length r2 : Int) 64) == 0) else false) then (decide ((List.length r2 : Int) ≥ (IntKind.wrap .i64 ((List.length a0 : Int) + 9)))) else false) then (decide ((List.length r2 : Int) < (IntKind.wrap .i64 ((List.length a0 : Int) + 73)))) else false) == true) || decide (0 ≤ (List.length a0 : Int) ∧ (List.length a0 : Int) ≤ (List.length r2 : Int))) = true, (((bif (bif (bif (bif (r2 == r3) then ((Int.tmod (List.length r2 : Int) 64) == 0) else false) then (decide ((List.length r2 : Int) ≥ (IntKind.wrap .i64 ((List.length a0 : Int) + 9)))) else false) then (decide ((List.length r2 : Int) < (IntKind.wrap .i64 ((List.length a0 : Int) + 73)))) else false) then ((List.take (Int.toNat (List.length a0 : Int)) r2) == a0) else false) == true) = true → CX Try.prog 17 [.str a0] (.str r4)), (((bif (bif (bif (bif (r2 == r3) then ((Int.tmod (List.length r2 : Int) 64) == 0) else false) then (decide ((List.length r2 : Int) ≥ (IntKind.wrap .i64 ((List.length a0 : Int) + 9)))) else false) then (decide ((List.length r2 : Int) < (IntKind.wrap .i64 ((List.length a0 : Int) + 73)))) else false) then ((List.take (Int.toNat (List.length a0 : Int)) r2) == a0) else false) == true) = true → CX Try.prog 18 [.str a0] (.str r5)), (((bif (bif (bif (bif (bif (r2 == r3) then ((Int.tmod (List.length r2 : Int) 64) == 0) else false) then (decide ((List.length r2 : Int) ≥ (IntKind.wrap .i64 ((List.length a0 : Int) + 9)))) else false) then (decide ((List.length r2 : Int) < (IntKind.wrap .i64 ((List.length a0 : Int) + 73)))) else false) then ((List.take (Int.toNat (List.length a0 : Int)) r2) == a0) else false) then (r4 == r5) else false) == true) = true → CX Try.prog 12 [] (.val (.bool r6)))]) (by kernel_rfl) (AllP.cons (fun _ => cx (ok_ref05_Pad n a0 _ hr3)) (AllP.cons hc8 (AllP.cons hc9 (AllP.cons (fun hg => cx (ok_sha_Hex n a0 _ (if_t hg hr4))) (AllP.cons (fun hg => cx (ok_ref05_Hex n a0 _ (if_t hg hr5))) (AllP.cons (fun hg => cx (ok_law05_awake n  _ (if_t hg hr6))) AllP.nil)))))) ?_
    refine To.eq (K' := [(2, .val (.bool x7))]) (L' := []) (by cases hx7; rfl) (by cases hx7; rfl) ?_
    refine To.thenN ?_
    refine Wp.ret ?_
    refine To.keep (kk := [2]) (kl := []) (K' := [(2, .val (.bool x7))]) (L' := []) (by kernel_rfl) (by kernel_rfl) ?_
    cases h
    exact To.done hΓ (by kernel_rfl)
def law05_ShaRoots (n : Nat) (a0 : Int) (a1 : Int) (a2 : Int) : Option (Bool) :=
  (sha_Primes n a0).bind fun r1 =>
  (ref05_Primes n a0).bind fun r2 =>
  (law05_same n r1 r2).bind fun r3 =>
  ((if (r3 == true) = true then sha_Root n a1 a2 else some 0)).bind fun r4 =>
  ((if (r3 == true) = true then ref05_Root n a1 a2 else some 0)).bind fun r5 =>
  ((if ((bif r3 then (r4 == r5) else false) == true) = true then law05_awake n else some false)).bind fun r6 =>
  some (bif (bif r3 then (r4 == r5) else false) then r6 else false)
theorem ok_law05_ShaRoots (n : Nat) (a0 : Int) (a1 : Int) (a2 : Int) (r : Bool) (h : law05_ShaRoots n a0 a1 a2 = some r) : CallsX Try.prog 3 [.val (.int .i64 a0), .val (.int .i64 a1), .val (.int .i64 a2)] (.val (.bool r)) := by
  unfold law05_ShaRoots at h
  refine callsX_of (fn := Try.f3) (by kernel_rfl) rfl (by kernel_rfl) (Nat.le_of_ble_eq_true (by kernel_rfl)) fun F0 w0 _ => ?_
  refine Wp.keep (kk := [0, 1, 2]) (kl := []) (K' := [(0, .val (.int .i64 a0)), (1, .val (.int .i64 a1)), (2, .val (.int .i64 a2))]) (L' := []) (by kernel_rfl) (by kernel_rfl) ?_
  refine Wp.seq ?_
  refine Wp.region hΓ [] [] [] [0, 1, 2] [] (K' := [(0, .val (.int .i64 a0)), (1, .val (.int .i64 a1)), (2, .val (.int .i64 a2))]) (L' := []) (ob := []) (by kernel_rfl) AllP.nil ?_
  refine To.thenN ?_
  refine Wp.seq ?_
  obtain ⟨r1, hr1, h⟩ := bind_of h
  obtain ⟨r2, hr2, h⟩ := bind_of h
  obtain ⟨r3, hr3, h⟩ := bind_of h
  obtain ⟨r4, hr4, h⟩ := bind_of h
  obtain ⟨r5, hr5, h⟩ := bind_of h
  obtain ⟨r6, hr6, h⟩ := bind_of h
  refine Wp.region hΓ [] [(1, .recs (α := Int) 0 E_i64 r1), (3, .recs (α := Int) 0 E_i64 r2), (4, .val (.bool r3)), (8, .val (.int .u32 r4)), (11, .val (.int .u32 r5)), (15, .val (.bool r6))] [] [6] [] (K' := [(6, .val (.bool (bif (bif r3 then (r4 == r5) else false) then r6 else false)))]) (L' := []) (ob := [(true = true → CX Try.prog 8 [.val (.int .i64 a0)] (.recs (α := Int) 0 E_i64 r1)), (true = true → CX Try.prog 9 [.val (.int .i64 a0)] (.recs (α := Int) 0 E_i64 r2)), (true = true → CX Try.prog 7 [.recs (α := Int) 0 E_i64 r1, .recs (α := Int) 0 E_i64 r2] (.val (.bool r3))), ((r3 == true) = true → CX Try.prog 10 [.val (.int .i64 a1), .val (.int .i64 a2)] (.val (.int .u32 r4))), ((r3 == true) = true → CX Try.prog 11 [.val (.int .i64 a1), .val (.int .i64 a2)] (.val (.int .u32 r5))), (((bif r3 then (r4 == r5) else false) == true) = true → CX Try.prog 12 [] (.val (.bool r6)))]) (by kernel_rfl) (AllP.cons (fun _ => cx (ok_sha_Primes n a0 _ hr1)) (AllP.cons (fun _ => cx (ok_ref05_Primes n a0 _ hr2)) (AllP.cons (fun _ => cx (ok_law05_same n r1 r2 _ hr3)) (AllP.cons (fun hg => cx (ok_sha_Root n a1 a2 _ (if_t hg hr4))) (AllP.cons (fun hg => cx (ok_ref05_Root n a1 a2 _ (if_t hg hr5))) (AllP.cons (fun hg => cx (ok_law05_awake n  _ (if_t hg hr6))) AllP.nil)))))) ?_
  refine To.thenN ?_
  refine Wp.ret ?_
  refine To.keep (kk := [6]) (kl := []) (K' := [(6, .val (.bool (bif (bif r3 then (r4 == r5) else false) then r6 else false)))]) (L' := []) (by kernel_rfl) (by kernel_rfl) ?_
  cases h
  exact To.done hΓ (by kernel_rfl)
theorem opens_u32 : Opens Try.prog 25 (fun n : Int => IntKind.min .u32 ≤ n ∧ n ≤ IntKind.max .u32) (fun n => [.val (.int .u32 n)]) := opens_int (by kernel_rfl)
def W_sha_State (l : List (Int)) : Prop := l.length = 8 ∧ ∀ x ∈ l, (IntKind.min .u32 ≤ x ∧ x ≤ IntKind.max .u32)
theorem opens_sha_State : Opens Try.prog 30 W_sha_State (fun l => List.flatMap E_u32 l) := opens_arr (α := Int) (cells := E_u32) 0 (by kernel_rfl) (by kernel_rfl) opens_u32
theorem opens_string : Opens Try.prog 9 (fun l : List UInt8 => l.length ≤ maxLen) (fun l => [.str l]) := opens_str (by kernel_rfl)
theorem opens_i64 : Opens Try.prog 3 (fun n : Int => IntKind.min .i64 ≤ n ∧ n ≤ IntKind.max .i64) (fun n => [.val (.int .i64 n)]) := opens_int (by kernel_rfl)
end Go.Proofs.Yteliiabopphgmaa.M