/-
  Printed by wip/tools/gen.py: models and walks of functions.
-/
import Derived.Test.YtljnmojkhajolaaM02a
namespace Go.Proofs.Ytljnmojkhajolaa.M
open Go.RowKit Go.Proofs.Ytljnmojkhajolaa.RX
set_option maxRecDepth 100000
theorem ok_law02_NameLists (n : Nat) (a0 : List (List UInt8)) (a1 : List (List UInt8)) (a2 : List UInt8) (r : Bool) (h : law02_NameLists n a0 a1 a2 = some r) : CallsX Try.prog 4 [.recs (α := List UInt8) [] E_string a0, .recs (α := List UInt8) [] E_string a1, .str a2] (.val (.bool r)) := by
  unfold law02_NameLists at h
  refine callsX_of (fn := Try.f4) (by kernel_rfl) rfl (by kernel_rfl) (Nat.le_of_ble_eq_true (by kernel_rfl)) fun F0 w0 _ => ?_
  refine Wp.keep (kk := [0, 1, 2]) (kl := []) (K' := [(0, .recs (α := List UInt8) [] E_string a0), (1, .recs (α := List UInt8) [] E_string a1), (2, .str a2)]) (L' := []) (by kernel_rfl) (by kernel_rfl) ?_
  refine Wp.seq ?_
  refine Wp.region hΓ [] [] [] [0, 1, 2] [] (K' := [(0, .recs (α := List UInt8) [] E_string a0), (1, .recs (α := List UInt8) [] E_string a1), (2, .str a2)]) (L' := []) (ob := []) (by kernel_rfl) AllP.nil ?_
  refine To.thenN ?_
  refine Wp.seq ?_
  refine Wp.seq ?_
  obtain ⟨r1, hr1, h⟩ := bind_of h
  obtain ⟨r2, hr2, h⟩ := bind_of h
  refine Wp.region hΓ [] [(1, .val (.bool r1)), (5, .val (.bool r2))] [] [0, 1, 2, 14] [] (K' := [(0, .recs (α := List UInt8) [] E_string a0), (1, .recs (α := List UInt8) [] E_string a1), (2, .str a2), (14, .val (.bool (bif (!r1) then true else (!r2))))]) (L' := []) (ob := [(true = true → CX Try.prog 13 [.recs (α := List UInt8) [] E_string a0, .val (.int .i64 60)] (.val (.bool r1))), (((!r1) == false) = true → CX Try.prog 13 [.recs (α := List UInt8) [] E_string a1, .val (.int .i64 60)] (.val (.bool r2)))]) (by kernel_rfl) (AllP.cons (fun _ => cx (ok_law02_Few n a0 60 _ hr1)) (AllP.cons (fun hg => cx (ok_law02_Few n a1 60 _ (if_t hg hr2))) AllP.nil)) ?_
  refine To.thenN ?_
  refine Wp.cond (b := (bif (!r1) then true else (!r2))) (by kernel_rfl) (fun hb => ?_) (fun hb => ?_)
  · replace h := if_t hb h
    refine Wp.seq ?_
    obtain ⟨r3, hr3, h⟩ := bind_of h
    refine Wp.region hΓ [] [(0, .val (.bool r3))] [] [6] [] (K' := [(6, .val (.bool r3))]) (L' := []) (ob := [(true = true → CX Try.prog 6 [] (.val (.bool r3)))]) (by kernel_rfl) (AllP.cons (fun _ => cx (ok_law02_awake n  _ hr3)) AllP.nil) ?_
    refine To.thenN ?_
    refine Wp.ret ?_
    refine To.thenR ?_
    refine To.keep (kk := [6]) (kl := []) (K' := [(6, .val (.bool r3))]) (L' := []) (by kernel_rfl) (by kernel_rfl) ?_
    cases h
    exact To.done hΓ (by kernel_rfl)
  · replace h := if_f hb h
    refine Wp.skip ?_
    refine To.thenN ?_
    refine Wp.seq ?_
    refine Wp.seq ?_
    obtain ⟨r4, hr4, h⟩ := bind_of h
    obtain ⟨r5, hr5, h⟩ := bind_of h
    obtain ⟨r6, hr6, h⟩ := bind_of h
    obtain ⟨r7, hr7, h⟩ := bind_of h
    obtain ⟨r8, hr8, h⟩ := bind_of h
    obtain ⟨r9, hr9, h⟩ := bind_of h
    obtain ⟨r10, hr10, h⟩ := bind_of h
    obtain ⟨r11, hr11, h⟩ := bind_of h
    obtain ⟨r12, hr12, h⟩ := bind_of h
    refine Wp.region hΓ [] [(1, .recs (α := List UInt8) [] E_string r4), (3, .recs (α := List UInt8) [] E_string r5), (4, .val (.bool r6)), (9, .recs (α := List UInt8) [] E_string r7), (12, .recs (α := List UInt8) [] E_string r8), (13, .val (.bool r9)), (19, .recs (α := List UInt8) [] E_string r10), (22, .recs (α := List UInt8) [] E_string r11), (23, .val (.bool r12))] [] [0, 1, 2, 41] [] (K' := [(0, .recs (α := List UInt8) [] E_string a0), (1, .recs (α := List UInt8) [] E_string a1), (2, .str a2), (41, .val (.bool (bif (bif (!r6) then true else (!r9)) then true else (!r12))))]) (L' := []) (ob := [(true = true → CX Try.prog 15 [.recs (α := List UInt8) [] E_string a0] (.recs (α := List UInt8) [] E_string r4)), (true = true → CX Try.prog 16 [.recs (α := List UInt8) [] E_string a0] (.recs (α := List UInt8) [] E_string r5)), (true = true → CX Try.prog 14 [.recs (α := List UInt8) [] E_string r4, .recs (α := List UInt8) [] E_string r5] (.val (.bool r6))), (((!r6) == false) = true → CX Try.prog 17 [.recs (α := List UInt8) [] E_string a0, .recs (α := List UInt8) [] E_string a1] (.recs (α := List UInt8) [] E_string r7)), (((!r6) == false) = true → CX Try.prog 18 [.recs (α := List UInt8) [] E_string a0, .recs (α := List UInt8) [] E_string a1] (.recs (α := List UInt8) [] E_string r8)), (((!r6) == false) = true → CX Try.prog 14 [.recs (α := List UInt8) [] E_string r7, .recs (α := List UInt8) [] E_string r8] (.val (.bool r9))), (((bif (!r6) then true else (!r9)) == false) = true → CX Try.prog 19 [.recs (α := List UInt8) [] E_string a0, .recs (α := List UInt8) [] E_string a1] (.recs (α := List UInt8) [] E_string r10)), (((bif (!r6) then true else (!r9)) == false) = true → CX Try.prog 20 [.recs (α := List UInt8) [] E_string a0, .recs (α := List UInt8) [] E_string a1] (.recs (α := List UInt8) [] E_string r11)), (((bif (!r6) then true else (!r9)) == false) = true → CX Try.prog 14 [.recs (α := List UInt8) [] E_string r10, .recs (α := List UInt8) [] E_string r11] (.val (.bool r12)))]) (by kernel_rfl) (AllP.cons (fun _ => cx (ok_name_Sorted n a0 _ hr4)) (AllP.cons (fun _ => cx (ok_ref02_Sorted n a0 _ hr5)) (AllP.cons (fun _ => cx (ok_ref02_Same n r4 r5 _ hr6)) (AllP.cons (fun hg => cx (ok_name_Both n a0 a1 _ (if_t hg hr7))) (AllP.cons (fun hg => cx (ok_ref02_Both n a0 a1 _ (if_t hg hr8))) (AllP.cons (fun hg => cx (ok_ref02_Same n r7 r8 _ (if_t hg hr9))) (AllP.cons (fun hg => cx (ok_name_Without n a0 a1 _ (if_t hg hr10))) (AllP.cons (fun hg => cx (ok_ref02_Without n a0 a1 _ (if_t hg hr11))) (AllP.cons (fun hg => cx (ok_ref02_Same n r10 r11 _ (if_t hg hr12))) AllP.nil))))))))) ?_
    refine To.thenN ?_
    refine Wp.cond (b := (bif (bif (!r6) then true else (!r9)) then true else (!r12))) (by kernel_rfl) (fun hb => ?_) (fun hb => ?_)
    · replace h := if_t hb h
      refine Wp.seq ?_
      refine Wp.region hΓ [] [] [] [6] [] (K' := [(6, .val (.bool false))]) (L' := []) (ob := []) (by kernel_rfl) AllP.nil ?_
      refine To.thenN ?_
      refine Wp.ret ?_
      refine To.thenR ?_
      refine To.keep (kk := [6]) (kl := []) (K' := [(6, .val (.bool false))]) (L' := []) (by kernel_rfl) (by kernel_rfl) ?_
      cases h
      exact To.done hΓ (by kernel_rfl)
    · replace h := if_f hb h
      refine Wp.skip ?_
      refine To.thenN ?_
      refine Wp.seq ?_
      obtain ⟨r13, hr13, h⟩ := bind_of h
      obtain ⟨r14, hr14, h⟩ := bind_of h
      obtain ⟨r15, hr15, h⟩ := bind_of h
      obtain ⟨r16, hr16, h⟩ := bind_of h
      obtain ⟨r17, hr17, h⟩ := bind_of h
      obtain ⟨r18, hr18, h⟩ := bind_of h
      obtain ⟨r19, hr19, h⟩ := bind_of h
      refine Wp.region hΓ [] [(2, .val (.bool r13)), (5, .val (.bool r14)), (10, .val (.bool r15)), (13, .val (.bool r16)), (19, .val (.int .i64 r17)), (22, .val (.int .i64 r18)), (26, .val (.bool r19))] [] [6] [] (K' := [(6, .val (.bool (bif (bif (bif (r13 == r14) then (r15 == r16) else false) then (r17 == r18) else false) then r19 else false)))]) (L' := []) (ob := [(true = true → CX Try.prog 21 [.recs (α := List UInt8) [] E_string a0, .str a2] (.val (.bool r13))), (true = true → CX Try.prog 22 [.recs (α := List UInt8) [] E_string a0, .str a2] (.val (.bool r14))), (((r13 == r14) == true) = true → CX Try.prog 23 [.recs (α := List UInt8) [] E_string a0, .recs (α := List UInt8) [] E_string a1] (.val (.bool r15))), (((r13 == r14) == true) = true → CX Try.prog 14 [.recs (α := List UInt8) [] E_string a0, .recs (α := List UInt8) [] E_string a1] (.val (.bool r16))), (((bif (r13 == r14) then (r15 == r16) else false) == true) = true → CX Try.prog 24 [.recs (α := List UInt8) [] E_string a0, .str a2] (.val (.int .i64 r17))), (((bif (r13 == r14) then (r15 == r16) else false) == true) = true → CX Try.prog 25 [.recs (α := List UInt8) [] E_string a0, .str a2] (.val (.int .i64 r18))), (((bif (bif (r13 == r14) then (r15 == r16) else false) then (r17 == r18) else false) == true) = true → CX Try.prog 6 [] (.val (.bool r19)))]) (by kernel_rfl) (AllP.cons (fun _ => cx (ok_name_In n a0 a2 _ hr13)) (AllP.cons (fun _ => cx (ok_ref02_In n a0 a2 _ hr14)) (AllP.cons (fun hg => cx (ok_name_Same n a0 a1 _ (if_t hg hr15))) (AllP.cons (fun hg => cx (ok_ref02_Same n a0 a1 _ (if_t hg hr16))) (AllP.cons (fun hg => cx (ok_name_At n a0 a2 _ (if_t hg hr17))) (AllP.cons (fun hg => cx (ok_ref02_At n a0 a2 _ (if_t hg hr18))) (AllP.cons (fun hg => cx (ok_law02_awake n  _ (if_t hg hr19))) AllP.nil))))))) ?_
      refine To.thenN ?_
      refine Wp.ret ?_
      refine To.keep (kk := [6]) (kl := []) (K' := [(6, .val (.bool (bif (bif (bif (r13 == r14) then (r15 == r16) else false) then (r17 == r18) else false) then r19 else false)))]) (L' := []) (by kernel_rfl) (by kernel_rfl) ?_
      cases h
      exact To.done hΓ (by kernel_rfl)
def law02_NameMembers_l1 (n : Nat) (v0 : List (List UInt8)) (v1 : List (List UInt8)) (v7 : List (List UInt8)) (v8 : List (List UInt8)) : Nat → Int → Option (Sum (Unit) (Bool))
  | 0, _ => none
  | k + 1, v9 => if (decide (v9 < (List.length v7 : Int))) = true then (if (decide (0 ≤ (IntKind.wrap .i64 (v9 - 1)) ∧ (IntKind.wrap .i64 (v9 - 1)) < (List.length v7 : Int))) = true then (if (decide (0 ≤ v9 ∧ v9 < (List.length v7 : Int))) = true then (if (!(Op.bytesLess ((v7)[Int.toNat (IntKind.wrap .i64 (v9 - 1))]?.getD []) ((v7)[Int.toNat v9]?.getD []))) = true then (some (.inr false))
  else (law02_NameMembers_l1 n v0 v1 v7 v8 k (IntKind.wrap .i64 (v9 + 1)))) else none) else none)
  else (some (.inl ()))
theorem ok_law02_NameMembers_l1 (n : Nat) (v0 : List (List UInt8)) (v1 : List (List UInt8)) (v7 : List (List UInt8)) (v8 : List (List UInt8)) {F0 : Fz} {w0 : Pt Try.prog} {Q : Exit → Act → World → Prop} (k : Nat) : ∀ (v9 : Int) (o : Sum (Unit) (Bool)), law02_NameMembers_l1 n v0 v1 v7 v8 k v9 = some o → (Sum.elim (fun s => To 93 F0 w0 [(0, .recs (α := List UInt8) [] E_string v0), (1, .recs (α := List UInt8) [] E_string v1), (7, .recs (α := List UInt8) [] E_string v7), (8, .recs (α := List UInt8) [] E_string v8)] [] (.exit 0) Q) (fun s => To 93 F0 w0 [(6, .val (.bool s))] [] .ret Q)) o → WL Try.prog 93 F0 w0 [(0, .recs (α := List UInt8) [] E_string v0), (1, .recs (α := List UInt8) [] E_string v1), (7, .recs (α := List UInt8) [] E_string v7), (8, .recs (α := List UInt8) [] E_string v8), (9, .val (.int .i64 v9))] [] (cI (cI (cB (cA (cB (cB (cB (cB (cF Try.f5))))))))) Q := by
  induction k with
  | zero => intro v9 o h; cases h
  | succ k ih =>
    intro v9 o h hQ
    rw [law02_NameMembers_l1] at h
    refine WL.round ?_
    refine Wp.seq ?_
    refine Wp.seq ?_
    refine Wp.region hΓ [] [] [] [0, 1, 7, 8, 9, 55] [] (K' := [(0, .recs (α := List UInt8) [] E_string v0), (1, .recs (α := List UInt8) [] E_string v1), (7, .recs (α := List UInt8) [] E_string v7), (8, .recs (α := List UInt8) [] E_string v8), (9, .val (.int .i64 v9)), (55, .val (.bool (decide (v9 < (List.length v7 : Int)))))]) (L' := []) (ob := []) (by kernel_rfl) AllP.nil ?_
    refine To.thenN ?_
    refine Wp.cond (b := (decide (v9 < (List.length v7 : Int)))) (by kernel_rfl) (fun hb => ?_) (fun hb => ?_)
    · replace h := if_t hb h
      refine Wp.skip ?_
      refine To.thenN ?_
      refine Wp.seq ?_
      refine Wp.block ?_
      refine Wp.seq ?_
      obtain ⟨hc12, h⟩ := chk_of h
      obtain ⟨hc13, h⟩ := chk_of h
      refine Wp.regionD hm hΓ [] [0, 1, 7, 8, 9, 67] [] (K' := [(0, .recs (α := List UInt8) [] E_string v0), (1, .recs (α := List UInt8) [] E_string v1), (7, .recs (α := List UInt8) [] E_string v7), (8, .recs (α := List UInt8) [] E_string v8), (9, .val (.int .i64 v9)), (67, .val (.bool (!(Op.bytesLess ((v7)[Int.toNat (IntKind.wrap .i64 (v9 - 1))]?.getD []) ((v7)[Int.toNat v9]?.getD [])))))]) (L' := []) (ob := [(decide (0 ≤ (IntKind.wrap .i64 (v9 - 1)) ∧ (IntKind.wrap .i64 (v9 - 1)) < (List.length v7 : Int))) = true, (decide (0 ≤ v9 ∧ v9 < (List.length v7 : Int))) = true]) (by kernel_rfl) (AllP.cons hc12 (AllP.cons hc13 AllP.nil)) ?_
      refine To.thenN ?_
      refine Wp.cond (b := (!(Op.bytesLess ((v7)[Int.toNat (IntKind.wrap .i64 (v9 - 1))]?.getD []) ((v7)[Int.toNat v9]?.getD [])))) (by kernel_rfl) (fun hb => ?_) (fun hb => ?_)
      · replace h := if_t hb h
        refine Wp.seq ?_
        refine Wp.region hΓ [] [] [] [6] [] (K' := [(6, .val (.bool false))]) (L' := []) (ob := []) (by kernel_rfl) AllP.nil ?_
        refine To.thenN ?_
        refine Wp.ret ?_
        refine To.blockR ?_
        refine To.thenR ?_
        refine To.thenR ?_
        refine To.keep (kk := [6]) (kl := []) (K' := [(6, .val (.bool false))]) (L' := []) (by kernel_rfl) (by kernel_rfl) ?_
        cases h
        exact hQ
      · replace h := if_f hb h
        refine Wp.skip ?_
        refine To.blockN ?_
        refine To.thenN ?_
        refine Wp.region hΓ [] [] [] [0, 1, 7, 8, 9] [] (K' := [(0, .recs (α := List UInt8) [] E_string v0), (1, .recs (α := List UInt8) [] E_string v1), (7, .recs (α := List UInt8) [] E_string v7), (8, .recs (α := List UInt8) [] E_string v8), (9, .val (.int .i64 (IntKind.wrap .i64 (v9 + 1))))]) (L' := []) (ob := []) (by kernel_rfl) AllP.nil ?_
        refine To.keep (kk := [0, 1, 7, 8, 9]) (kl := []) (K' := [(0, .recs (α := List UInt8) [] E_string v0), (1, .recs (α := List UInt8) [] E_string v1), (7, .recs (α := List UInt8) [] E_string v7), (8, .recs (α := List UInt8) [] E_string v8), (9, .val (.int .i64 (IntKind.wrap .i64 (v9 + 1))))]) (L' := []) (by kernel_rfl) (by kernel_rfl) ?_
        refine To.again ?_
        exact ih (IntKind.wrap .i64 (v9 + 1)) _ h hQ
    · replace h := if_f hb h
      refine Wp.exit ?_
      refine To.thenX ?_
      refine To.thenX ?_
      refine To.keep (kk := [0, 1, 7, 8]) (kl := []) (K' := [(0, .recs (α := List UInt8) [] E_string v0), (1, .recs (α := List UInt8) [] E_string v1), (7, .recs (α := List UInt8) [] E_string v7), (8, .recs (α := List UInt8) [] E_string v8)]) (L' := []) (by kernel_rfl) (by kernel_rfl) ?_
      cases h
      exact hQ
def law02_NameMembers (n : Nat) (a0 : List (List UInt8)) (a1 : List (List UInt8)) (a2 : List UInt8) : Option (Bool) :=
  (law02_Few n a0 60).bind fun r1 =>
  ((if ((!r1) == false) = true then law02_Few n a1 60 else some false)).bind fun r2 =>
  if (bif (!r1) then true else (!r2)) = true then ((law02_awake n).bind fun r3 =>
  some r3)
  else ((name_Both n a0 a1).bind fun r4 =>
  (name_Without n a0 a1).bind fun r5 =>
  (name_In n r4 a2).bind fun r6 =>
  (name_In n a0 a2).bind fun r7 =>
  ((if (r7 == false) = true then name_In n a1 a2 else some false)).bind fun r8 =>
  ((if ((!(r6 == (bif r7 then true else r8))) == false) = true then name_In n r5 a2 else some false)).bind fun r9 =>
  ((if ((!(r6 == (bif r7 then true else r8))) == false) = true then name_In n a0 a2 else some false)).bind fun r10 =>
  ((if ((r10 == true) && ((!(r6 == (bif r7 then true else r8))) == false)) = true then name_In n a1 a2 else some false)).bind fun r11 =>
  if (bif (!(r6 == (bif r7 then true else r8))) then true else (!(r9 == (bif r10 then (!r11) else false)))) = true then some false
  else ((law02_NameMembers_l1 n a0 a1 r4 r5 n 1).bind fun o12 =>
  (Sum.elim (fun o12 => (name_Sorted n r4).bind fun r13 =>
  (name_Same n r13 r4).bind fun r14 =>
  ((if (r14 == true) = true then name_Both n a1 a0 else some [])).bind fun r15 =>
  ((if (r14 == true) = true then name_Same n r15 r4 else some false)).bind fun r16 =>
  ((if ((bif r14 then r16 else false) == true) = true then name_Sorted n a1 else some [])).bind fun r17 =>
  ((if ((bif (bif r14 then r16 else false) then ((IntKind.wrap .i64 ((List.length r4 : Int) - (List.length r5 : Int))) == (List.length r17 : Int)) else false) == true) = true then law02_awake n else some false)).bind fun r18 =>
  lett ((bif (bif (bif r14 then r16 else false) then ((IntKind.wrap .i64 ((List.length r4 : Int) - (List.length r5 : Int))) == (List.length r17 : Int)) else false) then r18 else false) : Bool) fun x19 =>
  some x19) (fun o12 => some o12)) o12))
theorem ok_law02_NameMembers (n : Nat) (a0 : List (List UInt8)) (a1 : List (List UInt8)) (a2 : List UInt8) (r : Bool) (h : law02_NameMembers n a0 a1 a2 = some r) : CallsX Try.prog 5 [.recs (α := List UInt8) [] E_string a0, .recs (α := List UInt8) [] E_string a1, .str a2] (.val (.bool r)) := by
  unfold law02_NameMembers at h
  refine callsX_of (fn := Try.f5) (by kernel_rfl) rfl (by kernel_rfl) (Nat.le_of_ble_eq_true (by kernel_rfl)) fun F0 w0 _ => ?_
  refine Wp.keep (kk := [0, 1, 2]) (kl := []) (K' := [(0, .recs (α := List UInt8) [] E_string a0), (1, .recs (α := List UInt8) [] E_string a1), (2, .str a2)]) (L' := []) (by kernel_rfl) (by kernel_rfl) ?_
  refine Wp.seq ?_
  refine Wp.region hΓ [] [] [] [0, 1, 2] [] (K' := [(0, .recs (α := List UInt8) [] E_string a0), (1, .recs (α := List UInt8) [] E_string a1), (2, .str a2)]) (L' := []) (ob := []) (by kernel_rfl) AllP.nil ?_
  refine To.thenN ?_
  refine Wp.seq ?_
  refine Wp.seq ?_
  obtain ⟨r1, hr1, h⟩ := bind_of h
  obtain ⟨r2, hr2, h⟩ := bind_of h
  refine Wp.region hΓ [] [(1, .val (.bool r1)), (5, .val (.bool r2))] [] [0, 1, 2, 17] [] (K' := [(0, .recs (α := List UInt8) [] E_string a0), (1, .recs (α := List UInt8) [] E_string a1), (2, .str a2), (17, .val (.bool (bif (!r1) then true else (!r2))))]) (L' := []) (ob := [(true = true → CX Try.prog 13 [.recs (α := List UInt8) [] E_string a0, .val (.int .i64 60)] (.val (.bool r1))), (((!r1) == false) = true → CX Try.prog 13 [.recs (α := List UInt8) [] E_string a1, .val (.int .i64 60)] (.val (.bool r2)))]) (by kernel_rfl) (AllP.cons (fun _ => cx (ok_law02_Few n a0 60 _ hr1)) (AllP.cons (fun hg => cx (ok_law02_Few n a1 60 _ (if_t hg hr2))) AllP.nil)) ?_
  refine To.thenN ?_
  refine Wp.cond (b := (bif (!r1) then true else (!r2))) (by kernel_rfl) (fun hb => ?_) (fun hb => ?_)
  · replace h := if_t hb h
    refine Wp.seq ?_
    obtain ⟨r3, hr3, h⟩ := bind_of h
    refine Wp.region hΓ [] [(0, .val (.bool r3))] [] [6] [] (K' := [(6, .val (.bool r3))]) (L' := []) (ob := [(true = true → CX Try.prog 6 [] (.val (.bool r3)))]) (by kernel_rfl) (AllP.cons (fun _ => cx (ok_law02_awake n  _ hr3)) AllP.nil) ?_
    refine To.thenN ?_
    refine Wp.ret ?_
    refine To.thenR ?_
    refine To.keep (kk := [6]) (kl := []) (K' := [(6, .val (.bool r3))]) (L' := []) (by kernel_rfl) (by kernel_rfl) ?_
    cases h
    exact To.done hΓ (by kernel_rfl)
  · replace h := if_f hb h
    refine Wp.skip ?_
    refine To.thenN ?_
    refine Wp.seq ?_
    obtain ⟨r4, hr4, h⟩ := bind_of h
    obtain ⟨r5, hr5, h⟩ := bind_of h
    refine Wp.region hΓ [] [(2, .recs (α := List UInt8) [] E_string r4), (5, .recs (α := List UInt8) [] E_string r5)] [] [0, 1, 2, 7, 8] [] (K' := [(0, .recs (α := List UInt8) [] E_string a0), (1, .recs (α := List UInt8) [] E_string a1), (2, .str a2), (7, .recs (α := List UInt8) [] E_string r4), (8, .recs (α := List UInt8) [] E_string r5)]) (L' := []) (ob := [(true = true → CX Try.prog 17 [.recs (α := List UInt8) [] E_string a0, .recs (α := List UInt8) [] E_string a1] (.recs (α := List UInt8) [] E_string r4)), (true = true → CX Try.prog 19 [.recs (α := List UInt8) [] E_string a0, .recs (α := List UInt8) [] E_string a1] (.recs (α := List UInt8) [] E_string r5))]) (by kernel_rfl) (AllP.cons (fun _ => cx (ok_name_Both n a0 a1 _ hr4)) (AllP.cons (fun _ => cx (ok_name_Without n a0 a1 _ hr5)) AllP.nil)) ?_
    refine To.thenN ?_
    refine Wp.seq ?_
    refine Wp.seq ?_
    obtain ⟨r6, hr6, h⟩ := bind_of h
    obtain ⟨r7, hr7, h⟩ := bind_of h
    obtain ⟨r8, hr8, h⟩ := bind_of h
    obtain ⟨r9, hr9, h⟩ := bind_of h
    obtain ⟨r10, hr10, h⟩ := bind_of h
    obtain ⟨r11, hr11, h⟩ := bind_of h
    refine Wp.region hΓ [] [(2, .val (.bool r6)), (5, .val (.bool r7)), (9, .val (.bool r8)), (15, .val (.bool r9)), (18, .val (.bool r10)), (22, .val (.bool r11))] [] [0, 1, 7, 8, 51] [] (K' := [(0, .recs (α := List UInt8) [] E_string a0), (1, .recs (α := List UInt8) [] E_string a1), (7, .recs (α := List UInt8) [] E_string r4), (8, .recs (α := List UInt8) [] E_string r5), (51, .val (.bool (bif (!(r6 == (bif r7 then true else r8))) then true else (!(r9 == (bif r10 then (!r11) else false))))))]) (L' := []) (ob := [(true = true → CX Try.prog 21 [.recs (α := List UInt8) [] E_string r4, .str a2] (.val (.bool r6))), (true = true → CX Try.prog 21 [.recs (α := List UInt8) [] E_string a0, .str a2] (.val (.bool r7))), ((r7 == false) = true → CX Try.prog 21 [.recs (α := List UInt8) [] E_string a1, .str a2] (.val (.bool r8))), (((!(r6 == (bif r7 then true else r8))) == false) = true → CX Try.prog 21 [.recs (α := List UInt8) [] E_string r5, .str a2] (.val (.bool r9))), (((!(r6 == (bif r7 then true else r8))) == false) = true → CX Try.prog 21 [.recs (α := List UInt8) [] E_string a0, .str a2] (.val (.bool r10))), (((r10 == true) && ((!(r6 == (bif r7 then true else r8))) == false)) = true → CX Try.prog 21 [.recs (α := List UInt8) [] E_string a1, .str a2] (.val (.bool r11)))]) (by kernel_rfl) (AllP.cons (fun _ => cx (ok_name_In n r4 a2 _ hr6)) (AllP.cons (fun _ => cx (ok_name_In n a0 a2 _ hr7)) (AllP.cons (fun hg => cx (ok_name_In n a1 a2 _ (if_t hg hr8))) (AllP.cons (fun hg => cx (ok_name_In n r5 a2 _ (if_t hg hr9))) (AllP.cons (fun hg => cx (ok_name_In n a0 a2 _ (if_t hg hr10))) (AllP.cons (fun hg => cx (ok_name_In n a1 a2 _ (if_t hg hr11))) AllP.nil)))))) ?_
    refine To.thenN ?_
    refine Wp.cond (b := (bif (!(r6 == (bif r7 then true else r8))) then true else (!(r9 == (bif r10 then (!r11) else false))))) (by kernel_rfl) (fun hb => ?_) (fun hb => ?_)
    · replace h := if_t hb h
      refine Wp.seq ?_
      refine Wp.region hΓ [] [] [] [6] [] (K' := [(6, .val (.bool false))]) (L' := []) (ob := []) (by kernel_rfl) AllP.nil ?_
      refine To.thenN ?_
      refine Wp.ret ?_
      refine To.thenR ?_
      refine To.keep (kk := [6]) (kl := []) (K' := [(6, .val (.bool false))]) (L' := []) (by kernel_rfl) (by kernel_rfl) ?_
      cases h
      exact To.done hΓ (by kernel_rfl)
    · replace h := if_f hb h
      refine Wp.skip ?_
      refine To.thenN ?_
      refine Wp.seq ?_
      refine Wp.seq ?_
      refine Wp.region hΓ [] [] [] [0, 1, 7, 8, 9] [] (K' := [(0, .recs (α := List UInt8) [] E_string a0), (1, .recs (α := List UInt8) [] E_string a1), (7, .recs (α := List UInt8) [] E_string r4), (8, .recs (α := List UInt8) [] E_string r5), (9, .val (.int .i64 1))]) (L' := []) (ob := []) (by kernel_rfl) AllP.nil ?_
      refine To.thenN ?_
      refine Wp.block ?_
      obtain ⟨o12, ho12, h⟩ := bind_of h
      refine Wp.keep (kk := [0, 1, 7, 8, 9]) (kl := []) (K' := [(0, .recs (α := List UInt8) [] E_string a0), (1, .recs (α := List UInt8) [] E_string a1), (7, .recs (α := List UInt8) [] E_string r4), (8, .recs (α := List UInt8) [] E_string r5), (9, .val (.int .i64 1))]) (L' := []) (by kernel_rfl) (by kernel_rfl) ?_
      refine Wp.loopL ?_
      refine ok_law02_NameMembers_l1 n a0 a1 r4 r5 n 1 o12 ho12 ?_
      rcases o12 with o12 | o12
      · replace h := sum_l h
        refine To.blockX ?_
        refine To.thenN ?_
        refine Wp.seq ?_
        obtain ⟨r13, hr13, h⟩ := bind_of h
        obtain ⟨r14, hr14, h⟩ := bind_of h
        obtain ⟨r15, hr15, h⟩ := bind_of h
        obtain ⟨r16, hr16, h⟩ := bind_of h
        obtain ⟨r17, hr17, h⟩ := bind_of h
        obtain ⟨r18, hr18, h⟩ := bind_of h
        obtain ⟨x19, hx19, h⟩ := lett_of h
        refine Wp.region hΓ [] [(1, .recs (α := List UInt8) [] E_string r13), (3, .val (.bool r14)), (7, .recs (α := List UInt8) [] E_string r15), (9, .val (.bool r16)), (18, .recs (α := List UInt8) [] E_string r17), (23, .val (.bool r18))] [] [6] [] (K' := [(6, .val (.bool (bif (bif (bif r14 then r16 else false) then ((IntKind.wrap .i64 ((List.length r4 : Int) - (List.length r5 : Int))) == (List.length r17 : Int)) else false) then r18 else false)))]) (L' := []) (ob := [(true = true → CX Try.prog 15 [.recs (α := List UInt8) [] E_string r4] (.recs (α := List UInt8) [] E_string r13)), (true = true → CX Try.prog 23 [.recs (α := List UInt8) [] E_string r13, .recs (α := List UInt8) [] E_string r4] (.val (.bool r14))), ((r14 == true) = true → CX Try.prog 17 [.recs (α := List UInt8) [] E_string a1, .recs (α := List UInt8) [] E_string a0] (.recs (α := List UInt8) [] E_string r15)), ((r14 == true) = true → CX Try.prog 23 [.recs (α := List UInt8) [] E_string r15, .recs (α := List UInt8) [] E_string r4] (.val (.bool r16))), (((bif r14 then r16 else false) == true) = true → CX Try.prog 15 [.recs (α := List UInt8) [] E_string a1] (.recs (α := List UInt8) [] E_string r17)), (((bif (bif r14 then r16 else false) then ((IntKind.wrap .i64 ((List.length r4 : Int) - (List.length r5 : Int))) == (List.length r17 : Int)) else false) == true) = true → CX Try.prog 6 [] (.val (.bool r18)))]) (by kernel_rfl) (AllP.cons (fun _ => cx (ok_name_Sorted n r4 _ hr13)) (AllP.cons (fun _ => cx (ok_name_Same n r13 r4 _ hr14)) (AllP.cons (fun hg => cx (ok_name_Both n a1 a0 _ (if_t hg hr15))) (AllP.cons (fun hg => cx (ok_name_Same n r15 r4 _ (if_t hg hr16))) (AllP.cons (fun hg => cx (ok_name_Sorted n a1 _ (if_t hg hr17))) (AllP.cons (fun hg => cx (ok_law02_awake n  _ (if_t hg hr18))) AllP.nil)))))) ?_
        refine To.eq (K' := [(6, .val (.bool x19))]) (L' := []) (by cases hx19; rfl) (by cases hx19; rfl) ?_
        refine To.thenN ?_
        refine Wp.ret ?_
        refine To.keep (kk := [6]) (kl := []) (K' := [(6, .val (.bool x19))]) (L' := []) (by kernel_rfl) (by kernel_rfl) ?_
        cases h
        exact To.done hΓ (by kernel_rfl)
      · replace h := sum_r h
        refine To.blockR ?_
        refine To.thenR ?_
        refine To.keep (kk := [6]) (kl := []) (K' := [(6, .val (.bool o12))]) (L' := []) (by kernel_rfl) (by kernel_rfl) ?_
        cases h
        exact To.done hΓ (by kernel_rfl)
theorem opens_string : Opens Try.prog 9 (fun l : List UInt8 => l.length ≤ maxLen) (fun l => [.str l]) := opens_str (by kernel_rfl)
def W_Lstring (l : List (List UInt8)) : Prop := l.length ≤ maxLen ∧ ∀ x ∈ l, (List.length x ≤ maxLen)
theorem opens_Lstring : Opens Try.prog 24 W_Lstring (fun l => [.recs (α := List UInt8) [] E_string l]) := opens_slice (α := List UInt8) (cells := E_string) [] (by kernel_rfl) (by kernel_rfl) (of_decide_eq_true (by kernel_rfl)) opens_string
end Go.Proofs.Ytljnmojkhajolaa.M