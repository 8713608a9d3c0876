/-
  Printed by wip/tools/gen.py: models and walks of functions.
-/
import Derived.Test.YthhoedkeggiflaaDoorM07a
namespace Go.Proofs.YthhoedkeggiflaaDoor.M
open Go.RowKit Go.Proofs.YthhoedkeggiflaaDoor.RX
set_option maxRecDepth 100000
def ref07_Split_j3 (n : Nat) (v0 : List UInt8) (v5 : List (S_line_Line)) (v6 : Int) (v7 : Int) (v8 : List UInt8) (v39 : Bool) : Option ((List UInt8)) :=
  if v39 = true then (if (decide (0 ≤ (IntKind.wrap .i64 (v7 + 1)) ∧ (IntKind.wrap .i64 (v7 + 1)) ≤ (List.length v0 : Int))) = true then (some (List.drop (Int.toNat (IntKind.wrap .i64 (v7 + 1))) v0)) else none)
  else (some [])
theorem ok_ref07_Split_j3 (n : Nat) (v0 : List UInt8) (v5 : List (S_line_Line)) (v6 : Int) (v7 : Int) (v8 : List UInt8) (v39 : Bool) (o : (List UInt8)) (h : ref07_Split_j3 n v0 v5 v6 v7 v8 v39 = some o) {F0 : Fz} {w0 : Pt Tryd.prog} {Q : Exit → Act → World → Prop} (hQ : To 89 F0 w0 [(0, .str o), (5, .row 1005), (6, .val (.int .i64 v6)), (8, .str v8)] [(1005, 36, [.rowc false (α := S_line_Line) (S_line_Line.mk 0 0 []) E_ref07_Line v5])] .normal Q) : Wp Tryd.prog 89 F0 w0 [(0, .str v0), (5, .row 1005), (6, .val (.int .i64 v6)), (7, .val (.int .i64 v7)), (8, .str v8), (39, .val (.bool v39))] [(1005, 36, [.rowc false (α := S_line_Line) (S_line_Line.mk 0 0 []) E_ref07_Line v5])] (cB (cA (cB (cB (cB (cB (cI (cB (cI (cI (cA (cB (cB (cB (cB (cF Tryd.f8)))))))))))))))) Q := by
  unfold ref07_Split_j3 at h
  refine Wp.cond (b := v39) (by kernel_rfl) (fun hb => ?_) (fun hb => ?_)
  · replace h := if_t hb h
    obtain ⟨hc2, h⟩ := chk_of h
    refine Wp.region hΓ [] [] [] [0, 5, 6, 8] [1005] (K' := [(0, .str (List.drop (Int.toNat (IntKind.wrap .i64 (v7 + 1))) v0)), (5, .row 1005), (6, .val (.int .i64 v6)), (8, .str v8)]) (L' := [(1005, 36, [.rowc false (α := S_line_Line) (S_line_Line.mk 0 0 []) E_ref07_Line v5])]) (ob := [(decide (0 ≤ (IntKind.wrap .i64 (v7 + 1)) ∧ (IntKind.wrap .i64 (v7 + 1)) ≤ (List.length v0 : Int))) = true]) (by kernel_rfl) (AllP.cons hc2 AllP.nil) ?_
    refine To.keep (kk := [0, 5, 6, 8]) (kl := [1005]) (K' := [(0, .str (List.drop (Int.toNat (IntKind.wrap .i64 (v7 + 1))) v0)), (5, .row 1005), (6, .val (.int .i64 v6)), (8, .str v8)]) (L' := [(1005, 36, [.rowc false (α := S_line_Line) (S_line_Line.mk 0 0 []) E_ref07_Line v5])]) (by kernel_rfl) (by kernel_rfl) ?_
    cases h
    exact hQ
  · replace h := if_f hb h
    refine Wp.region hΓ [] [] [] [0, 5, 6, 8] [1005] (K' := [(0, .str []), (5, .row 1005), (6, .val (.int .i64 v6)), (8, .str v8)]) (L' := [(1005, 36, [.rowc false (α := S_line_Line) (S_line_Line.mk 0 0 []) E_ref07_Line v5])]) (ob := []) (by kernel_rfl) AllP.nil ?_
    refine To.keep (kk := [0, 5, 6, 8]) (kl := [1005]) (K' := [(0, .str []), (5, .row 1005), (6, .val (.int .i64 v6)), (8, .str v8)]) (L' := [(1005, 36, [.rowc false (α := S_line_Line) (S_line_Line.mk 0 0 []) E_ref07_Line v5])]) (by kernel_rfl) (by kernel_rfl) ?_
    cases h
    exact hQ
def ref07_Split_l4 (n : Nat) (v0 : List UInt8) (v5 : List (S_line_Line)) (v6 : Int) (v8 : List UInt8) : Nat → Int → Option (Int)
  | 0, _ => none
  | k + 1, v9 => if ((!((decide (v9 < (List.length v8 : Int))) == true) || decide (0 ≤ v9 ∧ v9 < (List.length v8 : Int)))) = true then (if (bif (decide (v9 < (List.length v8 : Int))) then ((((v8)[Int.toNat v9]?.getD 0).toNat : Int) == 32) else false) = true then (ref07_Split_l4 n v0 v5 v6 v8 k (IntKind.wrap .i64 (v9 + 1)))
  else some v9) else none
theorem ok_ref07_Split_l4 (n : Nat) (v0 : List UInt8) (v5 : List (S_line_Line)) (v6 : Int) (v8 : List UInt8) {F0 : Fz} {w0 : Pt Tryd.prog} {Q : Exit → Act → World → Prop} (k : Nat) : ∀ (v9 : Int) (o : Int), ref07_Split_l4 n v0 v5 v6 v8 k v9 = some o → To 89 F0 w0 [(0, .str v0), (5, .row 1005), (6, .val (.int .i64 v6)), (8, .str v8), (9, .val (.int .i64 o))] [(1005, 36, [.rowc false (α := S_line_Line) (S_line_Line.mk 0 0 []) E_ref07_Line v5])] (.exit 4) Q → WL Tryd.prog 89 F0 w0 [(0, .str v0), (5, .row 1005), (6, .val (.int .i64 v6)), (8, .str v8), (9, .val (.int .i64 v9))] [(1005, 36, [.rowc false (α := S_line_Line) (S_line_Line.mk 0 0 []) E_ref07_Line v5])] (cI (cI (cA (cB (cB (cB (cB (cB (cB (cI (cB (cI (cI (cA (cB (cB (cB (cB (cF Tryd.f8))))))))))))))))))) Q := by
  induction k with
  | zero => intro v9 o h; cases h
  | succ k ih =>
    intro v9 o h hQ
    rw [ref07_Split_l4] at h
    refine WL.round ?_
    refine Wp.seq ?_
    refine Wp.seq ?_
    obtain ⟨hc3, h⟩ := chk_of h
    refine Wp.region hΓ [] [] [] [0, 5, 6, 8, 9, 53] [1005] (K' := [(0, .str v0), (5, .row 1005), (6, .val (.int .i64 v6)), (8, .str v8), (9, .val (.int .i64 v9)), (53, .val (.bool (bif (decide (v9 < (List.length v8 : Int))) then ((((v8)[Int.toNat v9]?.getD 0).toNat : Int) == 32) else false)))]) (L' := [(1005, 36, [.rowc false (α := S_line_Line) (S_line_Line.mk 0 0 []) E_ref07_Line v5])]) (ob := [(!((decide (v9 < (List.length v8 : Int))) == true) || decide (0 ≤ v9 ∧ v9 < (List.length v8 : Int))) = true]) (by kernel_rfl) (AllP.cons hc3 AllP.nil) ?_
    refine To.thenN ?_
    refine Wp.cond (b := (bif (decide (v9 < (List.length v8 : Int))) then ((((v8)[Int.toNat v9]?.getD 0).toNat : Int) == 32) else false)) (by kernel_rfl) (fun hb => ?_) (fun hb => ?_)
    · replace h := if_t hb h
      refine Wp.skip ?_
      refine To.thenN ?_
      refine Wp.block ?_
      refine Wp.region hΓ [] [] [] [0, 5, 6, 8, 9] [1005] (K' := [(0, .str v0), (5, .row 1005), (6, .val (.int .i64 v6)), (8, .str v8), (9, .val (.int .i64 (IntKind.wrap .i64 (v9 + 1))))]) (L' := [(1005, 36, [.rowc false (α := S_line_Line) (S_line_Line.mk 0 0 []) E_ref07_Line v5])]) (ob := []) (by kernel_rfl) AllP.nil ?_
      refine To.blockN ?_
      refine To.keep (kk := [0, 5, 6, 8, 9]) (kl := [1005]) (K' := [(0, .str v0), (5, .row 1005), (6, .val (.int .i64 v6)), (8, .str v8), (9, .val (.int .i64 (IntKind.wrap .i64 (v9 + 1))))]) (L' := [(1005, 36, [.rowc false (α := S_line_Line) (S_line_Line.mk 0 0 []) E_ref07_Line v5])]) (by kernel_rfl) (by kernel_rfl) ?_
      refine To.again ?_
      exact ih (IntKind.wrap .i64 (v9 + 1)) _ h hQ
    · replace h := if_f hb h
      refine Wp.exit ?_
      refine To.thenX ?_
      refine To.thenX ?_
      refine To.keep (kk := [0, 5, 6, 8, 9]) (kl := [1005]) (K' := [(0, .str v0), (5, .row 1005), (6, .val (.int .i64 v6)), (8, .str v8), (9, .val (.int .i64 v9))]) (L' := [(1005, 36, [.rowc false (α := S_line_Line) (S_line_Line.mk 0 0 []) E_ref07_Line v5])]) (by kernel_rfl) (by kernel_rfl) ?_
      cases h
      exact hQ
def ref07_Split_l1 (n : Nat) : Nat → (List UInt8) → (List (S_line_Line)) → Int → Option (Sum ((List (S_line_Line))) (Int × Int))
  | 0, _, _, _ => none
  | k + 1, v0, v5, v6 => if (decide ((List.length v0 : Int) > 0)) = true then ((ref07_Split_l2 n v0 v5 (IntKind.wrap .i64 (v6 + 1)) n 0).bind fun o1 =>
  if (decide (0 ≤ o1 ∧ o1 ≤ (List.length v0 : Int))) = true then ((ref07_Split_j3 n v0 v5 (IntKind.wrap .i64 (v6 + 1)) o1 (List.take (Int.toNat o1) v0) (decide (o1 < (List.length v0 : Int)))).bind fun o2 =>
  (ref07_Split_l4 n o2 v5 (IntKind.wrap .i64 (v6 + 1)) (List.take (Int.toNat o1) v0) n 0).bind fun o3 =>
  if (decide (0 ≤ o3 ∧ o3 ≤ (List.length (List.take (Int.toNat o1) v0) : Int))) = true then ((ref07_Say n (List.drop (Int.toNat o3) (List.take (Int.toNat o1) v0))).bind fun r4 =>
  lett ((bif (!r4.2) then true else (bif (o3 == 0) then (bif (r4.1 == [45, 45, 45]) then true else (r4.1 == [46, 46, 46])) else false)) : Bool) fun x5 =>
  if x5 = true then (some (.inr ((IntKind.wrap .i64 (v6 + 1)), 3)))
  else (if (decide ((List.length r4.1 : Int) > 0)) = true then (if (decide ((List.length v5 + List.length ([(S_line_Line.mk (IntKind.wrap .i64 (v6 + 1)) o3 r4.1)] : List (S_line_Line))) * (32 + 1) ≤ limit)) = true then (ref07_Split_l1 n k o2 (v5 ++ ([(S_line_Line.mk (IntKind.wrap .i64 (v6 + 1)) o3 r4.1)] : List (S_line_Line))) (IntKind.wrap .i64 (v6 + 1))) else none)
  else (ref07_Split_l1 n k o2 v5 (IntKind.wrap .i64 (v6 + 1))))) else none) else none)
  else (some (.inl v5))
theorem ok_ref07_Split_l1 (n : Nat) {F0 : Fz} {w0 : Pt Tryd.prog} {Q : Exit → Act → World → Prop} (k : Nat) : ∀ (v0 : List UInt8) (v5 : List (S_line_Line)) (v6 : Int) (o : Sum ((List (S_line_Line))) (Int × Int)), ref07_Split_l1 n k v0 v5 v6 = some o → (Sum.elim (fun s => To 89 F0 w0 [(5, .row 1005)] [(1005, 36, [.rowc false (α := S_line_Line) (S_line_Line.mk 0 0 []) E_ref07_Line s])] (.exit 0) Q) (fun s => To 89 F0 w0 [(2, .val (.slice none 0 0)), (3, .val (.int .i64 s.1)), (4, .val (.int .i64 s.2))] [] .ret Q)) o → WL Tryd.prog 89 F0 w0 [(0, .str v0), (5, .row 1005), (6, .val (.int .i64 v6))] [(1005, 36, [.rowc false (α := S_line_Line) (S_line_Line.mk 0 0 []) E_ref07_Line v5])] (cI (cI (cA (cB (cB (cB (cB (cF Tryd.f8)))))))) Q := by
  induction k with
  | zero => intro v0 v5 v6 o h; cases h
  | succ k ih =>
    intro v0 v5 v6 o h hQ
    rw [ref07_Split_l1] at h
    refine WL.round ?_
    refine Wp.seq ?_
    refine Wp.seq ?_
    refine Wp.region hΓ [] [] [] [0, 5, 6, 18] [1005] (K' := [(0, .str v0), (5, .row 1005), (6, .val (.int .i64 v6)), (18, .val (.bool (decide ((List.length v0 : Int) > 0))))]) (L' := [(1005, 36, [.rowc false (α := S_line_Line) (S_line_Line.mk 0 0 []) E_ref07_Line v5])]) (ob := []) (by kernel_rfl) AllP.nil ?_
    refine To.thenN ?_
    refine Wp.cond (b := (decide ((List.length v0 : Int) > 0))) (by kernel_rfl) (fun hb => ?_) (fun hb => ?_)
    · replace h := if_t hb h
      refine Wp.skip ?_
      refine To.thenN ?_
      refine Wp.block ?_
      refine Wp.seq ?_
      refine Wp.region hΓ [] [] [] [0, 5, 6] [1005] (K' := [(0, .str v0), (5, .row 1005), (6, .val (.int .i64 (IntKind.wrap .i64 (v6 + 1))))]) (L' := [(1005, 36, [.rowc false (α := S_line_Line) (S_line_Line.mk 0 0 []) E_ref07_Line v5])]) (ob := []) (by kernel_rfl) AllP.nil ?_
      refine To.thenN ?_
      refine Wp.seq ?_
      refine Wp.region hΓ [] [] [] [0, 5, 6, 7] [1005] (K' := [(0, .str v0), (5, .row 1005), (6, .val (.int .i64 (IntKind.wrap .i64 (v6 + 1)))), (7, .val (.int .i64 0))]) (L' := [(1005, 36, [.rowc false (α := S_line_Line) (S_line_Line.mk 0 0 []) E_ref07_Line v5])]) (ob := []) (by kernel_rfl) AllP.nil ?_
      refine To.thenN ?_
      refine Wp.seq ?_
      refine Wp.block ?_
      obtain ⟨o1, ho1, h⟩ := bind_of h
      refine Wp.keep (kk := [0, 5, 6, 7]) (kl := [1005]) (K' := [(0, .str v0), (5, .row 1005), (6, .val (.int .i64 (IntKind.wrap .i64 (v6 + 1)))), (7, .val (.int .i64 0))]) (L' := [(1005, 36, [.rowc false (α := S_line_Line) (S_line_Line.mk 0 0 []) E_ref07_Line v5])]) (by kernel_rfl) (by kernel_rfl) ?_
      refine Wp.loopL ?_
      refine ok_ref07_Split_l2 n v0 v5 (IntKind.wrap .i64 (v6 + 1)) n 0 o1 ho1 ?_
      refine To.blockX ?_
      refine To.thenN ?_
      refine Wp.seq ?_
      obtain ⟨hc8, h⟩ := chk_of h
      refine Wp.region hΓ [] [] [] [0, 5, 6, 7, 8] [1005] (K' := [(0, .str v0), (5, .row 1005), (6, .val (.int .i64 (IntKind.wrap .i64 (v6 + 1)))), (7, .val (.int .i64 o1)), (8, .str (List.take (Int.toNat o1) v0))]) (L' := [(1005, 36, [.rowc false (α := S_line_Line) (S_line_Line.mk 0 0 []) E_ref07_Line v5])]) (ob := [(decide (0 ≤ o1 ∧ o1 ≤ (List.length v0 : Int))) = true]) (by kernel_rfl) (AllP.cons hc8 AllP.nil) ?_
      refine To.thenN ?_
      refine Wp.seq ?_
      refine Wp.seq ?_
      refine Wp.region hΓ [] [] [] [0, 5, 6, 7, 8, 39] [1005] (K' := [(0, .str v0), (5, .row 1005), (6, .val (.int .i64 (IntKind.wrap .i64 (v6 + 1)))), (7, .val (.int .i64 o1)), (8, .str (List.take (Int.toNat o1) v0)), (39, .val (.bool (decide (o1 < (List.length v0 : Int)))))]) (L' := [(1005, 36, [.rowc false (α := S_line_Line) (S_line_Line.mk 0 0 []) E_ref07_Line v5])]) (ob := []) (by kernel_rfl) AllP.nil ?_
      refine To.thenN ?_
      obtain ⟨o2, ho2, h⟩ := bind_of h
      refine Wp.keep (kk := [0, 5, 6, 7, 8, 39]) (kl := [1005]) (K' := [(0, .str v0), (5, .row 1005), (6, .val (.int .i64 (IntKind.wrap .i64 (v6 + 1)))), (7, .val (.int .i64 o1)), (8, .str (List.take (Int.toNat o1) v0)), (39, .val (.bool (decide (o1 < (List.length v0 : Int)))))]) (L' := [(1005, 36, [.rowc false (α := S_line_Line) (S_line_Line.mk 0 0 []) E_ref07_Line v5])]) (by kernel_rfl) (by kernel_rfl) ?_
      refine ok_ref07_Split_j3 n v0 v5 (IntKind.wrap .i64 (v6 + 1)) o1 (List.take (Int.toNat o1) v0) (decide (o1 < (List.length v0 : Int))) o2 ho2 ?_
      refine To.thenN ?_
      refine Wp.seq ?_
      refine Wp.region hΓ [] [] [] [0, 5, 6, 8, 9] [1005] (K' := [(0, .str o2), (5, .row 1005), (6, .val (.int .i64 (IntKind.wrap .i64 (v6 + 1)))), (8, .str (List.take (Int.toNat o1) v0)), (9, .val (.int .i64 0))]) (L' := [(1005, 36, [.rowc false (α := S_line_Line) (S_line_Line.mk 0 0 []) E_ref07_Line v5])]) (ob := []) (by kernel_rfl) AllP.nil ?_
      refine To.thenN ?_
      refine Wp.seq ?_
      refine Wp.block ?_
      obtain ⟨o3, ho3, h⟩ := bind_of h
      refine Wp.keep (kk := [0, 5, 6, 8, 9]) (kl := [1005]) (K' := [(0, .str o2), (5, .row 1005), (6, .val (.int .i64 (IntKind.wrap .i64 (v6 + 1)))), (8, .str (List.take (Int.toNat o1) v0)), (9, .val (.int .i64 0))]) (L' := [(1005, 36, [.rowc false (α := S_line_Line) (S_line_Line.mk 0 0 []) E_ref07_Line v5])]) (by kernel_rfl) (by kernel_rfl) ?_
      refine Wp.loopL ?_
      refine ok_ref07_Split_l4 n o2 v5 (IntKind.wrap .i64 (v6 + 1)) (List.take (Int.toNat o1) v0) n 0 o3 ho3 ?_
      refine To.blockX ?_
      refine To.thenN ?_
      refine Wp.seq ?_
      obtain ⟨hc7, h⟩ := chk_of h
      obtain ⟨r4, hr4, h⟩ := bind_of h
      refine Wp.region hΓ [] [(3, .tup [.str r4.1, .val (.bool r4.2)])] [] [0, 5, 6, 9, 10, 11] [1005] (K' := [(0, .str o2), (5, .row 1005), (6, .val (.int .i64 (IntKind.wrap .i64 (v6 + 1)))), (9, .val (.int .i64 o3)), (10, .str r4.1), (11, .val (.bool r4.2))]) (L' := [(1005, 36, [.rowc false (α := S_line_Line) (S_line_Line.mk 0 0 []) E_ref07_Line v5])]) (ob := [(decide (0 ≤ o3 ∧ o3 ≤ (List.length (List.take (Int.toNat o1) v0) : Int))) = true, (true = true → CX Tryd.prog 17 [.str (List.drop (Int.toNat o3) (List.take (Int.toNat o1) v0))] (.tup [.str r4.1, .val (.bool r4.2)]))]) (by kernel_rfl) (AllP.cons hc7 (AllP.cons (fun _ => cx (ok_ref07_Say n (List.drop (Int.toNat o3) (List.take (Int.toNat o1) v0)) _ hr4)) AllP.nil)) ?_
      refine To.thenN ?_
      refine Wp.seq ?_
      refine Wp.seq ?_
      obtain ⟨x5, hx5, h⟩ := lett_of h
      refine Wp.region hΓ [] [] [] [0, 5, 6, 9, 10, 76] [1005] (K' := [(0, .str o2), (5, .row 1005), (6, .val (.int .i64 (IntKind.wrap .i64 (v6 + 1)))), (9, .val (.int .i64 o3)), (10, .str r4.1), (76, .val (.bool (bif (!r4.2) then true else (bif (o3 == 0) then (bif (r4.1 == [45, 45, 45]) then true else (r4.1 == [46, 46, 46])) else false))))]) (L' := [(1005, 36, [.rowc false (α := S_line_Line) (S_line_Line.mk 0 0 []) E_ref07_Line v5])]) (ob := []) (by kernel_rfl) AllP.nil ?_
      refine To.eq (K' := [(0, .str o2), (5, .row 1005), (6, .val (.int .i64 (IntKind.wrap .i64 (v6 + 1)))), (9, .val (.int .i64 o3)), (10, .str r4.1), (76, .val (.bool x5))]) (L' := [(1005, 36, [.rowc false (α := S_line_Line) (S_line_Line.mk 0 0 []) E_ref07_Line v5])]) (by cases hx5; rfl) (by cases hx5; rfl) ?_
      refine To.thenN ?_
      refine Wp.cond (b := x5) (by kernel_rfl) (fun hb => ?_) (fun hb => ?_)
      · replace h := if_t hb h
        refine Wp.seq ?_
        refine Wp.region hΓ [] [] [] [2, 3, 4] [] (K' := [(2, .val (.slice none 0 0)), (3, .val (.int .i64 (IntKind.wrap .i64 (v6 + 1)))), (4, .val (.int .i64 3))]) (L' := []) (ob := []) (by kernel_rfl) AllP.nil ?_
        refine To.thenN ?_
        refine Wp.ret ?_
        refine To.thenR ?_
        refine To.blockR ?_
        refine To.thenR ?_
        refine To.keep (kk := [2, 3, 4]) (kl := []) (K' := [(2, .val (.slice none 0 0)), (3, .val (.int .i64 (IntKind.wrap .i64 (v6 + 1)))), (4, .val (.int .i64 3))]) (L' := []) (by kernel_rfl) (by kernel_rfl) ?_
        cases h
        exact hQ
      · replace h := if_f hb h
        refine Wp.skip ?_
        refine To.thenN ?_
        refine Wp.seq ?_
        refine Wp.region hΓ [] [] [] [0, 5, 6, 9, 10, 80] [1005] (K' := [(0, .str o2), (5, .row 1005), (6, .val (.int .i64 (IntKind.wrap .i64 (v6 + 1)))), (9, .val (.int .i64 o3)), (10, .str r4.1), (80, .val (.bool (decide ((List.length r4.1 : Int) > 0))))]) (L' := [(1005, 36, [.rowc false (α := S_line_Line) (S_line_Line.mk 0 0 []) E_ref07_Line v5])]) (ob := []) (by kernel_rfl) AllP.nil ?_
        refine To.thenN ?_
        refine Wp.cond (b := (decide ((List.length r4.1 : Int) > 0))) (by kernel_rfl) (fun hb => ?_) (fun hb => ?_)
        · replace h := if_t hb h
          obtain ⟨hc6, h⟩ := chk_of h
          refine Wp.region hΓ [] [(5, .recs (α := S_line_Line) (S_line_Line.mk 0 0 []) E_ref07_Line [(S_line_Line.mk (IntKind.wrap .i64 (v6 + 1)) o3 r4.1)]), (6, .recs (α := S_line_Line) (S_line_Line.mk 0 0 []) E_ref07_Line (v5 ++ ([(S_line_Line.mk (IntKind.wrap .i64 (v6 + 1)) o3 r4.1)] : List (S_line_Line))))] [] [0, 5, 6] [87] (K' := [(0, .str o2), (5, .row 87), (6, .val (.int .i64 (IntKind.wrap .i64 (v6 + 1))))]) (L' := [(87, 36, [.rowc false (α := S_line_Line) (S_line_Line.mk 0 0 []) E_ref07_Line (v5 ++ ([(S_line_Line.mk (IntKind.wrap .i64 (v6 + 1)) o3 r4.1)] : List (S_line_Line)))])]) (ob := [(MkOb 3 [.val (.int .i64 (IntKind.wrap .i64 (v6 + 1))), .val (.int .i64 o3), .str r4.1] 1 (.recs (α := S_line_Line) (S_line_Line.mk 0 0 []) E_ref07_Line [(S_line_Line.mk (IntKind.wrap .i64 (v6 + 1)) o3 r4.1)]) ∧ GoodR (.recs (α := S_line_Line) (S_line_Line.mk 0 0 []) E_ref07_Line [(S_line_Line.mk (IntKind.wrap .i64 (v6 + 1)) o3 r4.1)])), (decide ((List.length v5 + List.length ([(S_line_Line.mk (IntKind.wrap .i64 (v6 + 1)) o3 r4.1)] : List (S_line_Line))) * (32 + 1) ≤ limit)) = true, (AppOb (S_line_Line.mk 0 0 []) E_ref07_Line v5 (List.flatMap E_ref07_Line ([(S_line_Line.mk (IntKind.wrap .i64 (v6 + 1)) o3 r4.1)] : List (S_line_Line))) (List.length ([(S_line_Line.mk (IntKind.wrap .i64 (v6 + 1)) o3 r4.1)] : List (S_line_Line))) (.recs (α := S_line_Line) (S_line_Line.mk 0 0 []) E_ref07_Line (v5 ++ ([(S_line_Line.mk (IntKind.wrap .i64 (v6 + 1)) o3 r4.1)] : List (S_line_Line)))) ∧ GoodR (.recs (α := S_line_Line) (S_line_Line.mk 0 0 []) E_ref07_Line (v5 ++ ([(S_line_Line.mk (IntKind.wrap .i64 (v6 + 1)) o3 r4.1)] : List (S_line_Line)))))]) (by kernel_rfl) (AllP.cons (mkOb (by kernel_rfl) rfl (by kernel_rfl) (good_E_ref07_Line _)) (AllP.cons hc6 (AllP.cons (appOb rfl rfl (good_E_ref07_Line _)) AllP.nil))) ?_
          refine To.blockN ?_
          refine To.keep (kk := [0, 5, 6]) (kl := [87]) (K' := [(0, .str o2), (5, .row 87), (6, .val (.int .i64 (IntKind.wrap .i64 (v6 + 1))))]) (L' := [(87, 36, [.rowc false (α := S_line_Line) (S_line_Line.mk 0 0 []) E_ref07_Line (v5 ++ ([(S_line_Line.mk (IntKind.wrap .i64 (v6 + 1)) o3 r4.1)] : List (S_line_Line)))])]) (by kernel_rfl) (by kernel_rfl) ?_
          refine To.pre (St.rename 87 1005 (by decide) (K' := [(0, .str o2), (5, .row 1005), (6, .val (.int .i64 (IntKind.wrap .i64 (v6 + 1))))]) (L' := [(1005, 36, [.rowc false (α := S_line_Line) (S_line_Line.mk 0 0 []) E_ref07_Line (v5 ++ ([(S_line_Line.mk (IntKind.wrap .i64 (v6 + 1)) o3 r4.1)] : List (S_line_Line)))])]) (by kernel_rfl) (by kernel_rfl) (by kernel_rfl)) ?_
          refine To.keep (kk := [0, 5, 6]) (kl := [1005]) (K' := [(0, .str o2), (5, .row 1005), (6, .val (.int .i64 (IntKind.wrap .i64 (v6 + 1))))]) (L' := [(1005, 36, [.rowc false (α := S_line_Line) (S_line_Line.mk 0 0 []) E_ref07_Line (v5 ++ ([(S_line_Line.mk (IntKind.wrap .i64 (v6 + 1)) o3 r4.1)] : List (S_line_Line)))])]) (by kernel_rfl) (by kernel_rfl) ?_
          refine To.again ?_
          exact ih o2 (v5 ++ ([(S_line_Line.mk (IntKind.wrap .i64 (v6 + 1)) o3 r4.1)] : List (S_line_Line))) (IntKind.wrap .i64 (v6 + 1)) _ h hQ
        · replace h := if_f hb h
          refine Wp.skip ?_
          refine To.blockN ?_
          refine To.keep (kk := [0, 5, 6]) (kl := [1005]) (K' := [(0, .str o2), (5, .row 1005), (6, .val (.int .i64 (IntKind.wrap .i64 (v6 + 1))))]) (L' := [(1005, 36, [.rowc false (α := S_line_Line) (S_line_Line.mk 0 0 []) E_ref07_Line v5])]) (by kernel_rfl) (by kernel_rfl) ?_
          refine To.again ?_
          exact ih o2 v5 (IntKind.wrap .i64 (v6 + 1)) _ h hQ
    · replace h := if_f hb h
      refine Wp.exit ?_
      refine To.thenX ?_
      refine To.thenX ?_
      refine To.keep (kk := [5]) (kl := [1005]) (K' := [(5, .row 1005)]) (L' := [(1005, 36, [.rowc false (α := S_line_Line) (S_line_Line.mk 0 0 []) E_ref07_Line v5])]) (by kernel_rfl) (by kernel_rfl) ?_
      cases h
      exact hQ
def ref07_Split (n : Nat) (a0 : List UInt8) : Option ((List (S_line_Line)) × Int × Int) :=
  if (decide ((List.length a0 : Int) > 8192)) = true then (some ([], 0, 9))
  else ((ref07_Split_l1 n n a0 ([] : List (S_line_Line)) 0).bind fun o1 =>
  (Sum.elim (fun o1 => some (o1, 0, 0)) (fun o1 => some ([], o1.1, o1.2))) o1)
theorem ok_ref07_Split (n : Nat) (a0 : List UInt8) (r : (List (S_line_Line)) × Int × Int) (h : ref07_Split n a0 = some r) : CallsX Tryd.prog 8 [.str a0] (.tup [.recs (α := S_line_Line) (S_line_Line.mk 0 0 []) E_ref07_Line r.1, .val (.int .i64 r.2.1), .val (.int .i64 r.2.2)]) := by
  unfold ref07_Split at h
  refine callsX_of (fn := Tryd.f8) (by kernel_rfl) rfl (by kernel_rfl) (Nat.le_of_ble_eq_true (by kernel_rfl)) fun F0 w0 _ => ?_
  refine Wp.keep (kk := [0]) (kl := []) (K' := [(0, .str a0)]) (L' := []) (by kernel_rfl) (by kernel_rfl) ?_
  refine Wp.seq ?_
  refine Wp.region hΓ [] [] [] [0] [] (K' := [(0, .str a0)]) (L' := []) (ob := []) (by kernel_rfl) AllP.nil ?_
  refine To.thenN ?_
  refine Wp.seq ?_
  refine Wp.seq ?_
  refine Wp.region hΓ [] [] [] [0, 14] [] (K' := [(0, .str a0), (14, .val (.bool (decide ((List.length a0 : Int) > 8192))))]) (L' := []) (ob := []) (by kernel_rfl) AllP.nil ?_
  refine To.thenN ?_
  refine Wp.cond (b := (decide ((List.length a0 : Int) > 8192))) (by kernel_rfl) (fun hb => ?_) (fun hb => ?_)
  · replace h := if_t hb h
    refine Wp.seq ?_
    refine Wp.region hΓ [] [] [] [2, 3, 4] [] (K' := [(2, .val (.slice none 0 0)), (3, .val (.int .i64 0)), (4, .val (.int .i64 9))]) (L' := []) (ob := []) (by kernel_rfl) AllP.nil ?_
    refine To.thenN ?_
    refine Wp.ret ?_
    refine To.thenR ?_
    refine To.keep (kk := [2, 3, 4]) (kl := []) (K' := [(2, .val (.slice none 0 0)), (3, .val (.int .i64 0)), (4, .val (.int .i64 9))]) (L' := []) (by kernel_rfl) (by kernel_rfl) ?_
    refine To.weak (K' := [(2, .recs (α := S_line_Line) (S_line_Line.mk 0 0 []) E_ref07_Line []), (3, .val (.int .i64 0)), (4, .val (.int .i64 9))]) (L' := []) (.cons (.zero _ _) (.cons (.refl _) (.cons (.refl _) .nil))) .nil ?_
    cases h
    exact To.done hΓ (by kernel_rfl)
  · replace h := if_f hb h
    refine Wp.skip ?_
    refine To.thenN ?_
    refine Wp.seq ?_
    refine Wp.region hΓ [] [(0, .recs (α := S_line_Line) (S_line_Line.mk 0 0 []) E_ref07_Line [])] [] [0, 5] [15] (K' := [(0, .str a0), (5, .row 15)]) (L' := [(15, 36, [.rowc false (α := S_line_Line) (S_line_Line.mk 0 0 []) E_ref07_Line []])]) (ob := [(MkOb 3 [] 0 (.recs (α := S_line_Line) (S_line_Line.mk 0 0 []) E_ref07_Line []) ∧ GoodR (.recs (α := S_line_Line) (S_line_Line.mk 0 0 []) E_ref07_Line []))]) (by kernel_rfl) (AllP.cons (mkOb (by kernel_rfl) rfl (by kernel_rfl) (good_E_ref07_Line _)) AllP.nil) ?_
    refine To.thenN ?_
    refine Wp.seq ?_
    refine Wp.region hΓ [] [] [] [0, 5, 6] [15] (K' := [(0, .str a0), (5, .row 15), (6, .val (.int .i64 0))]) (L' := [(15, 36, [.rowc false (α := S_line_Line) (S_line_Line.mk 0 0 []) E_ref07_Line []])]) (ob := []) (by kernel_rfl) AllP.nil ?_
    refine To.thenN ?_
    refine Wp.seq ?_
    refine Wp.block ?_
    obtain ⟨o1, ho1, h⟩ := bind_of h
    refine Wp.keep (kk := [0, 5, 6]) (kl := [15]) (K' := [(0, .str a0), (5, .row 15), (6, .val (.int .i64 0))]) (L' := [(15, 36, [.rowc false (α := S_line_Line) (S_line_Line.mk 0 0 []) E_ref07_Line []])]) (by kernel_rfl) (by kernel_rfl) ?_
    refine Wp.pre (St.rename 15 1005 (by decide) (K' := [(0, .str a0), (5, .row 1005), (6, .val (.int .i64 0))]) (L' := [(1005, 36, [.rowc false (α := S_line_Line) (S_line_Line.mk 0 0 []) E_ref07_Line []])]) (by kernel_rfl) (by kernel_rfl) (by kernel_rfl)) ?_
    refine Wp.keep (kk := [0, 5, 6]) (kl := [1005]) (K' := [(0, .str a0), (5, .row 1005), (6, .val (.int .i64 0))]) (L' := [(1005, 36, [.rowc false (α := S_line_Line) (S_line_Line.mk 0 0 []) E_ref07_Line []])]) (by kernel_rfl) (by kernel_rfl) ?_
    refine Wp.loopL ?_
    refine ok_ref07_Split_l1 n n a0 ([] : List (S_line_Line)) 0 o1 ho1 ?_
    rcases o1 with o1 | o1
    · replace h := sum_l h
      refine To.blockX ?_
      refine To.thenN ?_
      refine Wp.seq ?_
      refine Wp.region hΓ [] [] [] [2, 3, 4] [1005] (K' := [(2, .row 1005), (3, .val (.int .i64 0)), (4, .val (.int .i64 0))]) (L' := [(1005, 36, [.rowc false (α := S_line_Line) (S_line_Line.mk 0 0 []) E_ref07_Line o1])]) (ob := []) (by kernel_rfl) AllP.nil ?_
      refine To.thenN ?_
      refine Wp.ret ?_
      refine To.keep (kk := [2, 3, 4]) (kl := [1005]) (K' := [(2, .row 1005), (3, .val (.int .i64 0)), (4, .val (.int .i64 0))]) (L' := [(1005, 36, [.rowc false (α := S_line_Line) (S_line_Line.mk 0 0 []) E_ref07_Line o1])]) (by kernel_rfl) (by kernel_rfl) ?_
      refine To.pre (St.settle (ks := [1005]) (kk := [2, 3, 4]) (kl := [1005]) (K' := [(2, .row 1005), (3, .val (.int .i64 0)), (4, .val (.int .i64 0))]) (L' := [(1005, 36, [.rowc true (α := S_line_Line) (S_line_Line.mk 0 0 []) E_ref07_Line o1])]) (by kernel_rfl)) ?_
      refine To.pre (St.sealK [2] (K' := [(2, .recs (α := S_line_Line) (S_line_Line.mk 0 0 []) E_ref07_Line o1), (3, .val (.int .i64 0)), (4, .val (.int .i64 0))]) (by kernel_rfl)) ?_
      refine To.keep (kk := [2, 3, 4]) (kl := []) (K' := [(2, .recs (α := S_line_Line) (S_line_Line.mk 0 0 []) E_ref07_Line o1), (3, .val (.int .i64 0)), (4, .val (.int .i64 0))]) (L' := []) (by kernel_rfl) (by kernel_rfl) ?_
      cases h
      exact To.done hΓ (by kernel_rfl)
    · replace h := sum_r h
      refine To.blockR ?_
      refine To.thenR ?_
      refine To.keep (kk := [2, 3, 4]) (kl := []) (K' := [(2, .val (.slice none 0 0)), (3, .val (.int .i64 o1.1)), (4, .val (.int .i64 o1.2))]) (L' := []) (by kernel_rfl) (by kernel_rfl) ?_
      refine To.weak (K' := [(2, .recs (α := S_line_Line) (S_line_Line.mk 0 0 []) E_ref07_Line []), (3, .val (.int .i64 o1.1)), (4, .val (.int .i64 o1.2))]) (L' := []) (.cons (.zero _ _) (.cons (.refl _) (.cons (.refl _) .nil))) .nil ?_
      cases h
      exact To.done hΓ (by kernel_rfl)
def law07_LineSplits (n : Nat) (a0 : List UInt8) : Option (Bool) :=
  if (decide ((List.length a0 : Int) > 9000)) = true then ((law07_awake n).bind fun r1 =>
  some r1)
  else ((line_Split n a0).bind fun r2 =>
  (ref07_Split n a0).bind fun r3 =>
  (law07_taken n r2.1).bind fun r4 =>
  (ref07_Same n r4 r3.1 true).bind fun r5 =>
  ((if ((bif (bif r5 then (r2.2.1 == r3.2.1) else false) then (r2.2.2 == r3.2.2) else false) == true) = true then law07_awake n else some false)).bind fun r6 =>
  some (bif (bif (bif r5 then (r2.2.1 == r3.2.1) else false) then (r2.2.2 == r3.2.2) else false) then r6 else false))
theorem ok_law07_LineSplits (n : Nat) (a0 : List UInt8) (r : Bool) (h : law07_LineSplits n a0 = some r) : CallsX Tryd.prog 3 [.str a0] (.val (.bool r)) := by
  unfold law07_LineSplits at h
  refine callsX_of (fn := Tryd.f3) (by kernel_rfl) rfl (by kernel_rfl) (Nat.le_of_ble_eq_true (by kernel_rfl)) fun F0 w0 _ => ?_
  refine Wp.keep (kk := [0]) (kl := []) (K' := [(0, .str a0)]) (L' := []) (by kernel_rfl) (by kernel_rfl) ?_
  refine Wp.seq ?_
  refine Wp.region hΓ [] [] [] [0] [] (K' := [(0, .str a0)]) (L' := []) (ob := []) (by kernel_rfl) AllP.nil ?_
  refine To.thenN ?_
  refine Wp.seq ?_
  refine Wp.seq ?_
  refine Wp.region hΓ [] [] [] [0, 11] [] (K' := [(0, .str a0), (11, .val (.bool (decide ((List.length a0 : Int) > 9000))))]) (L' := []) (ob := []) (by kernel_rfl) AllP.nil ?_
  refine To.thenN ?_
  refine Wp.cond (b := (decide ((List.length a0 : Int) > 9000))) (by kernel_rfl) (fun hb => ?_) (fun hb => ?_)
  · replace h := if_t hb h
    refine Wp.seq ?_
    obtain ⟨r1, hr1, h⟩ := bind_of h
    refine Wp.region hΓ [] [(0, .val (.bool r1))] [] [2] [] (K' := [(2, .val (.bool r1))]) (L' := []) (ob := [(true = true → CX Tryd.prog 6 [] (.val (.bool r1)))]) (by kernel_rfl) (AllP.cons (fun _ => cx (ok_law07_awake n  _ hr1)) AllP.nil) ?_
    refine To.thenN ?_
    refine Wp.ret ?_
    refine To.thenR ?_
    refine To.keep (kk := [2]) (kl := []) (K' := [(2, .val (.bool r1))]) (L' := []) (by kernel_rfl) (by kernel_rfl) ?_
    cases h
    exact To.done hΓ (by kernel_rfl)
  · replace h := if_f hb h
    refine Wp.skip ?_
    refine To.thenN ?_
    refine Wp.seq ?_
    obtain ⟨r2, hr2, h⟩ := bind_of h
    refine Wp.region hΓ [] [(1, .tup [.recs (α := S_line_Line) (S_line_Line.mk 0 0 []) E_line_Line r2.1, .val (.int .i64 r2.2.1), .val (.int .i64 r2.2.2)])] [] [0, 3, 4, 5] [] (K' := [(0, .str a0), (3, .recs (α := S_line_Line) (S_line_Line.mk 0 0 []) E_line_Line r2.1), (4, .val (.int .i64 r2.2.1)), (5, .val (.int .i64 r2.2.2))]) (L' := []) (ob := [(true = true → CX Tryd.prog 7 [.str a0] (.tup [.recs (α := S_line_Line) (S_line_Line.mk 0 0 []) E_line_Line r2.1, .val (.int .i64 r2.2.1), .val (.int .i64 r2.2.2)]))]) (by kernel_rfl) (AllP.cons (fun _ => cx (ok_line_Split n a0 _ hr2)) AllP.nil) ?_
    refine To.thenN ?_
    refine Wp.seq ?_
    obtain ⟨r3, hr3, h⟩ := bind_of h
    refine Wp.region hΓ [] [(1, .tup [.recs (α := S_line_Line) (S_line_Line.mk 0 0 []) E_ref07_Line r3.1, .val (.int .i64 r3.2.1), .val (.int .i64 r3.2.2)])] [] [3, 4, 5, 6, 7, 8] [] (K' := [(3, .recs (α := S_line_Line) (S_line_Line.mk 0 0 []) E_line_Line r2.1), (4, .val (.int .i64 r2.2.1)), (5, .val (.int .i64 r2.2.2)), (6, .recs (α := S_line_Line) (S_line_Line.mk 0 0 []) E_ref07_Line r3.1), (7, .val (.int .i64 r3.2.1)), (8, .val (.int .i64 r3.2.2))]) (L' := []) (ob := [(true = true → CX Tryd.prog 8 [.str a0] (.tup [.recs (α := S_line_Line) (S_line_Line.mk 0 0 []) E_ref07_Line r3.1, .val (.int .i64 r3.2.1), .val (.int .i64 r3.2.2)]))]) (by kernel_rfl) (AllP.cons (fun _ => cx (ok_ref07_Split n a0 _ hr3)) AllP.nil) ?_
    refine To.thenN ?_
    refine Wp.seq ?_
    obtain ⟨r4, hr4, h⟩ := bind_of h
    obtain ⟨r5, hr5, h⟩ := bind_of h
    obtain ⟨r6, hr6, h⟩ := bind_of h
    refine Wp.region hΓ [] [(1, .recs (α := S_line_Line) (S_line_Line.mk 0 0 []) E_ref07_Line r4), (3, .val (.bool r5)), (15, .val (.bool r6))] [] [2] [] (K' := [(2, .val (.bool (bif (bif (bif r5 then (r2.2.1 == r3.2.1) else false) then (r2.2.2 == r3.2.2) else false) then r6 else false)))]) (L' := []) (ob := [(true = true → CX Tryd.prog 10 [.recs (α := S_line_Line) (S_line_Line.mk 0 0 []) E_line_Line r2.1] (.recs (α := S_line_Line) (S_line_Line.mk 0 0 []) E_ref07_Line r4)), (true = true → CX Tryd.prog 9 [.recs (α := S_line_Line) (S_line_Line.mk 0 0 []) E_ref07_Line r4, .recs (α := S_line_Line) (S_line_Line.mk 0 0 []) E_ref07_Line r3.1, .val (.bool true)] (.val (.bool r5))), (((bif (bif r5 then (r2.2.1 == r3.2.1) else false) then (r2.2.2 == r3.2.2) else false) == true) = true → CX Tryd.prog 6 [] (.val (.bool r6)))]) (by kernel_rfl) (AllP.cons (fun _ => cx (ok_law07_taken n r2.1 _ hr4)) (AllP.cons (fun _ => cx (ok_ref07_Same n r4 r3.1 true _ hr5)) (AllP.cons (fun hg => cx (ok_law07_awake n  _ (if_t hg hr6))) AllP.nil))) ?_
    refine To.thenN ?_
    refine Wp.ret ?_
    refine To.keep (kk := [2]) (kl := []) (K' := [(2, .val (.bool (bif (bif (bif r5 then (r2.2.1 == r3.2.1) else false) then (r2.2.2 == r3.2.2) else false) then r6 else false)))]) (L' := []) (by kernel_rfl) (by kernel_rfl) ?_
    cases h
    exact To.done hΓ (by kernel_rfl)
def line_Cut (n : Nat) (a0 : S_line_Line) (a1 : Int) : Option (S_line_Line) :=
  if (bif (decide (a1 < 0)) then true else (decide (a1 > (List.length a0.f_Text : Int)))) = true then some a0
  else (if (decide (0 ≤ a1 ∧ a1 ≤ (List.length a0.f_Text : Int))) = true then (lett ((IntKind.wrap .i64 ((IntKind.wrap .i64 (a0.f_Indent + (List.length a0.f_Text : Int))) - (List.length (Lib.trimLeftB (List.drop (Int.toNat a1) a0.f_Text) 32) : Int))) : Int) fun x1 =>
  some (S_line_Line.mk a0.f_No x1 (Lib.trimLeftB (List.drop (Int.toNat a1) a0.f_Text) 32))) else none)
theorem ok_line_Cut (n : Nat) (a0 : S_line_Line) (a1 : Int) (r : S_line_Line) (h : line_Cut n a0 a1 = some r) : CallsX Tryd.prog 11 [.agg [.val (.int .i64 a0.f_No), .val (.int .i64 a0.f_Indent), .str a0.f_Text], .val (.int .i64 a1)] (.agg [.val (.int .i64 r.f_No), .val (.int .i64 r.f_Indent), .str r.f_Text]) := by
  unfold line_Cut at h
  refine callsX_of (fn := Tryd.f11) (by kernel_rfl) rfl (by kernel_rfl) (Nat.le_of_ble_eq_true (by kernel_rfl)) fun F0 w0 _ => ?_
  refine Wp.keep (kk := [0, 1]) (kl := []) (K' := [(0, .agg [.val (.int .i64 a0.f_No), .val (.int .i64 a0.f_Indent), .str a0.f_Text]), (1, .val (.int .i64 a1))]) (L' := []) (by kernel_rfl) (by kernel_rfl) ?_
  refine Wp.seq ?_
  refine Wp.region hΓ [] [] [] [1, 2, 4] [2, 4] (K' := [(1, .val (.int .i64 a1)), (2, .own 2 0), (4, .own 4 0)]) (L' := [(2, 34, [.val (.int .i64 a0.f_No), .val (.int .i64 a0.f_Indent), .str a0.f_Text]), (4, 34, [.val (.int .i64 0), .val (.int .i64 0), .str []])]) (ob := []) (by kernel_rfl) AllP.nil ?_
  refine To.thenN ?_
  refine Wp.seq ?_
  refine Wp.seq ?_
  refine Wp.region hΓ [] [] [] [1, 2, 4, 14] [2, 4] (K' := [(1, .val (.int .i64 a1)), (2, .own 2 0), (4, .own 4 0), (14, .val (.bool (bif (decide (a1 < 0)) then true else (decide (a1 > (List.length a0.f_Text : Int))))))]) (L' := [(2, 34, [.val (.int .i64 a0.f_No), .val (.int .i64 a0.f_Indent), .str a0.f_Text]), (4, 34, [.val (.int .i64 0), .val (.int .i64 0), .str []])]) (ob := []) (by kernel_rfl) AllP.nil ?_
  refine To.thenN ?_
  refine Wp.cond (b := (bif (decide (a1 < 0)) then true else (decide (a1 > (List.length a0.f_Text : Int))))) (by kernel_rfl) (fun hb => ?_) (fun hb => ?_)
  · replace h := if_t hb h
    refine Wp.seq ?_
    refine Wp.region hΓ [] [] [] [4] [4] (K' := [(4, .own 4 0)]) (L' := [(4, 34, [.val (.int .i64 a0.f_No), .val (.int .i64 a0.f_Indent), .str a0.f_Text])]) (ob := []) (by kernel_rfl) AllP.nil ?_
    refine To.thenN ?_
    refine Wp.ret ?_
    refine To.thenR ?_
    refine To.keep (kk := [4]) (kl := [4]) (K' := [(4, .own 4 0)]) (L' := [(4, 34, [.val (.int .i64 a0.f_No), .val (.int .i64 a0.f_Indent), .str a0.f_Text])]) (by kernel_rfl) (by kernel_rfl) ?_
    cases h
    exact To.done hΓ (by kernel_rfl)
  · replace h := if_f hb h
    refine Wp.skip ?_
    refine To.thenN ?_
    refine Wp.seq ?_
    obtain ⟨hc2, h⟩ := chk_of h
    refine Wp.region hΓ [] [(4, .str (Lib.trimLeftB (List.drop (Int.toNat a1) a0.f_Text) 32))] [] [2, 4, 5] [2, 4] (K' := [(2, .own 2 0), (4, .own 4 0), (5, .str (Lib.trimLeftB (List.drop (Int.toNat a1) a0.f_Text) 32))]) (L' := [(2, 34, [.val (.int .i64 a0.f_No), .val (.int .i64 a0.f_Indent), .str a0.f_Text]), (4, 34, [.val (.int .i64 0), .val (.int .i64 0), .str []])]) (ob := [(decide (0 ≤ a1 ∧ a1 ≤ (List.length a0.f_Text : Int))) = true, (true = true → CX Tryd.prog 15 [.str (List.drop (Int.toNat a1) a0.f_Text), .str [32]] (.str (Lib.trimLeftB (List.drop (Int.toNat a1) a0.f_Text) 32)))]) (by kernel_rfl) (AllP.cons hc2 (AllP.cons (fun _ => cx (Sh.trimLeft115 (by decide))) AllP.nil)) ?_
    refine To.thenN ?_
    refine Wp.seq ?_
    obtain ⟨x1, hx1, h⟩ := lett_of h
    refine Wp.region hΓ [] [] [] [4] [4] (K' := [(4, .own 4 0)]) (L' := [(4, 34, [.val (.int .i64 a0.f_No), .val (.int .i64 (IntKind.wrap .i64 ((IntKind.wrap .i64 (a0.f_Indent + (List.length a0.f_Text : Int))) - (List.length (Lib.trimLeftB (List.drop (Int.toNat a1) a0.f_Text) 32) : Int)))), .str (Lib.trimLeftB (List.drop (Int.toNat a1) a0.f_Text) 32)])]) (ob := []) (by kernel_rfl) AllP.nil ?_
    refine To.eq (K' := [(4, .own 4 0)]) (L' := [(4, 34, [.val (.int .i64 a0.f_No), .val (.int .i64 x1), .str (Lib.trimLeftB (List.drop (Int.toNat a1) a0.f_Text) 32)])]) (by cases hx1; rfl) (by cases hx1; rfl) ?_
    refine To.thenN ?_
    refine Wp.ret ?_
    refine To.keep (kk := [4]) (kl := [4]) (K' := [(4, .own 4 0)]) (L' := [(4, 34, [.val (.int .i64 a0.f_No), .val (.int .i64 x1), .str (Lib.trimLeftB (List.drop (Int.toNat a1) a0.f_Text) 32)])]) (by kernel_rfl) (by kernel_rfl) ?_
    cases h
    exact To.done hΓ (by kernel_rfl)
def ref07_Cut_l1 (n : Nat) (b2 : S_line_Line) (b4 : S_line_Line) : Nat → Int → Option (Int)
  | 0, _ => none
  | k + 1, v1 => if ((!((decide (v1 < (List.length b2.f_Text : Int))) == true) || decide (0 ≤ v1 ∧ v1 < (List.length b2.f_Text : Int)))) = true then (lett ((bif (decide (v1 < (List.length b2.f_Text : Int))) then ((((b2.f_Text)[Int.toNat v1]?.getD 0).toNat : Int) == 32) else false) : Bool) fun x1 =>
  if x1 = true then (ref07_Cut_l1 n b2 b4 k (IntKind.wrap .i64 (v1 + 1)))
  else some v1) else none
theorem ok_ref07_Cut_l1 (n : Nat) (b2 : S_line_Line) (b4 : S_line_Line) {F0 : Fz} {w0 : Pt Tryd.prog} {Q : Exit → Act → World → Prop} (k : Nat) : ∀ (v1 : Int) (o : Int), ref07_Cut_l1 n b2 b4 k v1 = some o → To 40 F0 w0 [(1, .val (.int .i64 o)), (2, .own 2 0), (4, .own 4 0)] [(2, 36, [.val (.int .i64 b2.f_No), .val (.int .i64 b2.f_Indent), .str b2.f_Text]), (4, 36, [.val (.int .i64 b4.f_No), .val (.int .i64 b4.f_Indent), .str b4.f_Text])] (.exit 0) Q → WL Tryd.prog 40 F0 w0 [(1, .val (.int .i64 v1)), (2, .own 2 0), (4, .own 4 0)] [(2, 36, [.val (.int .i64 b2.f_No), .val (.int .i64 b2.f_Indent), .str b2.f_Text]), (4, 36, [.val (.int .i64 b4.f_No), .val (.int .i64 b4.f_Indent), .str b4.f_Text])] (cI (cI (cA (cB (cB (cF Tryd.f12)))))) Q := by
  induction k with
  | zero => intro v1 o h; cases h
  | succ k ih =>
    intro v1 o h hQ
    rw [ref07_Cut_l1] at h
    refine WL.round ?_
    refine Wp.seq ?_
    refine Wp.seq ?_
    obtain ⟨hc2, h⟩ := chk_of h
    obtain ⟨x1, hx1, h⟩ := lett_of h
    refine Wp.region hΓ [] [] [] [1, 2, 4, 26] [2, 4] (K' := [(1, .val (.int .i64 v1)), (2, .own 2 0), (4, .own 4 0), (26, .val (.bool (bif (decide (v1 < (List.length b2.f_Text : Int))) then ((((b2.f_Text)[Int.toNat v1]?.getD 0).toNat : Int) == 32) else false)))]) (L' := [(2, 36, [.val (.int .i64 b2.f_No), .val (.int .i64 b2.f_Indent), .str b2.f_Text]), (4, 36, [.val (.int .i64 b4.f_No), .val (.int .i64 b4.f_Indent), .str b4.f_Text])]) (ob := [(!((decide (v1 < (List.length b2.f_Text : Int))) == true) || decide (0 ≤ v1 ∧ v1 < (List.length b2.f_Text : Int))) = true]) (by kernel_rfl) (AllP.cons hc2 AllP.nil) ?_
    refine To.eq (K' := [(1, .val (.int .i64 v1)), (2, .own 2 0), (4, .own 4 0), (26, .val (.bool x1))]) (L' := [(2, 36, [.val (.int .i64 b2.f_No), .val (.int .i64 b2.f_Indent), .str b2.f_Text]), (4, 36, [.val (.int .i64 b4.f_No), .val (.int .i64 b4.f_Indent), .str b4.f_Text])]) (by cases hx1; rfl) (by cases hx1; rfl) ?_
    refine To.thenN ?_
    refine Wp.cond (b := x1) (by kernel_rfl) (fun hb => ?_) (fun hb => ?_)
    · replace h := if_t hb h
      refine Wp.skip ?_
      refine To.thenN ?_
      refine Wp.block ?_
      refine Wp.region hΓ [] [] [] [1, 2, 4] [2, 4] (K' := [(1, .val (.int .i64 (IntKind.wrap .i64 (v1 + 1)))), (2, .own 2 0), (4, .own 4 0)]) (L' := [(2, 36, [.val (.int .i64 b2.f_No), .val (.int .i64 b2.f_Indent), .str b2.f_Text]), (4, 36, [.val (.int .i64 b4.f_No), .val (.int .i64 b4.f_Indent), .str b4.f_Text])]) (ob := []) (by kernel_rfl) AllP.nil ?_
      refine To.blockN ?_
      refine To.keep (kk := [1, 2, 4]) (kl := [2, 4]) (K' := [(1, .val (.int .i64 (IntKind.wrap .i64 (v1 + 1)))), (2, .own 2 0), (4, .own 4 0)]) (L' := [(2, 36, [.val (.int .i64 b2.f_No), .val (.int .i64 b2.f_Indent), .str b2.f_Text]), (4, 36, [.val (.int .i64 b4.f_No), .val (.int .i64 b4.f_Indent), .str b4.f_Text])]) (by kernel_rfl) (by kernel_rfl) ?_
      refine To.again ?_
      exact ih (IntKind.wrap .i64 (v1 + 1)) _ h hQ
    · replace h := if_f hb h
      refine Wp.exit ?_
      refine To.thenX ?_
      refine To.thenX ?_
      refine To.keep (kk := [1, 2, 4]) (kl := [2, 4]) (K' := [(1, .val (.int .i64 v1)), (2, .own 2 0), (4, .own 4 0)]) (L' := [(2, 36, [.val (.int .i64 b2.f_No), .val (.int .i64 b2.f_Indent), .str b2.f_Text]), (4, 36, [.val (.int .i64 b4.f_No), .val (.int .i64 b4.f_Indent), .str b4.f_Text])]) (by kernel_rfl) (by kernel_rfl) ?_
      cases h
      exact hQ
def ref07_Cut (n : Nat) (a0 : S_line_Line) (a1 : Int) : Option (S_line_Line) :=
  if (bif (decide (a1 < 0)) then true else (decide (a1 > (List.length a0.f_Text : Int)))) = true then some a0
  else ((ref07_Cut_l1 n a0 (S_line_Line.mk 0 0 []) n a1).bind fun o1 =>
  if (decide (0 ≤ o1 ∧ o1 ≤ (List.length a0.f_Text : Int))) = true then (some (S_line_Line.mk a0.f_No (IntKind.wrap .i64 (a0.f_Indent + o1)) (List.drop (Int.toNat o1) a0.f_Text))) else none)
theorem ok_ref07_Cut (n : Nat) (a0 : S_line_Line) (a1 : Int) (r : S_line_Line) (h : ref07_Cut n a0 a1 = some r) : CallsX Tryd.prog 12 [.agg [.val (.int .i64 a0.f_No), .val (.int .i64 a0.f_Indent), .str a0.f_Text], .val (.int .i64 a1)] (.agg [.val (.int .i64 r.f_No), .val (.int .i64 r.f_Indent), .str r.f_Text]) := by
  unfold ref07_Cut at h
  refine callsX_of (fn := Tryd.f12) (by kernel_rfl) rfl (by kernel_rfl) (Nat.le_of_ble_eq_true (by kernel_rfl)) fun F0 w0 _ => ?_
  refine Wp.keep (kk := [0, 1]) (kl := []) (K' := [(0, .agg [.val (.int .i64 a0.f_No), .val (.int .i64 a0.f_Indent), .str a0.f_Text]), (1, .val (.int .i64 a1))]) (L' := []) (by kernel_rfl) (by kernel_rfl) ?_
  refine Wp.seq ?_
  refine Wp.region hΓ [] [] [] [1, 2, 4] [2, 4] (K' := [(1, .val (.int .i64 a1)), (2, .own 2 0), (4, .own 4 0)]) (L' := [(2, 36, [.val (.int .i64 a0.f_No), .val (.int .i64 a0.f_Indent), .str a0.f_Text]), (4, 36, [.val (.int .i64 0), .val (.int .i64 0), .str []])]) (ob := []) (by kernel_rfl) AllP.nil ?_
  refine To.thenN ?_
  refine Wp.seq ?_
  refine Wp.seq ?_
  refine Wp.region hΓ [] [] [] [1, 2, 4, 13] [2, 4] (K' := [(1, .val (.int .i64 a1)), (2, .own 2 0), (4, .own 4 0), (13, .val (.bool (bif (decide (a1 < 0)) then true else (decide (a1 > (List.length a0.f_Text : Int))))))]) (L' := [(2, 36, [.val (.int .i64 a0.f_No), .val (.int .i64 a0.f_Indent), .str a0.f_Text]), (4, 36, [.val (.int .i64 0), .val (.int .i64 0), .str []])]) (ob := []) (by kernel_rfl) AllP.nil ?_
  refine To.thenN ?_
  refine Wp.cond (b := (bif (decide (a1 < 0)) then true else (decide (a1 > (List.length a0.f_Text : Int))))) (by kernel_rfl) (fun hb => ?_) (fun hb => ?_)
  · replace h := if_t hb h
    refine Wp.seq ?_
    refine Wp.region hΓ [] [] [] [4] [4] (K' := [(4, .own 4 0)]) (L' := [(4, 36, [.val (.int .i64 a0.f_No), .val (.int .i64 a0.f_Indent), .str a0.f_Text])]) (ob := []) (by kernel_rfl) AllP.nil ?_
    refine To.thenN ?_
    refine Wp.ret ?_
    refine To.thenR ?_
    refine To.keep (kk := [4]) (kl := [4]) (K' := [(4, .own 4 0)]) (L' := [(4, 36, [.val (.int .i64 a0.f_No), .val (.int .i64 a0.f_Indent), .str a0.f_Text])]) (by kernel_rfl) (by kernel_rfl) ?_
    cases h
    exact To.done hΓ (by kernel_rfl)
  · replace h := if_f hb h
    refine Wp.skip ?_
    refine To.thenN ?_
    refine Wp.seq ?_
    refine Wp.block ?_
    obtain ⟨o1, ho1, h⟩ := bind_of h
    refine Wp.keep (kk := [1, 2, 4]) (kl := [2, 4]) (K' := [(1, .val (.int .i64 a1)), (2, .own 2 0), (4, .own 4 0)]) (L' := [(2, 36, [.val (.int .i64 a0.f_No), .val (.int .i64 a0.f_Indent), .str a0.f_Text]), (4, 36, [.val (.int .i64 0), .val (.int .i64 0), .str []])]) (by kernel_rfl) (by kernel_rfl) ?_
    refine Wp.loopL ?_
    refine ok_ref07_Cut_l1 n a0 (S_line_Line.mk 0 0 []) n a1 o1 ho1 ?_
    refine To.blockX ?_
    refine To.thenN ?_
    refine Wp.seq ?_
    obtain ⟨hc2, h⟩ := chk_of h
    refine Wp.regionD hm hΓ [] [4] [4] (K' := [(4, .own 4 0)]) (L' := [(4, 36, [.val (.int .i64 a0.f_No), .val (.int .i64 (IntKind.wrap .i64 (a0.f_Indent + o1))), .str (List.drop (Int.toNat o1) a0.f_Text)])]) (ob := [(decide (0 ≤ o1 ∧ o1 ≤ (List.length a0.f_Text : Int))) = true]) (by kernel_rfl) (AllP.cons hc2 AllP.nil) ?_
    refine To.thenN ?_
    refine Wp.ret ?_
    refine To.keep (kk := [4]) (kl := [4]) (K' := [(4, .own 4 0)]) (L' := [(4, 36, [.val (.int .i64 a0.f_No), .val (.int .i64 (IntKind.wrap .i64 (a0.f_Indent + o1))), .str (List.drop (Int.toNat o1) a0.f_Text)])]) (by kernel_rfl) (by kernel_rfl) ?_
    cases h
    exact To.done hΓ (by kernel_rfl)
def law07_LineCuts (n : Nat) (a0 : S_line_Line) (a1 : Int) : Option (Bool) :=
  lett ((bif (bif (decide ((List.length a0.f_Text : Int) > 3000)) then true else (decide (a0.f_Indent < 0))) then true else (decide (a0.f_Indent > 10000))) : Bool) fun x1 =>
  if x1 = true then ((law07_awake n).bind fun r2 =>
  some r2)
  else ((line_Cut n a0 a1).bind fun r3 =>
  (ref07_Cut n a0 a1).bind fun r4 =>
  ((if ((bif ((r3.f_No == r4.f_No) && ((r3.f_Indent == r4.f_Indent) && (r3.f_Text == r4.f_Text))) then ((IntKind.wrap .i64 (r3.f_Indent + (List.length r3.f_Text : Int))) == (IntKind.wrap .i64 (a0.f_Indent + (List.length a0.f_Text : Int)))) else false) == true) = true then law07_awake n else some false)).bind fun r5 =>
  lett ((bif (bif ((r3.f_No == r4.f_No) && ((r3.f_Indent == r4.f_Indent) && (r3.f_Text == r4.f_Text))) then ((IntKind.wrap .i64 (r3.f_Indent + (List.length r3.f_Text : Int))) == (IntKind.wrap .i64 (a0.f_Indent + (List.length a0.f_Text : Int)))) else false) then r5 else false) : Bool) fun x6 =>
  some x6)
theorem ok_law07_LineCuts (n : Nat) (a0 : S_line_Line) (a1 : Int) (r : Bool) (h : law07_LineCuts n a0 a1 = some r) : CallsX Tryd.prog 4 [.agg [.val (.int .i64 a0.f_No), .val (.int .i64 a0.f_Indent), .str a0.f_Text], .val (.int .i64 a1)] (.val (.bool r)) := by
  unfold law07_LineCuts at h
  refine callsX_of (fn := Tryd.f4) (by kernel_rfl) rfl (by kernel_rfl) (Nat.le_of_ble_eq_true (by kernel_rfl)) fun F0 w0 _ => ?_
  refine Wp.keep (kk := [0, 1]) (kl := []) (K' := [(0, .agg [.val (.int .i64 a0.f_No), .val (.int .i64 a0.f_Indent), .str a0.f_Text]), (1, .val (.int .i64 a1))]) (L' := []) (by kernel_rfl) (by kernel_rfl) ?_
  refine Wp.seq ?_
  refine Wp.region hΓ [] [] [] [1, 2] [2] (K' := [(1, .val (.int .i64 a1)), (2, .own 2 0)]) (L' := [(2, 34, [.val (.int .i64 a0.f_No), .val (.int .i64 a0.f_Indent), .str a0.f_Text])]) (ob := []) (by kernel_rfl) AllP.nil ?_
  refine To.thenN ?_
  refine Wp.seq ?_
  refine Wp.seq ?_
  obtain ⟨x1, hx1, h⟩ := lett_of h
  refine Wp.region hΓ [] [] [] [1, 2, 20] [2] (K' := [(1, .val (.int .i64 a1)), (2, .own 2 0), (20, .val (.bool (bif (bif (decide ((List.length a0.f_Text : Int) > 3000)) then true else (decide (a0.f_Indent < 0))) then true else (decide (a0.f_Indent > 10000)))))]) (L' := [(2, 34, [.val (.int .i64 a0.f_No), .val (.int .i64 a0.f_Indent), .str a0.f_Text])]) (ob := []) (by kernel_rfl) AllP.nil ?_
  refine To.eq (K' := [(1, .val (.int .i64 a1)), (2, .own 2 0), (20, .val (.bool x1))]) (L' := [(2, 34, [.val (.int .i64 a0.f_No), .val (.int .i64 a0.f_Indent), .str a0.f_Text])]) (by cases hx1; rfl) (by cases hx1; rfl) ?_
  refine To.thenN ?_
  refine Wp.cond (b := x1) (by kernel_rfl) (fun hb => ?_) (fun hb => ?_)
  · replace h := if_t hb h
    refine Wp.seq ?_
    obtain ⟨r2, hr2, h⟩ := bind_of h
    refine Wp.region hΓ [] [(0, .val (.bool r2))] [] [4] [] (K' := [(4, .val (.bool r2))]) (L' := []) (ob := [(true = true → CX Tryd.prog 6 [] (.val (.bool r2)))]) (by kernel_rfl) (AllP.cons (fun _ => cx (ok_law07_awake n  _ hr2)) AllP.nil) ?_
    refine To.thenN ?_
    refine Wp.ret ?_
    refine To.thenR ?_
    refine To.keep (kk := [4]) (kl := []) (K' := [(4, .val (.bool r2))]) (L' := []) (by kernel_rfl) (by kernel_rfl) ?_
    cases h
    exact To.done hΓ (by kernel_rfl)
  · replace h := if_f hb h
    refine Wp.skip ?_
    refine To.thenN ?_
    refine Wp.seq ?_
    obtain ⟨r3, hr3, h⟩ := bind_of h
    refine Wp.region hΓ [] [(2, .agg [.val (.int .i64 r3.f_No), .val (.int .i64 r3.f_Indent), .str r3.f_Text])] [] [1, 2, 5] [2, 5] (K' := [(1, .val (.int .i64 a1)), (2, .own 2 0), (5, .own 5 0)]) (L' := [(2, 34, [.val (.int .i64 a0.f_No), .val (.int .i64 a0.f_Indent), .str a0.f_Text]), (5, 34, [.val (.int .i64 r3.f_No), .val (.int .i64 r3.f_Indent), .str r3.f_Text])]) (ob := [(true = true → CX Tryd.prog 11 [.agg [.val (.int .i64 a0.f_No), .val (.int .i64 a0.f_Indent), .str a0.f_Text], .val (.int .i64 a1)] (.agg [.val (.int .i64 r3.f_No), .val (.int .i64 r3.f_Indent), .str r3.f_Text]))]) (by kernel_rfl) (AllP.cons (fun _ => cx (ok_line_Cut n a0 a1 _ hr3)) AllP.nil) ?_
    refine To.thenN ?_
    refine Wp.seq ?_
    obtain ⟨r4, hr4, h⟩ := bind_of h
    refine Wp.region hΓ [] [(8, .agg [.val (.int .i64 r4.f_No), .val (.int .i64 r4.f_Indent), .str r4.f_Text])] [] [2, 5, 6] [2, 5, 6] (K' := [(2, .own 2 0), (5, .own 5 0), (6, .own 6 0)]) (L' := [(2, 34, [.val (.int .i64 a0.f_No), .val (.int .i64 a0.f_Indent), .str a0.f_Text]), (5, 34, [.val (.int .i64 r3.f_No), .val (.int .i64 r3.f_Indent), .str r3.f_Text]), (6, 36, [.val (.int .i64 r4.f_No), .val (.int .i64 r4.f_Indent), .str r4.f_Text])]) (ob := [(true = true → CX Tryd.prog 12 [.agg [.val (.int .i64 a0.f_No), .val (.int .i64 a0.f_Indent), .str a0.f_Text], .val (.int .i64 a1)] (.agg [.val (.int .i64 r4.f_No), .val (.int .i64 r4.f_Indent), .str r4.f_Text]))]) (by kernel_rfl) (AllP.cons (fun _ => cx (ok_ref07_Cut n a0 a1 _ hr4)) AllP.nil) ?_
    refine To.thenN ?_
    refine Wp.seq ?_
    obtain ⟨r5, hr5, h⟩ := bind_of h
    obtain ⟨x6, hx6, h⟩ := lett_of h
    refine Wp.region hΓ [] [(25, .val (.bool r5))] [] [4] [] (K' := [(4, .val (.bool (bif (bif ((r3.f_No == r4.f_No) && ((r3.f_Indent == r4.f_Indent) && (r3.f_Text == r4.f_Text))) then ((IntKind.wrap .i64 (r3.f_Indent + (List.length r3.f_Text : Int))) == (IntKind.wrap .i64 (a0.f_Indent + (List.length a0.f_Text : Int)))) else false) then r5 else false)))]) (L' := []) (ob := [(((bif ((r3.f_No == r4.f_No) && ((r3.f_Indent == r4.f_Indent) && (r3.f_Text == r4.f_Text))) then ((IntKind.wrap .i64 (r3.f_Indent + (List.length r3.f_Text : Int))) == (IntKind.wrap .i64 (a0.f_Indent + (List.length a0.f_Text : Int)))) else false) == true) = true → CX Tryd.prog 6 [] (.val (.bool r5)))]) (by kernel_rfl) (AllP.cons (fun hg => cx (ok_law07_awake n  _ (if_t hg hr5))) AllP.nil) ?_
    refine To.eq (K' := [(4, .val (.bool x6))]) (L' := []) (by cases hx6; rfl) (by cases hx6; rfl) ?_
    refine To.thenN ?_
    refine Wp.ret ?_
    refine To.keep (kk := [4]) (kl := []) (K' := [(4, .val (.bool x6))]) (L' := []) (by kernel_rfl) (by kernel_rfl) ?_
    cases h
    exact To.done hΓ (by kernel_rfl)
def line_Join_l1 (n : Nat) (v6 : List (S_line_Line)) (v7 : Int) : Nat → Int → (List UInt8) → Option ((List UInt8))
  | 0, _, _ => none
  | k + 1, v8, b3 => if (decide (v8 < v7)) = true then (if (decide (0 ≤ v8 ∧ v8 < (List.length v6 : Int))) = true then (if (decide (0 ≤ (if (0 : Int) > ((v6)[Int.toNat v8]?.getD (S_line_Line.mk 0 0 [])).f_Indent then 0 else ((v6)[Int.toNat v8]?.getD (S_line_Line.mk 0 0 [])).f_Indent) ∧ (if (0 : Int) > ((v6)[Int.toNat v8]?.getD (S_line_Line.mk 0 0 [])).f_Indent then 0 else ((v6)[Int.toNat v8]?.getD (S_line_Line.mk 0 0 [])).f_Indent) ≤ 1000000000000 ∧ (List.length ([32] : List UInt8) : Int) * (if (0 : Int) > ((v6)[Int.toNat v8]?.getD (S_line_Line.mk 0 0 [])).f_Indent then 0 else ((v6)[Int.toNat v8]?.getD (S_line_Line.mk 0 0 [])).f_Indent) ≤ (limit : Int))) = true then (if (decide ((List.length b3 + List.length (Lib.repeatL ([32] : List UInt8) (Int.toNat (if (0 : Int) > ((v6)[Int.toNat v8]?.getD (S_line_Line.mk 0 0 [])).f_Indent then 0 else ((v6)[Int.toNat v8]?.getD (S_line_Line.mk 0 0 [])).f_Indent)))) * (1 + 1) ≤ limit)) = true then (lett ((b3 ++ (Lib.repeatL ([32] : List UInt8) (Int.toNat (if (0 : Int) > ((v6)[Int.toNat v8]?.getD (S_line_Line.mk 0 0 [])).f_Indent then 0 else ((v6)[Int.toNat v8]?.getD (S_line_Line.mk 0 0 [])).f_Indent)))) : List (UInt8)) fun x3 =>
  if (decide ((List.length x3 + List.length (((v6)[Int.toNat v8]?.getD (S_line_Line.mk 0 0 [])).f_Text)) * (1 + 1) ≤ limit)) = true then (if (decide ((List.length (x3 ++ (((v6)[Int.toNat v8]?.getD (S_line_Line.mk 0 0 [])).f_Text)) + 1) * (1 + 1) ≤ limit)) = true then (line_Join_l1 n v6 v7 k (IntKind.wrap .i64 (v8 + 1)) ((x3 ++ (((v6)[Int.toNat v8]?.getD (S_line_Line.mk 0 0 [])).f_Text)) ++ [10])) else none) else none) else none) else none) else none)
  else some b3
theorem ok_line_Join_l1 (n : Nat) (v6 : List (S_line_Line)) (v7 : Int) {F0 : Fz} {w0 : Pt Tryd.prog} {Q : Exit → Act → World → Prop} (k : Nat) : ∀ (v8 : Int) (b3 : List UInt8) (o : (List UInt8)), line_Join_l1 n v6 v7 k v8 b3 = some o → To 23 F0 w0 [(3, .own 3 0)] [(3, 48, [.opt 3, .srow 4181]), (4181, 5, [.rowc false (α := UInt8) 0 e8 o])] (.exit 0) Q → WL Tryd.prog 23 F0 w0 [(3, .own 3 0), (6, .recs (α := S_line_Line) (S_line_Line.mk 0 0 []) E_line_Line v6), (7, .val (.int .i64 v7)), (8, .val (.int .i64 v8))] [(3, 48, [.opt 3, .srow 4181]), (4181, 5, [.rowc false (α := UInt8) 0 e8 b3])] (cI (cI (cB (cA (cB (cB (cF Tryd.f13))))))) Q := by
  induction k with
  | zero => intro v8 b3 o h; cases h
  | succ k ih =>
    intro v8 b3 o h hQ
    rw [line_Join_l1] at h
    refine WL.round ?_
    refine Wp.seq ?_
    refine Wp.region hΓ [] [] [] [3, 6, 7, 8, 9] [3, 4181] (K' := [(3, .own 3 0), (6, .recs (α := S_line_Line) (S_line_Line.mk 0 0 []) E_line_Line v6), (7, .val (.int .i64 v7)), (8, .val (.int .i64 v8)), (9, .val (.bool (decide (v8 < v7))))]) (L' := [(3, 48, [.opt 3, .srow 4181]), (4181, 5, [.rowc false (α := UInt8) 0 e8 b3])]) (ob := []) (by kernel_rfl) AllP.nil ?_
    refine To.thenN ?_
    refine Wp.seq ?_
    refine Wp.cond (b := (decide (v8 < v7))) (by kernel_rfl) (fun hb => ?_) (fun hb => ?_)
    · replace h := if_t hb h
      refine Wp.skip ?_
      refine To.thenN ?_
      refine Wp.seq ?_
      refine Wp.block ?_
      refine Wp.seq ?_
      obtain ⟨hc6, h⟩ := chk_of h
      refine Wp.region hΓ [] [] [] [3, 5, 6, 7, 8] [3, 5, 4181] (K' := [(3, .own 3 0), (5, .own 5 0), (6, .recs (α := S_line_Line) (S_line_Line.mk 0 0 []) E_line_Line v6), (7, .val (.int .i64 v7)), (8, .val (.int .i64 v8))]) (L' := [(3, 48, [.opt 3, .srow 4181]), (5, 34, [.val (.int .i64 (((v6)[Int.toNat v8]?.getD (S_line_Line.mk 0 0 [])).f_No)), .val (.int .i64 (((v6)[Int.toNat v8]?.getD (S_line_Line.mk 0 0 [])).f_Indent)), .str (((v6)[Int.toNat v8]?.getD (S_line_Line.mk 0 0 [])).f_Text)]), (4181, 5, [.rowc false (α := UInt8) 0 e8 b3])]) (ob := [(decide (0 ≤ v8 ∧ v8 < (List.length v6 : Int))) = true]) (by kernel_rfl) (AllP.cons hc6 AllP.nil) ?_
      refine To.thenN ?_
      refine Wp.seq ?_
      obtain ⟨u1, h⟩ := chk_of h
      obtain ⟨u2, h⟩ := chk_of h
      obtain ⟨x3, hx3, h⟩ := lett_of h
      refine Wp.region hΓ [] [(3, .str (Lib.repeatL ([32] : List UInt8) (Int.toNat (if (0 : Int) > ((v6)[Int.toNat v8]?.getD (S_line_Line.mk 0 0 [])).f_Indent then 0 else ((v6)[Int.toNat v8]?.getD (S_line_Line.mk 0 0 [])).f_Indent))))] [(4, ⟨[(1000000, 3), (1000001, 4181)], [(1000000, 3), (1, 4181)], [.own 1000000 0, .str (Lib.repeatL ([32] : List UInt8) (Int.toNat (if (0 : Int) > ((v6)[Int.toNat v8]?.getD (S_line_Line.mk 0 0 [])).f_Indent then 0 else ((v6)[Int.toNat v8]?.getD (S_line_Line.mk 0 0 [])).f_Indent)))], [(1000000, 48, [.opt 1000000, .srow 1000001]), (1000001, 5, [.rowc false (α := UInt8) 0 e8 b3])], .tup [.val (.int .i64 (List.length (Lib.repeatL ([32] : List UInt8) (Int.toNat (if (0 : Int) > ((v6)[Int.toNat v8]?.getD (S_line_Line.mk 0 0 [])).f_Indent then 0 else ((v6)[Int.toNat v8]?.getD (S_line_Line.mk 0 0 [])).f_Indent))) : Int)), .val (.nilIface)], [(1000000, 48, [.opt 1000000, .srow 1]), (1, 5, [.rowc false (α := UInt8) 0 e8 (b3 ++ (Lib.repeatL ([32] : List UInt8) (Int.toNat (if (0 : Int) > ((v6)[Int.toNat v8]?.getD (S_line_Line.mk 0 0 [])).f_Indent then 0 else ((v6)[Int.toNat v8]?.getD (S_line_Line.mk 0 0 [])).f_Indent))))])]⟩)] [3, 5, 6, 7, 8] [3, 5, 4181] (K' := [(3, .own 3 0), (5, .own 5 0), (6, .recs (α := S_line_Line) (S_line_Line.mk 0 0 []) E_line_Line v6), (7, .val (.int .i64 v7)), (8, .val (.int .i64 v8))]) (L' := [(3, 48, [.opt 3, .srow 4181]), (5, 34, [.val (.int .i64 (((v6)[Int.toNat v8]?.getD (S_line_Line.mk 0 0 [])).f_No)), .val (.int .i64 (((v6)[Int.toNat v8]?.getD (S_line_Line.mk 0 0 [])).f_Indent)), .str (((v6)[Int.toNat v8]?.getD (S_line_Line.mk 0 0 [])).f_Text)]), (4181, 5, [.rowc false (α := UInt8) 0 e8 (b3 ++ (Lib.repeatL ([32] : List UInt8) (Int.toNat (if (0 : Int) > ((v6)[Int.toNat v8]?.getD (S_line_Line.mk 0 0 [])).f_Indent then 0 else ((v6)[Int.toNat v8]?.getD (S_line_Line.mk 0 0 [])).f_Indent))))])]) (ob := [(true = true → CX Tryd.prog 19 [.str [32], .val (.int .i64 (if (0 : Int) > ((v6)[Int.toNat v8]?.getD (S_line_Line.mk 0 0 [])).f_Indent then 0 else ((v6)[Int.toNat v8]?.getD (S_line_Line.mk 0 0 [])).f_Indent))] (.str (Lib.repeatL ([32] : List UInt8) (Int.toNat (if (0 : Int) > ((v6)[Int.toNat v8]?.getD (S_line_Line.mk 0 0 [])).f_Indent then 0 else ((v6)[Int.toNat v8]?.getD (S_line_Line.mk 0 0 [])).f_Indent))))), CbOb (CallsB Tryd.prog) 18 [.own 3 0, .str (Lib.repeatL ([32] : List UInt8) (Int.toNat (if (0 : Int) > ((v6)[Int.toNat v8]?.getD (S_line_Line.mk 0 0 [])).f_Indent then 0 else ((v6)[Int.toNat v8]?.getD (S_line_Line.mk 0 0 [])).f_Indent)))] [some (48, [.opt 3, .srow 4181]), some (5, [.rowc false (α := UInt8) 0 e8 b3])] ⟨[(1000000, 3), (1000001, 4181)], [(1000000, 3), (1, 4181)], [.own 1000000 0, .str (Lib.repeatL ([32] : List UInt8) (Int.toNat (if (0 : Int) > ((v6)[Int.toNat v8]?.getD (S_line_Line.mk 0 0 [])).f_Indent then 0 else ((v6)[Int.toNat v8]?.getD (S_line_Line.mk 0 0 [])).f_Indent)))], [(1000000, 48, [.opt 1000000, .srow 1000001]), (1000001, 5, [.rowc false (α := UInt8) 0 e8 b3])], .tup [.val (.int .i64 (List.length (Lib.repeatL ([32] : List UInt8) (Int.toNat (if (0 : Int) > ((v6)[Int.toNat v8]?.getD (S_line_Line.mk 0 0 [])).f_Indent then 0 else ((v6)[Int.toNat v8]?.getD (S_line_Line.mk 0 0 [])).f_Indent))) : Int)), .val (.nilIface)], [(1000000, 48, [.opt 1000000, .srow 1]), (1, 5, [.rowc false (α := UInt8) 0 e8 (b3 ++ (Lib.repeatL ([32] : List UInt8) (Int.toNat (if (0 : Int) > ((v6)[Int.toNat v8]?.getD (S_line_Line.mk 0 0 [])).f_Indent then 0 else ((v6)[Int.toNat v8]?.getD (S_line_Line.mk 0 0 [])).f_Indent))))])]⟩]) (by kernel_rfl) (AllP.cons (fun _ => cx (Sh.repeat19 u1)) (AllP.cons (⟨writeString (l := b3) (s := (Lib.repeatL ([32] : List UInt8) (Int.toNat (if (0 : Int) > ((v6)[Int.toNat v8]?.getD (S_line_Line.mk 0 0 [])).f_Indent then 0 else ((v6)[Int.toNat v8]?.getD (S_line_Line.mk 0 0 [])).f_Indent)))) u2, by kernel_rfl, by kernel_rfl⟩) AllP.nil)) ?_
      refine To.eq (K' := [(3, .own 3 0), (5, .own 5 0), (6, .recs (α := S_line_Line) (S_line_Line.mk 0 0 []) E_line_Line v6), (7, .val (.int .i64 v7)), (8, .val (.int .i64 v8))]) (L' := [(3, 48, [.opt 3, .srow 4181]), (5, 34, [.val (.int .i64 (((v6)[Int.toNat v8]?.getD (S_line_Line.mk 0 0 [])).f_No)), .val (.int .i64 (((v6)[Int.toNat v8]?.getD (S_line_Line.mk 0 0 [])).f_Indent)), .str (((v6)[Int.toNat v8]?.getD (S_line_Line.mk 0 0 [])).f_Text)]), (4181, 5, [.rowc false (α := UInt8) 0 e8 x3])]) (by cases hx3; rfl) (by cases hx3; rfl) ?_
      refine To.thenN ?_
      refine Wp.seq ?_
      obtain ⟨u4, h⟩ := chk_of h
      refine Wp.region hΓ [] [] [(2, ⟨[(1000000, 3), (1000001, 4181)], [(1000000, 3), (1, 4181)], [.own 1000000 0, .str (((v6)[Int.toNat v8]?.getD (S_line_Line.mk 0 0 [])).f_Text)], [(1000000, 48, [.opt 1000000, .srow 1000001]), (1000001, 5, [.rowc false (α := UInt8) 0 e8 x3])], .tup [.val (.int .i64 (List.length (((v6)[Int.toNat v8]?.getD (S_line_Line.mk 0 0 [])).f_Text) : Int)), .val (.nilIface)], [(1000000, 48, [.opt 1000000, .srow 1]), (1, 5, [.rowc false (α := UInt8) 0 e8 (x3 ++ (((v6)[Int.toNat v8]?.getD (S_line_Line.mk 0 0 [])).f_Text))])]⟩)] [3, 6, 7, 8] [3, 4181] (K' := [(3, .own 3 0), (6, .recs (α := S_line_Line) (S_line_Line.mk 0 0 []) E_line_Line v6), (7, .val (.int .i64 v7)), (8, .val (.int .i64 v8))]) (L' := [(3, 48, [.opt 3, .srow 4181]), (4181, 5, [.rowc false (α := UInt8) 0 e8 (x3 ++ (((v6)[Int.toNat v8]?.getD (S_line_Line.mk 0 0 [])).f_Text))])]) (ob := [CbOb (CallsB Tryd.prog) 18 [.own 3 0, .str (((v6)[Int.toNat v8]?.getD (S_line_Line.mk 0 0 [])).f_Text)] [some (48, [.opt 3, .srow 4181]), some (5, [.rowc false (α := UInt8) 0 e8 x3])] ⟨[(1000000, 3), (1000001, 4181)], [(1000000, 3), (1, 4181)], [.own 1000000 0, .str (((v6)[Int.toNat v8]?.getD (S_line_Line.mk 0 0 [])).f_Text)], [(1000000, 48, [.opt 1000000, .srow 1000001]), (1000001, 5, [.rowc false (α := UInt8) 0 e8 x3])], .tup [.val (.int .i64 (List.length (((v6)[Int.toNat v8]?.getD (S_line_Line.mk 0 0 [])).f_Text) : Int)), .val (.nilIface)], [(1000000, 48, [.opt 1000000, .srow 1]), (1, 5, [.rowc false (α := UInt8) 0 e8 (x3 ++ (((v6)[Int.toNat v8]?.getD (S_line_Line.mk 0 0 [])).f_Text))])]⟩]) (by kernel_rfl) (AllP.cons (⟨writeString (l := x3) (s := (((v6)[Int.toNat v8]?.getD (S_line_Line.mk 0 0 [])).f_Text)) u4, by kernel_rfl, by kernel_rfl⟩) AllP.nil) ?_
      refine To.thenN ?_
      obtain ⟨u5, h⟩ := chk_of h
      refine Wp.region hΓ [] [] [(0, ⟨[(1000000, 3), (1000001, 4181)], [(1000000, 3), (1, 4181)], [.own 1000000 0, .val (.int .u8 10)], [(1000000, 48, [.opt 1000000, .srow 1000001]), (1000001, 5, [.rowc false (α := UInt8) 0 e8 (x3 ++ (((v6)[Int.toNat v8]?.getD (S_line_Line.mk 0 0 [])).f_Text))])], .val (.nilIface), [(1000000, 48, [.opt 1000000, .srow 1]), (1, 5, [.rowc false (α := UInt8) 0 e8 ((x3 ++ (((v6)[Int.toNat v8]?.getD (S_line_Line.mk 0 0 [])).f_Text)) ++ [10])])]⟩)] [3, 6, 7, 8] [3, 4181] (K' := [(3, .own 3 0), (6, .recs (α := S_line_Line) (S_line_Line.mk 0 0 []) E_line_Line v6), (7, .val (.int .i64 v7)), (8, .val (.int .i64 v8))]) (L' := [(3, 48, [.opt 3, .srow 4181]), (4181, 5, [.rowc false (α := UInt8) 0 e8 ((x3 ++ (((v6)[Int.toNat v8]?.getD (S_line_Line.mk 0 0 [])).f_Text)) ++ [10])])]) (ob := [CbOb (CallsB Tryd.prog) 20 [.own 3 0, .val (.int .u8 10)] [some (48, [.opt 3, .srow 4181]), some (5, [.rowc false (α := UInt8) 0 e8 (x3 ++ (((v6)[Int.toNat v8]?.getD (S_line_Line.mk 0 0 [])).f_Text))])] ⟨[(1000000, 3), (1000001, 4181)], [(1000000, 3), (1, 4181)], [.own 1000000 0, .val (.int .u8 10)], [(1000000, 48, [.opt 1000000, .srow 1000001]), (1000001, 5, [.rowc false (α := UInt8) 0 e8 (x3 ++ (((v6)[Int.toNat v8]?.getD (S_line_Line.mk 0 0 [])).f_Text))])], .val (.nilIface), [(1000000, 48, [.opt 1000000, .srow 1]), (1, 5, [.rowc false (α := UInt8) 0 e8 ((x3 ++ (((v6)[Int.toNat v8]?.getD (S_line_Line.mk 0 0 [])).f_Text)) ++ [10])])]⟩]) (by kernel_rfl) (AllP.cons (⟨writeByteI (l := (x3 ++ (((v6)[Int.toNat v8]?.getD (S_line_Line.mk 0 0 [])).f_Text))) (x := 10) rfl u5, by kernel_rfl, by kernel_rfl⟩) AllP.nil) ?_
      refine To.blockN ?_
      refine To.thenN ?_
      refine Wp.region hΓ [] [] [] [3, 6, 7, 8] [3, 4181] (K' := [(3, .own 3 0), (6, .recs (α := S_line_Line) (S_line_Line.mk 0 0 []) E_line_Line v6), (7, .val (.int .i64 v7)), (8, .val (.int .i64 (IntKind.wrap .i64 (v8 + 1))))]) (L' := [(3, 48, [.opt 3, .srow 4181]), (4181, 5, [.rowc false (α := UInt8) 0 e8 ((x3 ++ (((v6)[Int.toNat v8]?.getD (S_line_Line.mk 0 0 [])).f_Text)) ++ [10])])]) (ob := []) (by kernel_rfl) AllP.nil ?_
      refine To.keep (kk := [3, 6, 7, 8]) (kl := [3, 4181]) (K' := [(3, .own 3 0), (6, .recs (α := S_line_Line) (S_line_Line.mk 0 0 []) E_line_Line v6), (7, .val (.int .i64 v7)), (8, .val (.int .i64 (IntKind.wrap .i64 (v8 + 1))))]) (L' := [(3, 48, [.opt 3, .srow 4181]), (4181, 5, [.rowc false (α := UInt8) 0 e8 ((x3 ++ (((v6)[Int.toNat v8]?.getD (S_line_Line.mk 0 0 [])).f_Text)) ++ [10])])]) (by kernel_rfl) (by kernel_rfl) ?_
      refine To.again ?_
      exact ih (IntKind.wrap .i64 (v8 + 1)) ((x3 ++ (((v6)[Int.toNat v8]?.getD (S_line_Line.mk 0 0 [])).f_Text)) ++ [10]) _ h hQ
    · replace h := if_f hb h
      refine Wp.exit ?_
      refine To.thenX ?_
      refine To.thenX ?_
      refine To.keep (kk := [3]) (kl := [3, 4181]) (K' := [(3, .own 3 0)]) (L' := [(3, 48, [.opt 3, .srow 4181]), (4181, 5, [.rowc false (α := UInt8) 0 e8 b3])]) (by kernel_rfl) (by kernel_rfl) ?_
      cases h
      exact hQ
def line_Join (n : Nat) (a0 : List (S_line_Line)) : Option ((List UInt8)) :=
  (line_Join_l1 n a0 (List.length a0 : Int) n 0 ([] : List (UInt8))).bind fun o1 =>
  some o1
theorem ok_line_Join (n : Nat) (a0 : List (S_line_Line)) (r : (List UInt8)) (h : line_Join n a0 = some r) : CallsX Tryd.prog 13 [.recs (α := S_line_Line) (S_line_Line.mk 0 0 []) E_line_Line a0] (.str r) := by
  unfold line_Join at h
  refine callsX_of (fn := Tryd.f13) (by kernel_rfl) rfl (by kernel_rfl) (Nat.le_of_ble_eq_true (by kernel_rfl)) fun F0 w0 _ => ?_
  refine Wp.keep (kk := [0]) (kl := []) (K' := [(0, .recs (α := S_line_Line) (S_line_Line.mk 0 0 []) E_line_Line a0)]) (L' := []) (by kernel_rfl) (by kernel_rfl) ?_
  refine Wp.seq ?_
  refine Wp.region hΓ [] [] [] [0] [] (K' := [(0, .recs (α := S_line_Line) (S_line_Line.mk 0 0 []) E_line_Line a0)]) (L' := []) (ob := []) (by kernel_rfl) AllP.nil ?_
  refine To.thenN ?_
  refine Wp.seq ?_
  refine Wp.region hΓ [] [] [] [0, 3] [3] (K' := [(0, .recs (α := S_line_Line) (S_line_Line.mk 0 0 []) E_line_Line a0), (3, .own 3 0)]) (L' := [(3, 48, [.val (.pointer none), .val (.slice none 0 0)])]) (ob := []) (by kernel_rfl) AllP.nil ?_
  refine To.pre (St.builderB 3 4181 5 (by decide) (by kernel_rfl) (L' := [(3, 48, [.opt 3, .srow 4181])]) (by kernel_rfl)) ?_
  refine To.thenN ?_
  refine Wp.seq ?_
  refine Wp.seq ?_
  refine Wp.region hΓ [] [] [] [3, 6, 7, 8] [3, 4181] (K' := [(3, .own 3 0), (6, .recs (α := S_line_Line) (S_line_Line.mk 0 0 []) E_line_Line a0), (7, .val (.int .i64 (List.length a0 : Int))), (8, .val (.int .i64 0))]) (L' := [(3, 48, [.opt 3, .srow 4181]), (4181, 5, [.rowc false (α := UInt8) 0 e8 []])]) (ob := []) (by kernel_rfl) AllP.nil ?_
  refine To.thenN ?_
  refine Wp.block ?_
  obtain ⟨o1, ho1, h⟩ := bind_of h
  refine Wp.keep (kk := [3, 6, 7, 8]) (kl := [3, 4181]) (K' := [(3, .own 3 0), (6, .recs (α := S_line_Line) (S_line_Line.mk 0 0 []) E_line_Line a0), (7, .val (.int .i64 (List.length a0 : Int))), (8, .val (.int .i64 0))]) (L' := [(3, 48, [.opt 3, .srow 4181]), (4181, 5, [.rowc false (α := UInt8) 0 e8 []])]) (by kernel_rfl) (by kernel_rfl) ?_
  refine Wp.loopL ?_
  refine ok_line_Join_l1 n a0 (List.length a0 : Int) n 0 ([] : List (UInt8)) o1 ho1 ?_
  refine To.blockX ?_
  refine To.thenN ?_
  refine Wp.seq ?_
  refine Wp.region hΓ [] [] [(0, ⟨[(1000000, 3), (1000001, 4181)], [(1000000, 3)], [.own 1000000 0], [(1000000, 48, [.opt 1000000, .srow 1000001]), (1000001, 5, [.rowc false (α := UInt8) 0 e8 o1])], .str o1, [(1000000, 48, [.opt 1000000, .hole])]⟩)] [2] [] (K' := [(2, .str o1)]) (L' := []) (ob := [CbOb (CallsB Tryd.prog) 21 [.own 3 0] [some (48, [.opt 3, .srow 4181]), some (5, [.rowc false (α := UInt8) 0 e8 o1])] ⟨[(1000000, 3), (1000001, 4181)], [(1000000, 3)], [.own 1000000 0], [(1000000, 48, [.opt 1000000, .srow 1000001]), (1000001, 5, [.rowc false (α := UInt8) 0 e8 o1])], .str o1, [(1000000, 48, [.opt 1000000, .hole])]⟩]) (by kernel_rfl) (AllP.cons (⟨bstring (l := o1), by kernel_rfl, by kernel_rfl⟩) AllP.nil) ?_
  refine To.thenN ?_
  refine Wp.ret ?_
  refine To.keep (kk := [2]) (kl := []) (K' := [(2, .str o1)]) (L' := []) (by kernel_rfl) (by kernel_rfl) ?_
  cases h
  exact To.done hΓ (by kernel_rfl)
def law07_LineBack_l1 (n : Nat) (v7 : List (S_line_Line)) : Nat → Int → Option (Sum (Unit) (Bool))
  | 0, _ => none
  | k + 1, v10 => if (decide (v10 < (List.length v7 : Int))) = true then (if (decide (0 ≤ v10 ∧ v10 < (List.length v7 : Int))) = true then (if (decide (0 ≤ v10 ∧ v10 < (List.length v7 : Int))) = true then (if ((!((bif ((((v7)[Int.toNat v10]?.getD (S_line_Line.mk 0 0 [])).f_No) != (IntKind.wrap .i64 (v10 + 1))) then true else ((((v7)[Int.toNat v10]?.getD (S_line_Line.mk 0 0 [])).f_Text) == [])) == false) || decide (0 ≤ (0 : Int) ∧ (0 : Int) < (List.length (((v7)[Int.toNat v10]?.getD (S_line_Line.mk 0 0 [])).f_Text) : Int)))) = true then (if ((!((bif (bif ((((v7)[Int.toNat v10]?.getD (S_line_Line.mk 0 0 [])).f_No) != (IntKind.wrap .i64 (v10 + 1))) then true else ((((v7)[Int.toNat v10]?.getD (S_line_Line.mk 0 0 [])).f_Text) == [])) then true else (((((((v7)[Int.toNat v10]?.getD (S_line_Line.mk 0 0 [])).f_Text))[Int.toNat 0]?.getD 0).toNat : Int) == 32)) == false) || decide (0 ≤ (0 : Int) ∧ (0 : Int) < (List.length (((v7)[Int.toNat v10]?.getD (S_line_Line.mk 0 0 [])).f_Text) : Int)))) = true then (if ((!((bif (bif (bif ((((v7)[Int.toNat v10]?.getD (S_line_Line.mk 0 0 [])).f_No) != (IntKind.wrap .i64 (v10 + 1))) then true else ((((v7)[Int.toNat v10]?.getD (S_line_Line.mk 0 0 [])).f_Text) == [])) then true else (((((((v7)[Int.toNat v10]?.getD (S_line_Line.mk 0 0 [])).f_Text))[Int.toNat 0]?.getD 0).toNat : Int) == 32)) then true else (((((((v7)[Int.toNat v10]?.getD (S_line_Line.mk 0 0 [])).f_Text))[Int.toNat 0]?.getD 0).toNat : Int) == 35)) == false) || decide (0 ≤ (IntKind.wrap .i64 ((List.length (((v7)[Int.toNat v10]?.getD (S_line_Line.mk 0 0 [])).f_Text) : Int) - 1)) ∧ (IntKind.wrap .i64 ((List.length (((v7)[Int.toNat v10]?.getD (S_line_Line.mk 0 0 [])).f_Text) : Int) - 1)) < (List.length (((v7)[Int.toNat v10]?.getD (S_line_Line.mk 0 0 [])).f_Text) : Int)))) = true then (lett ((bif (bif (bif (bif ((((v7)[Int.toNat v10]?.getD (S_line_Line.mk 0 0 [])).f_No) != (IntKind.wrap .i64 (v10 + 1))) then true else ((((v7)[Int.toNat v10]?.getD (S_line_Line.mk 0 0 [])).f_Text) == [])) then true else (((((((v7)[Int.toNat v10]?.getD (S_line_Line.mk 0 0 [])).f_Text))[Int.toNat 0]?.getD 0).toNat : Int) == 32)) then true else (((((((v7)[Int.toNat v10]?.getD (S_line_Line.mk 0 0 [])).f_Text))[Int.toNat 0]?.getD 0).toNat : Int) == 35)) then true else (((((((v7)[Int.toNat v10]?.getD (S_line_Line.mk 0 0 [])).f_Text))[Int.toNat (IntKind.wrap .i64 ((List.length (((v7)[Int.toNat v10]?.getD (S_line_Line.mk 0 0 [])).f_Text) : Int) - 1))]?.getD 0).toNat : Int) == 32)) : Bool) fun x11 =>
  if x11 = true then (some (.inr false))
  else (law07_LineBack_l1 n v7 k (IntKind.wrap .i64 (v10 + 1)))) else none) else none) else none) else none) else none)
  else (some (.inl ()))
theorem ok_law07_LineBack_l1 (n : Nat) (v7 : List (S_line_Line)) {F0 : Fz} {w0 : Pt Tryd.prog} {Q : Exit → Act → World → Prop} (k : Nat) : ∀ (v10 : Int) (o : Sum (Unit) (Bool)), law07_LineBack_l1 n v7 k v10 = some o → (Sum.elim (fun s => To 104 F0 w0 [] [] (.exit 0) Q) (fun s => To 104 F0 w0 [(2, .val (.bool s))] [] .ret Q)) o → WL Tryd.prog 104 F0 w0 [(7, .recs (α := S_line_Line) (S_line_Line.mk 0 0 []) E_line_Line v7), (10, .val (.int .i64 v10))] [] (cI (cI (cB (cA (cB (cB (cB (cB (cB (cB (cB (cF Tryd.f5)))))))))))) Q := by
  induction k with
  | zero => intro v10 o h; cases h
  | succ k ih =>
    intro v10 o h hQ
    rw [law07_LineBack_l1] at h
    refine WL.round ?_
    refine Wp.seq ?_
    refine Wp.seq ?_
    refine Wp.region hΓ [] [] [] [7, 10, 65] [] (K' := [(7, .recs (α := S_line_Line) (S_line_Line.mk 0 0 []) E_line_Line v7), (10, .val (.int .i64 v10)), (65, .val (.bool (decide (v10 < (List.length v7 : Int)))))]) (L' := []) (ob := []) (by kernel_rfl) AllP.nil ?_
    refine To.thenN ?_
    refine Wp.cond (b := (decide (v10 < (List.length v7 : Int)))) (by kernel_rfl) (fun hb => ?_) (fun hb => ?_)
    · replace h := if_t hb h
      refine Wp.skip ?_
      refine To.thenN ?_
      refine Wp.seq ?_
      refine Wp.block ?_
      refine Wp.seq ?_
      obtain ⟨hc16, h⟩ := chk_of h
      refine Wp.region hΓ [] [] [] [7, 10, 11] [] (K' := [(7, .recs (α := S_line_Line) (S_line_Line.mk 0 0 []) E_line_Line v7), (10, .val (.int .i64 v10)), (11, .str (((v7)[Int.toNat v10]?.getD (S_line_Line.mk 0 0 [])).f_Text))]) (L' := []) (ob := [(decide (0 ≤ v10 ∧ v10 < (List.length v7 : Int))) = true]) (by kernel_rfl) (AllP.cons hc16 AllP.nil) ?_
      refine To.thenN ?_
      refine Wp.seq ?_
      obtain ⟨hc12, h⟩ := chk_of h
      obtain ⟨hc13, h⟩ := chk_of h
      obtain ⟨hc14, h⟩ := chk_of h
      obtain ⟨hc15, h⟩ := chk_of h
      obtain ⟨x11, hx11, h⟩ := lett_of h
      refine Wp.region hΓ [] [] [] [7, 10, 102] [] (K' := [(7, .recs (α := S_line_Line) (S_line_Line.mk 0 0 []) E_line_Line v7), (10, .val (.int .i64 v10)), (102, .val (.bool (bif (bif (bif (bif ((((v7)[Int.toNat v10]?.getD (S_line_Line.mk 0 0 [])).f_No) != (IntKind.wrap .i64 (v10 + 1))) then true else ((((v7)[Int.toNat v10]?.getD (S_line_Line.mk 0 0 [])).f_Text) == [])) then true else (((((((v7)[Int.toNat v10]?.getD (S_line_Line.mk 0 0 [])).f_Text))[Int.toNat 0]?.getD 0).toNat : Int) == 32)) then true else (((((((v7)[Int.toNat v10]?.getD (S_line_Line.mk 0 0 [])).f_Text))[Int.toNat 0]?.getD 0).toNat : Int) == 35)) then true else (((((((v7)[Int.toNat v10]?.getD (S_line_Line.mk 0 0 [])).f_Text))[Int.toNat (IntKind.wrap .i64 ((List.length (((v7)[Int.toNat v10]?.getD (S_line_Line.mk 0 0 [])).f_Text) : Int) - 1))]?.getD 0).toNat : Int) == 32))))]) (L' := []) (ob := [(decide (0 ≤ v10 ∧ v10 < (List.length v7 : Int))) = true, (!((bif ((((v7)[Int.toNat v10]?.getD (S_line_Line.mk 0 0 [])).f_No) != (IntKind.wrap .i64 (v10 + 1))) then true else ((((v7)[Int.toNat v10]?.getD (S_line_Line.mk 0 0 [])).f_Text) == [])) == false) || decide (0 ≤ (0 : Int) ∧ (0 : Int) < (List.length (((v7)[Int.toNat v10]?.getD (S_line_Line.mk 0 0 [])).f_Text) : Int))) = true, (!((bif (bif ((((v7)[Int.toNat v10]?.getD (S_line_Line.mk 0 0 [])).f_No) != (IntKind.wrap .i64 (v10 + 1))) then true else ((((v7)[Int.toNat v10]?.getD (S_line_Line.mk 0 0 [])).f_Text) == [])) then true else (((((((v7)[Int.toNat v10]?.getD (S_line_Line.mk 0 0 [])).f_Text))[Int.toNat 0]?.getD 0).toNat : Int) == 32)) == false) || decide (0 ≤ (0 : Int) ∧ (0 : Int) < (List.length (((v7)[Int.toNat v10]?.getD (S_line_Line.mk 0 0 [])).f_Text) : Int))) = true, (!((bif (bif (bif ((((v7)[Int.toNat v10]?.getD (S_line_Line.mk 0 0 [])).f_No) != (IntKind.wrap .i64 (v10 + 1))) then true else ((((v7)[Int.toNat v10]?.getD (S_line_Line.mk 0 0 [])).f_Text) == [])) then true else (((((((v7)[Int.toNat v10]?.getD (S_line_Line.mk 0 0 [])).f_Text))[Int.toNat 0]?.getD 0).toNat : Int) == 32)) then true else (((((((v7)[Int.toNat v10]?.getD (S_line_Line.mk 0 0 [])).f_Text))[Int.toNat 0]?.getD 0).toNat : Int) == 35)) == false) || decide (0 ≤ (IntKind.wrap .i64 ((List.length (((v7)[Int.toNat v10]?.getD (S_line_Line.mk 0 0 [])).f_Text) : Int) - 1)) ∧ (IntKind.wrap .i64 ((List.length (((v7)[Int.toNat v10]?.getD (S_line_Line.mk 0 0 [])).f_Text) : Int) - 1)) < (List.length (((v7)[Int.toNat v10]?.getD (S_line_Line.mk 0 0 [])).f_Text) : Int))) = true]) (by kernel_rfl) (AllP.cons hc12 (AllP.cons hc13 (AllP.cons hc14 (AllP.cons hc15 AllP.nil)))) ?_
      refine To.eq (K' := [(7, .recs (α := S_line_Line) (S_line_Line.mk 0 0 []) E_line_Line v7), (10, .val (.int .i64 v10)), (102, .val (.bool x11))]) (L' := []) (by cases hx11; rfl) (by cases hx11; rfl) ?_
      refine To.thenN ?_
      refine Wp.cond (b := x11) (by kernel_rfl) (fun hb => ?_) (fun hb => ?_)
      · replace h := if_t hb h
        refine Wp.seq ?_
        refine Wp.region hΓ [] [] [] [2] [] (K' := [(2, .val (.bool false))]) (L' := []) (ob := []) (by kernel_rfl) AllP.nil ?_
        refine To.thenN ?_
        refine Wp.ret ?_
        refine To.blockR ?_
        refine To.thenR ?_
        refine To.thenR ?_
        refine To.keep (kk := [2]) (kl := []) (K' := [(2, .val (.bool false))]) (L' := []) (by kernel_rfl) (by kernel_rfl) ?_
        cases h
        exact hQ
      · replace h := if_f hb h
        refine Wp.skip ?_
        refine To.blockN ?_
        refine To.thenN ?_
        refine Wp.region hΓ [] [] [] [7, 10] [] (K' := [(7, .recs (α := S_line_Line) (S_line_Line.mk 0 0 []) E_line_Line v7), (10, .val (.int .i64 (IntKind.wrap .i64 (v10 + 1))))]) (L' := []) (ob := []) (by kernel_rfl) AllP.nil ?_
        refine To.keep (kk := [7, 10]) (kl := []) (K' := [(7, .recs (α := S_line_Line) (S_line_Line.mk 0 0 []) E_line_Line v7), (10, .val (.int .i64 (IntKind.wrap .i64 (v10 + 1))))]) (L' := []) (by kernel_rfl) (by kernel_rfl) ?_
        refine To.again ?_
        exact ih (IntKind.wrap .i64 (v10 + 1)) _ h hQ
    · replace h := if_f hb h
      refine Wp.exit ?_
      refine To.thenX ?_
      refine To.thenX ?_
      refine To.keep (kk := []) (kl := []) (K' := []) (L' := []) (by kernel_rfl) (by kernel_rfl) ?_
      cases h
      exact hQ
def law07_LineBack (n : Nat) (a0 : List UInt8) : Option (Bool) :=
  if (decide ((List.length a0 : Int) > 8000)) = true then ((law07_awake n).bind fun r1 =>
  some r1)
  else ((line_Split n a0).bind fun r2 =>
  if (r2.2.2 != 0) = true then (((if (((List.length r2.1 : Int) == 0) == true) = true then law07_awake n else some false)).bind fun r3 =>
  some (bif ((List.length r2.1 : Int) == 0) then r3 else false))
  else ((line_Join n r2.1).bind fun r4 =>
  (line_Split n r4).bind fun r5 =>
  ((if ((r5.2.2 != 0) == false) = true then law07_taken n r2.1 else some [])).bind fun r6 =>
  ((if ((r5.2.2 != 0) == false) = true then law07_taken n r5.1 else some [])).bind fun r7 =>
  ((if ((r5.2.2 != 0) == false) = true then ref07_Same n r6 r7 false else some false)).bind fun r8 =>
  ((if ((bif (r5.2.2 != 0) then true else (!r8)) == false) = true then line_Join n r5.1 else some [])).bind fun r9 =>
  lett ((bif (bif (bif (r5.2.2 != 0) then true else (!r8)) then true else (!(r9 == r4))) then true else (decide ((List.length r4 : Int) > (IntKind.wrap .i64 ((List.length a0 : Int) + 1))))) : Bool) fun x10 =>
  if x10 = true then some false
  else ((law07_LineBack_l1 n r5.1 n 0).bind fun o11 =>
  (Sum.elim (fun o11 => (law07_awake n).bind fun r12 =>
  some r12) (fun o11 => some o11)) o11)))
theorem ok_law07_LineBack (n : Nat) (a0 : List UInt8) (r : Bool) (h : law07_LineBack n a0 = some r) : CallsX Tryd.prog 5 [.str a0] (.val (.bool r)) := by
  unfold law07_LineBack at h
  refine callsX_of (fn := Tryd.f5) (by kernel_rfl) rfl (by kernel_rfl) (Nat.le_of_ble_eq_true (by kernel_rfl)) fun F0 w0 _ => ?_
  refine Wp.keep (kk := [0]) (kl := []) (K' := [(0, .str a0)]) (L' := []) (by kernel_rfl) (by kernel_rfl) ?_
  refine Wp.seq ?_
  refine Wp.region hΓ [] [] [] [0] [] (K' := [(0, .str a0)]) (L' := []) (ob := []) (by kernel_rfl) AllP.nil ?_
  refine To.thenN ?_
  refine Wp.seq ?_
  refine Wp.seq ?_
  refine Wp.region hΓ [] [] [] [0, 14] [] (K' := [(0, .str a0), (14, .val (.bool (decide ((List.length a0 : Int) > 8000))))]) (L' := []) (ob := []) (by kernel_rfl) AllP.nil ?_
  refine To.thenN ?_
  refine Wp.cond (b := (decide ((List.length a0 : Int) > 8000))) (by kernel_rfl) (fun hb => ?_) (fun hb => ?_)
  · replace h := if_t hb h
    refine Wp.seq ?_
    obtain ⟨r1, hr1, h⟩ := bind_of h
    refine Wp.region hΓ [] [(0, .val (.bool r1))] [] [2] [] (K' := [(2, .val (.bool r1))]) (L' := []) (ob := [(true = true → CX Tryd.prog 6 [] (.val (.bool r1)))]) (by kernel_rfl) (AllP.cons (fun _ => cx (ok_law07_awake n  _ hr1)) AllP.nil) ?_
    refine To.thenN ?_
    refine Wp.ret ?_
    refine To.thenR ?_
    refine To.keep (kk := [2]) (kl := []) (K' := [(2, .val (.bool r1))]) (L' := []) (by kernel_rfl) (by kernel_rfl) ?_
    cases h
    exact To.done hΓ (by kernel_rfl)
  · replace h := if_f hb h
    refine Wp.skip ?_
    refine To.thenN ?_
    refine Wp.seq ?_
    obtain ⟨r2, hr2, h⟩ := bind_of h
    refine Wp.region hΓ [] [(1, .tup [.recs (α := S_line_Line) (S_line_Line.mk 0 0 []) E_line_Line r2.1, .val (.int .i64 r2.2.1), .val (.int .i64 r2.2.2)])] [] [0, 3, 5] [] (K' := [(0, .str a0), (3, .recs (α := S_line_Line) (S_line_Line.mk 0 0 []) E_line_Line r2.1), (5, .val (.int .i64 r2.2.2))]) (L' := []) (ob := [(true = true → CX Tryd.prog 7 [.str a0] (.tup [.recs (α := S_line_Line) (S_line_Line.mk 0 0 []) E_line_Line r2.1, .val (.int .i64 r2.2.1), .val (.int .i64 r2.2.2)]))]) (by kernel_rfl) (AllP.cons (fun _ => cx (ok_line_Split n a0 _ hr2)) AllP.nil) ?_
    refine To.thenN ?_
    refine Wp.seq ?_
    refine Wp.seq ?_
    refine Wp.region hΓ [] [] [] [0, 3, 23] [] (K' := [(0, .str a0), (3, .recs (α := S_line_Line) (S_line_Line.mk 0 0 []) E_line_Line r2.1), (23, .val (.bool (r2.2.2 != 0)))]) (L' := []) (ob := []) (by kernel_rfl) AllP.nil ?_
    refine To.thenN ?_
    refine Wp.cond (b := (r2.2.2 != 0)) (by kernel_rfl) (fun hb => ?_) (fun hb => ?_)
    · replace h := if_t hb h
      refine Wp.seq ?_
      obtain ⟨r3, hr3, h⟩ := bind_of h
      refine Wp.region hΓ [] [(4, .val (.bool r3))] [] [2] [] (K' := [(2, .val (.bool (bif ((List.length r2.1 : Int) == 0) then r3 else false)))]) (L' := []) (ob := [((((List.length r2.1 : Int) == 0) == true) = true → CX Tryd.prog 6 [] (.val (.bool r3)))]) (by kernel_rfl) (AllP.cons (fun hg => cx (ok_law07_awake n  _ (if_t hg hr3))) AllP.nil) ?_
      refine To.thenN ?_
      refine Wp.ret ?_
      refine To.thenR ?_
      refine To.keep (kk := [2]) (kl := []) (K' := [(2, .val (.bool (bif ((List.length r2.1 : Int) == 0) then r3 else false)))]) (L' := []) (by kernel_rfl) (by kernel_rfl) ?_
      cases h
      exact To.done hΓ (by kernel_rfl)
    · replace h := if_f hb h
      refine Wp.skip ?_
      refine To.thenN ?_
      refine Wp.seq ?_
      obtain ⟨r4, hr4, h⟩ := bind_of h
      refine Wp.region hΓ [] [(1, .str r4)] [] [0, 3, 6] [] (K' := [(0, .str a0), (3, .recs (α := S_line_Line) (S_line_Line.mk 0 0 []) E_line_Line r2.1), (6, .str r4)]) (L' := []) (ob := [(true = true → CX Tryd.prog 13 [.recs (α := S_line_Line) (S_line_Line.mk 0 0 []) E_line_Line r2.1] (.str r4))]) (by kernel_rfl) (AllP.cons (fun _ => cx (ok_line_Join n r2.1 _ hr4)) AllP.nil) ?_
      refine To.thenN ?_
      refine Wp.seq ?_
      obtain ⟨r5, hr5, h⟩ := bind_of h
      refine Wp.region hΓ [] [(1, .tup [.recs (α := S_line_Line) (S_line_Line.mk 0 0 []) E_line_Line r5.1, .val (.int .i64 r5.2.1), .val (.int .i64 r5.2.2)])] [] [0, 3, 6, 7, 9] [] (K' := [(0, .str a0), (3, .recs (α := S_line_Line) (S_line_Line.mk 0 0 []) E_line_Line r2.1), (6, .str r4), (7, .recs (α := S_line_Line) (S_line_Line.mk 0 0 []) E_line_Line r5.1), (9, .val (.int .i64 r5.2.2))]) (L' := []) (ob := [(true = true → CX Tryd.prog 7 [.str r4] (.tup [.recs (α := S_line_Line) (S_line_Line.mk 0 0 []) E_line_Line r5.1, .val (.int .i64 r5.2.1), .val (.int .i64 r5.2.2)]))]) (by kernel_rfl) (AllP.cons (fun _ => cx (ok_line_Split n r4 _ hr5)) AllP.nil) ?_
      refine To.thenN ?_
      refine Wp.seq ?_
      refine Wp.seq ?_
      obtain ⟨r6, hr6, h⟩ := bind_of h
      obtain ⟨r7, hr7, h⟩ := bind_of h
      obtain ⟨r8, hr8, h⟩ := bind_of h
      obtain ⟨r9, hr9, h⟩ := bind_of h
      obtain ⟨x10, hx10, h⟩ := lett_of h
      refine Wp.region hΓ [] [(4, .recs (α := S_line_Line) (S_line_Line.mk 0 0 []) E_ref07_Line r6), (6, .recs (α := S_line_Line) (S_line_Line.mk 0 0 []) E_ref07_Line r7), (7, .val (.bool r8)), (12, .str r9)] [] [7, 61] [] (K' := [(7, .recs (α := S_line_Line) (S_line_Line.mk 0 0 []) E_line_Line r5.1), (61, .val (.bool (bif (bif (bif (r5.2.2 != 0) then true else (!r8)) then true else (!(r9 == r4))) then true else (decide ((List.length r4 : Int) > (IntKind.wrap .i64 ((List.length a0 : Int) + 1)))))))]) (L' := []) (ob := [(((r5.2.2 != 0) == false) = true → CX Tryd.prog 10 [.recs (α := S_line_Line) (S_line_Line.mk 0 0 []) E_line_Line r2.1] (.recs (α := S_line_Line) (S_line_Line.mk 0 0 []) E_ref07_Line r6)), (((r5.2.2 != 0) == false) = true → CX Tryd.prog 10 [.recs (α := S_line_Line) (S_line_Line.mk 0 0 []) E_line_Line r5.1] (.recs (α := S_line_Line) (S_line_Line.mk 0 0 []) E_ref07_Line r7)), (((r5.2.2 != 0) == false) = true → CX Tryd.prog 9 [.recs (α := S_line_Line) (S_line_Line.mk 0 0 []) E_ref07_Line r6, .recs (α := S_line_Line) (S_line_Line.mk 0 0 []) E_ref07_Line r7, .val (.bool false)] (.val (.bool r8))), (((bif (r5.2.2 != 0) then true else (!r8)) == false) = true → CX Tryd.prog 13 [.recs (α := S_line_Line) (S_line_Line.mk 0 0 []) E_line_Line r5.1] (.str r9))]) (by kernel_rfl) (AllP.cons (fun hg => cx (ok_law07_taken n r2.1 _ (if_t hg hr6))) (AllP.cons (fun hg => cx (ok_law07_taken n r5.1 _ (if_t hg hr7))) (AllP.cons (fun hg => cx (ok_ref07_Same n r6 r7 false _ (if_t hg hr8))) (AllP.cons (fun hg => cx (ok_line_Join n r5.1 _ (if_t hg hr9))) AllP.nil)))) ?_
      refine To.eq (K' := [(7, .recs (α := S_line_Line) (S_line_Line.mk 0 0 []) E_line_Line r5.1), (61, .val (.bool x10))]) (L' := []) (by cases hx10; rfl) (by cases hx10; rfl) ?_
      refine To.thenN ?_
      refine Wp.cond (b := x10) (by kernel_rfl) (fun hb => ?_) (fun hb => ?_)
      · replace h := if_t hb h
        refine Wp.seq ?_
        refine Wp.region hΓ [] [] [] [2] [] (K' := [(2, .val (.bool false))]) (L' := []) (ob := []) (by kernel_rfl) AllP.nil ?_
        refine To.thenN ?_
        refine Wp.ret ?_
        refine To.thenR ?_
        refine To.keep (kk := [2]) (kl := []) (K' := [(2, .val (.bool false))]) (L' := []) (by kernel_rfl) (by kernel_rfl) ?_
        cases h
        exact To.done hΓ (by kernel_rfl)
      · replace h := if_f hb h
        refine Wp.skip ?_
        refine To.thenN ?_
        refine Wp.seq ?_
        refine Wp.seq ?_
        refine Wp.region hΓ [] [] [] [7, 10] [] (K' := [(7, .recs (α := S_line_Line) (S_line_Line.mk 0 0 []) E_line_Line r5.1), (10, .val (.int .i64 0))]) (L' := []) (ob := []) (by kernel_rfl) AllP.nil ?_
        refine To.thenN ?_
        refine Wp.block ?_
        obtain ⟨o11, ho11, h⟩ := bind_of h
        refine Wp.keep (kk := [7, 10]) (kl := []) (K' := [(7, .recs (α := S_line_Line) (S_line_Line.mk 0 0 []) E_line_Line r5.1), (10, .val (.int .i64 0))]) (L' := []) (by kernel_rfl) (by kernel_rfl) ?_
        refine Wp.loopL ?_
        refine ok_law07_LineBack_l1 n r5.1 n 0 o11 ho11 ?_
        rcases o11 with o11 | o11
        · replace h := sum_l h
          refine To.blockX ?_
          refine To.thenN ?_
          refine Wp.seq ?_
          obtain ⟨r12, hr12, h⟩ := bind_of h
          refine Wp.region hΓ [] [(0, .val (.bool r12))] [] [2] [] (K' := [(2, .val (.bool r12))]) (L' := []) (ob := [(true = true → CX Tryd.prog 6 [] (.val (.bool r12)))]) (by kernel_rfl) (AllP.cons (fun _ => cx (ok_law07_awake n  _ hr12)) AllP.nil) ?_
          refine To.thenN ?_
          refine Wp.ret ?_
          refine To.keep (kk := [2]) (kl := []) (K' := [(2, .val (.bool r12))]) (L' := []) (by kernel_rfl) (by kernel_rfl) ?_
          cases h
          exact To.done hΓ (by kernel_rfl)
        · replace h := sum_r h
          refine To.blockR ?_
          refine To.thenR ?_
          refine To.keep (kk := [2]) (kl := []) (K' := [(2, .val (.bool o11))]) (L' := []) (by kernel_rfl) (by kernel_rfl) ?_
          cases h
          exact To.done hΓ (by kernel_rfl)
theorem opens_string : Opens Tryd.prog 9 (fun l : List UInt8 => l.length ≤ maxLen) (fun l => [.str l]) := opens_str (by kernel_rfl)
theorem opens_i64 : Opens Tryd.prog 3 (fun n : Int => IntKind.min .i64 ≤ n ∧ n ≤ IntKind.max .i64) (fun n => [.val (.int .i64 n)]) := opens_int (by kernel_rfl)
def W_line_Line (x : S_line_Line) : Prop := (IntKind.min .i64 ≤ x.f_No ∧ x.f_No ≤ IntKind.max .i64) ∧ (IntKind.min .i64 ≤ x.f_Indent ∧ x.f_Indent ≤ IntKind.max .i64) ∧ (List.length x.f_Text ≤ maxLen)
theorem opens_line_Line : Opens Tryd.prog 34 W_line_Line (fun x => [.val (.int .i64 x.f_No), .val (.int .i64 x.f_Indent), .str x.f_Text]) := by
  intro H enc W fuel cs d ps h
  obtain ⟨hl, hf⟩ := field_of Tryd.underlying34 h
  have hl : cs.length = 3 := hl.trans (by kernel_rfl)
  obtain ⟨x0, w0, r0⟩ := hf 0 _ rfl opens_i64
  have r0 := repAt (a' := 0) (b' := 1) r0 (by kernel_rfl) (by kernel_rfl)
  obtain ⟨x1, w1, r1⟩ := hf 1 _ rfl opens_i64
  have r1 := repAt (a' := 1) (b' := 1) r1 (by kernel_rfl) (by kernel_rfl)
  obtain ⟨x2, w2, r2⟩ := hf 2 _ rfl opens_string
  have r2 := repAt (a' := 2) (b' := 1) r2 (by kernel_rfl) (by kernel_rfl)
  refine ⟨⟨x0, x1, x2⟩, ⟨w0, w1, w2⟩, ?_⟩
  refine parts_all (l := [([.val (.int .i64 x0)], 1), ([.val (.int .i64 x1)], 1), ([.str x2], 1)]) ⟨r0, r1, r2, Nat.le_of_eq hl⟩ rfl
end Go.Proofs.YthhoedkeggiflaaDoor.M