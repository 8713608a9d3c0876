/-
  Part of the proof of NodePuts: M08b.
-/
import Derived.Test.YtjicbelggepaiaaQM08a
set_option linter.all false
namespace Go.Proofs.Ytjicbelggepaiaa.M
open Go.RowKit Go.Proofs.Ytjicbelggepaiaa.RX
set_option maxRecDepth 100000
def slices_Equal_string_string_l1 (n : Nat) (v0 : List (List UInt8)) (v1 : List (List UInt8)) (v12 : Int) : Nat → Int → Option (Sum (Unit) (Bool))
  | 0, _ => none
  | k + 1, v13 => if (decide (v13 < v12)) = true then (if (decide (0 ≤ v13 ∧ v13 < (List.length v0 : Int))) = true then (if (decide (0 ≤ v13 ∧ v13 < (List.length v1 : Int))) = true then (if (!(((v0)[Int.toNat v13]?.getD []) == ((v1)[Int.toNat v13]?.getD []))) = true then (some (.inr false))
  else (slices_Equal_string_string_l1 n v0 v1 v12 k (IntKind.wrap .i64 (v13 + 1)))) else none) else none)
  else (some (.inl ()))
theorem ok_slices_Equal_string_string_l1 (n : Nat) (v0 : List (List UInt8)) (v1 : List (List UInt8)) (v12 : Int) {F0 : Fz} {w0 : Pt Try.prog} {Q : Exit → Act → World → Prop} (k : Nat) : ∀ (v13 : Int) (o : Sum (Unit) (Bool)), slices_Equal_string_string_l1 n v0 v1 v12 k v13 = some o → (Sum.elim (fun s => To 26 F0 w0 [] [] (.exit 0) Q) (fun s => To 26 F0 w0 [(4, .val (.bool s))] [] .ret Q)) o → WL Try.prog 26 F0 w0 [(0, .recs (α := List UInt8) [] E_string v0), (1, .recs (α := List UInt8) [] E_string v1), (12, .val (.int .i64 v12)), (13, .val (.int .i64 v13))] [] (cI (cI (cB (cA (cB (cB (cF Try.f38))))))) Q := by
  induction k with
  | zero => intro v13 o h; cases h
  | succ k ih =>
    intro v13 o h hQ
    rw [slices_Equal_string_string_l1] at h
    refine WL.round ?_
    refine Wp.seq ?_
    refine Wp.region hΓ [] [] [] [0, 1, 12, 13, 14] [] (K' := [(0, .recs (α := List UInt8) [] E_string v0), (1, .recs (α := List UInt8) [] E_string v1), (12, .val (.int .i64 v12)), (13, .val (.int .i64 v13)), (14, .val (.bool (decide (v13 < v12))))]) (L' := []) (ob := []) (by kernel_rfl) AllP.nil ?_
    refine To.thenN ?_
    refine Wp.seq ?_
    refine Wp.cond (b := (decide (v13 < v12))) (by kernel_rfl) (fun hb => ?_) (fun hb => ?_)
    · replace h := if_t hb h
      refine Wp.skip ?_
      refine To.thenN ?_
      refine Wp.seq ?_
      refine Wp.block ?_
      refine Wp.seq ?_
      refine Wp.region hΓ [] [] [] [0, 1, 5, 12, 13] [] (K' := [(0, .recs (α := List UInt8) [] E_string v0), (1, .recs (α := List UInt8) [] E_string v1), (5, .val (.int .i64 v13)), (12, .val (.int .i64 v12)), (13, .val (.int .i64 v13))]) (L' := []) (ob := []) (by kernel_rfl) AllP.nil ?_
      refine To.thenN ?_
      refine Wp.seq ?_
      obtain ⟨hc1, h⟩ := chk_of h
      obtain ⟨hc2, h⟩ := chk_of h
      refine Wp.regionD hm hΓ [] [0, 1, 12, 13, 24] [] (K' := [(0, .recs (α := List UInt8) [] E_string v0), (1, .recs (α := List UInt8) [] E_string v1), (12, .val (.int .i64 v12)), (13, .val (.int .i64 v13)), (24, .val (.bool (!(((v0)[Int.toNat v13]?.getD []) == ((v1)[Int.toNat v13]?.getD [])))))]) (L' := []) (ob := [(decide (0 ≤ v13 ∧ v13 < (List.length v0 : Int))) = true, (decide (0 ≤ v13 ∧ v13 < (List.length v1 : Int))) = true]) (by kernel_rfl) (AllP.cons hc1 (AllP.cons hc2 AllP.nil)) ?_
      refine To.thenN ?_
      refine Wp.cond (b := (!(((v0)[Int.toNat v13]?.getD []) == ((v1)[Int.toNat v13]?.getD [])))) (by kernel_rfl) (fun hb => ?_) (fun hb => ?_)
      · replace h := if_t hb h
        refine Wp.seq ?_
        refine Wp.region hΓ [] [] [] [4] [] (K' := [(4, .val (.bool false))]) (L' := []) (ob := []) (by kernel_rfl) AllP.nil ?_
        refine To.thenN ?_
        refine Wp.ret ?_
        refine To.blockR ?_
        refine To.thenR ?_
        refine To.thenR ?_
        refine To.keep (kk := [4]) (kl := []) (K' := [(4, .val (.bool false))]) (L' := []) (by kernel_rfl) (by kernel_rfl) ?_
        cases h
        exact hQ
      · replace h := if_f hb h
        refine Wp.skip ?_
        refine To.blockN ?_
        refine To.thenN ?_
        refine Wp.region hΓ [] [] [] [0, 1, 12, 13] [] (K' := [(0, .recs (α := List UInt8) [] E_string v0), (1, .recs (α := List UInt8) [] E_string v1), (12, .val (.int .i64 v12)), (13, .val (.int .i64 (IntKind.wrap .i64 (v13 + 1))))]) (L' := []) (ob := []) (by kernel_rfl) AllP.nil ?_
        refine To.keep (kk := [0, 1, 12, 13]) (kl := []) (K' := [(0, .recs (α := List UInt8) [] E_string v0), (1, .recs (α := List UInt8) [] E_string v1), (12, .val (.int .i64 v12)), (13, .val (.int .i64 (IntKind.wrap .i64 (v13 + 1))))]) (L' := []) (by kernel_rfl) (by kernel_rfl) ?_
        refine To.again ?_
        exact ih (IntKind.wrap .i64 (v13 + 1)) _ h hQ
    · replace h := if_f hb h
      refine Wp.exit ?_
      refine To.thenX ?_
      refine To.thenX ?_
      refine To.keep (kk := []) (kl := []) (K' := []) (L' := []) (by kernel_rfl) (by kernel_rfl) ?_
      cases h
      exact hQ
def slices_Equal_string_string (n : Nat) (a0 : List (List UInt8)) (a1 : List (List UInt8)) : Option (Bool) :=
  if ((List.length a0 : Int) != (List.length a1 : Int)) = true then some false
  else ((slices_Equal_string_string_l1 n a0 a1 (List.length a0 : Int) n 0).bind fun o1 =>
  (Sum.elim (fun o1 => some true) (fun o1 => some o1)) o1)
theorem ok_slices_Equal_string_string (n : Nat) (a0 : List (List UInt8)) (a1 : List (List UInt8)) (r : Bool) (h : slices_Equal_string_string n a0 a1 = some r) : CallsX Try.prog 38 [.recs (α := List UInt8) [] E_string a0, .recs (α := List UInt8) [] E_string a1] (.val (.bool r)) := by
  unfold slices_Equal_string_string at h
  refine callsX_of (fn := Try.f38) (by kernel_rfl) rfl (by kernel_rfl) (Nat.le_of_ble_eq_true (by kernel_rfl)) fun F0 w0 _ => ?_
  refine Wp.keep (kk := [0, 1]) (kl := []) (K' := [(0, .recs (α := List UInt8) [] E_string a0), (1, .recs (α := List UInt8) [] E_string a1)]) (L' := []) (by kernel_rfl) (by kernel_rfl) ?_
  refine Wp.seq ?_
  refine Wp.region hΓ [] [] [] [0, 1] [] (K' := [(0, .recs (α := List UInt8) [] E_string a0), (1, .recs (α := List UInt8) [] E_string a1)]) (L' := []) (ob := []) (by kernel_rfl) AllP.nil ?_
  refine To.thenN ?_
  refine Wp.seq ?_
  refine Wp.seq ?_
  refine Wp.region hΓ [] [] [] [0, 1, 10] [] (K' := [(0, .recs (α := List UInt8) [] E_string a0), (1, .recs (α := List UInt8) [] E_string a1), (10, .val (.bool ((List.length a0 : Int) != (List.length a1 : Int))))]) (L' := []) (ob := []) (by kernel_rfl) AllP.nil ?_
  refine To.thenN ?_
  refine Wp.cond (b := ((List.length a0 : Int) != (List.length a1 : Int))) (by kernel_rfl) (fun hb => ?_) (fun hb => ?_)
  · replace h := if_t hb h
    refine Wp.seq ?_
    refine Wp.region hΓ [] [] [] [4] [] (K' := [(4, .val (.bool false))]) (L' := []) (ob := []) (by kernel_rfl) AllP.nil ?_
    refine To.thenN ?_
    refine Wp.ret ?_
    refine To.thenR ?_
    refine To.keep (kk := [4]) (kl := []) (K' := [(4, .val (.bool false))]) (L' := []) (by kernel_rfl) (by kernel_rfl) ?_
    cases h
    exact To.done hΓ (by kernel_rfl)
  · replace h := if_f hb h
    refine Wp.skip ?_
    refine To.thenN ?_
    refine Wp.seq ?_
    refine Wp.seq ?_
    refine Wp.region hΓ [] [] [] [0, 1, 12, 13] [] (K' := [(0, .recs (α := List UInt8) [] E_string a0), (1, .recs (α := List UInt8) [] E_string a1), (12, .val (.int .i64 (List.length a0 : Int))), (13, .val (.int .i64 0))]) (L' := []) (ob := []) (by kernel_rfl) AllP.nil ?_
    refine To.thenN ?_
    refine Wp.block ?_
    obtain ⟨o1, ho1, h⟩ := bind_of h
    refine Wp.keep (kk := [0, 1, 12, 13]) (kl := []) (K' := [(0, .recs (α := List UInt8) [] E_string a0), (1, .recs (α := List UInt8) [] E_string a1), (12, .val (.int .i64 (List.length a0 : Int))), (13, .val (.int .i64 0))]) (L' := []) (by kernel_rfl) (by kernel_rfl) ?_
    refine Wp.loopL ?_
    refine ok_slices_Equal_string_string_l1 n a0 a1 (List.length a0 : Int) n 0 o1 ho1 ?_
    rcases o1 with o1 | o1
    · replace h := sum_l h
      refine To.blockX ?_
      refine To.thenN ?_
      refine Wp.seq ?_
      refine Wp.region hΓ [] [] [] [4] [] (K' := [(4, .val (.bool true))]) (L' := []) (ob := []) (by kernel_rfl) AllP.nil ?_
      refine To.thenN ?_
      refine Wp.ret ?_
      refine To.keep (kk := [4]) (kl := []) (K' := [(4, .val (.bool true))]) (L' := []) (by kernel_rfl) (by kernel_rfl) ?_
      cases h
      exact To.done hΓ (by kernel_rfl)
    · replace h := sum_r h
      refine To.blockR ?_
      refine To.thenR ?_
      refine To.keep (kk := [4]) (kl := []) (K' := [(4, .val (.bool o1))]) (L' := []) (by kernel_rfl) (by kernel_rfl) ?_
      cases h
      exact To.done hΓ (by kernel_rfl)
def slices_EqualFunc_api_Node_api_Node_api_Node_api_Node__node_Same_l1 (R_node_Same : S_api_Node → S_api_Node → Option (Bool)) (n : Nat) (v1 : List (S_api_Node)) (v15 : List (S_api_Node)) (v16 : Int) : Nat → Int → Option (Sum (Unit) (Bool))
  | 0, _ => none
  | k + 1, v17 => if (decide (v17 < v16)) = true then (if (decide (0 ≤ v17 ∧ v17 < (List.length v15 : Int))) = true then (if (decide (0 ≤ v17 ∧ v17 < (List.length v1 : Int))) = true then ((R_node_Same (S_api_Node.mk (((v15)[Int.toNat v17]?.getD (S_api_Node.mk 0 [] [] [])).f_Kind) (((v15)[Int.toNat v17]?.getD (S_api_Node.mk 0 [] [] [])).f_Text) (((v15)[Int.toNat v17]?.getD (S_api_Node.mk 0 [] [] [])).f_Keys) (((v15)[Int.toNat v17]?.getD (S_api_Node.mk 0 [] [] [])).f_Kids)) (S_api_Node.mk (((v1)[Int.toNat v17]?.getD (S_api_Node.mk 0 [] [] [])).f_Kind) (((v1)[Int.toNat v17]?.getD (S_api_Node.mk 0 [] [] [])).f_Text) (((v1)[Int.toNat v17]?.getD (S_api_Node.mk 0 [] [] [])).f_Keys) (((v1)[Int.toNat v17]?.getD (S_api_Node.mk 0 [] [] [])).f_Kids))).bind fun r1 =>
  if (!r1) = true then (some (.inr false))
  else (slices_EqualFunc_api_Node_api_Node_api_Node_api_Node__node_Same_l1 R_node_Same n v1 v15 v16 k (IntKind.wrap .i64 (v17 + 1)))) else none) else none)
  else (some (.inl ()))
theorem ok_slices_EqualFunc_api_Node_api_Node_api_Node_api_Node__node_Same_l1 (R_node_Same : S_api_Node → S_api_Node → Option (Bool)) (hR_node_Same : ∀ (a0 : S_api_Node) (a1 : S_api_Node) (r : Bool), R_node_Same a0 a1 = some r → CallsX Try.prog 16 [.agg [.val (.int .i64 a0.f_Kind), .str a0.f_Text, .recs (α := List UInt8) [] E_string a0.f_Keys, .tree (α := S_api_Node) (S_api_Node.mk 0 [] [] []) pre_S_api_Node kids_S_api_Node a0.f_Kids], .agg [.val (.int .i64 a1.f_Kind), .str a1.f_Text, .recs (α := List UInt8) [] E_string a1.f_Keys, .tree (α := S_api_Node) (S_api_Node.mk 0 [] [] []) pre_S_api_Node kids_S_api_Node a1.f_Kids]] (.val (.bool r))) (n : Nat) (v1 : List (S_api_Node)) (v15 : List (S_api_Node)) (v16 : Int) {F0 : Fz} {w0 : Pt Try.prog} {Q : Exit → Act → World → Prop} (k : Nat) : ∀ (v17 : Int) (o : Sum (Unit) (Bool)), slices_EqualFunc_api_Node_api_Node_api_Node_api_Node__node_Same_l1 R_node_Same n v1 v15 v16 k v17 = some o → (Sum.elim (fun s => To 32 F0 w0 [] [] (.exit 0) Q) (fun s => To 32 F0 w0 [(6, .val (.bool s))] [] .ret Q)) o → WL Try.prog 32 F0 w0 [(1, .recs (α := S_api_Node) (S_api_Node.mk 0 [] [] []) E_api_Node v1), (2, .fn 16 []), (15, .recs (α := S_api_Node) (S_api_Node.mk 0 [] [] []) E_api_Node v15), (16, .val (.int .i64 v16)), (17, .val (.int .i64 v17))] [] (cI (cI (cB (cA (cB (cB (cF Try.f39))))))) Q := by
  induction k with
  | zero => intro v17 o h; cases h
  | succ k ih =>
    intro v17 o h hQ
    rw [slices_EqualFunc_api_Node_api_Node_api_Node_api_Node__node_Same_l1] at h
    refine WL.round ?_
    refine Wp.seq ?_
    refine Wp.region hΓ [] [] [] [1, 2, 15, 16, 17, 18] [] (K' := [(1, .recs (α := S_api_Node) (S_api_Node.mk 0 [] [] []) E_api_Node v1), (2, .fn 16 []), (15, .recs (α := S_api_Node) (S_api_Node.mk 0 [] [] []) E_api_Node v15), (16, .val (.int .i64 v16)), (17, .val (.int .i64 v17)), (18, .val (.bool (decide (v17 < v16))))]) (L' := []) (ob := []) (by kernel_rfl) AllP.nil ?_
    refine To.thenN ?_
    refine Wp.seq ?_
    refine Wp.cond (b := (decide (v17 < v16))) (by kernel_rfl) (fun hb => ?_) (fun hb => ?_)
    · replace h := if_t hb h
      refine Wp.skip ?_
      refine To.thenN ?_
      refine Wp.seq ?_
      refine Wp.block ?_
      refine Wp.seq ?_
      obtain ⟨hc3, h⟩ := chk_of h
      refine Wp.region hΓ [] [] [] [1, 2, 7, 8, 15, 16, 17] [8] (K' := [(1, .recs (α := S_api_Node) (S_api_Node.mk 0 [] [] []) E_api_Node v1), (2, .fn 16 []), (7, .val (.int .i64 v17)), (8, .own 8 0), (15, .recs (α := S_api_Node) (S_api_Node.mk 0 [] [] []) E_api_Node v15), (16, .val (.int .i64 v16)), (17, .val (.int .i64 v17))]) (L' := [(8, 25, [.val (.int .i64 (((v15)[Int.toNat v17]?.getD (S_api_Node.mk 0 [] [] [])).f_Kind)), .str (((v15)[Int.toNat v17]?.getD (S_api_Node.mk 0 [] [] [])).f_Text), .recs (α := List UInt8) [] E_string (((v15)[Int.toNat v17]?.getD (S_api_Node.mk 0 [] [] [])).f_Keys), .tree (α := S_api_Node) (S_api_Node.mk 0 [] [] []) pre_S_api_Node kids_S_api_Node (((v15)[Int.toNat v17]?.getD (S_api_Node.mk 0 [] [] [])).f_Kids)])]) (ob := [(decide (0 ≤ v17 ∧ v17 < (List.length v15 : Int))) = true]) (by kernel_rfl) (AllP.cons hc3 AllP.nil) ?_
      refine To.thenN ?_
      refine Wp.seq ?_
      obtain ⟨hc2, h⟩ := chk_of h
      refine Wp.region hΓ [] [] [] [1, 2, 8, 9, 15, 16, 17] [8, 9] (K' := [(1, .recs (α := S_api_Node) (S_api_Node.mk 0 [] [] []) E_api_Node v1), (2, .fn 16 []), (8, .own 8 0), (9, .own 9 0), (15, .recs (α := S_api_Node) (S_api_Node.mk 0 [] [] []) E_api_Node v15), (16, .val (.int .i64 v16)), (17, .val (.int .i64 v17))]) (L' := [(8, 25, [.val (.int .i64 (((v15)[Int.toNat v17]?.getD (S_api_Node.mk 0 [] [] [])).f_Kind)), .str (((v15)[Int.toNat v17]?.getD (S_api_Node.mk 0 [] [] [])).f_Text), .recs (α := List UInt8) [] E_string (((v15)[Int.toNat v17]?.getD (S_api_Node.mk 0 [] [] [])).f_Keys), .tree (α := S_api_Node) (S_api_Node.mk 0 [] [] []) pre_S_api_Node kids_S_api_Node (((v15)[Int.toNat v17]?.getD (S_api_Node.mk 0 [] [] [])).f_Kids)]), (9, 25, [.val (.int .i64 (((v1)[Int.toNat v17]?.getD (S_api_Node.mk 0 [] [] [])).f_Kind)), .str (((v1)[Int.toNat v17]?.getD (S_api_Node.mk 0 [] [] [])).f_Text), .recs (α := List UInt8) [] E_string (((v1)[Int.toNat v17]?.getD (S_api_Node.mk 0 [] [] [])).f_Keys), .tree (α := S_api_Node) (S_api_Node.mk 0 [] [] []) pre_S_api_Node kids_S_api_Node (((v1)[Int.toNat v17]?.getD (S_api_Node.mk 0 [] [] [])).f_Kids)])]) (ob := [(decide (0 ≤ v17 ∧ v17 < (List.length v1 : Int))) = true]) (by kernel_rfl) (AllP.cons hc2 AllP.nil) ?_
      refine To.thenN ?_
      refine Wp.seq ?_
      obtain ⟨r1, hr1, h⟩ := bind_of h
      refine Wp.region hΓ [] [(3, .val (.bool r1))] [] [1, 2, 15, 16, 17, 30] [] (K' := [(1, .recs (α := S_api_Node) (S_api_Node.mk 0 [] [] []) E_api_Node v1), (2, .fn 16 []), (15, .recs (α := S_api_Node) (S_api_Node.mk 0 [] [] []) E_api_Node v15), (16, .val (.int .i64 v16)), (17, .val (.int .i64 v17)), (30, .val (.bool (!r1)))]) (L' := []) (ob := [(true = true → CX Try.prog 16 [.agg [.val (.int .i64 (((v15)[Int.toNat v17]?.getD (S_api_Node.mk 0 [] [] [])).f_Kind)), .str (((v15)[Int.toNat v17]?.getD (S_api_Node.mk 0 [] [] [])).f_Text), .recs (α := List UInt8) [] E_string (((v15)[Int.toNat v17]?.getD (S_api_Node.mk 0 [] [] [])).f_Keys), .tree (α := S_api_Node) (S_api_Node.mk 0 [] [] []) pre_S_api_Node kids_S_api_Node (((v15)[Int.toNat v17]?.getD (S_api_Node.mk 0 [] [] [])).f_Kids)], .agg [.val (.int .i64 (((v1)[Int.toNat v17]?.getD (S_api_Node.mk 0 [] [] [])).f_Kind)), .str (((v1)[Int.toNat v17]?.getD (S_api_Node.mk 0 [] [] [])).f_Text), .recs (α := List UInt8) [] E_string (((v1)[Int.toNat v17]?.getD (S_api_Node.mk 0 [] [] [])).f_Keys), .tree (α := S_api_Node) (S_api_Node.mk 0 [] [] []) pre_S_api_Node kids_S_api_Node (((v1)[Int.toNat v17]?.getD (S_api_Node.mk 0 [] [] [])).f_Kids)]] (.val (.bool r1)))]) (by kernel_rfl) (AllP.cons (fun _ => cx (hR_node_Same (S_api_Node.mk (((v15)[Int.toNat v17]?.getD (S_api_Node.mk 0 [] [] [])).f_Kind) (((v15)[Int.toNat v17]?.getD (S_api_Node.mk 0 [] [] [])).f_Text) (((v15)[Int.toNat v17]?.getD (S_api_Node.mk 0 [] [] [])).f_Keys) (((v15)[Int.toNat v17]?.getD (S_api_Node.mk 0 [] [] [])).f_Kids)) (S_api_Node.mk (((v1)[Int.toNat v17]?.getD (S_api_Node.mk 0 [] [] [])).f_Kind) (((v1)[Int.toNat v17]?.getD (S_api_Node.mk 0 [] [] [])).f_Text) (((v1)[Int.toNat v17]?.getD (S_api_Node.mk 0 [] [] [])).f_Keys) (((v1)[Int.toNat v17]?.getD (S_api_Node.mk 0 [] [] [])).f_Kids)) _ hr1)) AllP.nil) ?_
      refine To.thenN ?_
      refine Wp.cond (b := (!r1)) (by kernel_rfl) (fun hb => ?_) (fun hb => ?_)
      · replace h := if_t hb h
        refine Wp.seq ?_
        refine Wp.region hΓ [] [] [] [6] [] (K' := [(6, .val (.bool false))]) (L' := []) (ob := []) (by kernel_rfl) AllP.nil ?_
        refine To.thenN ?_
        refine Wp.ret ?_
        refine To.blockR ?_
        refine To.thenR ?_
        refine To.thenR ?_
        refine To.keep (kk := [6]) (kl := []) (K' := [(6, .val (.bool false))]) (L' := []) (by kernel_rfl) (by kernel_rfl) ?_
        cases h
        exact hQ
      · replace h := if_f hb h
        refine Wp.skip ?_
        refine To.blockN ?_
        refine To.thenN ?_
        refine Wp.region hΓ [] [] [] [1, 2, 15, 16, 17] [] (K' := [(1, .recs (α := S_api_Node) (S_api_Node.mk 0 [] [] []) E_api_Node v1), (2, .fn 16 []), (15, .recs (α := S_api_Node) (S_api_Node.mk 0 [] [] []) E_api_Node v15), (16, .val (.int .i64 v16)), (17, .val (.int .i64 (IntKind.wrap .i64 (v17 + 1))))]) (L' := []) (ob := []) (by kernel_rfl) AllP.nil ?_
        refine To.keep (kk := [1, 2, 15, 16, 17]) (kl := []) (K' := [(1, .recs (α := S_api_Node) (S_api_Node.mk 0 [] [] []) E_api_Node v1), (2, .fn 16 []), (15, .recs (α := S_api_Node) (S_api_Node.mk 0 [] [] []) E_api_Node v15), (16, .val (.int .i64 v16)), (17, .val (.int .i64 (IntKind.wrap .i64 (v17 + 1))))]) (L' := []) (by kernel_rfl) (by kernel_rfl) ?_
        refine To.again ?_
        exact ih (IntKind.wrap .i64 (v17 + 1)) _ h hQ
    · replace h := if_f hb h
      refine Wp.exit ?_
      refine To.thenX ?_
      refine To.thenX ?_
      refine To.keep (kk := []) (kl := []) (K' := []) (L' := []) (by kernel_rfl) (by kernel_rfl) ?_
      cases h
      exact hQ
def slices_EqualFunc_api_Node_api_Node_api_Node_api_Node__node_Same (R_node_Same : S_api_Node → S_api_Node → Option (Bool)) (n : Nat) (a0 : List (S_api_Node)) (a1 : List (S_api_Node)) : Option (Bool) :=
  if ((List.length a0 : Int) != (List.length a1 : Int)) = true then some false
  else ((slices_EqualFunc_api_Node_api_Node_api_Node_api_Node__node_Same_l1 R_node_Same n a1 a0 (List.length a0 : Int) n 0).bind fun o1 =>
  (Sum.elim (fun o1 => some true) (fun o1 => some o1)) o1)
theorem ok_slices_EqualFunc_api_Node_api_Node_api_Node_api_Node__node_Same (R_node_Same : S_api_Node → S_api_Node → Option (Bool)) (hR_node_Same : ∀ (a0 : S_api_Node) (a1 : S_api_Node) (r : Bool), R_node_Same a0 a1 = some r → CallsX Try.prog 16 [.agg [.val (.int .i64 a0.f_Kind), .str a0.f_Text, .recs (α := List UInt8) [] E_string a0.f_Keys, .tree (α := S_api_Node) (S_api_Node.mk 0 [] [] []) pre_S_api_Node kids_S_api_Node a0.f_Kids], .agg [.val (.int .i64 a1.f_Kind), .str a1.f_Text, .recs (α := List UInt8) [] E_string a1.f_Keys, .tree (α := S_api_Node) (S_api_Node.mk 0 [] [] []) pre_S_api_Node kids_S_api_Node a1.f_Kids]] (.val (.bool r))) (n : Nat) (a0 : List (S_api_Node)) (a1 : List (S_api_Node)) (r : Bool) (h : slices_EqualFunc_api_Node_api_Node_api_Node_api_Node__node_Same R_node_Same n a0 a1 = some r) : CallsX Try.prog 39 [.recs (α := S_api_Node) (S_api_Node.mk 0 [] [] []) E_api_Node a0, .recs (α := S_api_Node) (S_api_Node.mk 0 [] [] []) E_api_Node a1, .fn 16 []] (.val (.bool r)) := by
  unfold slices_EqualFunc_api_Node_api_Node_api_Node_api_Node__node_Same at h
  refine callsX_of (fn := Try.f39) (by kernel_rfl) rfl (by kernel_rfl) (Nat.le_of_ble_eq_true (by kernel_rfl)) fun F0 w0 _ => ?_
  refine Wp.keep (kk := [0, 1, 2]) (kl := []) (K' := [(0, .recs (α := S_api_Node) (S_api_Node.mk 0 [] [] []) E_api_Node a0), (1, .recs (α := S_api_Node) (S_api_Node.mk 0 [] [] []) E_api_Node a1), (2, .fn 16 [])]) (L' := []) (by kernel_rfl) (by kernel_rfl) ?_
  refine Wp.seq ?_
  refine Wp.region hΓ [] [] [] [0, 1, 2] [] (K' := [(0, .recs (α := S_api_Node) (S_api_Node.mk 0 [] [] []) E_api_Node a0), (1, .recs (α := S_api_Node) (S_api_Node.mk 0 [] [] []) E_api_Node a1), (2, .fn 16 [])]) (L' := []) (ob := []) (by kernel_rfl) AllP.nil ?_
  refine To.thenN ?_
  refine Wp.seq ?_
  refine Wp.seq ?_
  refine Wp.region hΓ [] [] [] [0, 1, 2, 14] [] (K' := [(0, .recs (α := S_api_Node) (S_api_Node.mk 0 [] [] []) E_api_Node a0), (1, .recs (α := S_api_Node) (S_api_Node.mk 0 [] [] []) E_api_Node a1), (2, .fn 16 []), (14, .val (.bool ((List.length a0 : Int) != (List.length a1 : Int))))]) (L' := []) (ob := []) (by kernel_rfl) AllP.nil ?_
  refine To.thenN ?_
  refine Wp.cond (b := ((List.length a0 : Int) != (List.length a1 : Int))) (by kernel_rfl) (fun hb => ?_) (fun hb => ?_)
  · replace h := if_t hb h
    refine Wp.seq ?_
    refine Wp.region hΓ [] [] [] [6] [] (K' := [(6, .val (.bool false))]) (L' := []) (ob := []) (by kernel_rfl) AllP.nil ?_
    refine To.thenN ?_
    refine Wp.ret ?_
    refine To.thenR ?_
    refine To.keep (kk := [6]) (kl := []) (K' := [(6, .val (.bool false))]) (L' := []) (by kernel_rfl) (by kernel_rfl) ?_
    cases h
    exact To.done hΓ (by kernel_rfl)
  · replace h := if_f hb h
    refine Wp.skip ?_
    refine To.thenN ?_
    refine Wp.seq ?_
    refine Wp.seq ?_
    refine Wp.region hΓ [] [] [] [1, 2, 15, 16, 17] [] (K' := [(1, .recs (α := S_api_Node) (S_api_Node.mk 0 [] [] []) E_api_Node a1), (2, .fn 16 []), (15, .recs (α := S_api_Node) (S_api_Node.mk 0 [] [] []) E_api_Node a0), (16, .val (.int .i64 (List.length a0 : Int))), (17, .val (.int .i64 0))]) (L' := []) (ob := []) (by kernel_rfl) AllP.nil ?_
    refine To.thenN ?_
    refine Wp.block ?_
    obtain ⟨o1, ho1, h⟩ := bind_of h
    refine Wp.keep (kk := [1, 2, 15, 16, 17]) (kl := []) (K' := [(1, .recs (α := S_api_Node) (S_api_Node.mk 0 [] [] []) E_api_Node a1), (2, .fn 16 []), (15, .recs (α := S_api_Node) (S_api_Node.mk 0 [] [] []) E_api_Node a0), (16, .val (.int .i64 (List.length a0 : Int))), (17, .val (.int .i64 0))]) (L' := []) (by kernel_rfl) (by kernel_rfl) ?_
    refine Wp.loopL ?_
    refine ok_slices_EqualFunc_api_Node_api_Node_api_Node_api_Node__node_Same_l1 R_node_Same hR_node_Same n a1 a0 (List.length a0 : Int) n 0 o1 ho1 ?_
    rcases o1 with o1 | o1
    · replace h := sum_l h
      refine To.blockX ?_
      refine To.thenN ?_
      refine Wp.seq ?_
      refine Wp.region hΓ [] [] [] [6] [] (K' := [(6, .val (.bool true))]) (L' := []) (ob := []) (by kernel_rfl) AllP.nil ?_
      refine To.thenN ?_
      refine Wp.ret ?_
      refine To.keep (kk := [6]) (kl := []) (K' := [(6, .val (.bool true))]) (L' := []) (by kernel_rfl) (by kernel_rfl) ?_
      cases h
      exact To.done hΓ (by kernel_rfl)
    · replace h := sum_r h
      refine To.blockR ?_
      refine To.thenR ?_
      refine To.keep (kk := [6]) (kl := []) (K' := [(6, .val (.bool o1))]) (L' := []) (by kernel_rfl) (by kernel_rfl) ?_
      cases h
      exact To.done hΓ (by kernel_rfl)
def node_Same_b (R_node_Same : S_api_Node → S_api_Node → Option (Bool)) (n : Nat) (a0 : S_api_Node) (a1 : S_api_Node) : Option (Bool) :=
  ((if ((bif (a0.f_Kind == a1.f_Kind) then (a0.f_Text == a1.f_Text) else false) == true) = true then slices_Equal_string_string n a0.f_Keys a1.f_Keys else some false)).bind fun r1 =>
  ((if ((bif (bif (a0.f_Kind == a1.f_Kind) then (a0.f_Text == a1.f_Text) else false) then r1 else false) == true) = true then slices_EqualFunc_api_Node_api_Node_api_Node_api_Node__node_Same R_node_Same n a0.f_Kids a1.f_Kids else some false)).bind fun r2 =>
  lett ((bif (bif (bif (a0.f_Kind == a1.f_Kind) then (a0.f_Text == a1.f_Text) else false) then r1 else false) then r2 else false) : Bool) fun x3 =>
  some x3
theorem ok_node_Same_b (R_node_Same : S_api_Node → S_api_Node → Option (Bool)) (hR_node_Same : ∀ (a0 : S_api_Node) (a1 : S_api_Node) (r : Bool), R_node_Same a0 a1 = some r → CallsX Try.prog 16 [.agg [.val (.int .i64 a0.f_Kind), .str a0.f_Text, .recs (α := List UInt8) [] E_string a0.f_Keys, .tree (α := S_api_Node) (S_api_Node.mk 0 [] [] []) pre_S_api_Node kids_S_api_Node a0.f_Kids], .agg [.val (.int .i64 a1.f_Kind), .str a1.f_Text, .recs (α := List UInt8) [] E_string a1.f_Keys, .tree (α := S_api_Node) (S_api_Node.mk 0 [] [] []) pre_S_api_Node kids_S_api_Node a1.f_Kids]] (.val (.bool r))) (n : Nat) (a0 : S_api_Node) (a1 : S_api_Node) (r : Bool) (h : node_Same_b R_node_Same n a0 a1 = some r) : CallsX Try.prog 16 [.agg [.val (.int .i64 a0.f_Kind), .str a0.f_Text, .recs (α := List UInt8) [] E_string a0.f_Keys, .tree (α := S_api_Node) (S_api_Node.mk 0 [] [] []) pre_S_api_Node kids_S_api_Node a0.f_Kids], .agg [.val (.int .i64 a1.f_Kind), .str a1.f_Text, .recs (α := List UInt8) [] E_string a1.f_Keys, .tree (α := S_api_Node) (S_api_Node.mk 0 [] [] []) pre_S_api_Node kids_S_api_Node a1.f_Kids]] (.val (.bool r)) := by
  unfold node_Same_b at h
  refine callsX_of (fn := Try.f16) (by kernel_rfl) rfl (by kernel_rfl) (Nat.le_of_ble_eq_true (by kernel_rfl)) fun F0 w0 _ => ?_
  refine Wp.keep (kk := [0, 1]) (kl := []) (K' := [(0, .agg [.val (.int .i64 a0.f_Kind), .str a0.f_Text, .recs (α := List UInt8) [] E_string a0.f_Keys, .tree (α := S_api_Node) (S_api_Node.mk 0 [] [] []) pre_S_api_Node kids_S_api_Node a0.f_Kids]), (1, .agg [.val (.int .i64 a1.f_Kind), .str a1.f_Text, .recs (α := List UInt8) [] E_string a1.f_Keys, .tree (α := S_api_Node) (S_api_Node.mk 0 [] [] []) pre_S_api_Node kids_S_api_Node a1.f_Kids])]) (L' := []) (by kernel_rfl) (by kernel_rfl) ?_
  refine Wp.seq ?_
  refine Wp.region hΓ [] [] [] [2, 3] [2, 3] (K' := [(2, .own 2 0), (3, .own 3 0)]) (L' := [(2, 25, [.val (.int .i64 a0.f_Kind), .str a0.f_Text, .recs (α := List UInt8) [] E_string a0.f_Keys, .tree (α := S_api_Node) (S_api_Node.mk 0 [] [] []) pre_S_api_Node kids_S_api_Node a0.f_Kids]), (3, 25, [.val (.int .i64 a1.f_Kind), .str a1.f_Text, .recs (α := List UInt8) [] E_string a1.f_Keys, .tree (α := S_api_Node) (S_api_Node.mk 0 [] [] []) pre_S_api_Node kids_S_api_Node a1.f_Kids])]) (ob := []) (by kernel_rfl) AllP.nil ?_
  refine To.thenN ?_
  refine Wp.seq ?_
  obtain ⟨r1, hr1, h⟩ := bind_of h
  obtain ⟨r2, hr2, h⟩ := bind_of h
  obtain ⟨x3, hx3, h⟩ := lett_of h
  refine Wp.region hΓ [] [(17, .val (.bool r1)), (24, .val (.bool r2))] [] [4] [] (K' := [(4, .val (.bool (bif (bif (bif (a0.f_Kind == a1.f_Kind) then (a0.f_Text == a1.f_Text) else false) then r1 else false) then r2 else false)))]) (L' := []) (ob := [(((bif (a0.f_Kind == a1.f_Kind) then (a0.f_Text == a1.f_Text) else false) == true) = true → CX Try.prog 38 [.recs (α := List UInt8) [] E_string a0.f_Keys, .recs (α := List UInt8) [] E_string a1.f_Keys] (.val (.bool r1))), (((bif (bif (a0.f_Kind == a1.f_Kind) then (a0.f_Text == a1.f_Text) else false) then r1 else false) == true) = true → CX Try.prog 39 [.recs (α := S_api_Node) (S_api_Node.mk 0 [] [] []) E_api_Node a0.f_Kids, .recs (α := S_api_Node) (S_api_Node.mk 0 [] [] []) E_api_Node a1.f_Kids, .fn 16 []] (.val (.bool r2)))]) (by kernel_rfl) (AllP.cons (fun hg => cx (ok_slices_Equal_string_string n a0.f_Keys a1.f_Keys _ (if_t hg hr1))) (AllP.cons (fun hg => cx (ok_slices_EqualFunc_api_Node_api_Node_api_Node_api_Node__node_Same R_node_Same hR_node_Same n a0.f_Kids a1.f_Kids _ (if_t hg hr2))) AllP.nil)) ?_
  refine To.eq (K' := [(4, .val (.bool x3))]) (L' := []) (by cases hx3; rfl) (by cases hx3; rfl) ?_
  refine To.thenN ?_
  refine Wp.ret ?_
  refine To.keep (kk := [4]) (kl := []) (K' := [(4, .val (.bool x3))]) (L' := []) (by kernel_rfl) (by kernel_rfl) ?_
  cases h
  exact To.done hΓ (by kernel_rfl)
def node_Same : Nat → S_api_Node → S_api_Node → Option (Bool)
  | 0 => fun _ _ => none
  | n + 1 => node_Same_b (node_Same n) n
theorem ok_node_Same (n : Nat) : ∀ (a0 : S_api_Node) (a1 : S_api_Node) (r : Bool), node_Same n a0 a1 = some r → CallsX Try.prog 16 [.agg [.val (.int .i64 a0.f_Kind), .str a0.f_Text, .recs (α := List UInt8) [] E_string a0.f_Keys, .tree (α := S_api_Node) (S_api_Node.mk 0 [] [] []) pre_S_api_Node kids_S_api_Node a0.f_Kids], .agg [.val (.int .i64 a1.f_Kind), .str a1.f_Text, .recs (α := List UInt8) [] E_string a1.f_Keys, .tree (α := S_api_Node) (S_api_Node.mk 0 [] [] []) pre_S_api_Node kids_S_api_Node a1.f_Kids]] (.val (.bool r)) := by
  induction n with
  | zero => intro a0 a1 r h; cases h
  | succ n ih => exact fun a0 a1 r h => ok_node_Same_b (node_Same n) ih n a0 a1 r h
def slices_Clone_string_string_o (n : Nat) (a0 : List (List UInt8)) : Option ((List (List UInt8))) :=
  if (decide ((List.length ([] : List (List UInt8)) + List.length a0) * (16 + 1) ≤ limit)) = true then (some (([] : List (List UInt8)) ++ a0)) else none
theorem ok_slices_Clone_string_string_o (n : Nat) (a0 : List (List UInt8)) (r : (List (List UInt8))) (h : slices_Clone_string_string_o n a0 = some r) : CallsB Try.prog 42 [.recs (α := List UInt8) [] E_string a0] [] (.row 1) [(1, 9, [.rowc false (α := List UInt8) [] E_string r])] := by
  unfold slices_Clone_string_string_o at h
  refine callsB_of (fn := Try.f42) (by kernel_rfl) rfl (by kernel_rfl) (Nat.le_of_ble_eq_true (by kernel_rfl)) fun F0 w0 => ?_
  refine Wp.keep (kk := [0]) (kl := []) (K' := [(0, .recs (α := List UInt8) [] E_string a0)]) (L' := []) (by kernel_rfl) (by kernel_rfl) ?_
  refine Wp.seq ?_
  refine Wp.region hΓ [] [] [] [0] [] (K' := [(0, .recs (α := List UInt8) [] E_string a0)]) (L' := []) (ob := []) (by kernel_rfl) AllP.nil ?_
  refine To.thenN ?_
  refine Wp.seq ?_
  refine Wp.seq ?_
  refine Wp.nilR (e := 9) (neg := false) (t0 := 0) (t3 := 3) (t4 := 4) (α := List UInt8) (d := []) (enc := E_string) (l := a0) Try.underlying22 rfl rfl rfl rfl rfl rfl ⟨Nat.le_of_ble_eq_true (by kernel_rfl), Nat.le_of_ble_eq_true (by kernel_rfl), by decide⟩ (by kernel_rfl) (fun hl => ?_) ?_
  · subst hl
    have h : (some ([] : List (List UInt8))) = some r := by simpa using h
    refine To.thenN ?_
    refine Wp.cond (b := true) (by kernel_rfl) (fun _ => ?_) (fun hb => by cases hb)
    refine Wp.seq ?_
    refine Wp.region hΓ [] [] [] [2] [] (K' := [(2, .val (.slice none 0 0))]) (L' := []) (ob := []) (by kernel_rfl) AllP.nil ?_
    refine To.thenN ?_
    refine Wp.ret ?_
    refine To.thenR ?_
    refine To.keep (kk := [2]) (kl := []) (K' := [(2, .val (.slice none 0 0))]) (L' := []) (by kernel_rfl) (by kernel_rfl) ?_
    refine To.pre (St.vacant (t := 2) (k := 1002) (e := 9) (K' := [(2, .row 1002)]) (good_E_string _) (by decide) (by kernel_rfl) (by kernel_rfl)) ?_
    refine To.keep (kk := [2]) (kl := [1002]) (K' := [(2, .row 1002)]) (L' := [(1002, 9, [.rowc false (α := List UInt8) [] E_string []])]) (by kernel_rfl) (by kernel_rfl) ?_
    refine To.pre (St.rename 1002 1 (by decide) (K' := [(2, .row 1)]) (L' := [(1, 9, [.rowc false (α := List UInt8) [] E_string []])]) (by kernel_rfl) (by kernel_rfl) (by kernel_rfl)) ?_
    cases h
    exact To.doneB hΓ [1] (by kernel_rfl) (by kernel_rfl)
  · refine To.thenN ?_
    refine Wp.cond (b := false) (by kernel_rfl) (fun hb => by cases hb) (fun _ => ?_)
    refine Wp.skip ?_
    refine To.thenN ?_
    refine Wp.seq ?_
    obtain ⟨hc1, h⟩ := chk_of h
    refine Wp.region hΓ [] [(0, .recs (α := List UInt8) [] E_string []), (2, .recs (α := List UInt8) [] E_string (([] : List (List UInt8)) ++ a0))] [] [2] [7] (K' := [(2, .row 7)]) (L' := [(7, 9, [.rowc false (α := List UInt8) [] E_string (([] : List (List UInt8)) ++ a0)])]) (ob := [(MkOb 1 [] 0 (.recs (α := List UInt8) [] E_string []) ∧ GoodR (.recs (α := List UInt8) [] E_string [])), (decide ((List.length ([] : List (List UInt8)) + List.length a0) * (16 + 1) ≤ limit)) = true, (AppOb [] E_string ([] : List (List UInt8)) (List.flatMap E_string a0) (List.length a0) (.recs (α := List UInt8) [] E_string (([] : List (List UInt8)) ++ a0)) ∧ GoodR (.recs (α := List UInt8) [] E_string (([] : List (List UInt8)) ++ a0)))]) (by kernel_rfl) (AllP.cons (mkOb (by kernel_rfl) rfl (by kernel_rfl) (good_E_string _)) (AllP.cons hc1 (AllP.cons (appOb rfl rfl (good_E_string _)) AllP.nil))) ?_
    refine To.thenN ?_
    refine Wp.ret ?_
    refine To.keep (kk := [2]) (kl := [7]) (K' := [(2, .row 7)]) (L' := [(7, 9, [.rowc false (α := List UInt8) [] E_string (([] : List (List UInt8)) ++ a0)])]) (by kernel_rfl) (by kernel_rfl) ?_
    refine To.pre (St.rename 7 1002 (by decide) (K' := [(2, .row 1002)]) (L' := [(1002, 9, [.rowc false (α := List UInt8) [] E_string (([] : List (List UInt8)) ++ a0)])]) (by kernel_rfl) (by kernel_rfl) (by kernel_rfl)) ?_
    refine To.keep (kk := [2]) (kl := [1002]) (K' := [(2, .row 1002)]) (L' := [(1002, 9, [.rowc false (α := List UInt8) [] E_string (([] : List (List UInt8)) ++ a0)])]) (by kernel_rfl) (by kernel_rfl) ?_
    refine To.pre (St.rename 1002 1 (by decide) (K' := [(2, .row 1)]) (L' := [(1, 9, [.rowc false (α := List UInt8) [] E_string (([] : List (List UInt8)) ++ a0)])]) (by kernel_rfl) (by kernel_rfl) (by kernel_rfl)) ?_
    cases h
    exact To.doneB hΓ [1] (by kernel_rfl) (by kernel_rfl)
def slices_Clone_api_Node_api_Node_o (n : Nat) (a0 : List (S_api_Node)) : Option ((List (S_api_Node))) :=
  if (decide ((List.length ([] : List (S_api_Node)) + List.length a0) * (72 + 1) ≤ limit)) = true then (some (([] : List (S_api_Node)) ++ a0)) else none
theorem ok_slices_Clone_api_Node_api_Node_o (n : Nat) (a0 : List (S_api_Node)) (r : (List (S_api_Node))) (h : slices_Clone_api_Node_api_Node_o n a0 = some r) : CallsB Try.prog 43 [.recs (α := S_api_Node) (S_api_Node.mk 0 [] [] []) E_api_Node a0] [] (.row 1) [(1, 25, [.rowc false (α := S_api_Node) (S_api_Node.mk 0 [] [] []) E_api_Node r])] := by
  unfold slices_Clone_api_Node_api_Node_o at h
  refine callsB_of (fn := Try.f43) (by kernel_rfl) rfl (by kernel_rfl) (Nat.le_of_ble_eq_true (by kernel_rfl)) fun F0 w0 => ?_
  refine Wp.keep (kk := [0]) (kl := []) (K' := [(0, .recs (α := S_api_Node) (S_api_Node.mk 0 [] [] []) E_api_Node a0)]) (L' := []) (by kernel_rfl) (by kernel_rfl) ?_
  refine Wp.seq ?_
  refine Wp.region hΓ [] [] [] [0] [] (K' := [(0, .recs (α := S_api_Node) (S_api_Node.mk 0 [] [] []) E_api_Node a0)]) (L' := []) (ob := []) (by kernel_rfl) AllP.nil ?_
  refine To.thenN ?_
  refine Wp.seq ?_
  refine Wp.seq ?_
  refine Wp.nilR (e := 25) (neg := false) (t0 := 0) (t3 := 3) (t4 := 4) (α := S_api_Node) (d := (S_api_Node.mk 0 [] [] [])) (enc := E_api_Node) (l := a0) Try.underlying23 rfl rfl rfl rfl rfl rfl ⟨Nat.le_of_ble_eq_true (by kernel_rfl), Nat.le_of_ble_eq_true (by kernel_rfl), by decide⟩ (by kernel_rfl) (fun hl => ?_) ?_
  · subst hl
    have h : (some ([] : List (S_api_Node))) = some r := by simpa using h
    refine To.thenN ?_
    refine Wp.cond (b := true) (by kernel_rfl) (fun _ => ?_) (fun hb => by cases hb)
    refine Wp.seq ?_
    refine Wp.region hΓ [] [] [] [2] [] (K' := [(2, .val (.slice none 0 0))]) (L' := []) (ob := []) (by kernel_rfl) AllP.nil ?_
    refine To.thenN ?_
    refine Wp.ret ?_
    refine To.thenR ?_
    refine To.keep (kk := [2]) (kl := []) (K' := [(2, .val (.slice none 0 0))]) (L' := []) (by kernel_rfl) (by kernel_rfl) ?_
    refine To.pre (St.vacant (t := 2) (k := 1002) (e := 25) (K' := [(2, .row 1002)]) (good_E_api_Node _) (by decide) (by kernel_rfl) (by kernel_rfl)) ?_
    refine To.keep (kk := [2]) (kl := [1002]) (K' := [(2, .row 1002)]) (L' := [(1002, 25, [.rowc false (α := S_api_Node) (S_api_Node.mk 0 [] [] []) E_api_Node []])]) (by kernel_rfl) (by kernel_rfl) ?_
    refine To.pre (St.rename 1002 1 (by decide) (K' := [(2, .row 1)]) (L' := [(1, 25, [.rowc false (α := S_api_Node) (S_api_Node.mk 0 [] [] []) E_api_Node []])]) (by kernel_rfl) (by kernel_rfl) (by kernel_rfl)) ?_
    cases h
    exact To.doneB hΓ [1] (by kernel_rfl) (by kernel_rfl)
  · refine To.thenN ?_
    refine Wp.cond (b := false) (by kernel_rfl) (fun hb => by cases hb) (fun _ => ?_)
    refine Wp.skip ?_
    refine To.thenN ?_
    refine Wp.seq ?_
    obtain ⟨hc1, h⟩ := chk_of h
    refine Wp.region hΓ [] [(0, .recs (α := S_api_Node) (S_api_Node.mk 0 [] [] []) E_api_Node []), (2, .recs (α := S_api_Node) (S_api_Node.mk 0 [] [] []) E_api_Node (([] : List (S_api_Node)) ++ a0))] [] [2] [7] (K' := [(2, .row 7)]) (L' := [(7, 25, [.rowc false (α := S_api_Node) (S_api_Node.mk 0 [] [] []) E_api_Node (([] : List (S_api_Node)) ++ a0)])]) (ob := [(MkOb 4 [] 0 (.recs (α := S_api_Node) (S_api_Node.mk 0 [] [] []) E_api_Node []) ∧ GoodR (.recs (α := S_api_Node) (S_api_Node.mk 0 [] [] []) E_api_Node [])), (decide ((List.length ([] : List (S_api_Node)) + List.length a0) * (72 + 1) ≤ limit)) = true, (AppOb (S_api_Node.mk 0 [] [] []) E_api_Node ([] : List (S_api_Node)) (List.flatMap E_api_Node a0) (List.length a0) (.recs (α := S_api_Node) (S_api_Node.mk 0 [] [] []) E_api_Node (([] : List (S_api_Node)) ++ a0)) ∧ GoodR (.recs (α := S_api_Node) (S_api_Node.mk 0 [] [] []) E_api_Node (([] : List (S_api_Node)) ++ a0)))]) (by kernel_rfl) (AllP.cons (mkOb (by kernel_rfl) rfl (by kernel_rfl) (good_E_api_Node _)) (AllP.cons hc1 (AllP.cons (appOb rfl rfl (good_E_api_Node _)) AllP.nil))) ?_
    refine To.thenN ?_
    refine Wp.ret ?_
    refine To.keep (kk := [2]) (kl := [7]) (K' := [(2, .row 7)]) (L' := [(7, 25, [.rowc false (α := S_api_Node) (S_api_Node.mk 0 [] [] []) E_api_Node (([] : List (S_api_Node)) ++ a0)])]) (by kernel_rfl) (by kernel_rfl) ?_
    refine To.pre (St.rename 7 1002 (by decide) (K' := [(2, .row 1002)]) (L' := [(1002, 25, [.rowc false (α := S_api_Node) (S_api_Node.mk 0 [] [] []) E_api_Node (([] : List (S_api_Node)) ++ a0)])]) (by kernel_rfl) (by kernel_rfl) (by kernel_rfl)) ?_
    refine To.keep (kk := [2]) (kl := [1002]) (K' := [(2, .row 1002)]) (L' := [(1002, 25, [.rowc false (α := S_api_Node) (S_api_Node.mk 0 [] [] []) E_api_Node (([] : List (S_api_Node)) ++ a0)])]) (by kernel_rfl) (by kernel_rfl) ?_
    refine To.pre (St.rename 1002 1 (by decide) (K' := [(2, .row 1)]) (L' := [(1, 25, [.rowc false (α := S_api_Node) (S_api_Node.mk 0 [] [] []) E_api_Node (([] : List (S_api_Node)) ++ a0)])]) (by kernel_rfl) (by kernel_rfl) (by kernel_rfl)) ?_
    cases h
    exact To.doneB hΓ [1] (by kernel_rfl) (by kernel_rfl)
def node_With (n : Nat) (a0 : S_api_Node) (a1 : List UInt8) (a2 : S_api_Node) : Option (S_api_Node) :=
  if (bif (a0.f_Kind != 3) then (a0.f_Kind != 0) else false) = true then some a0
  else ((slices_Clone_string_string_o n a0.f_Keys).bind fun r1 =>
  (slices_Clone_api_Node_api_Node_o n a0.f_Kids).bind fun r2 =>
  (node_place n (S_api_Node.mk 3 [] r1 r2) a1).bind fun r3 =>
  if (decide (r3 ≥ 0)) = true then (if (decide (0 ≤ r3 ∧ r3 < (List.length r2 : Int))) = true then (some (S_api_Node.mk 3 [] r1 (List.set r2 (Int.toNat r3) a2))) else none)
  else (if (decide ((List.length r1 + List.length ([a1] : List (List UInt8))) * (16 + 1) ≤ limit)) = true then (if (decide ((List.length r2 + List.length ([a2] : List (S_api_Node))) * (72 + 1) ≤ limit)) = true then (some (S_api_Node.mk 3 [] (r1 ++ ([a1] : List (List UInt8))) (r2 ++ ([a2] : List (S_api_Node))))) else none) else none))
theorem ok_node_With (n : Nat) (a0 : S_api_Node) (a1 : List UInt8) (a2 : S_api_Node) (r : S_api_Node) (h : node_With n a0 a1 a2 = some r) : CallsX Try.prog 23 [.agg [.val (.int .i64 a0.f_Kind), .str a0.f_Text, .recs (α := List UInt8) [] E_string a0.f_Keys, .tree (α := S_api_Node) (S_api_Node.mk 0 [] [] []) pre_S_api_Node kids_S_api_Node a0.f_Kids], .str a1, .agg [.val (.int .i64 a2.f_Kind), .str a2.f_Text, .recs (α := List UInt8) [] E_string a2.f_Keys, .tree (α := S_api_Node) (S_api_Node.mk 0 [] [] []) pre_S_api_Node kids_S_api_Node a2.f_Kids]] (.agg [.val (.int .i64 r.f_Kind), .str r.f_Text, .recs (α := List UInt8) [] E_string r.f_Keys, .tree (α := S_api_Node) (S_api_Node.mk 0 [] [] []) pre_S_api_Node kids_S_api_Node r.f_Kids]) := by
  unfold node_With at h
  refine callsX_of (fn := Try.f23) (by kernel_rfl) rfl (by kernel_rfl) (Nat.le_of_ble_eq_true (by kernel_rfl)) fun F0 w0 _ => ?_
  refine Wp.keep (kk := [0, 1, 2]) (kl := []) (K' := [(0, .agg [.val (.int .i64 a0.f_Kind), .str a0.f_Text, .recs (α := List UInt8) [] E_string a0.f_Keys, .tree (α := S_api_Node) (S_api_Node.mk 0 [] [] []) pre_S_api_Node kids_S_api_Node a0.f_Kids]), (1, .str a1), (2, .agg [.val (.int .i64 a2.f_Kind), .str a2.f_Text, .recs (α := List UInt8) [] E_string a2.f_Keys, .tree (α := S_api_Node) (S_api_Node.mk 0 [] [] []) pre_S_api_Node kids_S_api_Node a2.f_Kids])]) (L' := []) (by kernel_rfl) (by kernel_rfl) ?_
  refine Wp.seq ?_
  refine Wp.region hΓ [] [] [] [1, 3, 5, 6] [3, 5, 6] (K' := [(1, .str a1), (3, .own 3 0), (5, .own 5 0), (6, .own 6 0)]) (L' := [(3, 25, [.val (.int .i64 a0.f_Kind), .str a0.f_Text, .recs (α := List UInt8) [] E_string a0.f_Keys, .tree (α := S_api_Node) (S_api_Node.mk 0 [] [] []) pre_S_api_Node kids_S_api_Node a0.f_Kids]), (5, 25, [.val (.int .i64 a2.f_Kind), .str a2.f_Text, .recs (α := List UInt8) [] E_string a2.f_Keys, .tree (α := S_api_Node) (S_api_Node.mk 0 [] [] []) pre_S_api_Node kids_S_api_Node a2.f_Kids]), (6, 25, [.val (.int .i64 0), .str [], .val (.slice none 0 0), .val (.slice none 0 0)])]) (ob := []) (by kernel_rfl) AllP.nil ?_
  refine To.thenN ?_
  refine Wp.seq ?_
  refine Wp.seq ?_
  refine Wp.region hΓ [] [] [] [1, 3, 5, 6, 16] [3, 5, 6] (K' := [(1, .str a1), (3, .own 3 0), (5, .own 5 0), (6, .own 6 0), (16, .val (.bool (bif (a0.f_Kind != 3) then (a0.f_Kind != 0) else false)))]) (L' := [(3, 25, [.val (.int .i64 a0.f_Kind), .str a0.f_Text, .recs (α := List UInt8) [] E_string a0.f_Keys, .tree (α := S_api_Node) (S_api_Node.mk 0 [] [] []) pre_S_api_Node kids_S_api_Node a0.f_Kids]), (5, 25, [.val (.int .i64 a2.f_Kind), .str a2.f_Text, .recs (α := List UInt8) [] E_string a2.f_Keys, .tree (α := S_api_Node) (S_api_Node.mk 0 [] [] []) pre_S_api_Node kids_S_api_Node a2.f_Kids]), (6, 25, [.val (.int .i64 0), .str [], .val (.slice none 0 0), .val (.slice none 0 0)])]) (ob := []) (by kernel_rfl) AllP.nil ?_
  refine To.thenN ?_
  refine Wp.cond (b := (bif (a0.f_Kind != 3) then (a0.f_Kind != 0) else false)) (by kernel_rfl) (fun hb => ?_) (fun hb => ?_)
  · replace h := if_t hb h
    refine Wp.seq ?_
    refine Wp.region hΓ [] [] [] [6] [6] (K' := [(6, .own 6 0)]) (L' := [(6, 25, [.val (.int .i64 a0.f_Kind), .str a0.f_Text, .recs (α := List UInt8) [] E_string a0.f_Keys, .tree (α := S_api_Node) (S_api_Node.mk 0 [] [] []) pre_S_api_Node kids_S_api_Node a0.f_Kids])]) (ob := []) (by kernel_rfl) AllP.nil ?_
    refine To.thenN ?_
    refine Wp.ret ?_
    refine To.thenR ?_
    refine To.keep (kk := [6]) (kl := [6]) (K' := [(6, .own 6 0)]) (L' := [(6, 25, [.val (.int .i64 a0.f_Kind), .str a0.f_Text, .recs (α := List UInt8) [] E_string a0.f_Keys, .tree (α := S_api_Node) (S_api_Node.mk 0 [] [] []) pre_S_api_Node kids_S_api_Node a0.f_Kids])]) (by kernel_rfl) (by kernel_rfl) ?_
    cases h
    exact To.done hΓ (by kernel_rfl)
  · replace h := if_f hb h
    refine Wp.skip ?_
    refine To.thenN ?_
    refine Wp.seq ?_
    obtain ⟨r1, hr1, h⟩ := bind_of h
    obtain ⟨r2, hr2, h⟩ := bind_of h
    refine Wp.regionO hm hΓ [] [] [(2, ⟨[], [(1, 20)], [.recs (α := List UInt8) [] E_string a0.f_Keys], [], .row 1, [(1, 9, [.rowc false (α := List UInt8) [] E_string r1])]⟩), (5, ⟨[], [(1, 23)], [.recs (α := S_api_Node) (S_api_Node.mk 0 [] [] []) E_api_Node a0.f_Kids], [], .row 1, [(1, 25, [.rowc false (α := S_api_Node) (S_api_Node.mk 0 [] [] []) E_api_Node r2])]⟩)] [1, 3, 5, 6, 7, 16, 18, 19, 20, 21, 22, 23, 24] [3, 5, 6, 7, 20, 23] [1, 5, 6, 7] [5, 6, 7, 20, 23] (K' := [(1, .str a1), (5, .own 5 0), (6, .own 6 0), (7, .own 7 0)]) (L' := [(5, 25, [.val (.int .i64 a2.f_Kind), .str a2.f_Text, .recs (α := List UInt8) [] E_string a2.f_Keys, .tree (α := S_api_Node) (S_api_Node.mk 0 [] [] []) pre_S_api_Node kids_S_api_Node a2.f_Kids]), (6, 25, [.val (.int .i64 0), .str [], .val (.slice none 0 0), .val (.slice none 0 0)]), (7, 25, [.val (.int .i64 3), .str [], .row 20, .row 23]), (20, 9, [.rowc false (α := List UInt8) [] E_string r1]), (23, 25, [.rowc false (α := S_api_Node) (S_api_Node.mk 0 [] [] []) E_api_Node r2])]) (ob := [CbOb (CallsB Try.prog) 42 [.recs (α := List UInt8) [] E_string a0.f_Keys] [] ⟨[], [(1, 20)], [.recs (α := List UInt8) [] E_string a0.f_Keys], [], .row 1, [(1, 9, [.rowc false (α := List UInt8) [] E_string r1])]⟩, CbOb (CallsB Try.prog) 43 [.recs (α := S_api_Node) (S_api_Node.mk 0 [] [] []) E_api_Node a0.f_Kids] [] ⟨[], [(1, 23)], [.recs (α := S_api_Node) (S_api_Node.mk 0 [] [] []) E_api_Node a0.f_Kids], [], .row 1, [(1, 25, [.rowc false (α := S_api_Node) (S_api_Node.mk 0 [] [] []) E_api_Node r2])]⟩]) (by kernel_rfl) (by kernel_rfl) (AllP.cons (⟨(ok_slices_Clone_string_string_o n a0.f_Keys _ hr1), by kernel_rfl, by kernel_rfl⟩) (AllP.cons (⟨(ok_slices_Clone_api_Node_api_Node_o n a0.f_Kids _ hr2), by kernel_rfl, by kernel_rfl⟩) AllP.nil)) ?_
    refine To.thenN ?_
    refine Wp.seq ?_
    refine Wp.seq ?_
    obtain ⟨r3, hr3, h⟩ := bind_of h
    refine Wp.region hΓ [] [] [(2, ⟨[(1000000, 20), (1000001, 23)], [(1000000, 20), (1000001, 23)], [.agg [.val (.int .i64 3), .str [], .row 1000000, .row 1000001], .str a1], [(1000000, 9, [.rowc false (α := List UInt8) [] E_string r1]), (1000001, 25, [.rowc false (α := S_api_Node) (S_api_Node.mk 0 [] [] []) E_api_Node r2])], .val (.int .i64 r3), [(1000000, 9, [.rowc false (α := List UInt8) [] E_string r1]), (1000001, 25, [.rowc false (α := S_api_Node) (S_api_Node.mk 0 [] [] []) E_api_Node r2])]⟩)] [1, 5, 6, 7, 8] [5, 6, 7, 20, 23] (K' := [(1, .str a1), (5, .own 5 0), (6, .own 6 0), (7, .own 7 0), (8, .val (.int .i64 r3))]) (L' := [(5, 25, [.val (.int .i64 a2.f_Kind), .str a2.f_Text, .recs (α := List UInt8) [] E_string a2.f_Keys, .tree (α := S_api_Node) (S_api_Node.mk 0 [] [] []) pre_S_api_Node kids_S_api_Node a2.f_Kids]), (6, 25, [.val (.int .i64 0), .str [], .val (.slice none 0 0), .val (.slice none 0 0)]), (7, 25, [.val (.int .i64 3), .str [], .row 20, .row 23]), (20, 9, [.rowc false (α := List UInt8) [] E_string r1]), (23, 25, [.rowc false (α := S_api_Node) (S_api_Node.mk 0 [] [] []) E_api_Node r2])]) (ob := [CbOb (CallsB Try.prog) 40 [.agg [.val (.int .i64 3), .str [], .row 20, .row 23], .str a1] [some (9, [.rowc false (α := List UInt8) [] E_string r1]), some (25, [.rowc false (α := S_api_Node) (S_api_Node.mk 0 [] [] []) E_api_Node r2])] ⟨[(1000000, 20), (1000001, 23)], [(1000000, 20), (1000001, 23)], [.agg [.val (.int .i64 3), .str [], .row 1000000, .row 1000001], .str a1], [(1000000, 9, [.rowc false (α := List UInt8) [] E_string r1]), (1000001, 25, [.rowc false (α := S_api_Node) (S_api_Node.mk 0 [] [] []) E_api_Node r2])], .val (.int .i64 r3), [(1000000, 9, [.rowc false (α := List UInt8) [] E_string r1]), (1000001, 25, [.rowc false (α := S_api_Node) (S_api_Node.mk 0 [] [] []) E_api_Node r2])]⟩]) (by kernel_rfl) (AllP.cons (⟨callsB_borrow (callsX_args (.cons (.agg (.cons (.refl _) (.cons (.refl _) (.cons (.refl _) (.cons (.close _ _ _ _) .nil))))) (.cons (.refl _) .nil)) (ok_node_place n (S_api_Node.mk 3 [] r1 r2) a1 _ hr3)) (by kernel_rfl) (by kernel_rfl) (by kernel_rfl), by kernel_rfl, by kernel_rfl⟩) AllP.nil) ?_
    refine To.thenN ?_
    refine Wp.seq ?_
    refine Wp.region hΓ [] [] [] [1, 5, 6, 7, 8, 29] [5, 6, 7, 20, 23] (K' := [(1, .str a1), (5, .own 5 0), (6, .own 6 0), (7, .own 7 0), (8, .val (.int .i64 r3)), (29, .val (.bool (decide (r3 ≥ 0))))]) (L' := [(5, 25, [.val (.int .i64 a2.f_Kind), .str a2.f_Text, .recs (α := List UInt8) [] E_string a2.f_Keys, .tree (α := S_api_Node) (S_api_Node.mk 0 [] [] []) pre_S_api_Node kids_S_api_Node a2.f_Kids]), (6, 25, [.val (.int .i64 0), .str [], .val (.slice none 0 0), .val (.slice none 0 0)]), (7, 25, [.val (.int .i64 3), .str [], .row 20, .row 23]), (20, 9, [.rowc false (α := List UInt8) [] E_string r1]), (23, 25, [.rowc false (α := S_api_Node) (S_api_Node.mk 0 [] [] []) E_api_Node r2])]) (ob := []) (by kernel_rfl) AllP.nil ?_
    refine To.thenN ?_
    refine Wp.cond (b := (decide (r3 ≥ 0))) (by kernel_rfl) (fun hb => ?_) (fun hb => ?_)
    · replace h := if_t hb h
      refine Wp.seq ?_
      obtain ⟨hc4, h⟩ := chk_of h
      refine Wp.region hΓ [] [(5, .recs (α := S_api_Node) (S_api_Node.mk 0 [] [] []) E_api_Node (List.set r2 (Int.toNat r3) a2))] [] [6, 7] [6, 7, 20, 23] (K' := [(6, .own 6 0), (7, .own 7 0)]) (L' := [(6, 25, [.val (.int .i64 0), .str [], .val (.slice none 0 0), .val (.slice none 0 0)]), (7, 25, [.val (.int .i64 3), .str [], .row 20, .row 23]), (20, 9, [.rowc false (α := List UInt8) [] E_string r1]), (23, 25, [.rowc false (α := S_api_Node) (S_api_Node.mk 0 [] [] []) E_api_Node (List.set r2 (Int.toNat r3) a2)])]) (ob := [(decide (0 ≤ r3 ∧ r3 < (List.length r2 : Int))) = true, (decide (0 ≤ r3 ∧ r3 < (List.length r2 : Int))) = true, UpdOb (S_api_Node.mk 0 [] [] []) E_api_Node r2 r3 0 [.val (.int .i64 a2.f_Kind), .str a2.f_Text, .recs (α := List UInt8) [] E_string a2.f_Keys, .tree (α := S_api_Node) (S_api_Node.mk 0 [] [] []) pre_S_api_Node kids_S_api_Node a2.f_Kids] (.recs (α := S_api_Node) (S_api_Node.mk 0 [] [] []) E_api_Node (List.set r2 (Int.toNat r3) a2))]) (by kernel_rfl) (AllP.cons hc4 (AllP.cons hc4 (AllP.cons (updOb (by kernel_rfl)) AllP.nil))) ?_
      refine To.thenN ?_
      refine Wp.seq ?_
      refine Wp.region hΓ [] [] [] [6] [6, 20, 23] (K' := [(6, .own 6 0)]) (L' := [(6, 25, [.val (.int .i64 3), .str [], .row 20, .row 23]), (20, 9, [.rowc false (α := List UInt8) [] E_string r1]), (23, 25, [.rowc false (α := S_api_Node) (S_api_Node.mk 0 [] [] []) E_api_Node (List.set r2 (Int.toNat r3) a2)])]) (ob := []) (by kernel_rfl) AllP.nil ?_
      refine To.thenN ?_
      refine Wp.ret ?_
      refine To.thenR ?_
      refine To.keep (kk := [6]) (kl := [6, 20, 23]) (K' := [(6, .own 6 0)]) (L' := [(6, 25, [.val (.int .i64 3), .str [], .row 20, .row 23]), (20, 9, [.rowc false (α := List UInt8) [] E_string r1]), (23, 25, [.rowc false (α := S_api_Node) (S_api_Node.mk 0 [] [] []) E_api_Node (List.set r2 (Int.toNat r3) a2)])]) (by kernel_rfl) (by kernel_rfl) ?_
      refine To.pre (St.settle (ks := [20, 23]) (kk := [6]) (kl := [6, 20, 23]) (K' := [(6, .own 6 0)]) (L' := [(6, 25, [.val (.int .i64 3), .str [], .row 20, .row 23]), (20, 9, [.rowc true (α := List UInt8) [] E_string r1]), (23, 25, [.rowc true (α := S_api_Node) (S_api_Node.mk 0 [] [] []) E_api_Node (List.set r2 (Int.toNat r3) a2)])]) (by kernel_rfl)) ?_
      refine To.pre (St.sealB [6] (L' := [(6, 25, [.val (.int .i64 3), .str [], .recs (α := List UInt8) [] E_string r1, .recs (α := S_api_Node) (S_api_Node.mk 0 [] [] []) E_api_Node (List.set r2 (Int.toNat r3) a2)]), (20, 9, [.rowc true (α := List UInt8) [] E_string r1]), (23, 25, [.rowc true (α := S_api_Node) (S_api_Node.mk 0 [] [] []) E_api_Node (List.set r2 (Int.toNat r3) a2)])]) (by kernel_rfl)) ?_
      refine To.weak (K' := [(6, .own 6 0)]) (L' := [(6, 25, [.val (.int .i64 3), .str [], .recs (α := List UInt8) [] E_string r1, .tree (α := S_api_Node) (S_api_Node.mk 0 [] [] []) pre_S_api_Node kids_S_api_Node (List.set r2 (Int.toNat r3) a2)]), (20, 9, [.rowc true (α := List UInt8) [] E_string r1]), (23, 25, [.rowc true (α := S_api_Node) (S_api_Node.mk 0 [] [] []) E_api_Node (List.set r2 (Int.toNat r3) a2)])]) (.cons (.refl _) .nil) (.cons (.cons (.refl _) (.cons (.refl _) (.cons (.refl _) (.cons (.close _ _ _ _) .nil)))) (.cons (.cons (.refl _) .nil) (.cons (.cons (.refl _) .nil) .nil))) ?_
      refine To.keep (kk := [6]) (kl := [6]) (K' := [(6, .own 6 0)]) (L' := [(6, 25, [.val (.int .i64 3), .str [], .recs (α := List UInt8) [] E_string r1, .tree (α := S_api_Node) (S_api_Node.mk 0 [] [] []) pre_S_api_Node kids_S_api_Node (List.set r2 (Int.toNat r3) a2)])]) (by kernel_rfl) (by kernel_rfl) ?_
      cases h
      exact To.done hΓ (by kernel_rfl)
    · replace h := if_f hb h
      refine Wp.skip ?_
      refine To.thenN ?_
      refine Wp.seq ?_
      obtain ⟨hc5, h⟩ := chk_of h
      obtain ⟨hc6, h⟩ := chk_of h
      refine Wp.regionO hm hΓ [] [(3, .recs (α := List UInt8) [] E_string [a1]), (4, .recs (α := List UInt8) [] E_string (r1 ++ ([a1] : List (List UInt8)))), (8, .recs (α := S_api_Node) (S_api_Node.mk 0 [] [] []) E_api_Node [a2]), (9, .recs (α := S_api_Node) (S_api_Node.mk 0 [] [] []) E_api_Node (r2 ++ ([a2] : List (S_api_Node))))] [] [1, 5, 6, 7, 8, 29, 36, 37, 38, 39, 40, 41, 42, 43, 44, 45, 46, 47] [5, 6, 7, 20, 23, 39, 40, 44, 45] [6, 7] [6, 7, 40, 45] (K' := [(6, .own 6 0), (7, .own 7 0)]) (L' := [(6, 25, [.val (.int .i64 0), .str [], .val (.slice none 0 0), .val (.slice none 0 0)]), (7, 25, [.val (.int .i64 3), .str [], .row 40, .row 45]), (40, 9, [.rowc false (α := List UInt8) [] E_string (r1 ++ ([a1] : List (List UInt8)))]), (45, 25, [.rowc false (α := S_api_Node) (S_api_Node.mk 0 [] [] []) E_api_Node (r2 ++ ([a2] : List (S_api_Node)))])]) (ob := [(MkOb 1 [.str a1] 1 (.recs (α := List UInt8) [] E_string [a1]) ∧ GoodR (.recs (α := List UInt8) [] E_string [a1])), (decide ((List.length r1 + List.length ([a1] : List (List UInt8))) * (16 + 1) ≤ limit)) = true, (AppOb [] E_string r1 (List.flatMap E_string ([a1] : List (List UInt8))) (List.length ([a1] : List (List UInt8))) (.recs (α := List UInt8) [] E_string (r1 ++ ([a1] : List (List UInt8)))) ∧ GoodR (.recs (α := List UInt8) [] E_string (r1 ++ ([a1] : List (List UInt8))))), (MkOb 4 [.val (.int .i64 a2.f_Kind), .str a2.f_Text, .recs (α := List UInt8) [] E_string a2.f_Keys, .tree (α := S_api_Node) (S_api_Node.mk 0 [] [] []) pre_S_api_Node kids_S_api_Node a2.f_Kids] 1 (.recs (α := S_api_Node) (S_api_Node.mk 0 [] [] []) E_api_Node [a2]) ∧ GoodR (.recs (α := S_api_Node) (S_api_Node.mk 0 [] [] []) E_api_Node [a2])), (decide ((List.length r2 + List.length ([a2] : List (S_api_Node))) * (72 + 1) ≤ limit)) = true, (AppOb (S_api_Node.mk 0 [] [] []) E_api_Node r2 (List.flatMap E_api_Node ([a2] : List (S_api_Node))) (List.length ([a2] : List (S_api_Node))) (.recs (α := S_api_Node) (S_api_Node.mk 0 [] [] []) E_api_Node (r2 ++ ([a2] : List (S_api_Node)))) ∧ GoodR (.recs (α := S_api_Node) (S_api_Node.mk 0 [] [] []) E_api_Node (r2 ++ ([a2] : List (S_api_Node)))))]) (by kernel_rfl) (by kernel_rfl) (AllP.cons (mkOb (by kernel_rfl) rfl (by kernel_rfl) (good_E_string _)) (AllP.cons hc5 (AllP.cons (appOb rfl rfl (good_E_string _)) (AllP.cons (mkOb (by kernel_rfl) rfl (by kernel_rfl) (good_E_api_Node _)) (AllP.cons hc6 (AllP.cons (appOb rfl rfl (good_E_api_Node _)) AllP.nil)))))) ?_
      refine To.thenN ?_
      refine Wp.seq ?_
      refine Wp.region hΓ [] [] [] [6] [6, 40, 45] (K' := [(6, .own 6 0)]) (L' := [(6, 25, [.val (.int .i64 3), .str [], .row 40, .row 45]), (40, 9, [.rowc false (α := List UInt8) [] E_string (r1 ++ ([a1] : List (List UInt8)))]), (45, 25, [.rowc false (α := S_api_Node) (S_api_Node.mk 0 [] [] []) E_api_Node (r2 ++ ([a2] : List (S_api_Node)))])]) (ob := []) (by kernel_rfl) AllP.nil ?_
      refine To.thenN ?_
      refine Wp.ret ?_
      refine To.keep (kk := [6]) (kl := [6, 40, 45]) (K' := [(6, .own 6 0)]) (L' := [(6, 25, [.val (.int .i64 3), .str [], .row 40, .row 45]), (40, 9, [.rowc false (α := List UInt8) [] E_string (r1 ++ ([a1] : List (List UInt8)))]), (45, 25, [.rowc false (α := S_api_Node) (S_api_Node.mk 0 [] [] []) E_api_Node (r2 ++ ([a2] : List (S_api_Node)))])]) (by kernel_rfl) (by kernel_rfl) ?_
      refine To.pre (St.settle (ks := [40, 45]) (kk := [6]) (kl := [6, 40, 45]) (K' := [(6, .own 6 0)]) (L' := [(6, 25, [.val (.int .i64 3), .str [], .row 40, .row 45]), (40, 9, [.rowc true (α := List UInt8) [] E_string (r1 ++ ([a1] : List (List UInt8)))]), (45, 25, [.rowc true (α := S_api_Node) (S_api_Node.mk 0 [] [] []) E_api_Node (r2 ++ ([a2] : List (S_api_Node)))])]) (by kernel_rfl)) ?_
      refine To.pre (St.sealB [6] (L' := [(6, 25, [.val (.int .i64 3), .str [], .recs (α := List UInt8) [] E_string (r1 ++ ([a1] : List (List UInt8))), .recs (α := S_api_Node) (S_api_Node.mk 0 [] [] []) E_api_Node (r2 ++ ([a2] : List (S_api_Node)))]), (40, 9, [.rowc true (α := List UInt8) [] E_string (r1 ++ ([a1] : List (List UInt8)))]), (45, 25, [.rowc true (α := S_api_Node) (S_api_Node.mk 0 [] [] []) E_api_Node (r2 ++ ([a2] : List (S_api_Node)))])]) (by kernel_rfl)) ?_
      refine To.weak (K' := [(6, .own 6 0)]) (L' := [(6, 25, [.val (.int .i64 3), .str [], .recs (α := List UInt8) [] E_string (r1 ++ ([a1] : List (List UInt8))), .tree (α := S_api_Node) (S_api_Node.mk 0 [] [] []) pre_S_api_Node kids_S_api_Node (r2 ++ ([a2] : List (S_api_Node)))]), (40, 9, [.rowc true (α := List UInt8) [] E_string (r1 ++ ([a1] : List (List UInt8)))]), (45, 25, [.rowc true (α := S_api_Node) (S_api_Node.mk 0 [] [] []) E_api_Node (r2 ++ ([a2] : List (S_api_Node)))])]) (.cons (.refl _) .nil) (.cons (.cons (.refl _) (.cons (.refl _) (.cons (.refl _) (.cons (.close _ _ _ _) .nil)))) (.cons (.cons (.refl _) .nil) (.cons (.cons (.refl _) .nil) .nil))) ?_
      refine To.keep (kk := [6]) (kl := [6]) (K' := [(6, .own 6 0)]) (L' := [(6, 25, [.val (.int .i64 3), .str [], .recs (α := List UInt8) [] E_string (r1 ++ ([a1] : List (List UInt8))), .tree (α := S_api_Node) (S_api_Node.mk 0 [] [] []) pre_S_api_Node kids_S_api_Node (r2 ++ ([a2] : List (S_api_Node)))])]) (by kernel_rfl) (by kernel_rfl) ?_
      cases h
      exact To.done hΓ (by kernel_rfl)
def ref08_With_j2 (n : Nat) (v1 : List UInt8) (v8 : Bool) (v9 : Int) (b3 : S_api_Node) (b5 : S_api_Node) (b6 : S_api_Node) (b7 : S_api_Node) : Option (Bool × S_api_Node) :=
  if (decide (0 ≤ v9 ∧ v9 < (List.length b3.f_Keys : Int))) = true then (if (decide ((List.length b7.f_Keys + List.length ([((b3.f_Keys)[Int.toNat v9]?.getD [])] : List (List UInt8))) * (16 + 1) ≤ limit)) = true then (if (decide (0 ≤ v9 ∧ v9 < (List.length b3.f_Keys : Int))) = true then (if (((b3.f_Keys)[Int.toNat v9]?.getD []) == v1) = true then (if (decide ((List.length b7.f_Kids + List.length ([b5] : List (S_api_Node))) * (72 + 1) ≤ limit)) = true then (some (true, (S_api_Node.mk b7.f_Kind b7.f_Text (b7.f_Keys ++ ([((b3.f_Keys)[Int.toNat v9]?.getD [])] : List (List UInt8))) (b7.f_Kids ++ ([b5] : List (S_api_Node)))))) else none)
  else (if (decide (0 ≤ v9 ∧ v9 < (List.length b3.f_Kids : Int))) = true then (if (decide ((List.length b7.f_Kids + List.length ([(S_api_Node.mk (((b3.f_Kids)[Int.toNat v9]?.getD (S_api_Node.mk 0 [] [] [])).f_Kind) (((b3.f_Kids)[Int.toNat v9]?.getD (S_api_Node.mk 0 [] [] [])).f_Text) (((b3.f_Kids)[Int.toNat v9]?.getD (S_api_Node.mk 0 [] [] [])).f_Keys) (((b3.f_Kids)[Int.toNat v9]?.getD (S_api_Node.mk 0 [] [] [])).f_Kids))] : List (S_api_Node))) * (72 + 1) ≤ limit)) = true then (lett ((b7.f_Kids ++ ([(S_api_Node.mk (((b3.f_Kids)[Int.toNat v9]?.getD (S_api_Node.mk 0 [] [] [])).f_Kind) (((b3.f_Kids)[Int.toNat v9]?.getD (S_api_Node.mk 0 [] [] [])).f_Text) (((b3.f_Kids)[Int.toNat v9]?.getD (S_api_Node.mk 0 [] [] [])).f_Keys) (((b3.f_Kids)[Int.toNat v9]?.getD (S_api_Node.mk 0 [] [] [])).f_Kids))] : List (S_api_Node))) : List (S_api_Node)) fun x2 =>
  some (v8, (S_api_Node.mk b7.f_Kind b7.f_Text (b7.f_Keys ++ ([((b3.f_Keys)[Int.toNat v9]?.getD [])] : List (List UInt8))) x2))) else none) else none)) else none) else none) else none
theorem ok_ref08_With_j2 (n : Nat) (v1 : List UInt8) (v8 : Bool) (v9 : Int) (b3 : S_api_Node) (b5 : S_api_Node) (b6 : S_api_Node) (b7 : S_api_Node) (o : Bool × S_api_Node) (h : ref08_With_j2 n v1 v8 v9 b3 b5 b6 b7 = some o) {F0 : Fz} {w0 : Pt Try.prog} {Q : Exit → Act → World → Prop} (hQ : To 75 F0 w0 [(1, .str v1), (3, .own 3 0), (5, .own 5 0), (6, .own 6 0), (7, .own 7 0), (8, .val (.bool o.1)), (9, .val (.int .i64 v9))] [(3, 25, [.val (.int .i64 b3.f_Kind), .str b3.f_Text, .recs (α := List UInt8) [] E_string b3.f_Keys, .tree (α := S_api_Node) (S_api_Node.mk 0 [] [] []) pre_S_api_Node kids_S_api_Node b3.f_Kids]), (5, 25, [.val (.int .i64 b5.f_Kind), .str b5.f_Text, .recs (α := List UInt8) [] E_string b5.f_Keys, .tree (α := S_api_Node) (S_api_Node.mk 0 [] [] []) pre_S_api_Node kids_S_api_Node b5.f_Kids]), (6, 25, [.val (.int .i64 b6.f_Kind), .str b6.f_Text, .recs (α := List UInt8) [] E_string b6.f_Keys, .tree (α := S_api_Node) (S_api_Node.mk 0 [] [] []) pre_S_api_Node kids_S_api_Node b6.f_Kids]), (7, 25, [.val (.int .i64 o.2.f_Kind), .str o.2.f_Text, .row 4422, .row 4423]), (4422, 9, [.rowc false (α := List UInt8) [] E_string o.2.f_Keys]), (4423, 25, [.rowc false (α := S_api_Node) (S_api_Node.mk 0 [] [] []) E_api_Node o.2.f_Kids])] .normal Q) : Wp Try.prog 75 F0 w0 [(1, .str v1), (3, .own 3 0), (5, .own 5 0), (6, .own 6 0), (7, .own 7 0), (8, .val (.bool v8)), (9, .val (.int .i64 v9))] [(3, 25, [.val (.int .i64 b3.f_Kind), .str b3.f_Text, .recs (α := List UInt8) [] E_string b3.f_Keys, .tree (α := S_api_Node) (S_api_Node.mk 0 [] [] []) pre_S_api_Node kids_S_api_Node b3.f_Kids]), (5, 25, [.val (.int .i64 b5.f_Kind), .str b5.f_Text, .recs (α := List UInt8) [] E_string b5.f_Keys, .tree (α := S_api_Node) (S_api_Node.mk 0 [] [] []) pre_S_api_Node kids_S_api_Node b5.f_Kids]), (6, 25, [.val (.int .i64 b6.f_Kind), .str b6.f_Text, .recs (α := List UInt8) [] E_string b6.f_Keys, .tree (α := S_api_Node) (S_api_Node.mk 0 [] [] []) pre_S_api_Node kids_S_api_Node b6.f_Kids]), (7, 25, [.val (.int .i64 b7.f_Kind), .str b7.f_Text, .row 4422, .row 4423]), (4422, 9, [.rowc false (α := List UInt8) [] E_string b7.f_Keys]), (4423, 25, [.rowc false (α := S_api_Node) (S_api_Node.mk 0 [] [] []) E_api_Node b7.f_Kids])] (cA (cB (cI (cI (cB (cA (cB (cB (cB (cB (cF Try.f24))))))))))) Q := by
  unfold ref08_With_j2 at h
  refine Wp.block ?_
  refine Wp.seq ?_
  obtain ⟨hc6, h⟩ := chk_of h
  obtain ⟨hc7, h⟩ := chk_of h
  refine Wp.regionD hm hΓ [(7, .recs (α := List UInt8) [] E_string ([((b3.f_Keys)[Int.toNat v9]?.getD [])])), (8, .row 35), (1008, .recs (α := List UInt8) [] E_string (b7.f_Keys ++ ([((b3.f_Keys)[Int.toNat v9]?.getD [])] : List (List UInt8))))] [1, 3, 5, 6, 7, 8, 9] [3, 5, 6, 7, 35, 4423] (K' := [(1, .str v1), (3, .own 3 0), (5, .own 5 0), (6, .own 6 0), (7, .own 7 0), (8, .val (.bool v8)), (9, .val (.int .i64 v9))]) (L' := [(3, 25, [.val (.int .i64 b3.f_Kind), .str b3.f_Text, .recs (α := List UInt8) [] E_string b3.f_Keys, .tree (α := S_api_Node) (S_api_Node.mk 0 [] [] []) pre_S_api_Node kids_S_api_Node b3.f_Kids]), (5, 25, [.val (.int .i64 b5.f_Kind), .str b5.f_Text, .recs (α := List UInt8) [] E_string b5.f_Keys, .tree (α := S_api_Node) (S_api_Node.mk 0 [] [] []) pre_S_api_Node kids_S_api_Node b5.f_Kids]), (6, 25, [.val (.int .i64 b6.f_Kind), .str b6.f_Text, .recs (α := List UInt8) [] E_string b6.f_Keys, .tree (α := S_api_Node) (S_api_Node.mk 0 [] [] []) pre_S_api_Node kids_S_api_Node b6.f_Kids]), (7, 25, [.val (.int .i64 b7.f_Kind), .str b7.f_Text, .row 35, .row 4423]), (35, 9, [.rowc false (α := List UInt8) [] E_string (b7.f_Keys ++ ([((b3.f_Keys)[Int.toNat v9]?.getD [])] : List (List UInt8)))]), (4423, 25, [.rowc false (α := S_api_Node) (S_api_Node.mk 0 [] [] []) E_api_Node b7.f_Kids])]) (ob := [(decide (0 ≤ v9 ∧ v9 < (List.length b3.f_Keys : Int))) = true, (true = true → MkOb 1 [.str ((b3.f_Keys)[Int.toNat v9]?.getD [])] 1 (.recs (α := List UInt8) [] E_string ([((b3.f_Keys)[Int.toNat v9]?.getD [])])) ∧ GoodR (.recs (α := List UInt8) [] E_string ([((b3.f_Keys)[Int.toNat v9]?.getD [])]))), (decide ((List.length b7.f_Keys + List.length ([((b3.f_Keys)[Int.toNat v9]?.getD [])] : List (List UInt8))) * (16 + 1) ≤ limit)) = true, (AppOb [] E_string b7.f_Keys (List.flatMap E_string ([((b3.f_Keys)[Int.toNat v9]?.getD [])] : List (List UInt8))) (List.length ([((b3.f_Keys)[Int.toNat v9]?.getD [])] : List (List UInt8))) (.recs (α := List UInt8) [] E_string (b7.f_Keys ++ ([((b3.f_Keys)[Int.toNat v9]?.getD [])] : List (List UInt8)))) ∧ GoodR (.recs (α := List UInt8) [] E_string (b7.f_Keys ++ ([((b3.f_Keys)[Int.toNat v9]?.getD [])] : List (List UInt8)))))]) (by kernel_rfl) (AllP.cons hc6 (AllP.cons (fun _ => mkOb (by kernel_rfl) rfl (by kernel_rfl) (good_E_string _)) (AllP.cons hc7 (AllP.cons (appOb rfl rfl (good_E_string _)) AllP.nil)))) ?_
  refine To.thenN ?_
  refine Wp.seq ?_
  obtain ⟨hc5, h⟩ := chk_of h
  refine Wp.region hΓ [] [] [] [1, 3, 5, 6, 7, 8, 9, 43] [3, 5, 6, 7, 35, 4423] (K' := [(1, .str v1), (3, .own 3 0), (5, .own 5 0), (6, .own 6 0), (7, .own 7 0), (8, .val (.bool v8)), (9, .val (.int .i64 v9)), (43, .val (.bool (((b3.f_Keys)[Int.toNat v9]?.getD []) == v1)))]) (L' := [(3, 25, [.val (.int .i64 b3.f_Kind), .str b3.f_Text, .recs (α := List UInt8) [] E_string b3.f_Keys, .tree (α := S_api_Node) (S_api_Node.mk 0 [] [] []) pre_S_api_Node kids_S_api_Node b3.f_Kids]), (5, 25, [.val (.int .i64 b5.f_Kind), .str b5.f_Text, .recs (α := List UInt8) [] E_string b5.f_Keys, .tree (α := S_api_Node) (S_api_Node.mk 0 [] [] []) pre_S_api_Node kids_S_api_Node b5.f_Kids]), (6, 25, [.val (.int .i64 b6.f_Kind), .str b6.f_Text, .recs (α := List UInt8) [] E_string b6.f_Keys, .tree (α := S_api_Node) (S_api_Node.mk 0 [] [] []) pre_S_api_Node kids_S_api_Node b6.f_Kids]), (7, 25, [.val (.int .i64 b7.f_Kind), .str b7.f_Text, .row 35, .row 4423]), (35, 9, [.rowc false (α := List UInt8) [] E_string (b7.f_Keys ++ ([((b3.f_Keys)[Int.toNat v9]?.getD [])] : List (List UInt8)))]), (4423, 25, [.rowc false (α := S_api_Node) (S_api_Node.mk 0 [] [] []) E_api_Node b7.f_Kids])]) (ob := [(decide (0 ≤ v9 ∧ v9 < (List.length b3.f_Keys : Int))) = true]) (by kernel_rfl) (AllP.cons hc5 AllP.nil) ?_
  refine To.thenN ?_
  refine Wp.cond (b := (((b3.f_Keys)[Int.toNat v9]?.getD []) == v1)) (by kernel_rfl) (fun hb => ?_) (fun hb => ?_)
  · replace h := if_t hb h
    refine Wp.seq ?_
    refine Wp.region hΓ [] [] [] [1, 3, 5, 6, 7, 8, 9] [3, 5, 6, 7, 35, 4423] (K' := [(1, .str v1), (3, .own 3 0), (5, .own 5 0), (6, .own 6 0), (7, .own 7 0), (8, .val (.bool true)), (9, .val (.int .i64 v9))]) (L' := [(3, 25, [.val (.int .i64 b3.f_Kind), .str b3.f_Text, .recs (α := List UInt8) [] E_string b3.f_Keys, .tree (α := S_api_Node) (S_api_Node.mk 0 [] [] []) pre_S_api_Node kids_S_api_Node b3.f_Kids]), (5, 25, [.val (.int .i64 b5.f_Kind), .str b5.f_Text, .recs (α := List UInt8) [] E_string b5.f_Keys, .tree (α := S_api_Node) (S_api_Node.mk 0 [] [] []) pre_S_api_Node kids_S_api_Node b5.f_Kids]), (6, 25, [.val (.int .i64 b6.f_Kind), .str b6.f_Text, .recs (α := List UInt8) [] E_string b6.f_Keys, .tree (α := S_api_Node) (S_api_Node.mk 0 [] [] []) pre_S_api_Node kids_S_api_Node b6.f_Kids]), (7, 25, [.val (.int .i64 b7.f_Kind), .str b7.f_Text, .row 35, .row 4423]), (35, 9, [.rowc false (α := List UInt8) [] E_string (b7.f_Keys ++ ([((b3.f_Keys)[Int.toNat v9]?.getD [])] : List (List UInt8)))]), (4423, 25, [.rowc false (α := S_api_Node) (S_api_Node.mk 0 [] [] []) E_api_Node b7.f_Kids])]) (ob := []) (by kernel_rfl) AllP.nil ?_
    refine To.thenN ?_
    obtain ⟨hc1, h⟩ := chk_of h
    refine Wp.region hΓ [] [(3, .recs (α := S_api_Node) (S_api_Node.mk 0 [] [] []) E_api_Node [b5]), (4, .recs (α := S_api_Node) (S_api_Node.mk 0 [] [] []) E_api_Node (b7.f_Kids ++ ([b5] : List (S_api_Node))))] [] [1, 3, 5, 6, 7, 8, 9] [3, 5, 6, 7, 35, 48] (K' := [(1, .str v1), (3, .own 3 0), (5, .own 5 0), (6, .own 6 0), (7, .own 7 0), (8, .val (.bool true)), (9, .val (.int .i64 v9))]) (L' := [(3, 25, [.val (.int .i64 b3.f_Kind), .str b3.f_Text, .recs (α := List UInt8) [] E_string b3.f_Keys, .tree (α := S_api_Node) (S_api_Node.mk 0 [] [] []) pre_S_api_Node kids_S_api_Node b3.f_Kids]), (5, 25, [.val (.int .i64 b5.f_Kind), .str b5.f_Text, .recs (α := List UInt8) [] E_string b5.f_Keys, .tree (α := S_api_Node) (S_api_Node.mk 0 [] [] []) pre_S_api_Node kids_S_api_Node b5.f_Kids]), (6, 25, [.val (.int .i64 b6.f_Kind), .str b6.f_Text, .recs (α := List UInt8) [] E_string b6.f_Keys, .tree (α := S_api_Node) (S_api_Node.mk 0 [] [] []) pre_S_api_Node kids_S_api_Node b6.f_Kids]), (7, 25, [.val (.int .i64 b7.f_Kind), .str b7.f_Text, .row 35, .row 48]), (35, 9, [.rowc false (α := List UInt8) [] E_string (b7.f_Keys ++ ([((b3.f_Keys)[Int.toNat v9]?.getD [])] : List (List UInt8)))]), (48, 25, [.rowc false (α := S_api_Node) (S_api_Node.mk 0 [] [] []) E_api_Node (b7.f_Kids ++ ([b5] : List (S_api_Node)))])]) (ob := [(MkOb 4 [.val (.int .i64 b5.f_Kind), .str b5.f_Text, .recs (α := List UInt8) [] E_string b5.f_Keys, .tree (α := S_api_Node) (S_api_Node.mk 0 [] [] []) pre_S_api_Node kids_S_api_Node b5.f_Kids] 1 (.recs (α := S_api_Node) (S_api_Node.mk 0 [] [] []) E_api_Node [b5]) ∧ GoodR (.recs (α := S_api_Node) (S_api_Node.mk 0 [] [] []) E_api_Node [b5])), (decide ((List.length b7.f_Kids + List.length ([b5] : List (S_api_Node))) * (72 + 1) ≤ limit)) = true, (AppOb (S_api_Node.mk 0 [] [] []) E_api_Node b7.f_Kids (List.flatMap E_api_Node ([b5] : List (S_api_Node))) (List.length ([b5] : List (S_api_Node))) (.recs (α := S_api_Node) (S_api_Node.mk 0 [] [] []) E_api_Node (b7.f_Kids ++ ([b5] : List (S_api_Node)))) ∧ GoodR (.recs (α := S_api_Node) (S_api_Node.mk 0 [] [] []) E_api_Node (b7.f_Kids ++ ([b5] : List (S_api_Node)))))]) (by kernel_rfl) (AllP.cons (mkOb (by kernel_rfl) rfl (by kernel_rfl) (good_E_api_Node _)) (AllP.cons hc1 (AllP.cons (appOb rfl rfl (good_E_api_Node _)) AllP.nil))) ?_
    refine To.blockN ?_
    refine To.keep (kk := [1, 3, 5, 6, 7, 8, 9]) (kl := [3, 5, 6, 7, 35, 48]) (K' := [(1, .str v1), (3, .own 3 0), (5, .own 5 0), (6, .own 6 0), (7, .own 7 0), (8, .val (.bool true)), (9, .val (.int .i64 v9))]) (L' := [(3, 25, [.val (.int .i64 b3.f_Kind), .str b3.f_Text, .recs (α := List UInt8) [] E_string b3.f_Keys, .tree (α := S_api_Node) (S_api_Node.mk 0 [] [] []) pre_S_api_Node kids_S_api_Node b3.f_Kids]), (5, 25, [.val (.int .i64 b5.f_Kind), .str b5.f_Text, .recs (α := List UInt8) [] E_string b5.f_Keys, .tree (α := S_api_Node) (S_api_Node.mk 0 [] [] []) pre_S_api_Node kids_S_api_Node b5.f_Kids]), (6, 25, [.val (.int .i64 b6.f_Kind), .str b6.f_Text, .recs (α := List UInt8) [] E_string b6.f_Keys, .tree (α := S_api_Node) (S_api_Node.mk 0 [] [] []) pre_S_api_Node kids_S_api_Node b6.f_Kids]), (7, 25, [.val (.int .i64 b7.f_Kind), .str b7.f_Text, .row 35, .row 48]), (35, 9, [.rowc false (α := List UInt8) [] E_string (b7.f_Keys ++ ([((b3.f_Keys)[Int.toNat v9]?.getD [])] : List (List UInt8)))]), (48, 25, [.rowc false (α := S_api_Node) (S_api_Node.mk 0 [] [] []) E_api_Node (b7.f_Kids ++ ([b5] : List (S_api_Node)))])]) (by kernel_rfl) (by kernel_rfl) ?_
    refine To.pre (St.rename 35 4422 (by decide) (K' := [(1, .str v1), (3, .own 3 0), (5, .own 5 0), (6, .own 6 0), (7, .own 7 0), (8, .val (.bool true)), (9, .val (.int .i64 v9))]) (L' := [(3, 25, [.val (.int .i64 b3.f_Kind), .str b3.f_Text, .recs (α := List UInt8) [] E_string b3.f_Keys, .tree (α := S_api_Node) (S_api_Node.mk 0 [] [] []) pre_S_api_Node kids_S_api_Node b3.f_Kids]), (5, 25, [.val (.int .i64 b5.f_Kind), .str b5.f_Text, .recs (α := List UInt8) [] E_string b5.f_Keys, .tree (α := S_api_Node) (S_api_Node.mk 0 [] [] []) pre_S_api_Node kids_S_api_Node b5.f_Kids]), (6, 25, [.val (.int .i64 b6.f_Kind), .str b6.f_Text, .recs (α := List UInt8) [] E_string b6.f_Keys, .tree (α := S_api_Node) (S_api_Node.mk 0 [] [] []) pre_S_api_Node kids_S_api_Node b6.f_Kids]), (7, 25, [.val (.int .i64 b7.f_Kind), .str b7.f_Text, .row 4422, .row 48]), (4422, 9, [.rowc false (α := List UInt8) [] E_string (b7.f_Keys ++ ([((b3.f_Keys)[Int.toNat v9]?.getD [])] : List (List UInt8)))]), (48, 25, [.rowc false (α := S_api_Node) (S_api_Node.mk 0 [] [] []) E_api_Node (b7.f_Kids ++ ([b5] : List (S_api_Node)))])]) (by kernel_rfl) (by kernel_rfl) (by kernel_rfl)) ?_
    refine To.keep (kk := [1, 3, 5, 6, 7, 8, 9]) (kl := [3, 5, 6, 7, 48, 4422]) (K' := [(1, .str v1), (3, .own 3 0), (5, .own 5 0), (6, .own 6 0), (7, .own 7 0), (8, .val (.bool true)), (9, .val (.int .i64 v9))]) (L' := [(3, 25, [.val (.int .i64 b3.f_Kind), .str b3.f_Text, .recs (α := List UInt8) [] E_string b3.f_Keys, .tree (α := S_api_Node) (S_api_Node.mk 0 [] [] []) pre_S_api_Node kids_S_api_Node b3.f_Kids]), (5, 25, [.val (.int .i64 b5.f_Kind), .str b5.f_Text, .recs (α := List UInt8) [] E_string b5.f_Keys, .tree (α := S_api_Node) (S_api_Node.mk 0 [] [] []) pre_S_api_Node kids_S_api_Node b5.f_Kids]), (6, 25, [.val (.int .i64 b6.f_Kind), .str b6.f_Text, .recs (α := List UInt8) [] E_string b6.f_Keys, .tree (α := S_api_Node) (S_api_Node.mk 0 [] [] []) pre_S_api_Node kids_S_api_Node b6.f_Kids]), (7, 25, [.val (.int .i64 b7.f_Kind), .str b7.f_Text, .row 4422, .row 48]), (48, 25, [.rowc false (α := S_api_Node) (S_api_Node.mk 0 [] [] []) E_api_Node (b7.f_Kids ++ ([b5] : List (S_api_Node)))]), (4422, 9, [.rowc false (α := List UInt8) [] E_string (b7.f_Keys ++ ([((b3.f_Keys)[Int.toNat v9]?.getD [])] : List (List UInt8)))])]) (by kernel_rfl) (by kernel_rfl) ?_
    refine To.pre (St.rename 48 4423 (by decide) (K' := [(1, .str v1), (3, .own 3 0), (5, .own 5 0), (6, .own 6 0), (7, .own 7 0), (8, .val (.bool true)), (9, .val (.int .i64 v9))]) (L' := [(3, 25, [.val (.int .i64 b3.f_Kind), .str b3.f_Text, .recs (α := List UInt8) [] E_string b3.f_Keys, .tree (α := S_api_Node) (S_api_Node.mk 0 [] [] []) pre_S_api_Node kids_S_api_Node b3.f_Kids]), (5, 25, [.val (.int .i64 b5.f_Kind), .str b5.f_Text, .recs (α := List UInt8) [] E_string b5.f_Keys, .tree (α := S_api_Node) (S_api_Node.mk 0 [] [] []) pre_S_api_Node kids_S_api_Node b5.f_Kids]), (6, 25, [.val (.int .i64 b6.f_Kind), .str b6.f_Text, .recs (α := List UInt8) [] E_string b6.f_Keys, .tree (α := S_api_Node) (S_api_Node.mk 0 [] [] []) pre_S_api_Node kids_S_api_Node b6.f_Kids]), (7, 25, [.val (.int .i64 b7.f_Kind), .str b7.f_Text, .row 4422, .row 4423]), (4423, 25, [.rowc false (α := S_api_Node) (S_api_Node.mk 0 [] [] []) E_api_Node (b7.f_Kids ++ ([b5] : List (S_api_Node)))]), (4422, 9, [.rowc false (α := List UInt8) [] E_string (b7.f_Keys ++ ([((b3.f_Keys)[Int.toNat v9]?.getD [])] : List (List UInt8)))])]) (by kernel_rfl) (by kernel_rfl) (by kernel_rfl)) ?_
    refine To.keep (kk := [1, 3, 5, 6, 7, 8, 9]) (kl := [3, 5, 6, 7, 4422, 4423]) (K' := [(1, .str v1), (3, .own 3 0), (5, .own 5 0), (6, .own 6 0), (7, .own 7 0), (8, .val (.bool true)), (9, .val (.int .i64 v9))]) (L' := [(3, 25, [.val (.int .i64 b3.f_Kind), .str b3.f_Text, .recs (α := List UInt8) [] E_string b3.f_Keys, .tree (α := S_api_Node) (S_api_Node.mk 0 [] [] []) pre_S_api_Node kids_S_api_Node b3.f_Kids]), (5, 25, [.val (.int .i64 b5.f_Kind), .str b5.f_Text, .recs (α := List UInt8) [] E_string b5.f_Keys, .tree (α := S_api_Node) (S_api_Node.mk 0 [] [] []) pre_S_api_Node kids_S_api_Node b5.f_Kids]), (6, 25, [.val (.int .i64 b6.f_Kind), .str b6.f_Text, .recs (α := List UInt8) [] E_string b6.f_Keys, .tree (α := S_api_Node) (S_api_Node.mk 0 [] [] []) pre_S_api_Node kids_S_api_Node b6.f_Kids]), (7, 25, [.val (.int .i64 b7.f_Kind), .str b7.f_Text, .row 4422, .row 4423]), (4422, 9, [.rowc false (α := List UInt8) [] E_string (b7.f_Keys ++ ([((b3.f_Keys)[Int.toNat v9]?.getD [])] : List (List UInt8)))]), (4423, 25, [.rowc false (α := S_api_Node) (S_api_Node.mk 0 [] [] []) E_api_Node (b7.f_Kids ++ ([b5] : List (S_api_Node)))])]) (by kernel_rfl) (by kernel_rfl) ?_
    cases h
    exact hQ
  · replace h := if_f hb h
    obtain ⟨hc3, h⟩ := chk_of h
    obtain ⟨hc4, h⟩ := chk_of h
    obtain ⟨x2, hx2, h⟩ := lett_of h
    refine Wp.regionD hm hΓ [(7, .recs (α := S_api_Node) (S_api_Node.mk 0 [] [] []) E_api_Node ([(S_api_Node.mk (((b3.f_Kids)[Int.toNat v9]?.getD (S_api_Node.mk 0 [] [] [])).f_Kind) (((b3.f_Kids)[Int.toNat v9]?.getD (S_api_Node.mk 0 [] [] [])).f_Text) (((b3.f_Kids)[Int.toNat v9]?.getD (S_api_Node.mk 0 [] [] [])).f_Keys) (((b3.f_Kids)[Int.toNat v9]?.getD (S_api_Node.mk 0 [] [] [])).f_Kids))])), (8, .row 58), (1008, .recs (α := S_api_Node) (S_api_Node.mk 0 [] [] []) E_api_Node (b7.f_Kids ++ ([(S_api_Node.mk (((b3.f_Kids)[Int.toNat v9]?.getD (S_api_Node.mk 0 [] [] [])).f_Kind) (((b3.f_Kids)[Int.toNat v9]?.getD (S_api_Node.mk 0 [] [] [])).f_Text) (((b3.f_Kids)[Int.toNat v9]?.getD (S_api_Node.mk 0 [] [] [])).f_Keys) (((b3.f_Kids)[Int.toNat v9]?.getD (S_api_Node.mk 0 [] [] [])).f_Kids))] : List (S_api_Node))))] [1, 3, 5, 6, 7, 8, 9] [3, 5, 6, 7, 35, 58] (K' := [(1, .str v1), (3, .own 3 0), (5, .own 5 0), (6, .own 6 0), (7, .own 7 0), (8, .val (.bool v8)), (9, .val (.int .i64 v9))]) (L' := [(3, 25, [.val (.int .i64 b3.f_Kind), .str b3.f_Text, .recs (α := List UInt8) [] E_string b3.f_Keys, .tree (α := S_api_Node) (S_api_Node.mk 0 [] [] []) pre_S_api_Node kids_S_api_Node b3.f_Kids]), (5, 25, [.val (.int .i64 b5.f_Kind), .str b5.f_Text, .recs (α := List UInt8) [] E_string b5.f_Keys, .tree (α := S_api_Node) (S_api_Node.mk 0 [] [] []) pre_S_api_Node kids_S_api_Node b5.f_Kids]), (6, 25, [.val (.int .i64 b6.f_Kind), .str b6.f_Text, .recs (α := List UInt8) [] E_string b6.f_Keys, .tree (α := S_api_Node) (S_api_Node.mk 0 [] [] []) pre_S_api_Node kids_S_api_Node b6.f_Kids]), (7, 25, [.val (.int .i64 b7.f_Kind), .str b7.f_Text, .row 35, .row 58]), (35, 9, [.rowc false (α := List UInt8) [] E_string (b7.f_Keys ++ ([((b3.f_Keys)[Int.toNat v9]?.getD [])] : List (List UInt8)))]), (58, 25, [.rowc false (α := S_api_Node) (S_api_Node.mk 0 [] [] []) E_api_Node (b7.f_Kids ++ ([(S_api_Node.mk (((b3.f_Kids)[Int.toNat v9]?.getD (S_api_Node.mk 0 [] [] [])).f_Kind) (((b3.f_Kids)[Int.toNat v9]?.getD (S_api_Node.mk 0 [] [] [])).f_Text) (((b3.f_Kids)[Int.toNat v9]?.getD (S_api_Node.mk 0 [] [] [])).f_Keys) (((b3.f_Kids)[Int.toNat v9]?.getD (S_api_Node.mk 0 [] [] [])).f_Kids))] : List (S_api_Node)))])]) (ob := [(decide (0 ≤ v9 ∧ v9 < (List.length b3.f_Kids : Int))) = true, (true = true → MkOb 4 [.val (.int .i64 (((b3.f_Kids)[Int.toNat v9]?.getD (S_api_Node.mk 0 [] [] [])).f_Kind)), .str (((b3.f_Kids)[Int.toNat v9]?.getD (S_api_Node.mk 0 [] [] [])).f_Text), .recs (α := List UInt8) [] E_string (((b3.f_Kids)[Int.toNat v9]?.getD (S_api_Node.mk 0 [] [] [])).f_Keys), .tree (α := S_api_Node) (S_api_Node.mk 0 [] [] []) pre_S_api_Node kids_S_api_Node (((b3.f_Kids)[Int.toNat v9]?.getD (S_api_Node.mk 0 [] [] [])).f_Kids)] 1 (.recs (α := S_api_Node) (S_api_Node.mk 0 [] [] []) E_api_Node ([(S_api_Node.mk (((b3.f_Kids)[Int.toNat v9]?.getD (S_api_Node.mk 0 [] [] [])).f_Kind) (((b3.f_Kids)[Int.toNat v9]?.getD (S_api_Node.mk 0 [] [] [])).f_Text) (((b3.f_Kids)[Int.toNat v9]?.getD (S_api_Node.mk 0 [] [] [])).f_Keys) (((b3.f_Kids)[Int.toNat v9]?.getD (S_api_Node.mk 0 [] [] [])).f_Kids))])) ∧ GoodR (.recs (α := S_api_Node) (S_api_Node.mk 0 [] [] []) E_api_Node ([(S_api_Node.mk (((b3.f_Kids)[Int.toNat v9]?.getD (S_api_Node.mk 0 [] [] [])).f_Kind) (((b3.f_Kids)[Int.toNat v9]?.getD (S_api_Node.mk 0 [] [] [])).f_Text) (((b3.f_Kids)[Int.toNat v9]?.getD (S_api_Node.mk 0 [] [] [])).f_Keys) (((b3.f_Kids)[Int.toNat v9]?.getD (S_api_Node.mk 0 [] [] [])).f_Kids))]))), (decide ((List.length b7.f_Kids + List.length ([(S_api_Node.mk (((b3.f_Kids)[Int.toNat v9]?.getD (S_api_Node.mk 0 [] [] [])).f_Kind) (((b3.f_Kids)[Int.toNat v9]?.getD (S_api_Node.mk 0 [] [] [])).f_Text) (((b3.f_Kids)[Int.toNat v9]?.getD (S_api_Node.mk 0 [] [] [])).f_Keys) (((b3.f_Kids)[Int.toNat v9]?.getD (S_api_Node.mk 0 [] [] [])).f_Kids))] : List (S_api_Node))) * (72 + 1) ≤ limit)) = true, (AppOb (S_api_Node.mk 0 [] [] []) E_api_Node b7.f_Kids (List.flatMap E_api_Node ([(S_api_Node.mk (((b3.f_Kids)[Int.toNat v9]?.getD (S_api_Node.mk 0 [] [] [])).f_Kind) (((b3.f_Kids)[Int.toNat v9]?.getD (S_api_Node.mk 0 [] [] [])).f_Text) (((b3.f_Kids)[Int.toNat v9]?.getD (S_api_Node.mk 0 [] [] [])).f_Keys) (((b3.f_Kids)[Int.toNat v9]?.getD (S_api_Node.mk 0 [] [] [])).f_Kids))] : List (S_api_Node))) (List.length ([(S_api_Node.mk (((b3.f_Kids)[Int.toNat v9]?.getD (S_api_Node.mk 0 [] [] [])).f_Kind) (((b3.f_Kids)[Int.toNat v9]?.getD (S_api_Node.mk 0 [] [] [])).f_Text) (((b3.f_Kids)[Int.toNat v9]?.getD (S_api_Node.mk 0 [] [] [])).f_Keys) (((b3.f_Kids)[Int.toNat v9]?.getD (S_api_Node.mk 0 [] [] [])).f_Kids))] : List (S_api_Node))) (.recs (α := S_api_Node) (S_api_Node.mk 0 [] [] []) E_api_Node (b7.f_Kids ++ ([(S_api_Node.mk (((b3.f_Kids)[Int.toNat v9]?.getD (S_api_Node.mk 0 [] [] [])).f_Kind) (((b3.f_Kids)[Int.toNat v9]?.getD (S_api_Node.mk 0 [] [] [])).f_Text) (((b3.f_Kids)[Int.toNat v9]?.getD (S_api_Node.mk 0 [] [] [])).f_Keys) (((b3.f_Kids)[Int.toNat v9]?.getD (S_api_Node.mk 0 [] [] [])).f_Kids))] : List (S_api_Node)))) ∧ GoodR (.recs (α := S_api_Node) (S_api_Node.mk 0 [] [] []) E_api_Node (b7.f_Kids ++ ([(S_api_Node.mk (((b3.f_Kids)[Int.toNat v9]?.getD (S_api_Node.mk 0 [] [] [])).f_Kind) (((b3.f_Kids)[Int.toNat v9]?.getD (S_api_Node.mk 0 [] [] [])).f_Text) (((b3.f_Kids)[Int.toNat v9]?.getD (S_api_Node.mk 0 [] [] [])).f_Keys) (((b3.f_Kids)[Int.toNat v9]?.getD (S_api_Node.mk 0 [] [] [])).f_Kids))] : List (S_api_Node)))))]) (by kernel_rfl) (AllP.cons hc3 (AllP.cons (fun _ => mkOb (by kernel_rfl) rfl (by kernel_rfl) (good_E_api_Node _)) (AllP.cons hc4 (AllP.cons (appOb rfl rfl (good_E_api_Node _)) AllP.nil)))) ?_
    refine To.eq (K' := [(1, .str v1), (3, .own 3 0), (5, .own 5 0), (6, .own 6 0), (7, .own 7 0), (8, .val (.bool v8)), (9, .val (.int .i64 v9))]) (L' := [(3, 25, [.val (.int .i64 b3.f_Kind), .str b3.f_Text, .recs (α := List UInt8) [] E_string b3.f_Keys, .tree (α := S_api_Node) (S_api_Node.mk 0 [] [] []) pre_S_api_Node kids_S_api_Node b3.f_Kids]), (5, 25, [.val (.int .i64 b5.f_Kind), .str b5.f_Text, .recs (α := List UInt8) [] E_string b5.f_Keys, .tree (α := S_api_Node) (S_api_Node.mk 0 [] [] []) pre_S_api_Node kids_S_api_Node b5.f_Kids]), (6, 25, [.val (.int .i64 b6.f_Kind), .str b6.f_Text, .recs (α := List UInt8) [] E_string b6.f_Keys, .tree (α := S_api_Node) (S_api_Node.mk 0 [] [] []) pre_S_api_Node kids_S_api_Node b6.f_Kids]), (7, 25, [.val (.int .i64 b7.f_Kind), .str b7.f_Text, .row 35, .row 58]), (35, 9, [.rowc false (α := List UInt8) [] E_string (b7.f_Keys ++ ([((b3.f_Keys)[Int.toNat v9]?.getD [])] : List (List UInt8)))]), (58, 25, [.rowc false (α := S_api_Node) (S_api_Node.mk 0 [] [] []) E_api_Node x2])]) (by cases hx2; rfl) (by cases hx2; rfl) ?_
    refine To.blockN ?_
    refine To.keep (kk := [1, 3, 5, 6, 7, 8, 9]) (kl := [3, 5, 6, 7, 35, 58]) (K' := [(1, .str v1), (3, .own 3 0), (5, .own 5 0), (6, .own 6 0), (7, .own 7 0), (8, .val (.bool v8)), (9, .val (.int .i64 v9))]) (L' := [(3, 25, [.val (.int .i64 b3.f_Kind), .str b3.f_Text, .recs (α := List UInt8) [] E_string b3.f_Keys, .tree (α := S_api_Node) (S_api_Node.mk 0 [] [] []) pre_S_api_Node kids_S_api_Node b3.f_Kids]), (5, 25, [.val (.int .i64 b5.f_Kind), .str b5.f_Text, .recs (α := List UInt8) [] E_string b5.f_Keys, .tree (α := S_api_Node) (S_api_Node.mk 0 [] [] []) pre_S_api_Node kids_S_api_Node b5.f_Kids]), (6, 25, [.val (.int .i64 b6.f_Kind), .str b6.f_Text, .recs (α := List UInt8) [] E_string b6.f_Keys, .tree (α := S_api_Node) (S_api_Node.mk 0 [] [] []) pre_S_api_Node kids_S_api_Node b6.f_Kids]), (7, 25, [.val (.int .i64 b7.f_Kind), .str b7.f_Text, .row 35, .row 58]), (35, 9, [.rowc false (α := List UInt8) [] E_string (b7.f_Keys ++ ([((b3.f_Keys)[Int.toNat v9]?.getD [])] : List (List UInt8)))]), (58, 25, [.rowc false (α := S_api_Node) (S_api_Node.mk 0 [] [] []) E_api_Node x2])]) (by kernel_rfl) (by kernel_rfl) ?_
    refine To.pre (St.rename 35 4422 (by decide) (K' := [(1, .str v1), (3, .own 3 0), (5, .own 5 0), (6, .own 6 0), (7, .own 7 0), (8, .val (.bool v8)), (9, .val (.int .i64 v9))]) (L' := [(3, 25, [.val (.int .i64 b3.f_Kind), .str b3.f_Text, .recs (α := List UInt8) [] E_string b3.f_Keys, .tree (α := S_api_Node) (S_api_Node.mk 0 [] [] []) pre_S_api_Node kids_S_api_Node b3.f_Kids]), (5, 25, [.val (.int .i64 b5.f_Kind), .str b5.f_Text, .recs (α := List UInt8) [] E_string b5.f_Keys, .tree (α := S_api_Node) (S_api_Node.mk 0 [] [] []) pre_S_api_Node kids_S_api_Node b5.f_Kids]), (6, 25, [.val (.int .i64 b6.f_Kind), .str b6.f_Text, .recs (α := List UInt8) [] E_string b6.f_Keys, .tree (α := S_api_Node) (S_api_Node.mk 0 [] [] []) pre_S_api_Node kids_S_api_Node b6.f_Kids]), (7, 25, [.val (.int .i64 b7.f_Kind), .str b7.f_Text, .row 4422, .row 58]), (4422, 9, [.rowc false (α := List UInt8) [] E_string (b7.f_Keys ++ ([((b3.f_Keys)[Int.toNat v9]?.getD [])] : List (List UInt8)))]), (58, 25, [.rowc false (α := S_api_Node) (S_api_Node.mk 0 [] [] []) E_api_Node x2])]) (by kernel_rfl) (by kernel_rfl) (by kernel_rfl)) ?_
    refine To.keep (kk := [1, 3, 5, 6, 7, 8, 9]) (kl := [3, 5, 6, 7, 58, 4422]) (K' := [(1, .str v1), (3, .own 3 0), (5, .own 5 0), (6, .own 6 0), (7, .own 7 0), (8, .val (.bool v8)), (9, .val (.int .i64 v9))]) (L' := [(3, 25, [.val (.int .i64 b3.f_Kind), .str b3.f_Text, .recs (α := List UInt8) [] E_string b3.f_Keys, .tree (α := S_api_Node) (S_api_Node.mk 0 [] [] []) pre_S_api_Node kids_S_api_Node b3.f_Kids]), (5, 25, [.val (.int .i64 b5.f_Kind), .str b5.f_Text, .recs (α := List UInt8) [] E_string b5.f_Keys, .tree (α := S_api_Node) (S_api_Node.mk 0 [] [] []) pre_S_api_Node kids_S_api_Node b5.f_Kids]), (6, 25, [.val (.int .i64 b6.f_Kind), .str b6.f_Text, .recs (α := List UInt8) [] E_string b6.f_Keys, .tree (α := S_api_Node) (S_api_Node.mk 0 [] [] []) pre_S_api_Node kids_S_api_Node b6.f_Kids]), (7, 25, [.val (.int .i64 b7.f_Kind), .str b7.f_Text, .row 4422, .row 58]), (58, 25, [.rowc false (α := S_api_Node) (S_api_Node.mk 0 [] [] []) E_api_Node x2]), (4422, 9, [.rowc false (α := List UInt8) [] E_string (b7.f_Keys ++ ([((b3.f_Keys)[Int.toNat v9]?.getD [])] : List (List UInt8)))])]) (by kernel_rfl) (by kernel_rfl) ?_
    refine To.pre (St.rename 58 4423 (by decide) (K' := [(1, .str v1), (3, .own 3 0), (5, .own 5 0), (6, .own 6 0), (7, .own 7 0), (8, .val (.bool v8)), (9, .val (.int .i64 v9))]) (L' := [(3, 25, [.val (.int .i64 b3.f_Kind), .str b3.f_Text, .recs (α := List UInt8) [] E_string b3.f_Keys, .tree (α := S_api_Node) (S_api_Node.mk 0 [] [] []) pre_S_api_Node kids_S_api_Node b3.f_Kids]), (5, 25, [.val (.int .i64 b5.f_Kind), .str b5.f_Text, .recs (α := List UInt8) [] E_string b5.f_Keys, .tree (α := S_api_Node) (S_api_Node.mk 0 [] [] []) pre_S_api_Node kids_S_api_Node b5.f_Kids]), (6, 25, [.val (.int .i64 b6.f_Kind), .str b6.f_Text, .recs (α := List UInt8) [] E_string b6.f_Keys, .tree (α := S_api_Node) (S_api_Node.mk 0 [] [] []) pre_S_api_Node kids_S_api_Node b6.f_Kids]), (7, 25, [.val (.int .i64 b7.f_Kind), .str b7.f_Text, .row 4422, .row 4423]), (4423, 25, [.rowc false (α := S_api_Node) (S_api_Node.mk 0 [] [] []) E_api_Node x2]), (4422, 9, [.rowc false (α := List UInt8) [] E_string (b7.f_Keys ++ ([((b3.f_Keys)[Int.toNat v9]?.getD [])] : List (List UInt8)))])]) (by kernel_rfl) (by kernel_rfl) (by kernel_rfl)) ?_
    refine To.keep (kk := [1, 3, 5, 6, 7, 8, 9]) (kl := [3, 5, 6, 7, 4422, 4423]) (K' := [(1, .str v1), (3, .own 3 0), (5, .own 5 0), (6, .own 6 0), (7, .own 7 0), (8, .val (.bool v8)), (9, .val (.int .i64 v9))]) (L' := [(3, 25, [.val (.int .i64 b3.f_Kind), .str b3.f_Text, .recs (α := List UInt8) [] E_string b3.f_Keys, .tree (α := S_api_Node) (S_api_Node.mk 0 [] [] []) pre_S_api_Node kids_S_api_Node b3.f_Kids]), (5, 25, [.val (.int .i64 b5.f_Kind), .str b5.f_Text, .recs (α := List UInt8) [] E_string b5.f_Keys, .tree (α := S_api_Node) (S_api_Node.mk 0 [] [] []) pre_S_api_Node kids_S_api_Node b5.f_Kids]), (6, 25, [.val (.int .i64 b6.f_Kind), .str b6.f_Text, .recs (α := List UInt8) [] E_string b6.f_Keys, .tree (α := S_api_Node) (S_api_Node.mk 0 [] [] []) pre_S_api_Node kids_S_api_Node b6.f_Kids]), (7, 25, [.val (.int .i64 b7.f_Kind), .str b7.f_Text, .row 4422, .row 4423]), (4422, 9, [.rowc false (α := List UInt8) [] E_string (b7.f_Keys ++ ([((b3.f_Keys)[Int.toNat v9]?.getD [])] : List (List UInt8)))]), (4423, 25, [.rowc false (α := S_api_Node) (S_api_Node.mk 0 [] [] []) E_api_Node x2])]) (by kernel_rfl) (by kernel_rfl) ?_
    cases h
    exact hQ
def ref08_With_l1 (n : Nat) (v1 : List UInt8) (b3 : S_api_Node) (b5 : S_api_Node) (b6 : S_api_Node) : Nat → Bool → Int → S_api_Node → Option (Bool × S_api_Node)
  | 0, _, _, _ => none
  | k + 1, v8, v9, b7 => if (decide (v9 < (List.length b3.f_Keys : Int))) = true then ((ref08_With_j2 n v1 v8 v9 b3 b5 b6 b7).bind fun o1 =>
  ref08_With_l1 n v1 b3 b5 b6 k o1.1 (IntKind.wrap .i64 (v9 + 1)) o1.2)
  else (some (v8, b7))
theorem ok_ref08_With_l1 (n : Nat) (v1 : List UInt8) (b3 : S_api_Node) (b5 : S_api_Node) (b6 : S_api_Node) {F0 : Fz} {w0 : Pt Try.prog} {Q : Exit → Act → World → Prop} (k : Nat) : ∀ (v8 : Bool) (v9 : Int) (b7 : S_api_Node) (o : Bool × S_api_Node), ref08_With_l1 n v1 b3 b5 b6 k v8 v9 b7 = some o → To 75 F0 w0 [(1, .str v1), (5, .own 5 0), (6, .own 6 0), (7, .own 7 0), (8, .val (.bool o.1))] [(5, 25, [.val (.int .i64 b5.f_Kind), .str b5.f_Text, .recs (α := List UInt8) [] E_string b5.f_Keys, .tree (α := S_api_Node) (S_api_Node.mk 0 [] [] []) pre_S_api_Node kids_S_api_Node b5.f_Kids]), (6, 25, [.val (.int .i64 b6.f_Kind), .str b6.f_Text, .recs (α := List UInt8) [] E_string b6.f_Keys, .tree (α := S_api_Node) (S_api_Node.mk 0 [] [] []) pre_S_api_Node kids_S_api_Node b6.f_Kids]), (7, 25, [.val (.int .i64 o.2.f_Kind), .str o.2.f_Text, .row 4422, .row 4423]), (4422, 9, [.rowc false (α := List UInt8) [] E_string o.2.f_Keys]), (4423, 25, [.rowc false (α := S_api_Node) (S_api_Node.mk 0 [] [] []) E_api_Node o.2.f_Kids])] (.exit 0) Q → WL Try.prog 75 F0 w0 [(1, .str v1), (3, .own 3 0), (5, .own 5 0), (6, .own 6 0), (7, .own 7 0), (8, .val (.bool v8)), (9, .val (.int .i64 v9))] [(3, 25, [.val (.int .i64 b3.f_Kind), .str b3.f_Text, .recs (α := List UInt8) [] E_string b3.f_Keys, .tree (α := S_api_Node) (S_api_Node.mk 0 [] [] []) pre_S_api_Node kids_S_api_Node b3.f_Kids]), (5, 25, [.val (.int .i64 b5.f_Kind), .str b5.f_Text, .recs (α := List UInt8) [] E_string b5.f_Keys, .tree (α := S_api_Node) (S_api_Node.mk 0 [] [] []) pre_S_api_Node kids_S_api_Node b5.f_Kids]), (6, 25, [.val (.int .i64 b6.f_Kind), .str b6.f_Text, .recs (α := List UInt8) [] E_string b6.f_Keys, .tree (α := S_api_Node) (S_api_Node.mk 0 [] [] []) pre_S_api_Node kids_S_api_Node b6.f_Kids]), (7, 25, [.val (.int .i64 b7.f_Kind), .str b7.f_Text, .row 4422, .row 4423]), (4422, 9, [.rowc false (α := List UInt8) [] E_string b7.f_Keys]), (4423, 25, [.rowc false (α := S_api_Node) (S_api_Node.mk 0 [] [] []) E_api_Node b7.f_Kids])] (cI (cI (cB (cA (cB (cB (cB (cB (cF Try.f24))))))))) Q := by
  induction k with
  | zero => intro v8 v9 b7 o h; cases h
  | succ k ih =>
    intro v8 v9 b7 o h hQ
    rw [ref08_With_l1] at h
    refine WL.round ?_
    refine Wp.seq ?_
    refine Wp.seq ?_
    refine Wp.region hΓ [] [] [] [1, 3, 5, 6, 7, 8, 9, 24] [3, 5, 6, 7, 4422, 4423] (K' := [(1, .str v1), (3, .own 3 0), (5, .own 5 0), (6, .own 6 0), (7, .own 7 0), (8, .val (.bool v8)), (9, .val (.int .i64 v9)), (24, .val (.bool (decide (v9 < (List.length b3.f_Keys : Int)))))]) (L' := [(3, 25, [.val (.int .i64 b3.f_Kind), .str b3.f_Text, .recs (α := List UInt8) [] E_string b3.f_Keys, .tree (α := S_api_Node) (S_api_Node.mk 0 [] [] []) pre_S_api_Node kids_S_api_Node b3.f_Kids]), (5, 25, [.val (.int .i64 b5.f_Kind), .str b5.f_Text, .recs (α := List UInt8) [] E_string b5.f_Keys, .tree (α := S_api_Node) (S_api_Node.mk 0 [] [] []) pre_S_api_Node kids_S_api_Node b5.f_Kids]), (6, 25, [.val (.int .i64 b6.f_Kind), .str b6.f_Text, .recs (α := List UInt8) [] E_string b6.f_Keys, .tree (α := S_api_Node) (S_api_Node.mk 0 [] [] []) pre_S_api_Node kids_S_api_Node b6.f_Kids]), (7, 25, [.val (.int .i64 b7.f_Kind), .str b7.f_Text, .row 4422, .row 4423]), (4422, 9, [.rowc false (α := List UInt8) [] E_string b7.f_Keys]), (4423, 25, [.rowc false (α := S_api_Node) (S_api_Node.mk 0 [] [] []) E_api_Node b7.f_Kids])]) (ob := []) (by kernel_rfl) AllP.nil ?_
    refine To.thenN ?_
    refine Wp.cond (b := (decide (v9 < (List.length b3.f_Keys : Int)))) (by kernel_rfl) (fun hb => ?_) (fun hb => ?_)
    · replace h := if_t hb h
      refine Wp.skip ?_
      refine To.thenN ?_
      refine Wp.seq ?_
      obtain ⟨o1, ho1, h⟩ := bind_of h
      refine Wp.keep (kk := [1, 3, 5, 6, 7, 8, 9]) (kl := [3, 5, 6, 7, 4422, 4423]) (K' := [(1, .str v1), (3, .own 3 0), (5, .own 5 0), (6, .own 6 0), (7, .own 7 0), (8, .val (.bool v8)), (9, .val (.int .i64 v9))]) (L' := [(3, 25, [.val (.int .i64 b3.f_Kind), .str b3.f_Text, .recs (α := List UInt8) [] E_string b3.f_Keys, .tree (α := S_api_Node) (S_api_Node.mk 0 [] [] []) pre_S_api_Node kids_S_api_Node b3.f_Kids]), (5, 25, [.val (.int .i64 b5.f_Kind), .str b5.f_Text, .recs (α := List UInt8) [] E_string b5.f_Keys, .tree (α := S_api_Node) (S_api_Node.mk 0 [] [] []) pre_S_api_Node kids_S_api_Node b5.f_Kids]), (6, 25, [.val (.int .i64 b6.f_Kind), .str b6.f_Text, .recs (α := List UInt8) [] E_string b6.f_Keys, .tree (α := S_api_Node) (S_api_Node.mk 0 [] [] []) pre_S_api_Node kids_S_api_Node b6.f_Kids]), (7, 25, [.val (.int .i64 b7.f_Kind), .str b7.f_Text, .row 4422, .row 4423]), (4422, 9, [.rowc false (α := List UInt8) [] E_string b7.f_Keys]), (4423, 25, [.rowc false (α := S_api_Node) (S_api_Node.mk 0 [] [] []) E_api_Node b7.f_Kids])]) (by kernel_rfl) (by kernel_rfl) ?_
      refine ok_ref08_With_j2 n v1 v8 v9 b3 b5 b6 b7 o1 ho1 ?_
      refine To.thenN ?_
      refine Wp.region hΓ [] [] [] [1, 3, 5, 6, 7, 8, 9] [3, 5, 6, 7, 4422, 4423] (K' := [(1, .str v1), (3, .own 3 0), (5, .own 5 0), (6, .own 6 0), (7, .own 7 0), (8, .val (.bool o1.1)), (9, .val (.int .i64 (IntKind.wrap .i64 (v9 + 1))))]) (L' := [(3, 25, [.val (.int .i64 b3.f_Kind), .str b3.f_Text, .recs (α := List UInt8) [] E_string b3.f_Keys, .tree (α := S_api_Node) (S_api_Node.mk 0 [] [] []) pre_S_api_Node kids_S_api_Node b3.f_Kids]), (5, 25, [.val (.int .i64 b5.f_Kind), .str b5.f_Text, .recs (α := List UInt8) [] E_string b5.f_Keys, .tree (α := S_api_Node) (S_api_Node.mk 0 [] [] []) pre_S_api_Node kids_S_api_Node b5.f_Kids]), (6, 25, [.val (.int .i64 b6.f_Kind), .str b6.f_Text, .recs (α := List UInt8) [] E_string b6.f_Keys, .tree (α := S_api_Node) (S_api_Node.mk 0 [] [] []) pre_S_api_Node kids_S_api_Node b6.f_Kids]), (7, 25, [.val (.int .i64 o1.2.f_Kind), .str o1.2.f_Text, .row 4422, .row 4423]), (4422, 9, [.rowc false (α := List UInt8) [] E_string o1.2.f_Keys]), (4423, 25, [.rowc false (α := S_api_Node) (S_api_Node.mk 0 [] [] []) E_api_Node o1.2.f_Kids])]) (ob := []) (by kernel_rfl) AllP.nil ?_
      refine To.keep (kk := [1, 3, 5, 6, 7, 8, 9]) (kl := [3, 5, 6, 7, 4422, 4423]) (K' := [(1, .str v1), (3, .own 3 0), (5, .own 5 0), (6, .own 6 0), (7, .own 7 0), (8, .val (.bool o1.1)), (9, .val (.int .i64 (IntKind.wrap .i64 (v9 + 1))))]) (L' := [(3, 25, [.val (.int .i64 b3.f_Kind), .str b3.f_Text, .recs (α := List UInt8) [] E_string b3.f_Keys, .tree (α := S_api_Node) (S_api_Node.mk 0 [] [] []) pre_S_api_Node kids_S_api_Node b3.f_Kids]), (5, 25, [.val (.int .i64 b5.f_Kind), .str b5.f_Text, .recs (α := List UInt8) [] E_string b5.f_Keys, .tree (α := S_api_Node) (S_api_Node.mk 0 [] [] []) pre_S_api_Node kids_S_api_Node b5.f_Kids]), (6, 25, [.val (.int .i64 b6.f_Kind), .str b6.f_Text, .recs (α := List UInt8) [] E_string b6.f_Keys, .tree (α := S_api_Node) (S_api_Node.mk 0 [] [] []) pre_S_api_Node kids_S_api_Node b6.f_Kids]), (7, 25, [.val (.int .i64 o1.2.f_Kind), .str o1.2.f_Text, .row 4422, .row 4423]), (4422, 9, [.rowc false (α := List UInt8) [] E_string o1.2.f_Keys]), (4423, 25, [.rowc false (α := S_api_Node) (S_api_Node.mk 0 [] [] []) E_api_Node o1.2.f_Kids])]) (by kernel_rfl) (by kernel_rfl) ?_
      refine To.again ?_
      exact ih o1.1 (IntKind.wrap .i64 (v9 + 1)) o1.2 _ h hQ
    · replace h := if_f hb h
      refine Wp.exit ?_
      refine To.thenX ?_
      refine To.thenX ?_
      refine To.keep (kk := [1, 5, 6, 7, 8]) (kl := [5, 6, 7, 4422, 4423]) (K' := [(1, .str v1), (5, .own 5 0), (6, .own 6 0), (7, .own 7 0), (8, .val (.bool v8))]) (L' := [(5, 25, [.val (.int .i64 b5.f_Kind), .str b5.f_Text, .recs (α := List UInt8) [] E_string b5.f_Keys, .tree (α := S_api_Node) (S_api_Node.mk 0 [] [] []) pre_S_api_Node kids_S_api_Node b5.f_Kids]), (6, 25, [.val (.int .i64 b6.f_Kind), .str b6.f_Text, .recs (α := List UInt8) [] E_string b6.f_Keys, .tree (α := S_api_Node) (S_api_Node.mk 0 [] [] []) pre_S_api_Node kids_S_api_Node b6.f_Kids]), (7, 25, [.val (.int .i64 b7.f_Kind), .str b7.f_Text, .row 4422, .row 4423]), (4422, 9, [.rowc false (α := List UInt8) [] E_string b7.f_Keys]), (4423, 25, [.rowc false (α := S_api_Node) (S_api_Node.mk 0 [] [] []) E_api_Node b7.f_Kids])]) (by kernel_rfl) (by kernel_rfl) ?_
      cases h
      exact hQ
def ref08_With_j3 (n : Nat) (v1 : List UInt8) (v61 : Bool) (b5 : S_api_Node) (b6 : S_api_Node) (b7 : S_api_Node) : Option (S_api_Node) :=
  if v61 = true then (if (decide ((List.length b7.f_Keys + List.length ([v1] : List (List UInt8))) * (16 + 1) ≤ limit)) = true then (if (decide ((List.length b7.f_Kids + List.length ([b5] : List (S_api_Node))) * (72 + 1) ≤ limit)) = true then (some (S_api_Node.mk b7.f_Kind b7.f_Text (b7.f_Keys ++ ([v1] : List (List UInt8))) (b7.f_Kids ++ ([b5] : List (S_api_Node))))) else none) else none)
  else some b7
theorem ok_ref08_With_j3 (n : Nat) (v1 : List UInt8) (v61 : Bool) (b5 : S_api_Node) (b6 : S_api_Node) (b7 : S_api_Node) (o : S_api_Node) (h : ref08_With_j3 n v1 v61 b5 b6 b7 = some o) {F0 : Fz} {w0 : Pt Try.prog} {Q : Exit → Act → World → Prop} (hQ : To 75 F0 w0 [(6, .own 6 0), (7, .own 7 0)] [(6, 25, [.val (.int .i64 b6.f_Kind), .str b6.f_Text, .recs (α := List UInt8) [] E_string b6.f_Keys, .tree (α := S_api_Node) (S_api_Node.mk 0 [] [] []) pre_S_api_Node kids_S_api_Node b6.f_Kids]), (7, 25, [.val (.int .i64 o.f_Kind), .str o.f_Text, .row 4422, .row 4423]), (4422, 9, [.rowc false (α := List UInt8) [] E_string o.f_Keys]), (4423, 25, [.rowc false (α := S_api_Node) (S_api_Node.mk 0 [] [] []) E_api_Node o.f_Kids])] .normal Q) : Wp Try.prog 75 F0 w0 [(1, .str v1), (5, .own 5 0), (6, .own 6 0), (7, .own 7 0), (61, .val (.bool v61))] [(5, 25, [.val (.int .i64 b5.f_Kind), .str b5.f_Text, .recs (α := List UInt8) [] E_string b5.f_Keys, .tree (α := S_api_Node) (S_api_Node.mk 0 [] [] []) pre_S_api_Node kids_S_api_Node b5.f_Kids]), (6, 25, [.val (.int .i64 b6.f_Kind), .str b6.f_Text, .recs (α := List UInt8) [] E_string b6.f_Keys, .tree (α := S_api_Node) (S_api_Node.mk 0 [] [] []) pre_S_api_Node kids_S_api_Node b6.f_Kids]), (7, 25, [.val (.int .i64 b7.f_Kind), .str b7.f_Text, .row 4422, .row 4423]), (4422, 9, [.rowc false (α := List UInt8) [] E_string b7.f_Keys]), (4423, 25, [.rowc false (α := S_api_Node) (S_api_Node.mk 0 [] [] []) E_api_Node b7.f_Kids])] (cB (cA (cB (cB (cB (cB (cB (cF Try.f24)))))))) Q := by
  unfold ref08_With_j3 at h
  refine Wp.cond (b := v61) (by kernel_rfl) (fun hb => ?_) (fun hb => ?_)
  · replace h := if_t hb h
    refine Wp.seq ?_
    obtain ⟨hc3, h⟩ := chk_of h
    refine Wp.region hΓ [] [(3, .recs (α := List UInt8) [] E_string [v1]), (4, .recs (α := List UInt8) [] E_string (b7.f_Keys ++ ([v1] : List (List UInt8))))] [] [5, 6, 7] [5, 6, 7, 66, 4423] (K' := [(5, .own 5 0), (6, .own 6 0), (7, .own 7 0)]) (L' := [(5, 25, [.val (.int .i64 b5.f_Kind), .str b5.f_Text, .recs (α := List UInt8) [] E_string b5.f_Keys, .tree (α := S_api_Node) (S_api_Node.mk 0 [] [] []) pre_S_api_Node kids_S_api_Node b5.f_Kids]), (6, 25, [.val (.int .i64 b6.f_Kind), .str b6.f_Text, .recs (α := List UInt8) [] E_string b6.f_Keys, .tree (α := S_api_Node) (S_api_Node.mk 0 [] [] []) pre_S_api_Node kids_S_api_Node b6.f_Kids]), (7, 25, [.val (.int .i64 b7.f_Kind), .str b7.f_Text, .row 66, .row 4423]), (66, 9, [.rowc false (α := List UInt8) [] E_string (b7.f_Keys ++ ([v1] : List (List UInt8)))]), (4423, 25, [.rowc false (α := S_api_Node) (S_api_Node.mk 0 [] [] []) E_api_Node b7.f_Kids])]) (ob := [(MkOb 1 [.str v1] 1 (.recs (α := List UInt8) [] E_string [v1]) ∧ GoodR (.recs (α := List UInt8) [] E_string [v1])), (decide ((List.length b7.f_Keys + List.length ([v1] : List (List UInt8))) * (16 + 1) ≤ limit)) = true, (AppOb [] E_string b7.f_Keys (List.flatMap E_string ([v1] : List (List UInt8))) (List.length ([v1] : List (List UInt8))) (.recs (α := List UInt8) [] E_string (b7.f_Keys ++ ([v1] : List (List UInt8)))) ∧ GoodR (.recs (α := List UInt8) [] E_string (b7.f_Keys ++ ([v1] : List (List UInt8)))))]) (by kernel_rfl) (AllP.cons (mkOb (by kernel_rfl) rfl (by kernel_rfl) (good_E_string _)) (AllP.cons hc3 (AllP.cons (appOb rfl rfl (good_E_string _)) AllP.nil))) ?_
    refine To.thenN ?_
    obtain ⟨hc2, h⟩ := chk_of h
    refine Wp.region hΓ [] [(3, .recs (α := S_api_Node) (S_api_Node.mk 0 [] [] []) E_api_Node [b5]), (4, .recs (α := S_api_Node) (S_api_Node.mk 0 [] [] []) E_api_Node (b7.f_Kids ++ ([b5] : List (S_api_Node))))] [] [6, 7] [6, 7, 66, 72] (K' := [(6, .own 6 0), (7, .own 7 0)]) (L' := [(6, 25, [.val (.int .i64 b6.f_Kind), .str b6.f_Text, .recs (α := List UInt8) [] E_string b6.f_Keys, .tree (α := S_api_Node) (S_api_Node.mk 0 [] [] []) pre_S_api_Node kids_S_api_Node b6.f_Kids]), (7, 25, [.val (.int .i64 b7.f_Kind), .str b7.f_Text, .row 66, .row 72]), (66, 9, [.rowc false (α := List UInt8) [] E_string (b7.f_Keys ++ ([v1] : List (List UInt8)))]), (72, 25, [.rowc false (α := S_api_Node) (S_api_Node.mk 0 [] [] []) E_api_Node (b7.f_Kids ++ ([b5] : List (S_api_Node)))])]) (ob := [(MkOb 4 [.val (.int .i64 b5.f_Kind), .str b5.f_Text, .recs (α := List UInt8) [] E_string b5.f_Keys, .tree (α := S_api_Node) (S_api_Node.mk 0 [] [] []) pre_S_api_Node kids_S_api_Node b5.f_Kids] 1 (.recs (α := S_api_Node) (S_api_Node.mk 0 [] [] []) E_api_Node [b5]) ∧ GoodR (.recs (α := S_api_Node) (S_api_Node.mk 0 [] [] []) E_api_Node [b5])), (decide ((List.length b7.f_Kids + List.length ([b5] : List (S_api_Node))) * (72 + 1) ≤ limit)) = true, (AppOb (S_api_Node.mk 0 [] [] []) E_api_Node b7.f_Kids (List.flatMap E_api_Node ([b5] : List (S_api_Node))) (List.length ([b5] : List (S_api_Node))) (.recs (α := S_api_Node) (S_api_Node.mk 0 [] [] []) E_api_Node (b7.f_Kids ++ ([b5] : List (S_api_Node)))) ∧ GoodR (.recs (α := S_api_Node) (S_api_Node.mk 0 [] [] []) E_api_Node (b7.f_Kids ++ ([b5] : List (S_api_Node)))))]) (by kernel_rfl) (AllP.cons (mkOb (by kernel_rfl) rfl (by kernel_rfl) (good_E_api_Node _)) (AllP.cons hc2 (AllP.cons (appOb rfl rfl (good_E_api_Node _)) AllP.nil))) ?_
    refine To.keep (kk := [6, 7]) (kl := [6, 7, 66, 72]) (K' := [(6, .own 6 0), (7, .own 7 0)]) (L' := [(6, 25, [.val (.int .i64 b6.f_Kind), .str b6.f_Text, .recs (α := List UInt8) [] E_string b6.f_Keys, .tree (α := S_api_Node) (S_api_Node.mk 0 [] [] []) pre_S_api_Node kids_S_api_Node b6.f_Kids]), (7, 25, [.val (.int .i64 b7.f_Kind), .str b7.f_Text, .row 66, .row 72]), (66, 9, [.rowc false (α := List UInt8) [] E_string (b7.f_Keys ++ ([v1] : List (List UInt8)))]), (72, 25, [.rowc false (α := S_api_Node) (S_api_Node.mk 0 [] [] []) E_api_Node (b7.f_Kids ++ ([b5] : List (S_api_Node)))])]) (by kernel_rfl) (by kernel_rfl) ?_
    refine To.pre (St.rename 66 4422 (by decide) (K' := [(6, .own 6 0), (7, .own 7 0)]) (L' := [(6, 25, [.val (.int .i64 b6.f_Kind), .str b6.f_Text, .recs (α := List UInt8) [] E_string b6.f_Keys, .tree (α := S_api_Node) (S_api_Node.mk 0 [] [] []) pre_S_api_Node kids_S_api_Node b6.f_Kids]), (7, 25, [.val (.int .i64 b7.f_Kind), .str b7.f_Text, .row 4422, .row 72]), (4422, 9, [.rowc false (α := List UInt8) [] E_string (b7.f_Keys ++ ([v1] : List (List UInt8)))]), (72, 25, [.rowc false (α := S_api_Node) (S_api_Node.mk 0 [] [] []) E_api_Node (b7.f_Kids ++ ([b5] : List (S_api_Node)))])]) (by kernel_rfl) (by kernel_rfl) (by kernel_rfl)) ?_
    refine To.keep (kk := [6, 7]) (kl := [6, 7, 72, 4422]) (K' := [(6, .own 6 0), (7, .own 7 0)]) (L' := [(6, 25, [.val (.int .i64 b6.f_Kind), .str b6.f_Text, .recs (α := List UInt8) [] E_string b6.f_Keys, .tree (α := S_api_Node) (S_api_Node.mk 0 [] [] []) pre_S_api_Node kids_S_api_Node b6.f_Kids]), (7, 25, [.val (.int .i64 b7.f_Kind), .str b7.f_Text, .row 4422, .row 72]), (72, 25, [.rowc false (α := S_api_Node) (S_api_Node.mk 0 [] [] []) E_api_Node (b7.f_Kids ++ ([b5] : List (S_api_Node)))]), (4422, 9, [.rowc false (α := List UInt8) [] E_string (b7.f_Keys ++ ([v1] : List (List UInt8)))])]) (by kernel_rfl) (by kernel_rfl) ?_
    refine To.pre (St.rename 72 4423 (by decide) (K' := [(6, .own 6 0), (7, .own 7 0)]) (L' := [(6, 25, [.val (.int .i64 b6.f_Kind), .str b6.f_Text, .recs (α := List UInt8) [] E_string b6.f_Keys, .tree (α := S_api_Node) (S_api_Node.mk 0 [] [] []) pre_S_api_Node kids_S_api_Node b6.f_Kids]), (7, 25, [.val (.int .i64 b7.f_Kind), .str b7.f_Text, .row 4422, .row 4423]), (4423, 25, [.rowc false (α := S_api_Node) (S_api_Node.mk 0 [] [] []) E_api_Node (b7.f_Kids ++ ([b5] : List (S_api_Node)))]), (4422, 9, [.rowc false (α := List UInt8) [] E_string (b7.f_Keys ++ ([v1] : List (List UInt8)))])]) (by kernel_rfl) (by kernel_rfl) (by kernel_rfl)) ?_
    refine To.keep (kk := [6, 7]) (kl := [6, 7, 4422, 4423]) (K' := [(6, .own 6 0), (7, .own 7 0)]) (L' := [(6, 25, [.val (.int .i64 b6.f_Kind), .str b6.f_Text, .recs (α := List UInt8) [] E_string b6.f_Keys, .tree (α := S_api_Node) (S_api_Node.mk 0 [] [] []) pre_S_api_Node kids_S_api_Node b6.f_Kids]), (7, 25, [.val (.int .i64 b7.f_Kind), .str b7.f_Text, .row 4422, .row 4423]), (4422, 9, [.rowc false (α := List UInt8) [] E_string (b7.f_Keys ++ ([v1] : List (List UInt8)))]), (4423, 25, [.rowc false (α := S_api_Node) (S_api_Node.mk 0 [] [] []) E_api_Node (b7.f_Kids ++ ([b5] : List (S_api_Node)))])]) (by kernel_rfl) (by kernel_rfl) ?_
    cases h
    exact hQ
  · replace h := if_f hb h
    refine Wp.skip ?_
    refine To.keep (kk := [6, 7]) (kl := [6, 7, 4422, 4423]) (K' := [(6, .own 6 0), (7, .own 7 0)]) (L' := [(6, 25, [.val (.int .i64 b6.f_Kind), .str b6.f_Text, .recs (α := List UInt8) [] E_string b6.f_Keys, .tree (α := S_api_Node) (S_api_Node.mk 0 [] [] []) pre_S_api_Node kids_S_api_Node b6.f_Kids]), (7, 25, [.val (.int .i64 b7.f_Kind), .str b7.f_Text, .row 4422, .row 4423]), (4422, 9, [.rowc false (α := List UInt8) [] E_string b7.f_Keys]), (4423, 25, [.rowc false (α := S_api_Node) (S_api_Node.mk 0 [] [] []) E_api_Node b7.f_Kids])]) (by kernel_rfl) (by kernel_rfl) ?_
    cases h
    exact hQ
def ref08_With (n : Nat) (a0 : S_api_Node) (a1 : List UInt8) (a2 : S_api_Node) : Option (S_api_Node) :=
  if (bif (a0.f_Kind != 0) then (a0.f_Kind != 3) else false) = true then some a0
  else ((ref08_With_l1 n a1 a0 a2 (S_api_Node.mk 0 [] [] []) n false 0 (S_api_Node.mk 3 [] [] [])).bind fun o1 =>
  (ref08_With_j3 n a1 (!o1.1) a2 (S_api_Node.mk 0 [] [] []) o1.2).bind fun o2 =>
  some o2)
end Go.Proofs.Ytjicbelggepaiaa.M
