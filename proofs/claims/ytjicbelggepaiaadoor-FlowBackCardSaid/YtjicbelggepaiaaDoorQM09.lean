/-
  Part of the proof of FlowBack: M09.
-/
import Derived.Test.YtjicbelggepaiaaDoorQM09b
set_option linter.all false
namespace Go.Proofs.YtjicbelggepaiaaDoor.M
open Go.RowKit Go.Proofs.YtjicbelggepaiaaDoor.RX
set_option maxRecDepth 100000
def quote_Double (n : Nat) (a0 : List UInt8) : Option ((List UInt8)) :=
  if (decide (0 ≤ (0 : Int) ∧ (0 : Int) ≤ (IntKind.wrap .i64 ((List.length a0 : Int) + 2)))) = true then (if (decide ((IntKind.wrap .i64 ((List.length a0 : Int) + 2)) * ((1 + 1 : Nat) : Int) ≤ (limit : Int))) = true then (if (decide ((List.length ([] : List (UInt8)) + List.length ([34] : List (UInt8))) * (1 + 1) ≤ limit)) = true then ((quote_Double_l1 n a0 (List.length a0 : Int) n (([] : List (UInt8)) ++ ([34] : List (UInt8))) 0).bind fun o1 =>
  if (decide ((List.length o1 + List.length ([34] : List (UInt8))) * (1 + 1) ≤ limit)) = true then (some (o1 ++ ([34] : List (UInt8)))) else none) else none) else none) else none
theorem ok_quote_Double (n : Nat) (a0 : List UInt8) (r : (List UInt8)) (h : quote_Double n a0 = some r) : CallsX Tryd.prog 24 [.str a0] (.str r) := by
  unfold quote_Double at h
  refine callsX_of (fn := Tryd.f24) (by kernel_rfl) rfl (by kernel_rfl) (Nat.le_of_ble_eq_true (by kernel_rfl)) fun F0 w0 _ => ?_
  refine Wp.keep (kk := [0]) (kl := []) (K' := [(0, .str a0)]) (L' := []) (by kernel_rfl) (by kernel_rfl) ?_
  refine Wp.seq ?_
  refine Wp.region hΓ [] [] [] [0] [] (K' := [(0, .str a0)]) (L' := []) (ob := []) (by kernel_rfl) AllP.nil ?_
  refine To.thenN ?_
  refine Wp.seq ?_
  obtain ⟨hc3, h⟩ := chk_of h
  obtain ⟨hc4, h⟩ := chk_of h
  obtain ⟨hc5, h⟩ := chk_of h
  refine Wp.region hΓ [] [(3, .recs (α := UInt8) 0 e8 []), (4, .recs (α := UInt8) 0 e8 [34]), (5, .recs (α := UInt8) 0 e8 (([] : List (UInt8)) ++ ([34] : List (UInt8))))] [] [0, 3] [11] (K' := [(0, .str a0), (3, .row 11)]) (L' := [(11, 5, [.rowc false (α := UInt8) 0 e8 (([] : List (UInt8)) ++ ([34] : List (UInt8)))])]) (ob := [(decide (0 ≤ (0 : Int) ∧ (0 : Int) ≤ (IntKind.wrap .i64 ((List.length a0 : Int) + 2)))) = true, (decide ((IntKind.wrap .i64 ((List.length a0 : Int) + 2)) * ((1 + 1 : Nat) : Int) ≤ (limit : Int))) = true, (MadeOb [.val (.int .u8 0)] (Int.toNat 0) (.recs (α := UInt8) 0 e8 []) ∧ GoodR (.recs (α := UInt8) 0 e8 [])), (MkOb 1 [.val (.int .u8 34)] 1 (.recs (α := UInt8) 0 e8 [34]) ∧ GoodR (.recs (α := UInt8) 0 e8 [34])), (decide ((List.length ([] : List (UInt8)) + List.length ([34] : List (UInt8))) * (1 + 1) ≤ limit)) = true, (AppOb 0 e8 ([] : List (UInt8)) (List.flatMap e8 ([34] : List (UInt8))) (List.length ([34] : List (UInt8))) (.recs (α := UInt8) 0 e8 (([] : List (UInt8)) ++ ([34] : List (UInt8)))) ∧ GoodR (.recs (α := UInt8) 0 e8 (([] : List (UInt8)) ++ ([34] : List (UInt8)))))]) (by kernel_rfl) (AllP.cons hc3 (AllP.cons hc4 (AllP.cons (madeOb (by kernel_rfl) (good8 _)) (AllP.cons (mkOb (All8.cells (ns := [34]) (.cons rfl .nil)) rfl rfl (good8 _)) (AllP.cons hc5 (AllP.cons (appOb rfl rfl (good8 _)) AllP.nil)))))) ?_
  refine To.thenN ?_
  refine Wp.seq ?_
  refine Wp.seq ?_
  refine Wp.region hΓ [] [] [] [0, 3, 13, 14] [11] (K' := [(0, .str a0), (3, .row 11), (13, .val (.int .i64 (List.length a0 : Int))), (14, .val (.int .i64 0))]) (L' := [(11, 5, [.rowc false (α := UInt8) 0 e8 (([] : List (UInt8)) ++ ([34] : List (UInt8)))])]) (ob := []) (by kernel_rfl) AllP.nil ?_
  refine To.thenN ?_
  refine Wp.block ?_
  obtain ⟨o1, ho1, h⟩ := bind_of h
  refine Wp.keep (kk := [0, 3, 13, 14]) (kl := [11]) (K' := [(0, .str a0), (3, .row 11), (13, .val (.int .i64 (List.length a0 : Int))), (14, .val (.int .i64 0))]) (L' := [(11, 5, [.rowc false (α := UInt8) 0 e8 (([] : List (UInt8)) ++ ([34] : List (UInt8)))])]) (by kernel_rfl) (by kernel_rfl) ?_
  refine Wp.pre (St.rename 11 1003 (by decide) (K' := [(0, .str a0), (3, .row 1003), (13, .val (.int .i64 (List.length a0 : Int))), (14, .val (.int .i64 0))]) (L' := [(1003, 5, [.rowc false (α := UInt8) 0 e8 (([] : List (UInt8)) ++ ([34] : List (UInt8)))])]) (by kernel_rfl) (by kernel_rfl) (by kernel_rfl)) ?_
  refine Wp.keep (kk := [0, 3, 13, 14]) (kl := [1003]) (K' := [(0, .str a0), (3, .row 1003), (13, .val (.int .i64 (List.length a0 : Int))), (14, .val (.int .i64 0))]) (L' := [(1003, 5, [.rowc false (α := UInt8) 0 e8 (([] : List (UInt8)) ++ ([34] : List (UInt8)))])]) (by kernel_rfl) (by kernel_rfl) ?_
  refine Wp.loopL ?_
  refine ok_quote_Double_l1 n a0 (List.length a0 : Int) n (([] : List (UInt8)) ++ ([34] : List (UInt8))) 0 o1 ho1 ?_
  refine To.blockX ?_
  refine To.thenN ?_
  refine Wp.seq ?_
  obtain ⟨hc2, h⟩ := chk_of h
  refine Wp.region hΓ [] [(1, .recs (α := UInt8) 0 e8 [34]), (2, .recs (α := UInt8) 0 e8 (o1 ++ ([34] : List (UInt8)))), (3, .str (o1 ++ ([34] : List (UInt8))))] [] [2] [] (K' := [(2, .str (o1 ++ ([34] : List (UInt8))))]) (L' := []) (ob := [(MkOb 1 [.val (.int .u8 34)] 1 (.recs (α := UInt8) 0 e8 [34]) ∧ GoodR (.recs (α := UInt8) 0 e8 [34])), (decide ((List.length o1 + List.length ([34] : List (UInt8))) * (1 + 1) ≤ limit)) = true, (AppOb 0 e8 o1 (List.flatMap e8 ([34] : List (UInt8))) (List.length ([34] : List (UInt8))) (.recs (α := UInt8) 0 e8 (o1 ++ ([34] : List (UInt8)))) ∧ GoodR (.recs (α := UInt8) 0 e8 (o1 ++ ([34] : List (UInt8))))), (true = true → StrOb (List.flatMap e8 (o1 ++ ([34] : List (UInt8)))) (.str (o1 ++ ([34] : List (UInt8)))))]) (by kernel_rfl) (AllP.cons (mkOb (All8.cells (ns := [34]) (.cons rfl .nil)) rfl rfl (good8 _)) (AllP.cons hc2 (AllP.cons (appOb rfl rfl (good8 _)) (AllP.cons (fun _ => strOb (flat8 _)) AllP.nil)))) ?_
  refine To.thenN ?_
  refine Wp.ret ?_
  refine To.keep (kk := [2]) (kl := []) (K' := [(2, .str (o1 ++ ([34] : List (UInt8))))]) (L' := []) (by kernel_rfl) (by kernel_rfl) ?_
  cases h
  exact To.done hΓ (by kernel_rfl)
def quote_Write (n : Nat) (a0 : List UInt8) (a1 : Bool) : Option ((List UInt8)) :=
  ((if (a1 == true) = true then quote_Row n a0 else some false)).bind fun r1 =>
  ((if (((!a1) == true) && ((bif a1 then r1 else false) == false)) = true then quote_Plain n a0 else some false)).bind fun r2 =>
  if (bif (bif a1 then r1 else false) then true else (bif (!a1) then r2 else false)) = true then some a0
  else ((quote_Double n a0).bind fun r3 =>
  some r3)
theorem ok_quote_Write (n : Nat) (a0 : List UInt8) (a1 : Bool) (r : (List UInt8)) (h : quote_Write n a0 a1 = some r) : CallsX Tryd.prog 14 [.str a0, .val (.bool a1)] (.str r) := by
  unfold quote_Write at h
  refine callsX_of (fn := Tryd.f14) (by kernel_rfl) rfl (by kernel_rfl) (Nat.le_of_ble_eq_true (by kernel_rfl)) fun F0 w0 _ => ?_
  refine Wp.keep (kk := [0, 1]) (kl := []) (K' := [(0, .str a0), (1, .val (.bool a1))]) (L' := []) (by kernel_rfl) (by kernel_rfl) ?_
  refine Wp.seq ?_
  refine Wp.region hΓ [] [] [] [0, 1] [] (K' := [(0, .str a0), (1, .val (.bool a1))]) (L' := []) (ob := []) (by kernel_rfl) AllP.nil ?_
  refine To.thenN ?_
  refine Wp.seq ?_
  refine Wp.seq ?_
  obtain ⟨r1, hr1, h⟩ := bind_of h
  obtain ⟨r2, hr2, h⟩ := bind_of h
  refine Wp.region hΓ [] [(3, .val (.bool r1)), (10, .val (.bool r2))] [] [0, 17] [] (K' := [(0, .str a0), (17, .val (.bool (bif (bif a1 then r1 else false) then true else (bif (!a1) then r2 else false))))]) (L' := []) (ob := [((a1 == true) = true → CX Tryd.prog 22 [.str a0] (.val (.bool r1))), ((((!a1) == true) && ((bif a1 then r1 else false) == false)) = true → CX Tryd.prog 23 [.str a0] (.val (.bool r2)))]) (by kernel_rfl) (AllP.cons (fun hg => cx (ok_quote_Row n a0 _ (if_t hg hr1))) (AllP.cons (fun hg => cx (ok_quote_Plain n a0 _ (if_t hg hr2))) AllP.nil)) ?_
  refine To.thenN ?_
  refine Wp.cond (b := (bif (bif a1 then r1 else false) then true else (bif (!a1) then r2 else false))) (by kernel_rfl) (fun hb => ?_) (fun hb => ?_)
  · replace h := if_t hb h
    refine Wp.seq ?_
    refine Wp.region hΓ [] [] [] [4] [] (K' := [(4, .str a0)]) (L' := []) (ob := []) (by kernel_rfl) AllP.nil ?_
    refine To.thenN ?_
    refine Wp.ret ?_
    refine To.thenR ?_
    refine To.keep (kk := [4]) (kl := []) (K' := [(4, .str a0)]) (L' := []) (by kernel_rfl) (by kernel_rfl) ?_
    cases h
    exact To.done hΓ (by kernel_rfl)
  · replace h := if_f hb h
    refine Wp.skip ?_
    refine To.thenN ?_
    refine Wp.seq ?_
    obtain ⟨r3, hr3, h⟩ := bind_of h
    refine Wp.region hΓ [] [(1, .str r3)] [] [4] [] (K' := [(4, .str r3)]) (L' := []) (ob := [(true = true → CX Tryd.prog 24 [.str a0] (.str r3))]) (by kernel_rfl) (AllP.cons (fun _ => cx (ok_quote_Double n a0 _ hr3)) AllP.nil) ?_
    refine To.thenN ?_
    refine Wp.ret ?_
    refine To.keep (kk := [4]) (kl := []) (K' := [(4, .str r3)]) (L' := []) (by kernel_rfl) (by kernel_rfl) ?_
    cases h
    exact To.done hΓ (by kernel_rfl)
def flow_Write_l1 (R_flow_Write : S_api_Node → Option ((List UInt8))) (n : Nat) (v19 : List (S_api_Node)) (v20 : Int) : Nat → (List (List UInt8)) → Int → Option ((List (List UInt8)))
  | 0, _, _ => none
  | k + 1, v3, v21 => if (decide (v21 < v20)) = true then (if (decide (0 ≤ v21 ∧ v21 < (List.length v19 : Int))) = true then ((R_flow_Write ((v19)[Int.toNat v21]?.getD (S_api_Node.mk 0 [] [] []))).bind fun r2 =>
  if (decide ((List.length v3 + List.length ([r2] : List (List UInt8))) * (16 + 1) ≤ limit)) = true then (flow_Write_l1 R_flow_Write n v19 v20 k (v3 ++ ([r2] : List (List UInt8))) (IntKind.wrap .i64 (v21 + 1))) else none) else none)
  else some v3
theorem ok_flow_Write_l1 (R_flow_Write : S_api_Node → Option ((List UInt8))) (hR_flow_Write : ∀ (a0 : S_api_Node) (r : (List UInt8)), R_flow_Write a0 = some r → CallsX Tryd.prog 7 [.agg [.val (.int .i64 a0.f_Kind), .str a0.f_Text, .recs (α := List UInt8) [] E_string a0.f_Keys, .tree (α := S_api_Node) (S_api_Node.mk 0 [] [] []) pre_S_api_Node kids_S_api_Node a0.f_Kids]] (.str r)) (n : Nat) (v19 : List (S_api_Node)) (v20 : Int) {F0 : Fz} {w0 : Pt Tryd.prog} {Q : Exit → Act → World → Prop} (k : Nat) : ∀ (v3 : List (List UInt8)) (v21 : Int) (o : (List (List UInt8))), flow_Write_l1 R_flow_Write n v19 v20 k v3 v21 = some o → To 63 F0 w0 [(3, .row 1003)] [(1003, 9, [.rowc false (α := List UInt8) [] E_string o])] (.exit 1) Q → WL Tryd.prog 63 F0 w0 [(3, .row 1003), (19, .recs (α := S_api_Node) (S_api_Node.mk 0 [] [] []) E_api_Node v19), (20, .val (.int .i64 v20)), (21, .val (.int .i64 v21))] [(1003, 9, [.rowc false (α := List UInt8) [] E_string v3])] (cI (cI (cB (cA (cB (cT (cB (cE (cB (cI (cB (cA (cB (cF Tryd.f7)))))))))))))) Q := by
  induction k with
  | zero => intro v3 v21 o h; cases h
  | succ k ih =>
    intro v3 v21 o h hQ
    rw [flow_Write_l1] at h
    refine WL.round ?_
    refine Wp.seq ?_
    refine Wp.region hΓ [] [] [] [3, 19, 20, 21, 22] [1003] (K' := [(3, .row 1003), (19, .recs (α := S_api_Node) (S_api_Node.mk 0 [] [] []) E_api_Node v19), (20, .val (.int .i64 v20)), (21, .val (.int .i64 v21)), (22, .val (.bool (decide (v21 < v20))))]) (L' := [(1003, 9, [.rowc false (α := List UInt8) [] E_string v3])]) (ob := []) (by kernel_rfl) AllP.nil ?_
    refine To.thenN ?_
    refine Wp.seq ?_
    refine Wp.cond (b := (decide (v21 < v20))) (by kernel_rfl) (fun hb => ?_) (fun hb => ?_)
    · replace h := if_t hb h
      refine Wp.skip ?_
      refine To.thenN ?_
      refine Wp.seq ?_
      refine Wp.block ?_
      refine Wp.seq ?_
      obtain ⟨hc4, h⟩ := chk_of h
      refine Wp.region hΓ [] [] [] [3, 5, 19, 20, 21] [5, 1003] (K' := [(3, .row 1003), (5, .own 5 0), (19, .recs (α := S_api_Node) (S_api_Node.mk 0 [] [] []) E_api_Node v19), (20, .val (.int .i64 v20)), (21, .val (.int .i64 v21))]) (L' := [(5, 25, [.val (.int .i64 (((v19)[Int.toNat v21]?.getD (S_api_Node.mk 0 [] [] [])).f_Kind)), .str (((v19)[Int.toNat v21]?.getD (S_api_Node.mk 0 [] [] [])).f_Text), .recs (α := List UInt8) [] E_string (((v19)[Int.toNat v21]?.getD (S_api_Node.mk 0 [] [] [])).f_Keys), .tree (α := S_api_Node) (S_api_Node.mk 0 [] [] []) pre_S_api_Node kids_S_api_Node (((v19)[Int.toNat v21]?.getD (S_api_Node.mk 0 [] [] [])).f_Kids)]), (1003, 9, [.rowc false (α := List UInt8) [] E_string v3])]) (ob := [(decide (0 ≤ v21 ∧ v21 < (List.length v19 : Int))) = true]) (by kernel_rfl) (AllP.cons hc4 AllP.nil) ?_
      refine To.thenN ?_
      obtain ⟨r2, hr2, h⟩ := bind_of h
      obtain ⟨hc3, h⟩ := chk_of h
      refine Wp.region hΓ [] [(2, .str r2), (3, .recs (α := List UInt8) [] E_string [r2]), (4, .recs (α := List UInt8) [] E_string (v3 ++ ([r2] : List (List UInt8))))] [] [3, 19, 20, 21] [29] (K' := [(3, .row 29), (19, .recs (α := S_api_Node) (S_api_Node.mk 0 [] [] []) E_api_Node v19), (20, .val (.int .i64 v20)), (21, .val (.int .i64 v21))]) (L' := [(29, 9, [.rowc false (α := List UInt8) [] E_string (v3 ++ ([r2] : List (List UInt8)))])]) (ob := [(true = true → CX Tryd.prog 7 [.agg [.val (.int .i64 (((v19)[Int.toNat v21]?.getD (S_api_Node.mk 0 [] [] [])).f_Kind)), .str (((v19)[Int.toNat v21]?.getD (S_api_Node.mk 0 [] [] [])).f_Text), .recs (α := List UInt8) [] E_string (((v19)[Int.toNat v21]?.getD (S_api_Node.mk 0 [] [] [])).f_Keys), .tree (α := S_api_Node) (S_api_Node.mk 0 [] [] []) pre_S_api_Node kids_S_api_Node (((v19)[Int.toNat v21]?.getD (S_api_Node.mk 0 [] [] [])).f_Kids)]] (.str r2)), (MkOb 1 [.str r2] 1 (.recs (α := List UInt8) [] E_string [r2]) ∧ GoodR (.recs (α := List UInt8) [] E_string [r2])), (decide ((List.length v3 + List.length ([r2] : List (List UInt8))) * (16 + 1) ≤ limit)) = true, (AppOb [] E_string v3 (List.flatMap E_string ([r2] : List (List UInt8))) (List.length ([r2] : List (List UInt8))) (.recs (α := List UInt8) [] E_string (v3 ++ ([r2] : List (List UInt8)))) ∧ GoodR (.recs (α := List UInt8) [] E_string (v3 ++ ([r2] : List (List UInt8)))))]) (by kernel_rfl) (AllP.cons (fun _ => cx (hR_flow_Write ((v19)[Int.toNat v21]?.getD (S_api_Node.mk 0 [] [] [])) _ hr2)) (AllP.cons (mkOb (by kernel_rfl) rfl (by kernel_rfl) (good_E_string _)) (AllP.cons hc3 (AllP.cons (appOb rfl rfl (good_E_string _)) AllP.nil)))) ?_
      refine To.blockN ?_
      refine To.thenN ?_
      refine Wp.region hΓ [] [] [] [3, 19, 20, 21] [29] (K' := [(3, .row 29), (19, .recs (α := S_api_Node) (S_api_Node.mk 0 [] [] []) E_api_Node v19), (20, .val (.int .i64 v20)), (21, .val (.int .i64 (IntKind.wrap .i64 (v21 + 1))))]) (L' := [(29, 9, [.rowc false (α := List UInt8) [] E_string (v3 ++ ([r2] : List (List UInt8)))])]) (ob := []) (by kernel_rfl) AllP.nil ?_
      refine To.keep (kk := [3, 19, 20, 21]) (kl := [29]) (K' := [(3, .row 29), (19, .recs (α := S_api_Node) (S_api_Node.mk 0 [] [] []) E_api_Node v19), (20, .val (.int .i64 v20)), (21, .val (.int .i64 (IntKind.wrap .i64 (v21 + 1))))]) (L' := [(29, 9, [.rowc false (α := List UInt8) [] E_string (v3 ++ ([r2] : List (List UInt8)))])]) (by kernel_rfl) (by kernel_rfl) ?_
      refine To.pre (St.rename 29 1003 (by decide) (K' := [(3, .row 1003), (19, .recs (α := S_api_Node) (S_api_Node.mk 0 [] [] []) E_api_Node v19), (20, .val (.int .i64 v20)), (21, .val (.int .i64 (IntKind.wrap .i64 (v21 + 1))))]) (L' := [(1003, 9, [.rowc false (α := List UInt8) [] E_string (v3 ++ ([r2] : List (List UInt8)))])]) (by kernel_rfl) (by kernel_rfl) (by kernel_rfl)) ?_
      refine To.keep (kk := [3, 19, 20, 21]) (kl := [1003]) (K' := [(3, .row 1003), (19, .recs (α := S_api_Node) (S_api_Node.mk 0 [] [] []) E_api_Node v19), (20, .val (.int .i64 v20)), (21, .val (.int .i64 (IntKind.wrap .i64 (v21 + 1))))]) (L' := [(1003, 9, [.rowc false (α := List UInt8) [] E_string (v3 ++ ([r2] : List (List UInt8)))])]) (by kernel_rfl) (by kernel_rfl) ?_
      refine To.again ?_
      exact ih (v3 ++ ([r2] : List (List UInt8))) (IntKind.wrap .i64 (v21 + 1)) _ h hQ
    · replace h := if_f hb h
      refine Wp.exit ?_
      refine To.thenX ?_
      refine To.thenX ?_
      refine To.keep (kk := [3]) (kl := [1003]) (K' := [(3, .row 1003)]) (L' := [(1003, 9, [.rowc false (α := List UInt8) [] E_string v3])]) (by kernel_rfl) (by kernel_rfl) ?_
      cases h
      exact hQ
def flow_Write_l2 (R_flow_Write : S_api_Node → Option ((List UInt8))) (n : Nat) (v38 : List (S_api_Node)) (v39 : Int) (b1 : S_api_Node) : Nat → (List (List UInt8)) → Int → Option ((List (List UInt8)))
  | 0, _, _ => none
  | k + 1, v6, v40 => if (decide (v40 < v39)) = true then (if (decide (0 ≤ v40 ∧ v40 < (List.length v38 : Int))) = true then (if (decide (0 ≤ v40 ∧ v40 < (List.length b1.f_Keys : Int))) = true then ((quote_Write n ((b1.f_Keys)[Int.toNat v40]?.getD []) true).bind fun r6 =>
  if (decide (((List.length r6 + List.length ([58, 32] : List UInt8) : Nat) : Int) ≤ 9223372036854775807)) = true then ((R_flow_Write ((v38)[Int.toNat v40]?.getD (S_api_Node.mk 0 [] [] []))).bind fun r7 =>
  if (decide (((List.length (r6 ++ [58, 32]) + List.length r7 : Nat) : Int) ≤ 9223372036854775807)) = true then (if (decide ((List.length v6 + List.length ([((r6 ++ [58, 32]) ++ r7)] : List (List UInt8))) * (16 + 1) ≤ limit)) = true then (flow_Write_l2 R_flow_Write n v38 v39 b1 k (v6 ++ ([((r6 ++ [58, 32]) ++ r7)] : List (List UInt8))) (IntKind.wrap .i64 (v40 + 1))) else none) else none) else none) else none) else none)
  else some v6
theorem ok_flow_Write_l2 (R_flow_Write : S_api_Node → Option ((List UInt8))) (hR_flow_Write : ∀ (a0 : S_api_Node) (r : (List UInt8)), R_flow_Write a0 = some r → CallsX Tryd.prog 7 [.agg [.val (.int .i64 a0.f_Kind), .str a0.f_Text, .recs (α := List UInt8) [] E_string a0.f_Keys, .tree (α := S_api_Node) (S_api_Node.mk 0 [] [] []) pre_S_api_Node kids_S_api_Node a0.f_Kids]] (.str r)) (n : Nat) (v38 : List (S_api_Node)) (v39 : Int) (b1 : S_api_Node) {F0 : Fz} {w0 : Pt Tryd.prog} {Q : Exit → Act → World → Prop} (k : Nat) : ∀ (v6 : List (List UInt8)) (v40 : Int) (o : (List (List UInt8))), flow_Write_l2 R_flow_Write n v38 v39 b1 k v6 v40 = some o → To 63 F0 w0 [(6, .row 1006)] [(1006, 9, [.rowc false (α := List UInt8) [] E_string o])] (.exit 3) Q → WL Tryd.prog 63 F0 w0 [(1, .own 1 0), (6, .row 1006), (38, .recs (α := S_api_Node) (S_api_Node.mk 0 [] [] []) E_api_Node v38), (39, .val (.int .i64 v39)), (40, .val (.int .i64 v40))] [(1, 25, [.val (.int .i64 b1.f_Kind), .str b1.f_Text, .recs (α := List UInt8) [] E_string b1.f_Keys, .tree (α := S_api_Node) (S_api_Node.mk 0 [] [] []) pre_S_api_Node kids_S_api_Node b1.f_Kids]), (1006, 9, [.rowc false (α := List UInt8) [] E_string v6])] (cI (cI (cB (cA (cB (cT (cB (cE (cB (cE (cB (cI (cB (cA (cB (cF Tryd.f7)))))))))))))))) Q := by
  induction k with
  | zero => intro v6 v40 o h; cases h
  | succ k ih =>
    intro v6 v40 o h hQ
    rw [flow_Write_l2] at h
    refine WL.round ?_
    refine Wp.seq ?_
    refine Wp.region hΓ [] [] [] [1, 6, 38, 39, 40, 41] [1, 1006] (K' := [(1, .own 1 0), (6, .row 1006), (38, .recs (α := S_api_Node) (S_api_Node.mk 0 [] [] []) E_api_Node v38), (39, .val (.int .i64 v39)), (40, .val (.int .i64 v40)), (41, .val (.bool (decide (v40 < v39))))]) (L' := [(1, 25, [.val (.int .i64 b1.f_Kind), .str b1.f_Text, .recs (α := List UInt8) [] E_string b1.f_Keys, .tree (α := S_api_Node) (S_api_Node.mk 0 [] [] []) pre_S_api_Node kids_S_api_Node b1.f_Kids]), (1006, 9, [.rowc false (α := List UInt8) [] E_string v6])]) (ob := []) (by kernel_rfl) AllP.nil ?_
    refine To.thenN ?_
    refine Wp.seq ?_
    refine Wp.cond (b := (decide (v40 < v39))) (by kernel_rfl) (fun hb => ?_) (fun hb => ?_)
    · replace h := if_t hb h
      refine Wp.skip ?_
      refine To.thenN ?_
      refine Wp.seq ?_
      refine Wp.block ?_
      refine Wp.seq ?_
      obtain ⟨hc12, h⟩ := chk_of h
      refine Wp.region hΓ [] [] [] [1, 6, 7, 8, 38, 39, 40] [1, 8, 1006] (K' := [(1, .own 1 0), (6, .row 1006), (7, .val (.int .i64 v40)), (8, .own 8 0), (38, .recs (α := S_api_Node) (S_api_Node.mk 0 [] [] []) E_api_Node v38), (39, .val (.int .i64 v39)), (40, .val (.int .i64 v40))]) (L' := [(1, 25, [.val (.int .i64 b1.f_Kind), .str b1.f_Text, .recs (α := List UInt8) [] E_string b1.f_Keys, .tree (α := S_api_Node) (S_api_Node.mk 0 [] [] []) pre_S_api_Node kids_S_api_Node b1.f_Kids]), (8, 25, [.val (.int .i64 (((v38)[Int.toNat v40]?.getD (S_api_Node.mk 0 [] [] [])).f_Kind)), .str (((v38)[Int.toNat v40]?.getD (S_api_Node.mk 0 [] [] [])).f_Text), .recs (α := List UInt8) [] E_string (((v38)[Int.toNat v40]?.getD (S_api_Node.mk 0 [] [] [])).f_Keys), .tree (α := S_api_Node) (S_api_Node.mk 0 [] [] []) pre_S_api_Node kids_S_api_Node (((v38)[Int.toNat v40]?.getD (S_api_Node.mk 0 [] [] [])).f_Kids)]), (1006, 9, [.rowc false (α := List UInt8) [] E_string v6])]) (ob := [(decide (0 ≤ v40 ∧ v40 < (List.length v38 : Int))) = true]) (by kernel_rfl) (AllP.cons hc12 AllP.nil) ?_
      refine To.thenN ?_
      obtain ⟨hc8, h⟩ := chk_of h
      obtain ⟨r6, hr6, h⟩ := bind_of h
      obtain ⟨hc9, h⟩ := chk_of h
      obtain ⟨r7, hr7, h⟩ := bind_of h
      obtain ⟨hc10, h⟩ := chk_of h
      obtain ⟨hc11, h⟩ := chk_of h
      refine Wp.regionD hm hΓ [(6, .str r6), (9, .str r7), (11, .recs (α := List UInt8) [] E_string ([((r6 ++ [58, 32]) ++ r7)])), (12, .row 57), (1012, .recs (α := List UInt8) [] E_string (v6 ++ ([((r6 ++ [58, 32]) ++ r7)] : List (List UInt8))))] [1, 6, 38, 39, 40] [1, 57] (K' := [(1, .own 1 0), (6, .row 57), (38, .recs (α := S_api_Node) (S_api_Node.mk 0 [] [] []) E_api_Node v38), (39, .val (.int .i64 v39)), (40, .val (.int .i64 v40))]) (L' := [(1, 25, [.val (.int .i64 b1.f_Kind), .str b1.f_Text, .recs (α := List UInt8) [] E_string b1.f_Keys, .tree (α := S_api_Node) (S_api_Node.mk 0 [] [] []) pre_S_api_Node kids_S_api_Node b1.f_Kids]), (57, 9, [.rowc false (α := List UInt8) [] E_string (v6 ++ ([((r6 ++ [58, 32]) ++ r7)] : List (List UInt8)))])]) (ob := [(decide (0 ≤ v40 ∧ v40 < (List.length b1.f_Keys : Int))) = true, (true = true → CX Tryd.prog 14 [.str ((b1.f_Keys)[Int.toNat v40]?.getD []), .val (.bool true)] (.str r6)), (decide (((List.length r6 + List.length ([58, 32] : List UInt8) : Nat) : Int) ≤ 9223372036854775807)) = true, (true = true → CX Tryd.prog 7 [.agg [.val (.int .i64 (((v38)[Int.toNat v40]?.getD (S_api_Node.mk 0 [] [] [])).f_Kind)), .str (((v38)[Int.toNat v40]?.getD (S_api_Node.mk 0 [] [] [])).f_Text), .recs (α := List UInt8) [] E_string (((v38)[Int.toNat v40]?.getD (S_api_Node.mk 0 [] [] [])).f_Keys), .tree (α := S_api_Node) (S_api_Node.mk 0 [] [] []) pre_S_api_Node kids_S_api_Node (((v38)[Int.toNat v40]?.getD (S_api_Node.mk 0 [] [] [])).f_Kids)]] (.str r7)), (decide (((List.length (r6 ++ [58, 32]) + List.length r7 : Nat) : Int) ≤ 9223372036854775807)) = true, (true = true → MkOb 1 [.str ((r6 ++ [58, 32]) ++ r7)] 1 (.recs (α := List UInt8) [] E_string ([((r6 ++ [58, 32]) ++ r7)])) ∧ GoodR (.recs (α := List UInt8) [] E_string ([((r6 ++ [58, 32]) ++ r7)]))), (decide ((List.length v6 + List.length ([((r6 ++ [58, 32]) ++ r7)] : List (List UInt8))) * (16 + 1) ≤ limit)) = true, (AppOb [] E_string v6 (List.flatMap E_string ([((r6 ++ [58, 32]) ++ r7)] : List (List UInt8))) (List.length ([((r6 ++ [58, 32]) ++ r7)] : List (List UInt8))) (.recs (α := List UInt8) [] E_string (v6 ++ ([((r6 ++ [58, 32]) ++ r7)] : List (List UInt8)))) ∧ GoodR (.recs (α := List UInt8) [] E_string (v6 ++ ([((r6 ++ [58, 32]) ++ r7)] : List (List UInt8)))))]) (by kernel_rfl) (AllP.cons hc8 (AllP.cons (fun _ => cx (ok_quote_Write n ((b1.f_Keys)[Int.toNat v40]?.getD []) true _ hr6)) (AllP.cons hc9 (AllP.cons (fun _ => cx (hR_flow_Write ((v38)[Int.toNat v40]?.getD (S_api_Node.mk 0 [] [] [])) _ hr7)) (AllP.cons hc10 (AllP.cons (fun _ => mkOb (by kernel_rfl) rfl (by kernel_rfl) (good_E_string _)) (AllP.cons hc11 (AllP.cons (appOb rfl rfl (good_E_string _)) AllP.nil)))))))) ?_
      refine To.blockN ?_
      refine To.thenN ?_
      refine Wp.region hΓ [] [] [] [1, 6, 38, 39, 40] [1, 57] (K' := [(1, .own 1 0), (6, .row 57), (38, .recs (α := S_api_Node) (S_api_Node.mk 0 [] [] []) E_api_Node v38), (39, .val (.int .i64 v39)), (40, .val (.int .i64 (IntKind.wrap .i64 (v40 + 1))))]) (L' := [(1, 25, [.val (.int .i64 b1.f_Kind), .str b1.f_Text, .recs (α := List UInt8) [] E_string b1.f_Keys, .tree (α := S_api_Node) (S_api_Node.mk 0 [] [] []) pre_S_api_Node kids_S_api_Node b1.f_Kids]), (57, 9, [.rowc false (α := List UInt8) [] E_string (v6 ++ ([((r6 ++ [58, 32]) ++ r7)] : List (List UInt8)))])]) (ob := []) (by kernel_rfl) AllP.nil ?_
      refine To.keep (kk := [1, 6, 38, 39, 40]) (kl := [1, 57]) (K' := [(1, .own 1 0), (6, .row 57), (38, .recs (α := S_api_Node) (S_api_Node.mk 0 [] [] []) E_api_Node v38), (39, .val (.int .i64 v39)), (40, .val (.int .i64 (IntKind.wrap .i64 (v40 + 1))))]) (L' := [(1, 25, [.val (.int .i64 b1.f_Kind), .str b1.f_Text, .recs (α := List UInt8) [] E_string b1.f_Keys, .tree (α := S_api_Node) (S_api_Node.mk 0 [] [] []) pre_S_api_Node kids_S_api_Node b1.f_Kids]), (57, 9, [.rowc false (α := List UInt8) [] E_string (v6 ++ ([((r6 ++ [58, 32]) ++ r7)] : List (List UInt8)))])]) (by kernel_rfl) (by kernel_rfl) ?_
      refine To.pre (St.rename 57 1006 (by decide) (K' := [(1, .own 1 0), (6, .row 1006), (38, .recs (α := S_api_Node) (S_api_Node.mk 0 [] [] []) E_api_Node v38), (39, .val (.int .i64 v39)), (40, .val (.int .i64 (IntKind.wrap .i64 (v40 + 1))))]) (L' := [(1, 25, [.val (.int .i64 b1.f_Kind), .str b1.f_Text, .recs (α := List UInt8) [] E_string b1.f_Keys, .tree (α := S_api_Node) (S_api_Node.mk 0 [] [] []) pre_S_api_Node kids_S_api_Node b1.f_Kids]), (1006, 9, [.rowc false (α := List UInt8) [] E_string (v6 ++ ([((r6 ++ [58, 32]) ++ r7)] : List (List UInt8)))])]) (by kernel_rfl) (by kernel_rfl) (by kernel_rfl)) ?_
      refine To.keep (kk := [1, 6, 38, 39, 40]) (kl := [1, 1006]) (K' := [(1, .own 1 0), (6, .row 1006), (38, .recs (α := S_api_Node) (S_api_Node.mk 0 [] [] []) E_api_Node v38), (39, .val (.int .i64 v39)), (40, .val (.int .i64 (IntKind.wrap .i64 (v40 + 1))))]) (L' := [(1, 25, [.val (.int .i64 b1.f_Kind), .str b1.f_Text, .recs (α := List UInt8) [] E_string b1.f_Keys, .tree (α := S_api_Node) (S_api_Node.mk 0 [] [] []) pre_S_api_Node kids_S_api_Node b1.f_Kids]), (1006, 9, [.rowc false (α := List UInt8) [] E_string (v6 ++ ([((r6 ++ [58, 32]) ++ r7)] : List (List UInt8)))])]) (by kernel_rfl) (by kernel_rfl) ?_
      refine To.again ?_
      exact ih (v6 ++ ([((r6 ++ [58, 32]) ++ r7)] : List (List UInt8))) (IntKind.wrap .i64 (v40 + 1)) _ h hQ
    · replace h := if_f hb h
      refine Wp.exit ?_
      refine To.thenX ?_
      refine To.thenX ?_
      refine To.keep (kk := [6]) (kl := [1006]) (K' := [(6, .row 1006)]) (L' := [(1006, 9, [.rowc false (α := List UInt8) [] E_string v6])]) (by kernel_rfl) (by kernel_rfl) ?_
      cases h
      exact hQ
def flow_Write_b (R_flow_Write : S_api_Node → Option ((List UInt8))) (n : Nat) (a0 : S_api_Node) : Option ((List UInt8)) :=
  if (a0.f_Kind == 1) = true then ((quote_Write n a0.f_Text true).bind fun r1 =>
  some r1)
  else (if (a0.f_Kind == 2) = true then ((flow_Write_l1 R_flow_Write n a0.f_Kids (List.length a0.f_Kids : Int) n ([] : List (List UInt8)) 0).bind fun o2 =>
  if (decide (List.length o2 ≤ limit ∧ List.length (Lib.join o2 ([44, 32] : List UInt8)) ≤ limit)) = true then (if (decide (((List.length ([91] : List UInt8) + List.length (Lib.join o2 ([44, 32] : List UInt8)) : Nat) : Int) ≤ 9223372036854775807)) = true then (if (decide (((List.length (([91] : List UInt8) ++ (Lib.join o2 ([44, 32] : List UInt8))) + List.length ([93] : List UInt8) : Nat) : Int) ≤ 9223372036854775807)) = true then (some ((([91] : List UInt8) ++ (Lib.join o2 ([44, 32] : List UInt8))) ++ [93])) else none) else none) else none)
  else (if (a0.f_Kind == 3) = true then ((flow_Write_l2 R_flow_Write n a0.f_Kids (List.length a0.f_Kids : Int) a0 n ([] : List (List UInt8)) 0).bind fun o6 =>
  if (decide (List.length o6 ≤ limit ∧ List.length (Lib.join o6 ([44, 32] : List UInt8)) ≤ limit)) = true then (if (decide (((List.length ([123] : List UInt8) + List.length (Lib.join o6 ([44, 32] : List UInt8)) : Nat) : Int) ≤ 9223372036854775807)) = true then (if (decide (((List.length (([123] : List UInt8) ++ (Lib.join o6 ([44, 32] : List UInt8))) + List.length ([125] : List UInt8) : Nat) : Int) ≤ 9223372036854775807)) = true then (some ((([123] : List UInt8) ++ (Lib.join o6 ([44, 32] : List UInt8))) ++ [125])) else none) else none) else none)
  else (some [110, 117, 108, 108])))
theorem ok_flow_Write_b (R_flow_Write : S_api_Node → Option ((List UInt8))) (hR_flow_Write : ∀ (a0 : S_api_Node) (r : (List UInt8)), R_flow_Write a0 = some r → CallsX Tryd.prog 7 [.agg [.val (.int .i64 a0.f_Kind), .str a0.f_Text, .recs (α := List UInt8) [] E_string a0.f_Keys, .tree (α := S_api_Node) (S_api_Node.mk 0 [] [] []) pre_S_api_Node kids_S_api_Node a0.f_Kids]] (.str r)) (n : Nat) (a0 : S_api_Node) (r : (List UInt8)) (h : flow_Write_b R_flow_Write n a0 = some r) : CallsX Tryd.prog 7 [.agg [.val (.int .i64 a0.f_Kind), .str a0.f_Text, .recs (α := List UInt8) [] E_string a0.f_Keys, .tree (α := S_api_Node) (S_api_Node.mk 0 [] [] []) pre_S_api_Node kids_S_api_Node a0.f_Kids]] (.str r) := by
  unfold flow_Write_b at h
  refine callsX_of (fn := Tryd.f7) (by kernel_rfl) rfl (by kernel_rfl) (Nat.le_of_ble_eq_true (by kernel_rfl)) fun F0 w0 _ => ?_
  refine Wp.keep (kk := [0]) (kl := []) (K' := [(0, .agg [.val (.int .i64 a0.f_Kind), .str a0.f_Text, .recs (α := List UInt8) [] E_string a0.f_Keys, .tree (α := S_api_Node) (S_api_Node.mk 0 [] [] []) pre_S_api_Node kids_S_api_Node a0.f_Kids])]) (L' := []) (by kernel_rfl) (by kernel_rfl) ?_
  refine Wp.seq ?_
  refine Wp.region hΓ [] [] [] [1] [1] (K' := [(1, .own 1 0)]) (L' := [(1, 25, [.val (.int .i64 a0.f_Kind), .str a0.f_Text, .recs (α := List UInt8) [] E_string a0.f_Keys, .tree (α := S_api_Node) (S_api_Node.mk 0 [] [] []) pre_S_api_Node kids_S_api_Node a0.f_Kids])]) (ob := []) (by kernel_rfl) AllP.nil ?_
  refine To.thenN ?_
  refine Wp.seq ?_
  refine Wp.seq ?_
  refine Wp.region hΓ [] [] [] [1, 10] [1] (K' := [(1, .own 1 0), (10, .val (.int .i64 a0.f_Kind))]) (L' := [(1, 25, [.val (.int .i64 a0.f_Kind), .str a0.f_Text, .recs (α := List UInt8) [] E_string a0.f_Keys, .tree (α := S_api_Node) (S_api_Node.mk 0 [] [] []) pre_S_api_Node kids_S_api_Node a0.f_Kids])]) (ob := []) (by kernel_rfl) AllP.nil ?_
  refine To.thenN ?_
  refine Wp.block ?_
  refine Wp.seq ?_
  refine Wp.region hΓ [] [] [] [1, 10, 11] [1] (K' := [(1, .own 1 0), (10, .val (.int .i64 a0.f_Kind)), (11, .val (.bool (a0.f_Kind == 1)))]) (L' := [(1, 25, [.val (.int .i64 a0.f_Kind), .str a0.f_Text, .recs (α := List UInt8) [] E_string a0.f_Keys, .tree (α := S_api_Node) (S_api_Node.mk 0 [] [] []) pre_S_api_Node kids_S_api_Node a0.f_Kids])]) (ob := []) (by kernel_rfl) AllP.nil ?_
  refine To.thenN ?_
  refine Wp.cond (b := (a0.f_Kind == 1)) (by kernel_rfl) (fun hb => ?_) (fun hb => ?_)
  · replace h := if_t hb h
    refine Wp.seq ?_
    obtain ⟨r1, hr1, h⟩ := bind_of h
    refine Wp.region hΓ [] [(2, .str r1)] [] [2] [] (K' := [(2, .str r1)]) (L' := []) (ob := [(true = true → CX Tryd.prog 14 [.str a0.f_Text, .val (.bool true)] (.str r1))]) (by kernel_rfl) (AllP.cons (fun _ => cx (ok_quote_Write n a0.f_Text true _ hr1)) AllP.nil) ?_
    refine To.thenN ?_
    refine Wp.ret ?_
    refine To.blockR ?_
    refine To.thenR ?_
    refine To.keep (kk := [2]) (kl := []) (K' := [(2, .str r1)]) (L' := []) (by kernel_rfl) (by kernel_rfl) ?_
    cases h
    exact To.done hΓ (by kernel_rfl)
  · replace h := if_f hb h
    refine Wp.seq ?_
    refine Wp.region hΓ [] [] [] [1, 10, 16] [1] (K' := [(1, .own 1 0), (10, .val (.int .i64 a0.f_Kind)), (16, .val (.bool (a0.f_Kind == 2)))]) (L' := [(1, 25, [.val (.int .i64 a0.f_Kind), .str a0.f_Text, .recs (α := List UInt8) [] E_string a0.f_Keys, .tree (α := S_api_Node) (S_api_Node.mk 0 [] [] []) pre_S_api_Node kids_S_api_Node a0.f_Kids])]) (ob := []) (by kernel_rfl) AllP.nil ?_
    refine To.thenN ?_
    refine Wp.cond (b := (a0.f_Kind == 2)) (by kernel_rfl) (fun hb => ?_) (fun hb => ?_)
    · replace h := if_t hb h
      refine Wp.seq ?_
      refine Wp.region hΓ [] [] [] [1, 3] [1] (K' := [(1, .own 1 0), (3, .val (.slice none 0 0))]) (L' := [(1, 25, [.val (.int .i64 a0.f_Kind), .str a0.f_Text, .recs (α := List UInt8) [] E_string a0.f_Keys, .tree (α := S_api_Node) (S_api_Node.mk 0 [] [] []) pre_S_api_Node kids_S_api_Node a0.f_Kids])]) (ob := []) (by kernel_rfl) AllP.nil ?_
      refine To.thenN ?_
      refine Wp.seq ?_
      refine Wp.seq ?_
      refine Wp.region hΓ [] [] [] [3, 19, 20, 21] [] (K' := [(3, .val (.slice none 0 0)), (19, .tree (α := S_api_Node) (S_api_Node.mk 0 [] [] []) pre_S_api_Node kids_S_api_Node a0.f_Kids), (20, .val (.int .i64 (List.length a0.f_Kids : Int))), (21, .val (.int .i64 0))]) (L' := []) (ob := []) (by kernel_rfl) AllP.nil ?_
      refine To.thenN ?_
      refine Wp.block ?_
      obtain ⟨o2, ho2, h⟩ := bind_of h
      refine Wp.keep (kk := [3, 19, 20, 21]) (kl := []) (K' := [(3, .val (.slice none 0 0)), (19, .tree (α := S_api_Node) (S_api_Node.mk 0 [] [] []) pre_S_api_Node kids_S_api_Node a0.f_Kids), (20, .val (.int .i64 (List.length a0.f_Kids : Int))), (21, .val (.int .i64 0))]) (L' := []) (by kernel_rfl) (by kernel_rfl) ?_
      refine Wp.pre (St.vacant (t := 3) (k := 1003) (e := 9) (K' := [(3, .row 1003), (19, .tree (α := S_api_Node) (S_api_Node.mk 0 [] [] []) pre_S_api_Node kids_S_api_Node a0.f_Kids), (20, .val (.int .i64 (List.length a0.f_Kids : Int))), (21, .val (.int .i64 0))]) (good_E_string _) (by decide) (by kernel_rfl) (by kernel_rfl)) ?_
      refine Wp.keep (kk := [3, 19, 20, 21]) (kl := [1003]) (K' := [(3, .row 1003), (19, .tree (α := S_api_Node) (S_api_Node.mk 0 [] [] []) pre_S_api_Node kids_S_api_Node a0.f_Kids), (20, .val (.int .i64 (List.length a0.f_Kids : Int))), (21, .val (.int .i64 0))]) (L' := [(1003, 9, [.rowc false (α := List UInt8) [] E_string []])]) (by kernel_rfl) (by kernel_rfl) ?_
      refine Wp.weak (K' := [(3, .row 1003), (19, .recs (α := S_api_Node) (S_api_Node.mk 0 [] [] []) E_api_Node a0.f_Kids), (20, .val (.int .i64 (List.length a0.f_Kids : Int))), (21, .val (.int .i64 0))]) (L' := [(1003, 9, [.rowc false (α := List UInt8) [] E_string []])]) (.cons (.refl _) (.cons (.opn _ _ _ _) (.cons (.refl _) (.cons (.refl _) .nil)))) (.cons (.cons (.refl _) .nil) .nil) ?_
      refine Wp.loopL ?_
      refine ok_flow_Write_l1 R_flow_Write hR_flow_Write n a0.f_Kids (List.length a0.f_Kids : Int) n ([] : List (List UInt8)) 0 o2 ho2 ?_
      refine To.blockX ?_
      refine To.thenN ?_
      refine Wp.seq ?_
      obtain ⟨u3, h⟩ := chk_of h
      obtain ⟨hc4, h⟩ := chk_of h
      obtain ⟨hc5, h⟩ := chk_of h
      refine Wp.region hΓ [(1, [1003])] [(1, .str (Lib.join o2 ([44, 32] : List UInt8)))] [] [2] [] (K' := [(2, .str ((([91] : List UInt8) ++ (Lib.join o2 ([44, 32] : List UInt8))) ++ [93]))]) (L' := []) (ob := [(true = true → CX Tryd.prog 15 [.recs (α := List UInt8) [] E_string o2, .str [44, 32]] (.str (Lib.join o2 ([44, 32] : List UInt8)))), (decide (((List.length ([91] : List UInt8) + List.length (Lib.join o2 ([44, 32] : List UInt8)) : Nat) : Int) ≤ 9223372036854775807)) = true, (decide (((List.length (([91] : List UInt8) ++ (Lib.join o2 ([44, 32] : List UInt8))) + List.length ([93] : List UInt8) : Nat) : Int) ≤ 9223372036854775807)) = true]) (by kernel_rfl) (AllP.cons (fun _ => cx (Sh.join15 u3)) (AllP.cons hc4 (AllP.cons hc5 AllP.nil))) ?_
      refine To.thenN ?_
      refine Wp.ret ?_
      refine To.blockR ?_
      refine To.thenR ?_
      refine To.keep (kk := [2]) (kl := []) (K' := [(2, .str ((([91] : List UInt8) ++ (Lib.join o2 ([44, 32] : List UInt8))) ++ [93]))]) (L' := []) (by kernel_rfl) (by kernel_rfl) ?_
      cases h
      exact To.done hΓ (by kernel_rfl)
    · replace h := if_f hb h
      refine Wp.seq ?_
      refine Wp.region hΓ [] [] [] [1, 35] [1] (K' := [(1, .own 1 0), (35, .val (.bool (a0.f_Kind == 3)))]) (L' := [(1, 25, [.val (.int .i64 a0.f_Kind), .str a0.f_Text, .recs (α := List UInt8) [] E_string a0.f_Keys, .tree (α := S_api_Node) (S_api_Node.mk 0 [] [] []) pre_S_api_Node kids_S_api_Node a0.f_Kids])]) (ob := []) (by kernel_rfl) AllP.nil ?_
      refine To.thenN ?_
      refine Wp.cond (b := (a0.f_Kind == 3)) (by kernel_rfl) (fun hb => ?_) (fun hb => ?_)
      · replace h := if_t hb h
        refine Wp.seq ?_
        refine Wp.region hΓ [] [] [] [1, 6] [1] (K' := [(1, .own 1 0), (6, .val (.slice none 0 0))]) (L' := [(1, 25, [.val (.int .i64 a0.f_Kind), .str a0.f_Text, .recs (α := List UInt8) [] E_string a0.f_Keys, .tree (α := S_api_Node) (S_api_Node.mk 0 [] [] []) pre_S_api_Node kids_S_api_Node a0.f_Kids])]) (ob := []) (by kernel_rfl) AllP.nil ?_
        refine To.thenN ?_
        refine Wp.seq ?_
        refine Wp.seq ?_
        refine Wp.region hΓ [] [] [] [1, 6, 38, 39, 40] [1] (K' := [(1, .own 1 0), (6, .val (.slice none 0 0)), (38, .tree (α := S_api_Node) (S_api_Node.mk 0 [] [] []) pre_S_api_Node kids_S_api_Node a0.f_Kids), (39, .val (.int .i64 (List.length a0.f_Kids : Int))), (40, .val (.int .i64 0))]) (L' := [(1, 25, [.val (.int .i64 a0.f_Kind), .str a0.f_Text, .recs (α := List UInt8) [] E_string a0.f_Keys, .tree (α := S_api_Node) (S_api_Node.mk 0 [] [] []) pre_S_api_Node kids_S_api_Node a0.f_Kids])]) (ob := []) (by kernel_rfl) AllP.nil ?_
        refine To.thenN ?_
        refine Wp.block ?_
        obtain ⟨o6, ho6, h⟩ := bind_of h
        refine Wp.keep (kk := [1, 6, 38, 39, 40]) (kl := [1]) (K' := [(1, .own 1 0), (6, .val (.slice none 0 0)), (38, .tree (α := S_api_Node) (S_api_Node.mk 0 [] [] []) pre_S_api_Node kids_S_api_Node a0.f_Kids), (39, .val (.int .i64 (List.length a0.f_Kids : Int))), (40, .val (.int .i64 0))]) (L' := [(1, 25, [.val (.int .i64 a0.f_Kind), .str a0.f_Text, .recs (α := List UInt8) [] E_string a0.f_Keys, .tree (α := S_api_Node) (S_api_Node.mk 0 [] [] []) pre_S_api_Node kids_S_api_Node a0.f_Kids])]) (by kernel_rfl) (by kernel_rfl) ?_
        refine Wp.pre (St.vacant (t := 6) (k := 1006) (e := 9) (K' := [(1, .own 1 0), (6, .row 1006), (38, .tree (α := S_api_Node) (S_api_Node.mk 0 [] [] []) pre_S_api_Node kids_S_api_Node a0.f_Kids), (39, .val (.int .i64 (List.length a0.f_Kids : Int))), (40, .val (.int .i64 0))]) (good_E_string _) (by decide) (by kernel_rfl) (by kernel_rfl)) ?_
        refine Wp.keep (kk := [1, 6, 38, 39, 40]) (kl := [1, 1006]) (K' := [(1, .own 1 0), (6, .row 1006), (38, .tree (α := S_api_Node) (S_api_Node.mk 0 [] [] []) pre_S_api_Node kids_S_api_Node a0.f_Kids), (39, .val (.int .i64 (List.length a0.f_Kids : Int))), (40, .val (.int .i64 0))]) (L' := [(1, 25, [.val (.int .i64 a0.f_Kind), .str a0.f_Text, .recs (α := List UInt8) [] E_string a0.f_Keys, .tree (α := S_api_Node) (S_api_Node.mk 0 [] [] []) pre_S_api_Node kids_S_api_Node a0.f_Kids]), (1006, 9, [.rowc false (α := List UInt8) [] E_string []])]) (by kernel_rfl) (by kernel_rfl) ?_
        refine Wp.weak (K' := [(1, .own 1 0), (6, .row 1006), (38, .recs (α := S_api_Node) (S_api_Node.mk 0 [] [] []) E_api_Node a0.f_Kids), (39, .val (.int .i64 (List.length a0.f_Kids : Int))), (40, .val (.int .i64 0))]) (L' := [(1, 25, [.val (.int .i64 a0.f_Kind), .str a0.f_Text, .recs (α := List UInt8) [] E_string a0.f_Keys, .tree (α := S_api_Node) (S_api_Node.mk 0 [] [] []) pre_S_api_Node kids_S_api_Node a0.f_Kids]), (1006, 9, [.rowc false (α := List UInt8) [] E_string []])]) (.cons (.refl _) (.cons (.refl _) (.cons (.opn _ _ _ _) (.cons (.refl _) (.cons (.refl _) .nil))))) (.cons (.cons (.refl _) (.cons (.refl _) (.cons (.refl _) (.cons (.refl _) .nil)))) (.cons (.cons (.refl _) .nil) .nil)) ?_
        refine Wp.loopL ?_
        refine ok_flow_Write_l2 R_flow_Write hR_flow_Write n a0.f_Kids (List.length a0.f_Kids : Int) a0 n ([] : List (List UInt8)) 0 o6 ho6 ?_
        refine To.blockX ?_
        refine To.thenN ?_
        refine Wp.seq ?_
        obtain ⟨u7, h⟩ := chk_of h
        obtain ⟨hc8, h⟩ := chk_of h
        obtain ⟨hc9, h⟩ := chk_of h
        refine Wp.region hΓ [(1, [1006])] [(1, .str (Lib.join o6 ([44, 32] : List UInt8)))] [] [2] [] (K' := [(2, .str ((([123] : List UInt8) ++ (Lib.join o6 ([44, 32] : List UInt8))) ++ [125]))]) (L' := []) (ob := [(true = true → CX Tryd.prog 15 [.recs (α := List UInt8) [] E_string o6, .str [44, 32]] (.str (Lib.join o6 ([44, 32] : List UInt8)))), (decide (((List.length ([123] : List UInt8) + List.length (Lib.join o6 ([44, 32] : List UInt8)) : Nat) : Int) ≤ 9223372036854775807)) = true, (decide (((List.length (([123] : List UInt8) ++ (Lib.join o6 ([44, 32] : List UInt8))) + List.length ([125] : List UInt8) : Nat) : Int) ≤ 9223372036854775807)) = true]) (by kernel_rfl) (AllP.cons (fun _ => cx (Sh.join15 u7)) (AllP.cons hc8 (AllP.cons hc9 AllP.nil))) ?_
        refine To.thenN ?_
        refine Wp.ret ?_
        refine To.blockR ?_
        refine To.thenR ?_
        refine To.keep (kk := [2]) (kl := []) (K' := [(2, .str ((([123] : List UInt8) ++ (Lib.join o6 ([44, 32] : List UInt8))) ++ [125]))]) (L' := []) (by kernel_rfl) (by kernel_rfl) ?_
        cases h
        exact To.done hΓ (by kernel_rfl)
      · replace h := if_f hb h
        refine Wp.skip ?_
        refine To.blockN ?_
        refine To.thenN ?_
        refine Wp.seq ?_
        refine Wp.region hΓ [] [] [] [2] [] (K' := [(2, .str [110, 117, 108, 108])]) (L' := []) (ob := []) (by kernel_rfl) AllP.nil ?_
        refine To.thenN ?_
        refine Wp.ret ?_
        refine To.keep (kk := [2]) (kl := []) (K' := [(2, .str [110, 117, 108, 108])]) (L' := []) (by kernel_rfl) (by kernel_rfl) ?_
        cases h
        exact To.done hΓ (by kernel_rfl)
def flow_Write : Nat → S_api_Node → Option ((List UInt8))
  | 0 => fun _ => none
  | n + 1 => flow_Write_b (flow_Write n) n
theorem ok_flow_Write (n : Nat) : ∀ (a0 : S_api_Node) (r : (List UInt8)), flow_Write n a0 = some r → CallsX Tryd.prog 7 [.agg [.val (.int .i64 a0.f_Kind), .str a0.f_Text, .recs (α := List UInt8) [] E_string a0.f_Keys, .tree (α := S_api_Node) (S_api_Node.mk 0 [] [] []) pre_S_api_Node kids_S_api_Node a0.f_Kids]] (.str r) := by
  induction n with
  | zero => intro a0 r h; cases h
  | succ n ih => exact fun a0 r h => ok_flow_Write_b (flow_Write n) ih n a0 r h
def ref06_one_l1 (n : Nat) (v0 : Int) (v1 : List UInt8) : Nat → Int → Option (Sum (Unit) (Bool))
  | 0, _ => none
  | k + 1, v5 => if (decide (v5 < (List.length v1 : Int))) = true then (if (decide (0 ≤ v5 ∧ v5 < (List.length v1 : Int))) = true then (if ((((v1)[Int.toNat v5]?.getD 0).toNat : Int) == v0) = true then (some (.inr true))
  else (ref06_one_l1 n v0 v1 k (IntKind.wrap .i64 (v5 + 1)))) else none)
  else (some (.inl ()))
def ref06_one (n : Nat) (a0 : Int) (a1 : List UInt8) : Option (Bool) :=
  (ref06_one_l1 n a0 a1 n 0).bind fun o1 =>
  (Sum.elim (fun o1 => some false) (fun o1 => some o1)) o1
def ref06_Good (a0 : Int) : Bool :=
  (bif (bif (decide (a0 ≥ 32)) then (decide (a0 ≤ 126)) else false) then true else (decide (a0 ≥ 128)))
def ref06_Plain_l1 (n : Nat) (v0 : List UInt8) (v3 : Int) : Nat → Int → Option (Sum (Unit) (Bool))
  | 0, _ => none
  | k + 1, v4 => if (decide (v4 < v3)) = true then (if (decide (0 ≤ v4 ∧ v4 < (List.length v0 : Int))) = true then (if (!(ref06_Good (((v0)[Int.toNat v4]?.getD 0).toNat : Int))) = true then (some (.inr false))
  else (if (decide (0 ≤ v4 ∧ v4 < (List.length v0 : Int))) = true then (if ((!(((v4 == (IntKind.wrap .i64 (v3 - 1))) == false) && (((((v0)[Int.toNat v4]?.getD 0).toNat : Int) == 58) == true)) || decide (0 ≤ (IntKind.wrap .i64 (v4 + 1)) ∧ (IntKind.wrap .i64 (v4 + 1)) < (List.length v0 : Int)))) = true then (lett ((bif ((((v0)[Int.toNat v4]?.getD 0).toNat : Int) == 58) then (bif (v4 == (IntKind.wrap .i64 (v3 - 1))) then true else ((((v0)[Int.toNat (IntKind.wrap .i64 (v4 + 1))]?.getD 0).toNat : Int) == 32)) else false) : Bool) fun x4 =>
  if x4 = true then (some (.inr false))
  else (if (decide (0 ≤ v4 ∧ v4 < (List.length v0 : Int))) = true then (if ((!((bif ((((v0)[Int.toNat v4]?.getD 0).toNat : Int) == 35) then (decide (v4 > 0)) else false) == true) || decide (0 ≤ (IntKind.wrap .i64 (v4 - 1)) ∧ (IntKind.wrap .i64 (v4 - 1)) < (List.length v0 : Int)))) = true then (lett ((bif (bif ((((v0)[Int.toNat v4]?.getD 0).toNat : Int) == 35) then (decide (v4 > 0)) else false) then ((((v0)[Int.toNat (IntKind.wrap .i64 (v4 - 1))]?.getD 0).toNat : Int) == 32) else false) : Bool) fun x5 =>
  if x5 = true then (some (.inr false))
  else (ref06_Plain_l1 n v0 v3 k (IntKind.wrap .i64 (v4 + 1)))) else none) else none)) else none) else none)) else none)
  else (some (.inl ()))
def ref06_Plain (n : Nat) (a0 : List UInt8) : Option (Bool) :=
  if ((!((bif (bif ((List.length a0 : Int) == 0) then true else (a0 == [126])) then true else (a0 == [110, 117, 108, 108])) == false) || decide (0 ≤ (0 : Int) ∧ (0 : Int) < (List.length a0 : Int)))) = true then (if ((!((bif (bif (bif ((List.length a0 : Int) == 0) then true else (a0 == [126])) then true else (a0 == [110, 117, 108, 108])) then true else ((((a0)[Int.toNat 0]?.getD 0).toNat : Int) == 32)) == false) || decide (0 ≤ (IntKind.wrap .i64 ((List.length a0 : Int) - 1)) ∧ (IntKind.wrap .i64 ((List.length a0 : Int) - 1)) < (List.length a0 : Int)))) = true then (lett ((bif (bif (bif (bif ((List.length a0 : Int) == 0) then true else (a0 == [126])) then true else (a0 == [110, 117, 108, 108])) then true else ((((a0)[Int.toNat 0]?.getD 0).toNat : Int) == 32)) then true else ((((a0)[Int.toNat (IntKind.wrap .i64 ((List.length a0 : Int) - 1))]?.getD 0).toNat : Int) == 32)) : Bool) fun x1 =>
  if x1 = true then some false
  else (if (decide (0 ≤ (0 : Int) ∧ (0 : Int) < (List.length a0 : Int))) = true then ((ref06_one n (((a0)[Int.toNat 0]?.getD 0).toNat : Int) [63, 58, 44, 91, 93, 123, 125, 35, 38, 42, 33, 124, 62, 39, 34, 37, 64, 96]).bind fun r2 =>
  if r2 = true then some false
  else (if (decide (0 ≤ (0 : Int) ∧ (0 : Int) < (List.length a0 : Int))) = true then (if ((!((((List.length a0 : Int) == 1) == false) && (((((a0)[Int.toNat 0]?.getD 0).toNat : Int) == 45) == true)) || decide (0 ≤ (1 : Int) ∧ (1 : Int) < (List.length a0 : Int)))) = true then (lett ((bif ((((a0)[Int.toNat 0]?.getD 0).toNat : Int) == 45) then (bif ((List.length a0 : Int) == 1) then true else ((((a0)[Int.toNat 1]?.getD 0).toNat : Int) == 32)) else false) : Bool) fun x3 =>
  if x3 = true then some false
  else ((ref06_Plain_l1 n a0 (List.length a0 : Int) n 0).bind fun o4 =>
  (Sum.elim (fun o4 => some true) (fun o4 => some o4)) o4)) else none) else none)) else none)) else none) else none
def ref06_Row_l1 (n : Nat) (v0 : List UInt8) : Nat → Int → Option (Sum (Unit) (Bool))
  | 0, _ => none
  | k + 1, v3 => if (decide (v3 < (List.length v0 : Int))) = true then (if (decide (0 ≤ v3 ∧ v3 < (List.length v0 : Int))) = true then ((ref06_one n (((v0)[Int.toNat v3]?.getD 0).toNat : Int) [44, 91, 93, 123, 125]).bind fun r1 =>
  if r1 = true then (some (.inr false))
  else (ref06_Row_l1 n v0 k (IntKind.wrap .i64 (v3 + 1)))) else none)
  else (some (.inl ()))
def ref06_Row (n : Nat) (a0 : List UInt8) : Option (Bool) :=
  (ref06_Row_l1 n a0 n 0).bind fun o1 =>
  (Sum.elim (fun o1 => (ref06_Plain n a0).bind fun r2 =>
  some r2) (fun o1 => some o1)) o1
def ref06_digit (a0 : Int) : Int :=
  if (decide (a0 < 10)) = true then ((IntKind.wrap .u8 (48 + a0)))
  else ((IntKind.wrap .u8 (87 + a0)))
def ref06_Double_j2 (n : Nat) (v0 : List UInt8) (v3 : List (UInt8)) (v4 : Int) : Option ((List (UInt8))) :=
  if (decide (0 ≤ v4 ∧ v4 < (List.length v0 : Int))) = true then (lett ((bif ((((v0)[Int.toNat v4]?.getD 0).toNat : Int) == 34) then true else ((((v0)[Int.toNat v4]?.getD 0).toNat : Int) == 92)) : Bool) fun x1 =>
  if x1 = true then (if (decide ((List.length v3 + List.length ([92, ((v0)[Int.toNat v4]?.getD 0)] : List (UInt8))) * (1 + 1) ≤ limit)) = true then (some (v3 ++ ([92, ((v0)[Int.toNat v4]?.getD 0)] : List (UInt8)))) else none)
  else (if ((((v0)[Int.toNat v4]?.getD 0).toNat : Int) == 10) = true then (if (decide ((List.length v3 + List.length ([92, 110] : List (UInt8))) * (1 + 1) ≤ limit)) = true then (some (v3 ++ ([92, 110] : List (UInt8)))) else none)
  else (if ((((v0)[Int.toNat v4]?.getD 0).toNat : Int) == 9) = true then (if (decide ((List.length v3 + List.length ([92, 116] : List (UInt8))) * (1 + 1) ≤ limit)) = true then (some (v3 ++ ([92, 116] : List (UInt8)))) else none)
  else (if (!(ref06_Good (((v0)[Int.toNat v4]?.getD 0).toNat : Int))) = true then (if ((16 != 0)) = true then (lett (ref06_digit (IntKind.wrap .u8 (Int.tdiv (((v0)[Int.toNat v4]?.getD 0).toNat : Int) 16))) fun r5 =>
  lett (ref06_digit (Int.tmod (((v0)[Int.toNat v4]?.getD 0).toNat : Int) 16)) fun r6 =>
  if (decide (0 ≤ r5 ∧ r5 < 256)) = true then (if (decide (0 ≤ r6 ∧ r6 < 256)) = true then (if (decide ((List.length v3 + List.length ([92, 120, (UInt8.ofNat (Int.toNat r5)), (UInt8.ofNat (Int.toNat r6))] : List (UInt8))) * (1 + 1) ≤ limit)) = true then (some (v3 ++ ([92, 120, (UInt8.ofNat (Int.toNat r5)), (UInt8.ofNat (Int.toNat r6))] : List (UInt8)))) else none) else none) else none) else none)
  else (if (decide ((List.length v3 + List.length ([((v0)[Int.toNat v4]?.getD 0)] : List (UInt8))) * (1 + 1) ≤ limit)) = true then (some (v3 ++ ([((v0)[Int.toNat v4]?.getD 0)] : List (UInt8)))) else none))))) else none
def ref06_Double_l1 (n : Nat) (v0 : List UInt8) : Nat → (List (UInt8)) → Int → Option ((List (UInt8)))
  | 0, _, _ => none
  | k + 1, v3, v4 => if (decide (v4 < (List.length v0 : Int))) = true then ((ref06_Double_j2 n v0 v3 v4).bind fun o1 =>
  ref06_Double_l1 n v0 k o1 (IntKind.wrap .i64 (v4 + 1)))
  else some v3
def ref06_Double (n : Nat) (a0 : List UInt8) : Option ((List UInt8)) :=
  (ref06_Double_l1 n a0 n ([34] : List (UInt8)) 0).bind fun o1 =>
  if (decide ((List.length o1 + List.length ([34] : List (UInt8))) * (1 + 1) ≤ limit)) = true then (some (o1 ++ ([34] : List (UInt8)))) else none
def ref02_Same_l1 (n : Nat) (v0 : List (List UInt8)) (v1 : List (List UInt8)) : Nat → Int → Option (Sum (Unit) (Bool))
  | 0, _ => none
  | k + 1, v5 => if (decide (v5 < (List.length v0 : Int))) = true then (if (decide (0 ≤ v5 ∧ v5 < (List.length v0 : Int))) = true then (if (decide (0 ≤ v5 ∧ v5 < (List.length v1 : Int))) = true then (if (!(((v0)[Int.toNat v5]?.getD []) == ((v1)[Int.toNat v5]?.getD []))) = true then (some (.inr false))
  else (ref02_Same_l1 n v0 v1 k (IntKind.wrap .i64 (v5 + 1)))) else none) else none)
  else (some (.inl ()))
theorem ok_ref02_Same_l1 (n : Nat) (v0 : List (List UInt8)) (v1 : List (List UInt8)) {F0 : Fz} {w0 : Pt Tryd.prog} {Q : Exit → Act → World → Prop} (k : Nat) : ∀ (v5 : Int) (o : Sum (Unit) (Bool)), ref02_Same_l1 n v0 v1 k v5 = some o → (Sum.elim (fun s => To 26 F0 w0 [] [] (.exit 0) Q) (fun s => To 26 F0 w0 [(4, .val (.bool s))] [] .ret Q)) o → WL Tryd.prog 26 F0 w0 [(0, .recs (α := List UInt8) [] E_string v0), (1, .recs (α := List UInt8) [] E_string v1), (5, .val (.int .i64 v5))] [] (cI (cI (cB (cA (cB (cB (cF Tryd.f20))))))) Q := by
  induction k with
  | zero => intro v5 o h; cases h
  | succ k ih =>
    intro v5 o h hQ
    rw [ref02_Same_l1] at h
    refine WL.round ?_
    refine Wp.seq ?_
    refine Wp.seq ?_
    refine Wp.region hΓ [] [] [] [0, 1, 5, 14] [] (K' := [(0, .recs (α := List UInt8) [] E_string v0), (1, .recs (α := List UInt8) [] E_string v1), (5, .val (.int .i64 v5)), (14, .val (.bool (decide (v5 < (List.length v0 : Int)))))]) (L' := []) (ob := []) (by kernel_rfl) AllP.nil ?_
    refine To.thenN ?_
    refine Wp.cond (b := (decide (v5 < (List.length v0 : Int)))) (by kernel_rfl) (fun hb => ?_) (fun hb => ?_)
    · replace h := if_t hb h
      refine Wp.skip ?_
      refine To.thenN ?_
      refine Wp.seq ?_
      refine Wp.block ?_
      refine Wp.seq ?_
      obtain ⟨hc1, h⟩ := chk_of h
      obtain ⟨hc2, h⟩ := chk_of h
      refine Wp.regionD hm hΓ [] [0, 1, 5, 25] [] (K' := [(0, .recs (α := List UInt8) [] E_string v0), (1, .recs (α := List UInt8) [] E_string v1), (5, .val (.int .i64 v5)), (25, .val (.bool (!(((v0)[Int.toNat v5]?.getD []) == ((v1)[Int.toNat v5]?.getD [])))))]) (L' := []) (ob := [(decide (0 ≤ v5 ∧ v5 < (List.length v0 : Int))) = true, (decide (0 ≤ v5 ∧ v5 < (List.length v1 : Int))) = true]) (by kernel_rfl) (AllP.cons hc1 (AllP.cons hc2 AllP.nil)) ?_
      refine To.thenN ?_
      refine Wp.cond (b := (!(((v0)[Int.toNat v5]?.getD []) == ((v1)[Int.toNat v5]?.getD [])))) (by kernel_rfl) (fun hb => ?_) (fun hb => ?_)
      · replace h := if_t hb h
        refine Wp.seq ?_
        refine Wp.region hΓ [] [] [] [4] [] (K' := [(4, .val (.bool false))]) (L' := []) (ob := []) (by kernel_rfl) AllP.nil ?_
        refine To.thenN ?_
        refine Wp.ret ?_
        refine To.blockR ?_
        refine To.thenR ?_
        refine To.thenR ?_
        refine To.keep (kk := [4]) (kl := []) (K' := [(4, .val (.bool false))]) (L' := []) (by kernel_rfl) (by kernel_rfl) ?_
        cases h
        exact hQ
      · replace h := if_f hb h
        refine Wp.skip ?_
        refine To.blockN ?_
        refine To.thenN ?_
        refine Wp.region hΓ [] [] [] [0, 1, 5] [] (K' := [(0, .recs (α := List UInt8) [] E_string v0), (1, .recs (α := List UInt8) [] E_string v1), (5, .val (.int .i64 (IntKind.wrap .i64 (v5 + 1))))]) (L' := []) (ob := []) (by kernel_rfl) AllP.nil ?_
        refine To.keep (kk := [0, 1, 5]) (kl := []) (K' := [(0, .recs (α := List UInt8) [] E_string v0), (1, .recs (α := List UInt8) [] E_string v1), (5, .val (.int .i64 (IntKind.wrap .i64 (v5 + 1))))]) (L' := []) (by kernel_rfl) (by kernel_rfl) ?_
        refine To.again ?_
        exact ih (IntKind.wrap .i64 (v5 + 1)) _ h hQ
    · replace h := if_f hb h
      refine Wp.exit ?_
      refine To.thenX ?_
      refine To.thenX ?_
      refine To.keep (kk := []) (kl := []) (K' := []) (L' := []) (by kernel_rfl) (by kernel_rfl) ?_
      cases h
      exact hQ
def ref02_Same (n : Nat) (a0 : List (List UInt8)) (a1 : List (List UInt8)) : Option (Bool) :=
  if ((List.length a0 : Int) != (List.length a1 : Int)) = true then some false
  else ((ref02_Same_l1 n a0 a1 n 0).bind fun o1 =>
  (Sum.elim (fun o1 => some true) (fun o1 => some o1)) o1)
theorem ok_ref02_Same (n : Nat) (a0 : List (List UInt8)) (a1 : List (List UInt8)) (r : Bool) (h : ref02_Same n a0 a1 = some r) : CallsX Tryd.prog 20 [.recs (α := List UInt8) [] E_string a0, .recs (α := List UInt8) [] E_string a1] (.val (.bool r)) := by
  unfold ref02_Same at h
  refine callsX_of (fn := Tryd.f20) (by kernel_rfl) rfl (by kernel_rfl) (Nat.le_of_ble_eq_true (by kernel_rfl)) fun F0 w0 _ => ?_
  refine Wp.keep (kk := [0, 1]) (kl := []) (K' := [(0, .recs (α := List UInt8) [] E_string a0), (1, .recs (α := List UInt8) [] E_string a1)]) (L' := []) (by kernel_rfl) (by kernel_rfl) ?_
  refine Wp.seq ?_
  refine Wp.region hΓ [] [] [] [0, 1] [] (K' := [(0, .recs (α := List UInt8) [] E_string a0), (1, .recs (α := List UInt8) [] E_string a1)]) (L' := []) (ob := []) (by kernel_rfl) AllP.nil ?_
  refine To.thenN ?_
  refine Wp.seq ?_
  refine Wp.seq ?_
  refine Wp.region hΓ [] [] [] [0, 1, 10] [] (K' := [(0, .recs (α := List UInt8) [] E_string a0), (1, .recs (α := List UInt8) [] E_string a1), (10, .val (.bool ((List.length a0 : Int) != (List.length a1 : Int))))]) (L' := []) (ob := []) (by kernel_rfl) AllP.nil ?_
  refine To.thenN ?_
  refine Wp.cond (b := ((List.length a0 : Int) != (List.length a1 : Int))) (by kernel_rfl) (fun hb => ?_) (fun hb => ?_)
  · replace h := if_t hb h
    refine Wp.seq ?_
    refine Wp.region hΓ [] [] [] [4] [] (K' := [(4, .val (.bool false))]) (L' := []) (ob := []) (by kernel_rfl) AllP.nil ?_
    refine To.thenN ?_
    refine Wp.ret ?_
    refine To.thenR ?_
    refine To.keep (kk := [4]) (kl := []) (K' := [(4, .val (.bool false))]) (L' := []) (by kernel_rfl) (by kernel_rfl) ?_
    cases h
    exact To.done hΓ (by kernel_rfl)
  · replace h := if_f hb h
    refine Wp.skip ?_
    refine To.thenN ?_
    refine Wp.seq ?_
    refine Wp.seq ?_
    refine Wp.region hΓ [] [] [] [0, 1, 5] [] (K' := [(0, .recs (α := List UInt8) [] E_string a0), (1, .recs (α := List UInt8) [] E_string a1), (5, .val (.int .i64 0))]) (L' := []) (ob := []) (by kernel_rfl) AllP.nil ?_
    refine To.thenN ?_
    refine Wp.block ?_
    obtain ⟨o1, ho1, h⟩ := bind_of h
    refine Wp.keep (kk := [0, 1, 5]) (kl := []) (K' := [(0, .recs (α := List UInt8) [] E_string a0), (1, .recs (α := List UInt8) [] E_string a1), (5, .val (.int .i64 0))]) (L' := []) (by kernel_rfl) (by kernel_rfl) ?_
    refine Wp.loopL ?_
    refine ok_ref02_Same_l1 n a0 a1 n 0 o1 ho1 ?_
    rcases o1 with o1 | o1
    · replace h := sum_l h
      refine To.blockX ?_
      refine To.thenN ?_
      refine Wp.seq ?_
      refine Wp.region hΓ [] [] [] [4] [] (K' := [(4, .val (.bool true))]) (L' := []) (ob := []) (by kernel_rfl) AllP.nil ?_
      refine To.thenN ?_
      refine Wp.ret ?_
      refine To.keep (kk := [4]) (kl := []) (K' := [(4, .val (.bool true))]) (L' := []) (by kernel_rfl) (by kernel_rfl) ?_
      cases h
      exact To.done hΓ (by kernel_rfl)
    · replace h := sum_r h
      refine To.blockR ?_
      refine To.thenR ?_
      refine To.keep (kk := [4]) (kl := []) (K' := [(4, .val (.bool o1))]) (L' := []) (by kernel_rfl) (by kernel_rfl) ?_
      cases h
      exact To.done hΓ (by kernel_rfl)
def ref08_Same_l1 (R_ref08_Same : S_api_Node → S_api_Node → Option (Bool)) (n : Nat) (b2 : S_api_Node) (b3 : S_api_Node) : Nat → Int → Option (Sum (Unit) (Bool))
  | 0, _ => none
  | k + 1, v5 => if (decide (v5 < (List.length b2.f_Kids : Int))) = true then (if (decide (0 ≤ v5 ∧ v5 < (List.length b2.f_Kids : Int))) = true then (if (decide (0 ≤ v5 ∧ v5 < (List.length b3.f_Kids : Int))) = true then ((R_ref08_Same ((b2.f_Kids)[Int.toNat v5]?.getD (S_api_Node.mk 0 [] [] [])) ((b3.f_Kids)[Int.toNat v5]?.getD (S_api_Node.mk 0 [] [] []))).bind fun r3 =>
  if (!r3) = true then (some (.inr false))
  else (ref08_Same_l1 R_ref08_Same n b2 b3 k (IntKind.wrap .i64 (v5 + 1)))) else none) else none)
  else (some (.inl ()))
theorem ok_ref08_Same_l1 (R_ref08_Same : S_api_Node → S_api_Node → Option (Bool)) (hR_ref08_Same : ∀ (a0 : S_api_Node) (a1 : S_api_Node) (r : Bool), R_ref08_Same a0 a1 = some r → CallsX Tryd.prog 10 [.agg [.val (.int .i64 a0.f_Kind), .str a0.f_Text, .recs (α := List UInt8) [] E_string a0.f_Keys, .tree (α := S_api_Node) (S_api_Node.mk 0 [] [] []) pre_S_api_Node kids_S_api_Node a0.f_Kids], .agg [.val (.int .i64 a1.f_Kind), .str a1.f_Text, .recs (α := List UInt8) [] E_string a1.f_Keys, .tree (α := S_api_Node) (S_api_Node.mk 0 [] [] []) pre_S_api_Node kids_S_api_Node a1.f_Kids]] (.val (.bool r))) (n : Nat) (b2 : S_api_Node) (b3 : S_api_Node) {F0 : Fz} {w0 : Pt Tryd.prog} {Q : Exit → Act → World → Prop} (k : Nat) : ∀ (v5 : Int) (o : Sum (Unit) (Bool)), ref08_Same_l1 R_ref08_Same n b2 b3 k v5 = some o → (Sum.elim (fun s => To 54 F0 w0 [] [] (.exit 0) Q) (fun s => To 54 F0 w0 [(4, .val (.bool s))] [] .ret Q)) o → WL Tryd.prog 54 F0 w0 [(2, .own 2 0), (3, .own 3 0), (5, .val (.int .i64 v5))] [(2, 25, [.val (.int .i64 b2.f_Kind), .str b2.f_Text, .recs (α := List UInt8) [] E_string b2.f_Keys, .tree (α := S_api_Node) (S_api_Node.mk 0 [] [] []) pre_S_api_Node kids_S_api_Node b2.f_Kids]), (3, 25, [.val (.int .i64 b3.f_Kind), .str b3.f_Text, .recs (α := List UInt8) [] E_string b3.f_Keys, .tree (α := S_api_Node) (S_api_Node.mk 0 [] [] []) pre_S_api_Node kids_S_api_Node b3.f_Kids])] (cI (cI (cB (cA (cB (cB (cF Tryd.f10))))))) Q := by
  induction k with
  | zero => intro v5 o h; cases h
  | succ k ih =>
    intro v5 o h hQ
    rw [ref08_Same_l1] at h
    refine WL.round ?_
    refine Wp.seq ?_
    refine Wp.seq ?_
    refine Wp.region hΓ [] [] [] [2, 3, 5, 39] [2, 3] (K' := [(2, .own 2 0), (3, .own 3 0), (5, .val (.int .i64 v5)), (39, .val (.bool (decide (v5 < (List.length b2.f_Kids : Int)))))]) (L' := [(2, 25, [.val (.int .i64 b2.f_Kind), .str b2.f_Text, .recs (α := List UInt8) [] E_string b2.f_Keys, .tree (α := S_api_Node) (S_api_Node.mk 0 [] [] []) pre_S_api_Node kids_S_api_Node b2.f_Kids]), (3, 25, [.val (.int .i64 b3.f_Kind), .str b3.f_Text, .recs (α := List UInt8) [] E_string b3.f_Keys, .tree (α := S_api_Node) (S_api_Node.mk 0 [] [] []) pre_S_api_Node kids_S_api_Node b3.f_Kids])]) (ob := []) (by kernel_rfl) AllP.nil ?_
    refine To.thenN ?_
    refine Wp.cond (b := (decide (v5 < (List.length b2.f_Kids : Int)))) (by kernel_rfl) (fun hb => ?_) (fun hb => ?_)
    · replace h := if_t hb h
      refine Wp.skip ?_
      refine To.thenN ?_
      refine Wp.seq ?_
      refine Wp.block ?_
      refine Wp.seq ?_
      obtain ⟨hc4, h⟩ := chk_of h
      obtain ⟨hc5, h⟩ := chk_of h
      obtain ⟨r3, hr3, h⟩ := bind_of h
      refine Wp.regionD hm hΓ [(10, .val (.bool r3))] [2, 3, 5, 53] [2, 3] (K' := [(2, .own 2 0), (3, .own 3 0), (5, .val (.int .i64 v5)), (53, .val (.bool (!r3)))]) (L' := [(2, 25, [.val (.int .i64 b2.f_Kind), .str b2.f_Text, .recs (α := List UInt8) [] E_string b2.f_Keys, .tree (α := S_api_Node) (S_api_Node.mk 0 [] [] []) pre_S_api_Node kids_S_api_Node b2.f_Kids]), (3, 25, [.val (.int .i64 b3.f_Kind), .str b3.f_Text, .recs (α := List UInt8) [] E_string b3.f_Keys, .tree (α := S_api_Node) (S_api_Node.mk 0 [] [] []) pre_S_api_Node kids_S_api_Node b3.f_Kids])]) (ob := [(decide (0 ≤ v5 ∧ v5 < (List.length b2.f_Kids : Int))) = true, (decide (0 ≤ v5 ∧ v5 < (List.length b3.f_Kids : Int))) = true, (true = true → CX Tryd.prog 10 [.agg [.val (.int .i64 (((b2.f_Kids)[Int.toNat v5]?.getD (S_api_Node.mk 0 [] [] [])).f_Kind)), .str (((b2.f_Kids)[Int.toNat v5]?.getD (S_api_Node.mk 0 [] [] [])).f_Text), .recs (α := List UInt8) [] E_string (((b2.f_Kids)[Int.toNat v5]?.getD (S_api_Node.mk 0 [] [] [])).f_Keys), .tree (α := S_api_Node) (S_api_Node.mk 0 [] [] []) pre_S_api_Node kids_S_api_Node (((b2.f_Kids)[Int.toNat v5]?.getD (S_api_Node.mk 0 [] [] [])).f_Kids)], .agg [.val (.int .i64 (((b3.f_Kids)[Int.toNat v5]?.getD (S_api_Node.mk 0 [] [] [])).f_Kind)), .str (((b3.f_Kids)[Int.toNat v5]?.getD (S_api_Node.mk 0 [] [] [])).f_Text), .recs (α := List UInt8) [] E_string (((b3.f_Kids)[Int.toNat v5]?.getD (S_api_Node.mk 0 [] [] [])).f_Keys), .tree (α := S_api_Node) (S_api_Node.mk 0 [] [] []) pre_S_api_Node kids_S_api_Node (((b3.f_Kids)[Int.toNat v5]?.getD (S_api_Node.mk 0 [] [] [])).f_Kids)]] (.val (.bool r3)))]) (by kernel_rfl) (AllP.cons hc4 (AllP.cons hc5 (AllP.cons (fun _ => cx (hR_ref08_Same ((b2.f_Kids)[Int.toNat v5]?.getD (S_api_Node.mk 0 [] [] [])) ((b3.f_Kids)[Int.toNat v5]?.getD (S_api_Node.mk 0 [] [] [])) _ hr3)) AllP.nil))) ?_
      refine To.thenN ?_
      refine Wp.cond (b := (!r3)) (by kernel_rfl) (fun hb => ?_) (fun hb => ?_)
      · replace h := if_t hb h
        refine Wp.seq ?_
        refine Wp.region hΓ [] [] [] [4] [] (K' := [(4, .val (.bool false))]) (L' := []) (ob := []) (by kernel_rfl) AllP.nil ?_
        refine To.thenN ?_
        refine Wp.ret ?_
        refine To.blockR ?_
        refine To.thenR ?_
        refine To.thenR ?_
        refine To.keep (kk := [4]) (kl := []) (K' := [(4, .val (.bool false))]) (L' := []) (by kernel_rfl) (by kernel_rfl) ?_
        cases h
        exact hQ
      · replace h := if_f hb h
        refine Wp.skip ?_
        refine To.blockN ?_
        refine To.thenN ?_
        refine Wp.region hΓ [] [] [] [2, 3, 5] [2, 3] (K' := [(2, .own 2 0), (3, .own 3 0), (5, .val (.int .i64 (IntKind.wrap .i64 (v5 + 1))))]) (L' := [(2, 25, [.val (.int .i64 b2.f_Kind), .str b2.f_Text, .recs (α := List UInt8) [] E_string b2.f_Keys, .tree (α := S_api_Node) (S_api_Node.mk 0 [] [] []) pre_S_api_Node kids_S_api_Node b2.f_Kids]), (3, 25, [.val (.int .i64 b3.f_Kind), .str b3.f_Text, .recs (α := List UInt8) [] E_string b3.f_Keys, .tree (α := S_api_Node) (S_api_Node.mk 0 [] [] []) pre_S_api_Node kids_S_api_Node b3.f_Kids])]) (ob := []) (by kernel_rfl) AllP.nil ?_
        refine To.keep (kk := [2, 3, 5]) (kl := [2, 3]) (K' := [(2, .own 2 0), (3, .own 3 0), (5, .val (.int .i64 (IntKind.wrap .i64 (v5 + 1))))]) (L' := [(2, 25, [.val (.int .i64 b2.f_Kind), .str b2.f_Text, .recs (α := List UInt8) [] E_string b2.f_Keys, .tree (α := S_api_Node) (S_api_Node.mk 0 [] [] []) pre_S_api_Node kids_S_api_Node b2.f_Kids]), (3, 25, [.val (.int .i64 b3.f_Kind), .str b3.f_Text, .recs (α := List UInt8) [] E_string b3.f_Keys, .tree (α := S_api_Node) (S_api_Node.mk 0 [] [] []) pre_S_api_Node kids_S_api_Node b3.f_Kids])]) (by kernel_rfl) (by kernel_rfl) ?_
        refine To.again ?_
        exact ih (IntKind.wrap .i64 (v5 + 1)) _ h hQ
    · replace h := if_f hb h
      refine Wp.exit ?_
      refine To.thenX ?_
      refine To.thenX ?_
      refine To.keep (kk := []) (kl := []) (K' := []) (L' := []) (by kernel_rfl) (by kernel_rfl) ?_
      cases h
      exact hQ
def ref08_Same_b (R_ref08_Same : S_api_Node → S_api_Node → Option (Bool)) (n : Nat) (a0 : S_api_Node) (a1 : S_api_Node) : Option (Bool) :=
  ((if ((bif (a0.f_Kind != a1.f_Kind) then true else (!(a0.f_Text == a1.f_Text))) == false) = true then ref02_Same n a0.f_Keys a1.f_Keys else some false)).bind fun r1 =>
  lett ((bif (bif (bif (a0.f_Kind != a1.f_Kind) then true else (!(a0.f_Text == a1.f_Text))) then true else (!r1)) then true else ((List.length a0.f_Kids : Int) != (List.length a1.f_Kids : Int))) : Bool) fun x2 =>
  if x2 = true then some false
  else ((ref08_Same_l1 R_ref08_Same n a0 a1 n 0).bind fun o3 =>
  (Sum.elim (fun o3 => some true) (fun o3 => some o3)) o3)
theorem ok_ref08_Same_b (R_ref08_Same : S_api_Node → S_api_Node → Option (Bool)) (hR_ref08_Same : ∀ (a0 : S_api_Node) (a1 : S_api_Node) (r : Bool), R_ref08_Same a0 a1 = some r → CallsX Tryd.prog 10 [.agg [.val (.int .i64 a0.f_Kind), .str a0.f_Text, .recs (α := List UInt8) [] E_string a0.f_Keys, .tree (α := S_api_Node) (S_api_Node.mk 0 [] [] []) pre_S_api_Node kids_S_api_Node a0.f_Kids], .agg [.val (.int .i64 a1.f_Kind), .str a1.f_Text, .recs (α := List UInt8) [] E_string a1.f_Keys, .tree (α := S_api_Node) (S_api_Node.mk 0 [] [] []) pre_S_api_Node kids_S_api_Node a1.f_Kids]] (.val (.bool r))) (n : Nat) (a0 : S_api_Node) (a1 : S_api_Node) (r : Bool) (h : ref08_Same_b R_ref08_Same n a0 a1 = some r) : CallsX Tryd.prog 10 [.agg [.val (.int .i64 a0.f_Kind), .str a0.f_Text, .recs (α := List UInt8) [] E_string a0.f_Keys, .tree (α := S_api_Node) (S_api_Node.mk 0 [] [] []) pre_S_api_Node kids_S_api_Node a0.f_Kids], .agg [.val (.int .i64 a1.f_Kind), .str a1.f_Text, .recs (α := List UInt8) [] E_string a1.f_Keys, .tree (α := S_api_Node) (S_api_Node.mk 0 [] [] []) pre_S_api_Node kids_S_api_Node a1.f_Kids]] (.val (.bool r)) := by
  unfold ref08_Same_b at h
  refine callsX_of (fn := Tryd.f10) (by kernel_rfl) rfl (by kernel_rfl) (Nat.le_of_ble_eq_true (by kernel_rfl)) fun F0 w0 _ => ?_
  refine Wp.keep (kk := [0, 1]) (kl := []) (K' := [(0, .agg [.val (.int .i64 a0.f_Kind), .str a0.f_Text, .recs (α := List UInt8) [] E_string a0.f_Keys, .tree (α := S_api_Node) (S_api_Node.mk 0 [] [] []) pre_S_api_Node kids_S_api_Node a0.f_Kids]), (1, .agg [.val (.int .i64 a1.f_Kind), .str a1.f_Text, .recs (α := List UInt8) [] E_string a1.f_Keys, .tree (α := S_api_Node) (S_api_Node.mk 0 [] [] []) pre_S_api_Node kids_S_api_Node a1.f_Kids])]) (L' := []) (by kernel_rfl) (by kernel_rfl) ?_
  refine Wp.seq ?_
  refine Wp.region hΓ [] [] [] [2, 3] [2, 3] (K' := [(2, .own 2 0), (3, .own 3 0)]) (L' := [(2, 25, [.val (.int .i64 a0.f_Kind), .str a0.f_Text, .recs (α := List UInt8) [] E_string a0.f_Keys, .tree (α := S_api_Node) (S_api_Node.mk 0 [] [] []) pre_S_api_Node kids_S_api_Node a0.f_Kids]), (3, 25, [.val (.int .i64 a1.f_Kind), .str a1.f_Text, .recs (α := List UInt8) [] E_string a1.f_Keys, .tree (α := S_api_Node) (S_api_Node.mk 0 [] [] []) pre_S_api_Node kids_S_api_Node a1.f_Kids])]) (ob := []) (by kernel_rfl) AllP.nil ?_
  refine To.thenN ?_
  refine Wp.seq ?_
  refine Wp.seq ?_
  obtain ⟨r1, hr1, h⟩ := bind_of h
  obtain ⟨x2, hx2, h⟩ := lett_of h
  refine Wp.region hΓ [] [(17, .val (.bool r1))] [] [2, 3, 34] [2, 3] (K' := [(2, .own 2 0), (3, .own 3 0), (34, .val (.bool (bif (bif (bif (a0.f_Kind != a1.f_Kind) then true else (!(a0.f_Text == a1.f_Text))) then true else (!r1)) then true else ((List.length a0.f_Kids : Int) != (List.length a1.f_Kids : Int)))))]) (L' := [(2, 25, [.val (.int .i64 a0.f_Kind), .str a0.f_Text, .recs (α := List UInt8) [] E_string a0.f_Keys, .tree (α := S_api_Node) (S_api_Node.mk 0 [] [] []) pre_S_api_Node kids_S_api_Node a0.f_Kids]), (3, 25, [.val (.int .i64 a1.f_Kind), .str a1.f_Text, .recs (α := List UInt8) [] E_string a1.f_Keys, .tree (α := S_api_Node) (S_api_Node.mk 0 [] [] []) pre_S_api_Node kids_S_api_Node a1.f_Kids])]) (ob := [(((bif (a0.f_Kind != a1.f_Kind) then true else (!(a0.f_Text == a1.f_Text))) == false) = true → CX Tryd.prog 20 [.recs (α := List UInt8) [] E_string a0.f_Keys, .recs (α := List UInt8) [] E_string a1.f_Keys] (.val (.bool r1)))]) (by kernel_rfl) (AllP.cons (fun hg => cx (ok_ref02_Same n a0.f_Keys a1.f_Keys _ (if_t hg hr1))) AllP.nil) ?_
  refine To.eq (K' := [(2, .own 2 0), (3, .own 3 0), (34, .val (.bool x2))]) (L' := [(2, 25, [.val (.int .i64 a0.f_Kind), .str a0.f_Text, .recs (α := List UInt8) [] E_string a0.f_Keys, .tree (α := S_api_Node) (S_api_Node.mk 0 [] [] []) pre_S_api_Node kids_S_api_Node a0.f_Kids]), (3, 25, [.val (.int .i64 a1.f_Kind), .str a1.f_Text, .recs (α := List UInt8) [] E_string a1.f_Keys, .tree (α := S_api_Node) (S_api_Node.mk 0 [] [] []) pre_S_api_Node kids_S_api_Node a1.f_Kids])]) (by cases hx2; rfl) (by cases hx2; rfl) ?_
  refine To.thenN ?_
  refine Wp.cond (b := x2) (by kernel_rfl) (fun hb => ?_) (fun hb => ?_)
  · replace h := if_t hb h
    refine Wp.seq ?_
    refine Wp.region hΓ [] [] [] [4] [] (K' := [(4, .val (.bool false))]) (L' := []) (ob := []) (by kernel_rfl) AllP.nil ?_
    refine To.thenN ?_
    refine Wp.ret ?_
    refine To.thenR ?_
    refine To.keep (kk := [4]) (kl := []) (K' := [(4, .val (.bool false))]) (L' := []) (by kernel_rfl) (by kernel_rfl) ?_
    cases h
    exact To.done hΓ (by kernel_rfl)
  · replace h := if_f hb h
    refine Wp.skip ?_
    refine To.thenN ?_
    refine Wp.seq ?_
    refine Wp.seq ?_
    refine Wp.region hΓ [] [] [] [2, 3, 5] [2, 3] (K' := [(2, .own 2 0), (3, .own 3 0), (5, .val (.int .i64 0))]) (L' := [(2, 25, [.val (.int .i64 a0.f_Kind), .str a0.f_Text, .recs (α := List UInt8) [] E_string a0.f_Keys, .tree (α := S_api_Node) (S_api_Node.mk 0 [] [] []) pre_S_api_Node kids_S_api_Node a0.f_Kids]), (3, 25, [.val (.int .i64 a1.f_Kind), .str a1.f_Text, .recs (α := List UInt8) [] E_string a1.f_Keys, .tree (α := S_api_Node) (S_api_Node.mk 0 [] [] []) pre_S_api_Node kids_S_api_Node a1.f_Kids])]) (ob := []) (by kernel_rfl) AllP.nil ?_
    refine To.thenN ?_
    refine Wp.block ?_
    obtain ⟨o3, ho3, h⟩ := bind_of h
    refine Wp.keep (kk := [2, 3, 5]) (kl := [2, 3]) (K' := [(2, .own 2 0), (3, .own 3 0), (5, .val (.int .i64 0))]) (L' := [(2, 25, [.val (.int .i64 a0.f_Kind), .str a0.f_Text, .recs (α := List UInt8) [] E_string a0.f_Keys, .tree (α := S_api_Node) (S_api_Node.mk 0 [] [] []) pre_S_api_Node kids_S_api_Node a0.f_Kids]), (3, 25, [.val (.int .i64 a1.f_Kind), .str a1.f_Text, .recs (α := List UInt8) [] E_string a1.f_Keys, .tree (α := S_api_Node) (S_api_Node.mk 0 [] [] []) pre_S_api_Node kids_S_api_Node a1.f_Kids])]) (by kernel_rfl) (by kernel_rfl) ?_
    refine Wp.loopL ?_
    refine ok_ref08_Same_l1 R_ref08_Same hR_ref08_Same n a0 a1 n 0 o3 ho3 ?_
    rcases o3 with o3 | o3
    · replace h := sum_l h
      refine To.blockX ?_
      refine To.thenN ?_
      refine Wp.seq ?_
      refine Wp.region hΓ [] [] [] [4] [] (K' := [(4, .val (.bool true))]) (L' := []) (ob := []) (by kernel_rfl) AllP.nil ?_
      refine To.thenN ?_
      refine Wp.ret ?_
      refine To.keep (kk := [4]) (kl := []) (K' := [(4, .val (.bool true))]) (L' := []) (by kernel_rfl) (by kernel_rfl) ?_
      cases h
      exact To.done hΓ (by kernel_rfl)
    · replace h := sum_r h
      refine To.blockR ?_
      refine To.thenR ?_
      refine To.keep (kk := [4]) (kl := []) (K' := [(4, .val (.bool o3))]) (L' := []) (by kernel_rfl) (by kernel_rfl) ?_
      cases h
      exact To.done hΓ (by kernel_rfl)
def ref08_Same : Nat → S_api_Node → S_api_Node → Option (Bool)
  | 0 => fun _ _ => none
  | n + 1 => ref08_Same_b (ref08_Same n) n
theorem ok_ref08_Same (n : Nat) : ∀ (a0 : S_api_Node) (a1 : S_api_Node) (r : Bool), ref08_Same n a0 a1 = some r → CallsX Tryd.prog 10 [.agg [.val (.int .i64 a0.f_Kind), .str a0.f_Text, .recs (α := List UInt8) [] E_string a0.f_Keys, .tree (α := S_api_Node) (S_api_Node.mk 0 [] [] []) pre_S_api_Node kids_S_api_Node a0.f_Kids], .agg [.val (.int .i64 a1.f_Kind), .str a1.f_Text, .recs (α := List UInt8) [] E_string a1.f_Keys, .tree (α := S_api_Node) (S_api_Node.mk 0 [] [] []) pre_S_api_Node kids_S_api_Node a1.f_Kids]] (.val (.bool r)) := by
  induction n with
  | zero => intro a0 a1 r h; cases h
  | succ n ih => exact fun a0 a1 r h => ok_ref08_Same_b (ref08_Same n) ih n a0 a1 r h
def ref08_Right (n : Nat) (a0 : S_api_Node) : Option (Bool) :=
  (ref08_Left n a0 1 2000).bind fun r1 =>
  some (decide (r1 ≥ 0))
theorem ok_ref08_Right (n : Nat) (a0 : S_api_Node) (r : Bool) (h : ref08_Right n a0 = some r) : CallsX Tryd.prog 11 [.agg [.val (.int .i64 a0.f_Kind), .str a0.f_Text, .recs (α := List UInt8) [] E_string a0.f_Keys, .tree (α := S_api_Node) (S_api_Node.mk 0 [] [] []) pre_S_api_Node kids_S_api_Node a0.f_Kids]] (.val (.bool r)) := by
  unfold ref08_Right at h
  refine callsX_of (fn := Tryd.f11) (by kernel_rfl) rfl (by kernel_rfl) (Nat.le_of_ble_eq_true (by kernel_rfl)) fun F0 w0 _ => ?_
  refine Wp.keep (kk := [0]) (kl := []) (K' := [(0, .agg [.val (.int .i64 a0.f_Kind), .str a0.f_Text, .recs (α := List UInt8) [] E_string a0.f_Keys, .tree (α := S_api_Node) (S_api_Node.mk 0 [] [] []) pre_S_api_Node kids_S_api_Node a0.f_Kids])]) (L' := []) (by kernel_rfl) (by kernel_rfl) ?_
  refine Wp.seq ?_
  refine Wp.region hΓ [] [] [] [1] [1] (K' := [(1, .own 1 0)]) (L' := [(1, 25, [.val (.int .i64 a0.f_Kind), .str a0.f_Text, .recs (α := List UInt8) [] E_string a0.f_Keys, .tree (α := S_api_Node) (S_api_Node.mk 0 [] [] []) pre_S_api_Node kids_S_api_Node a0.f_Kids])]) (ob := []) (by kernel_rfl) AllP.nil ?_
  refine To.thenN ?_
  refine Wp.seq ?_
  obtain ⟨r1, hr1, h⟩ := bind_of h
  refine Wp.region hΓ [] [(1, .val (.int .i64 r1))] [] [2] [] (K' := [(2, .val (.bool (decide (r1 ≥ 0))))]) (L' := []) (ob := [(true = true → CX Tryd.prog 12 [.agg [.val (.int .i64 a0.f_Kind), .str a0.f_Text, .recs (α := List UInt8) [] E_string a0.f_Keys, .tree (α := S_api_Node) (S_api_Node.mk 0 [] [] []) pre_S_api_Node kids_S_api_Node a0.f_Kids], .val (.int .i64 1), .val (.int .i64 2000)] (.val (.int .i64 r1)))]) (by kernel_rfl) (AllP.cons (fun _ => cx (ok_ref08_Left n a0 1 2000 _ hr1)) AllP.nil) ?_
  refine To.thenN ?_
  refine Wp.ret ?_
  refine To.keep (kk := [2]) (kl := []) (K' := [(2, .val (.bool (decide (r1 ≥ 0))))]) (L' := []) (by kernel_rfl) (by kernel_rfl) ?_
  cases h
  exact To.done hΓ (by kernel_rfl)
def law09_FlowBack (n : Nat) (a0 : S_api_Node) (a1 : List UInt8) : Option (Bool) :=
  (ref08_Small n a0 200).bind fun r1 =>
  if (bif (!r1) then true else (decide ((List.length a1 : Int) > 2000))) = true then ((law09_awake n).bind fun r2 =>
  some r2)
  else ((flow_Write n a0).bind fun r3 =>
  if (decide (((List.length ([32, 32] : List UInt8) + List.length r3 : Nat) : Int) ≤ 9223372036854775807)) = true then (if (decide (((List.length (([32, 32] : List UInt8) ++ r3) + List.length ([32] : List UInt8) : Nat) : Int) ≤ 9223372036854775807)) = true then ((flow_Parse n ((([32, 32] : List UInt8) ++ r3) ++ [32])).bind fun r4 =>
  ((if ((r4.2 != 0) == false) = true then ref08_Same n r4.1 a0 else some false)).bind fun r5 =>
  if (bif (r4.2 != 0) then true else (!r5)) = true then some false
  else ((flow_Parse n a1).bind fun r6 =>
  if (r6.2 != 0) = true then ((ref08_Same n r6.1 (S_api_Node.mk 0 [] [] [])).bind fun r7 =>
  ((if (r7 == true) = true then law09_awake n else some false)).bind fun r8 =>
  some (bif r7 then r8 else false))
  else ((flow_Write n r6.1).bind fun r9 =>
  (flow_Parse n r9).bind fun r10 =>
  ((if ((r10.2 == 0) == true) = true then ref08_Same n r6.1 r10.1 else some false)).bind fun r11 =>
  ((if ((bif (r10.2 == 0) then r11 else false) == true) = true then ref08_Right n r6.1 else some false)).bind fun r12 =>
  ((if ((bif (bif (r10.2 == 0) then r11 else false) then r12 else false) == true) = true then law09_awake n else some false)).bind fun r13 =>
  some (bif (bif (bif (r10.2 == 0) then r11 else false) then r12 else false) then r13 else false)))) else none) else none)
theorem ok_law09_FlowBack (n : Nat) (a0 : S_api_Node) (a1 : List UInt8) (r : Bool) (h : law09_FlowBack n a0 a1 = some r) : CallsX Tryd.prog 4 [.agg [.val (.int .i64 a0.f_Kind), .str a0.f_Text, .recs (α := List UInt8) [] E_string a0.f_Keys, .tree (α := S_api_Node) (S_api_Node.mk 0 [] [] []) pre_S_api_Node kids_S_api_Node a0.f_Kids], .str a1] (.val (.bool r)) := by
  unfold law09_FlowBack at h
  refine callsX_of (fn := Tryd.f4) (by kernel_rfl) rfl (by kernel_rfl) (Nat.le_of_ble_eq_true (by kernel_rfl)) fun F0 w0 _ => ?_
  refine Wp.keep (kk := [0, 1]) (kl := []) (K' := [(0, .agg [.val (.int .i64 a0.f_Kind), .str a0.f_Text, .recs (α := List UInt8) [] E_string a0.f_Keys, .tree (α := S_api_Node) (S_api_Node.mk 0 [] [] []) pre_S_api_Node kids_S_api_Node a0.f_Kids]), (1, .str a1)]) (L' := []) (by kernel_rfl) (by kernel_rfl) ?_
  refine Wp.seq ?_
  refine Wp.region hΓ [] [] [] [1, 2] [2] (K' := [(1, .str a1), (2, .own 2 0)]) (L' := [(2, 25, [.val (.int .i64 a0.f_Kind), .str a0.f_Text, .recs (α := List UInt8) [] E_string a0.f_Keys, .tree (α := S_api_Node) (S_api_Node.mk 0 [] [] []) pre_S_api_Node kids_S_api_Node a0.f_Kids])]) (ob := []) (by kernel_rfl) AllP.nil ?_
  refine To.thenN ?_
  refine Wp.seq ?_
  refine Wp.seq ?_
  obtain ⟨r1, hr1, h⟩ := bind_of h
  refine Wp.region hΓ [] [(1, .val (.bool r1))] [] [1, 2, 18] [2] (K' := [(1, .str a1), (2, .own 2 0), (18, .val (.bool (bif (!r1) then true else (decide ((List.length a1 : Int) > 2000)))))]) (L' := [(2, 25, [.val (.int .i64 a0.f_Kind), .str a0.f_Text, .recs (α := List UInt8) [] E_string a0.f_Keys, .tree (α := S_api_Node) (S_api_Node.mk 0 [] [] []) pre_S_api_Node kids_S_api_Node a0.f_Kids])]) (ob := [(true = true → CX Tryd.prog 5 [.agg [.val (.int .i64 a0.f_Kind), .str a0.f_Text, .recs (α := List UInt8) [] E_string a0.f_Keys, .tree (α := S_api_Node) (S_api_Node.mk 0 [] [] []) pre_S_api_Node kids_S_api_Node a0.f_Kids], .val (.int .i64 200)] (.val (.bool r1)))]) (by kernel_rfl) (AllP.cons (fun _ => cx (ok_ref08_Small n a0 200 _ hr1)) AllP.nil) ?_
  refine To.thenN ?_
  refine Wp.cond (b := (bif (!r1) then true else (decide ((List.length a1 : Int) > 2000)))) (by kernel_rfl) (fun hb => ?_) (fun hb => ?_)
  · replace h := if_t hb h
    refine Wp.seq ?_
    obtain ⟨r2, hr2, h⟩ := bind_of h
    refine Wp.region hΓ [] [(0, .val (.bool r2))] [] [4] [] (K' := [(4, .val (.bool r2))]) (L' := []) (ob := [(true = true → CX Tryd.prog 6 [] (.val (.bool r2)))]) (by kernel_rfl) (AllP.cons (fun _ => cx (ok_law09_awake n  _ hr2)) AllP.nil) ?_
    refine To.thenN ?_
    refine Wp.ret ?_
    refine To.thenR ?_
    refine To.keep (kk := [4]) (kl := []) (K' := [(4, .val (.bool r2))]) (L' := []) (by kernel_rfl) (by kernel_rfl) ?_
    cases h
    exact To.done hΓ (by kernel_rfl)
  · replace h := if_f hb h
    refine Wp.skip ?_
    refine To.thenN ?_
    refine Wp.seq ?_
    obtain ⟨r3, hr3, h⟩ := bind_of h
    obtain ⟨hc14, h⟩ := chk_of h
    obtain ⟨hc15, h⟩ := chk_of h
    obtain ⟨r4, hr4, h⟩ := bind_of h
    refine Wp.region hΓ [] [(1, .str r3), (4, .tup [.agg [.val (.int .i64 r4.1.f_Kind), .str r4.1.f_Text, .recs (α := List UInt8) [] E_string r4.1.f_Keys, .tree (α := S_api_Node) (S_api_Node.mk 0 [] [] []) pre_S_api_Node kids_S_api_Node r4.1.f_Kids], .val (.int .i64 r4.2)])] [] [1, 2, 5, 6] [2, 5] (K' := [(1, .str a1), (2, .own 2 0), (5, .own 5 0), (6, .val (.int .i64 r4.2))]) (L' := [(2, 25, [.val (.int .i64 a0.f_Kind), .str a0.f_Text, .recs (α := List UInt8) [] E_string a0.f_Keys, .tree (α := S_api_Node) (S_api_Node.mk 0 [] [] []) pre_S_api_Node kids_S_api_Node a0.f_Kids]), (5, 25, [.val (.int .i64 r4.1.f_Kind), .str r4.1.f_Text, .recs (α := List UInt8) [] E_string r4.1.f_Keys, .tree (α := S_api_Node) (S_api_Node.mk 0 [] [] []) pre_S_api_Node kids_S_api_Node r4.1.f_Kids])]) (ob := [(true = true → CX Tryd.prog 7 [.agg [.val (.int .i64 a0.f_Kind), .str a0.f_Text, .recs (α := List UInt8) [] E_string a0.f_Keys, .tree (α := S_api_Node) (S_api_Node.mk 0 [] [] []) pre_S_api_Node kids_S_api_Node a0.f_Kids]] (.str r3)), (decide (((List.length ([32, 32] : List UInt8) + List.length r3 : Nat) : Int) ≤ 9223372036854775807)) = true, (decide (((List.length (([32, 32] : List UInt8) ++ r3) + List.length ([32] : List UInt8) : Nat) : Int) ≤ 9223372036854775807)) = true, (true = true → CX Tryd.prog 9 [.str ((([32, 32] : List UInt8) ++ r3) ++ [32])] (.tup [.agg [.val (.int .i64 r4.1.f_Kind), .str r4.1.f_Text, .recs (α := List UInt8) [] E_string r4.1.f_Keys, .tree (α := S_api_Node) (S_api_Node.mk 0 [] [] []) pre_S_api_Node kids_S_api_Node r4.1.f_Kids], .val (.int .i64 r4.2)]))]) (by kernel_rfl) (AllP.cons (fun _ => cx (ok_flow_Write n a0 _ hr3)) (AllP.cons hc14 (AllP.cons hc15 (AllP.cons (fun _ => cx (ok_flow_Parse n ((([32, 32] : List UInt8) ++ r3) ++ [32]) _ hr4)) AllP.nil)))) ?_
    refine To.thenN ?_
    refine Wp.seq ?_
    refine Wp.seq ?_
    obtain ⟨r5, hr5, h⟩ := bind_of h
    refine Wp.region hΓ [] [(5, .val (.bool r5))] [] [1, 35] [] (K' := [(1, .str a1), (35, .val (.bool (bif (r4.2 != 0) then true else (!r5))))]) (L' := []) (ob := [(((r4.2 != 0) == false) = true → CX Tryd.prog 10 [.agg [.val (.int .i64 r4.1.f_Kind), .str r4.1.f_Text, .recs (α := List UInt8) [] E_string r4.1.f_Keys, .tree (α := S_api_Node) (S_api_Node.mk 0 [] [] []) pre_S_api_Node kids_S_api_Node r4.1.f_Kids], .agg [.val (.int .i64 a0.f_Kind), .str a0.f_Text, .recs (α := List UInt8) [] E_string a0.f_Keys, .tree (α := S_api_Node) (S_api_Node.mk 0 [] [] []) pre_S_api_Node kids_S_api_Node a0.f_Kids]] (.val (.bool r5)))]) (by kernel_rfl) (AllP.cons (fun hg => cx (ok_ref08_Same n r4.1 a0 _ (if_t hg hr5))) AllP.nil) ?_
    refine To.thenN ?_
    refine Wp.cond (b := (bif (r4.2 != 0) then true else (!r5))) (by kernel_rfl) (fun hb => ?_) (fun hb => ?_)
    · replace h := if_t hb h
      refine Wp.seq ?_
      refine Wp.region hΓ [] [] [] [4] [] (K' := [(4, .val (.bool false))]) (L' := []) (ob := []) (by kernel_rfl) AllP.nil ?_
      refine To.thenN ?_
      refine Wp.ret ?_
      refine To.thenR ?_
      refine To.keep (kk := [4]) (kl := []) (K' := [(4, .val (.bool false))]) (L' := []) (by kernel_rfl) (by kernel_rfl) ?_
      cases h
      exact To.done hΓ (by kernel_rfl)
    · replace h := if_f hb h
      refine Wp.skip ?_
      refine To.thenN ?_
      refine Wp.seq ?_
      obtain ⟨r6, hr6, h⟩ := bind_of h
      refine Wp.region hΓ [] [(1, .tup [.agg [.val (.int .i64 r6.1.f_Kind), .str r6.1.f_Text, .recs (α := List UInt8) [] E_string r6.1.f_Keys, .tree (α := S_api_Node) (S_api_Node.mk 0 [] [] []) pre_S_api_Node kids_S_api_Node r6.1.f_Kids], .val (.int .i64 r6.2)])] [] [7, 8] [7] (K' := [(7, .own 7 0), (8, .val (.int .i64 r6.2))]) (L' := [(7, 25, [.val (.int .i64 r6.1.f_Kind), .str r6.1.f_Text, .recs (α := List UInt8) [] E_string r6.1.f_Keys, .tree (α := S_api_Node) (S_api_Node.mk 0 [] [] []) pre_S_api_Node kids_S_api_Node r6.1.f_Kids])]) (ob := [(true = true → CX Tryd.prog 9 [.str a1] (.tup [.agg [.val (.int .i64 r6.1.f_Kind), .str r6.1.f_Text, .recs (α := List UInt8) [] E_string r6.1.f_Keys, .tree (α := S_api_Node) (S_api_Node.mk 0 [] [] []) pre_S_api_Node kids_S_api_Node r6.1.f_Kids], .val (.int .i64 r6.2)]))]) (by kernel_rfl) (AllP.cons (fun _ => cx (ok_flow_Parse n a1 _ hr6)) AllP.nil) ?_
      refine To.thenN ?_
      refine Wp.seq ?_
      refine Wp.seq ?_
      refine Wp.region hΓ [] [] [] [7, 42] [7] (K' := [(7, .own 7 0), (42, .val (.bool (r6.2 != 0)))]) (L' := [(7, 25, [.val (.int .i64 r6.1.f_Kind), .str r6.1.f_Text, .recs (α := List UInt8) [] E_string r6.1.f_Keys, .tree (α := S_api_Node) (S_api_Node.mk 0 [] [] []) pre_S_api_Node kids_S_api_Node r6.1.f_Kids])]) (ob := []) (by kernel_rfl) AllP.nil ?_
      refine To.thenN ?_
      refine Wp.cond (b := (r6.2 != 0)) (by kernel_rfl) (fun hb => ?_) (fun hb => ?_)
      · replace h := if_t hb h
        refine Wp.seq ?_
        obtain ⟨r7, hr7, h⟩ := bind_of h
        obtain ⟨r8, hr8, h⟩ := bind_of h
        refine Wp.region hΓ [] [(2, .val (.bool r7)), (4, .val (.bool r8))] [] [4] [] (K' := [(4, .val (.bool (bif r7 then r8 else false)))]) (L' := []) (ob := [(true = true → CX Tryd.prog 10 [.agg [.val (.int .i64 r6.1.f_Kind), .str r6.1.f_Text, .recs (α := List UInt8) [] E_string r6.1.f_Keys, .tree (α := S_api_Node) (S_api_Node.mk 0 [] [] []) pre_S_api_Node kids_S_api_Node r6.1.f_Kids], .agg [.val (.int .i64 0), .str [], .val (.slice none 0 0), .val (.slice none 0 0)]] (.val (.bool r7))), ((r7 == true) = true → CX Tryd.prog 6 [] (.val (.bool r8)))]) (by kernel_rfl) (AllP.cons (fun _ => cx (callsX_args (.cons (.refl _) (.cons (.agg (.cons (.refl _) (.cons (.refl _) (.cons (.zero _ _) (.cons (.zeroT _ _ _) .nil))))) .nil)) (ok_ref08_Same n r6.1 (S_api_Node.mk 0 [] [] []) _ hr7))) (AllP.cons (fun hg => cx (ok_law09_awake n  _ (if_t hg hr8))) AllP.nil)) ?_
        refine To.thenN ?_
        refine Wp.ret ?_
        refine To.thenR ?_
        refine To.keep (kk := [4]) (kl := []) (K' := [(4, .val (.bool (bif r7 then r8 else false)))]) (L' := []) (by kernel_rfl) (by kernel_rfl) ?_
        cases h
        exact To.done hΓ (by kernel_rfl)
      · replace h := if_f hb h
        refine Wp.skip ?_
        refine To.thenN ?_
        refine Wp.seq ?_
        obtain ⟨r9, hr9, h⟩ := bind_of h
        obtain ⟨r10, hr10, h⟩ := bind_of h
        refine Wp.region hΓ [] [(1, .str r9), (2, .tup [.agg [.val (.int .i64 r10.1.f_Kind), .str r10.1.f_Text, .recs (α := List UInt8) [] E_string r10.1.f_Keys, .tree (α := S_api_Node) (S_api_Node.mk 0 [] [] []) pre_S_api_Node kids_S_api_Node r10.1.f_Kids], .val (.int .i64 r10.2)])] [] [7, 9, 10] [7, 9] (K' := [(7, .own 7 0), (9, .own 9 0), (10, .val (.int .i64 r10.2))]) (L' := [(7, 25, [.val (.int .i64 r6.1.f_Kind), .str r6.1.f_Text, .recs (α := List UInt8) [] E_string r6.1.f_Keys, .tree (α := S_api_Node) (S_api_Node.mk 0 [] [] []) pre_S_api_Node kids_S_api_Node r6.1.f_Kids]), (9, 25, [.val (.int .i64 r10.1.f_Kind), .str r10.1.f_Text, .recs (α := List UInt8) [] E_string r10.1.f_Keys, .tree (α := S_api_Node) (S_api_Node.mk 0 [] [] []) pre_S_api_Node kids_S_api_Node r10.1.f_Kids])]) (ob := [(true = true → CX Tryd.prog 7 [.agg [.val (.int .i64 r6.1.f_Kind), .str r6.1.f_Text, .recs (α := List UInt8) [] E_string r6.1.f_Keys, .tree (α := S_api_Node) (S_api_Node.mk 0 [] [] []) pre_S_api_Node kids_S_api_Node r6.1.f_Kids]] (.str r9)), (true = true → CX Tryd.prog 9 [.str r9] (.tup [.agg [.val (.int .i64 r10.1.f_Kind), .str r10.1.f_Text, .recs (α := List UInt8) [] E_string r10.1.f_Keys, .tree (α := S_api_Node) (S_api_Node.mk 0 [] [] []) pre_S_api_Node kids_S_api_Node r10.1.f_Kids], .val (.int .i64 r10.2)]))]) (by kernel_rfl) (AllP.cons (fun _ => cx (ok_flow_Write n r6.1 _ hr9)) (AllP.cons (fun _ => cx (ok_flow_Parse n r9 _ hr10)) AllP.nil)) ?_
        refine To.thenN ?_
        refine Wp.seq ?_
        obtain ⟨r11, hr11, h⟩ := bind_of h
        obtain ⟨r12, hr12, h⟩ := bind_of h
        obtain ⟨r13, hr13, h⟩ := bind_of h
        refine Wp.region hΓ [] [(5, .val (.bool r11)), (9, .val (.bool r12)), (12, .val (.bool r13))] [] [4] [] (K' := [(4, .val (.bool (bif (bif (bif (r10.2 == 0) then r11 else false) then r12 else false) then r13 else false)))]) (L' := []) (ob := [(((r10.2 == 0) == true) = true → CX Tryd.prog 10 [.agg [.val (.int .i64 r6.1.f_Kind), .str r6.1.f_Text, .recs (α := List UInt8) [] E_string r6.1.f_Keys, .tree (α := S_api_Node) (S_api_Node.mk 0 [] [] []) pre_S_api_Node kids_S_api_Node r6.1.f_Kids], .agg [.val (.int .i64 r10.1.f_Kind), .str r10.1.f_Text, .recs (α := List UInt8) [] E_string r10.1.f_Keys, .tree (α := S_api_Node) (S_api_Node.mk 0 [] [] []) pre_S_api_Node kids_S_api_Node r10.1.f_Kids]] (.val (.bool r11))), (((bif (r10.2 == 0) then r11 else false) == true) = true → CX Tryd.prog 11 [.agg [.val (.int .i64 r6.1.f_Kind), .str r6.1.f_Text, .recs (α := List UInt8) [] E_string r6.1.f_Keys, .tree (α := S_api_Node) (S_api_Node.mk 0 [] [] []) pre_S_api_Node kids_S_api_Node r6.1.f_Kids]] (.val (.bool r12))), (((bif (bif (r10.2 == 0) then r11 else false) then r12 else false) == true) = true → CX Tryd.prog 6 [] (.val (.bool r13)))]) (by kernel_rfl) (AllP.cons (fun hg => cx (ok_ref08_Same n r6.1 r10.1 _ (if_t hg hr11))) (AllP.cons (fun hg => cx (ok_ref08_Right n r6.1 _ (if_t hg hr12))) (AllP.cons (fun hg => cx (ok_law09_awake n  _ (if_t hg hr13))) AllP.nil))) ?_
        refine To.thenN ?_
        refine Wp.ret ?_
        refine To.keep (kk := [4]) (kl := []) (K' := [(4, .val (.bool (bif (bif (bif (r10.2 == 0) then r11 else false) then r12 else false) then r13 else false)))]) (L' := []) (by kernel_rfl) (by kernel_rfl) ?_
        cases h
        exact To.done hΓ (by kernel_rfl)
theorem opens_i64 : Opens Tryd.prog 3 (fun n : Int => IntKind.min .i64 ≤ n ∧ n ≤ IntKind.max .i64) (fun n => [.val (.int .i64 n)]) := opens_int (by kernel_rfl)
theorem opens_string : Opens Tryd.prog 9 (fun l : List UInt8 => l.length ≤ maxLen) (fun l => [.str l]) := opens_str (by kernel_rfl)
def W_Lstring (l : List (List UInt8)) : Prop := l.length ≤ maxLen ∧ ∀ x ∈ l, (List.length x ≤ maxLen)
theorem opens_Lstring : Opens Tryd.prog 22 W_Lstring (fun l => [.recs (α := List UInt8) [] E_string l]) := opens_slice (α := List UInt8) (cells := E_string) [] (by kernel_rfl) (by kernel_rfl) (of_decide_eq_true (by kernel_rfl)) opens_string
inductive W_api_Node : S_api_Node → Prop
  | mk (x : S_api_Node) (h : (IntKind.min .i64 ≤ x.f_Kind ∧ x.f_Kind ≤ IntKind.max .i64) ∧ (List.length x.f_Text ≤ maxLen) ∧ (W_Lstring x.f_Keys)) (hl : x.f_Kids.length ≤ maxLen) (hk : ∀ y ∈ x.f_Kids, W_api_Node y) : W_api_Node x
theorem opens_api_Node : Opens Tryd.prog 25 W_api_Node tr_S_api_Node := by
  refine opens_ind fun N ih => ?_
  intro H enc W fuel cs d ps hN h
  obtain ⟨hl, hf⟩ := field_ofN Tryd.underlying25 hN h
  have hl : cs.length = 4 := hl.trans (by kernel_rfl)
  obtain ⟨x0, w0, r0⟩ := hf 0 _ rfl (opens_i64.n N)
  have r0 := repAt (a' := 0) (b' := 1) r0 (by kernel_rfl) (by kernel_rfl)
  obtain ⟨x1, w1, r1⟩ := hf 1 _ rfl (opens_string.n N)
  have r1 := repAt (a' := 1) (b' := 1) r1 (by kernel_rfl) (by kernel_rfl)
  obtain ⟨x2, w2, r2⟩ := hf 2 _ rfl (opens_Lstring.n N)
  have r2 := repAt (a' := 2) (b' := 1) r2 (by kernel_rfl) (by kernel_rfl)
  obtain ⟨x3, w3, r3⟩ := hf 3 _ rfl (opensN_kids (α := S_api_Node) (pre := pre_S_api_Node) (kids := kids_S_api_Node) (S_api_Node.mk 0 [] [] []) Tryd.underlying23 (by kernel_rfl) (of_decide_eq_true (by kernel_rfl)) ih)
  have r3 := repAt (a' := 3) (b' := 1) r3 (by kernel_rfl) (by kernel_rfl)
  refine ⟨⟨x0, x1, x2, x3⟩, .mk _ ⟨w0, w1, w2⟩ w3.1 w3.2, ?_⟩
  exact parts_all (l := [([.val (.int .i64 x0)], 1), ([.str x1], 1), ([.recs (α := List UInt8) [] E_string x2], 1), ([.tree (α := S_api_Node) (S_api_Node.mk 0 [] [] []) pre_S_api_Node kids_S_api_Node x3], 1)]) ⟨r0, r1, r2, r3, Nat.le_of_eq hl⟩ rfl
end Go.Proofs.YtjicbelggepaiaaDoor.M
