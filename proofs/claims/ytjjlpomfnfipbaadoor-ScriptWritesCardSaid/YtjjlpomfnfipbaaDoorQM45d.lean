import Derived.Test.YtjjlpomfnfipbaaDoorQM45c
set_option linter.all false
namespace Go.Proofs.YtjjlpomfnfipbaaDoor.M
open Go.RowKit Go.Proofs.YtjjlpomfnfipbaaDoor.RX
set_option maxRecDepth 100000
theorem ok_ref45_Line (n : Nat) (a0 : List UInt8) (r : S_ref45_Step × Bool) (h : ref45_Line n a0 = some r) : CallsX Tryd.prog 14 [.str a0] (.tup [.agg [vi r.1.f_Kind, vi r.1.f_N, vi r.1.f_M, vi r.1.f_Command.f_Kind, ls r.1.f_Command.f_Services, vi r.1.f_Command.f_Count, vb r.1.f_Command.f_Orphans, vb r.1.f_Command.f_Volumes, vi r.1.f_Command.f_Timeout, vi r.1.f_Command.f_Retries, vi r.1.f_Call.f_Kind, .str r.1.f_Call.f_Name, vi r.1.f_Call.f_Id, .str r.1.f_Call.f_Spec.f_Name, .str r.1.f_Call.f_Spec.f_Project, .str r.1.f_Call.f_Spec.f_Service, vi r.1.f_Call.f_Spec.f_Number, .str r.1.f_Call.f_Spec.f_Hash, ls r.1.f_Call.f_Spec.f_Nets, ls r.1.f_Call.f_Spec.f_Vols, .str r.1.f_Call.f_Spec.f_Health.f_Test, vi r.1.f_Call.f_Spec.f_Health.f_Every, vi r.1.f_Call.f_Spec.f_Health.f_Start, vi r.1.f_Call.f_Spec.f_Health.f_Retries, vi r.1.f_Call.f_Spec.f_Restart, vi r.1.f_Call.f_Spec.f_Tries], vb r.2]) := by
  unfold ref45_Line at h
  refine callsX_of (fn := Tryd.f14) (by kernel_rfl) rfl (by kernel_rfl) (Nat.le_of_ble_eq_true (by kernel_rfl)) fun F0 w0 _ => ?_
  refine Wp.keep (kk := [0]) (kl := []) (K' := [(0, .str a0)]) (L' := []) (by kernel_rfl) (by kernel_rfl) ?_
  refine Wp.seq ?_
  refine rg [0, 2] [2] (K' := [(0, .str a0), (2, .own 2 0)]) (L' := [(2, 32, [vi 0, vi 0, vi 0, vi 0, .val (.slice none 0 0), vi 0, vb false, vb false, vi 0, vi 0, vi 0, .str [], vi 0, .str [], .str [], .str [], vi 0, .str [], .val (.slice none 0 0), .val (.slice none 0 0), .str [], vi 0, vi 0, vi 0, vi 0, vi 0])]) (by kernel_rfl) ?_
  refine To.thenN (Wp.seq ?_)
  obtain ⟨r1, hr1, h⟩ := bind_of h
  refine Wp.region hΓ [] [(1, ls r1)] [] [0, 2, 4] [2] (K' := [(0, .str a0), (2, .own 2 0), (4, ls r1)]) (L' := [(2, 32, [vi 0, vi 0, vi 0, vi 0, .val (.slice none 0 0), vi 0, vb false, vb false, vi 0, vi 0, vi 0, .str [], vi 0, .str [], .str [], .str [], vi 0, .str [], .val (.slice none 0 0), .val (.slice none 0 0), .str [], vi 0, vi 0, vi 0, vi 0, vi 0])]) (ob := [(true = true → CX Tryd.prog 34 [.str a0] (ls r1))]) (by kernel_rfl) (AllP.cons (fun _ => cx (ok_ref45_Split n a0 _ hr1)) AllP.nil) ?_
  refine To.thenN (Wp.seq (Wp.seq ?_))
  refine rg [0, 2, 4, 17] [2] (K' := [(0, .str a0), (2, .own 2 0), (4, ls r1), (17, vb (a0 == [103, 111]))]) (L' := [(2, 32, [vi 0, vi 0, vi 0, vi 0, .val (.slice none 0 0), vi 0, vb false, vb false, vi 0, vi 0, vi 0, .str [], vi 0, .str [], .str [], .str [], vi 0, .str [], .val (.slice none 0 0), .val (.slice none 0 0), .str [], vi 0, vi 0, vi 0, vi 0, vi 0])]) (by kernel_rfl) ?_
  refine To.thenN ?_
  refine Wp.cond (b := (a0 == [103, 111])) (by kernel_rfl) (fun hb => ?_) (fun hb => ?_)
  · replace h := if_t hb h
    refine Wp.seq ?_
    refine rg [2, 3] [2] (K' := [(2, .own 2 0), (3, vb true)]) (L' := [(2, 32, [vi 2, vi 0, vi 0, vi 0, .val (.slice none 0 0), vi 0, vb false, vb false, vi 0, vi 0, vi 0, .str [], vi 0, .str [], .str [], .str [], vi 0, .str [], .val (.slice none 0 0), .val (.slice none 0 0), .str [], vi 0, vi 0, vi 0, vi 0, vi 0])]) (by kernel_rfl) ?_
    refine To.thenN ?_
    refine Wp.ret ?_
    refine To.thenR ?_
    refine To.keep (kk := [2, 3]) (kl := [2]) (K' := [(2, .own 2 0), (3, vb true)]) (L' := [(2, 32, [vi 2, vi 0, vi 0, vi 0, .val (.slice none 0 0), vi 0, vb false, vb false, vi 0, vi 0, vi 0, .str [], vi 0, .str [], .str [], .str [], vi 0, .str [], .val (.slice none 0 0), .val (.slice none 0 0), .str [], vi 0, vi 0, vi 0, vi 0, vi 0])]) (by kernel_rfl) (by kernel_rfl) ?_
    refine To.weak (K' := [(2, .own 2 0), (3, vb true)]) (L' := [(2, 32, [vi 2, vi 0, vi 0, vi 0, ls [], vi 0, vb false, vb false, vi 0, vi 0, vi 0, .str [], vi 0, .str [], .str [], .str [], vi 0, .str [], ls [], ls [], .str [], vi 0, vi 0, vi 0, vi 0, vi 0])]) (.cons (.refl _) (.cons (.refl _) .nil)) (.cons (.cons (.refl _) (.cons (.refl _) (.cons (.refl _) (.cons (.refl _) (.cons (.zero _ _) (.cons (.refl _) (.cons (.refl _) (.cons (.refl _) (.cons (.refl _) (.cons (.refl _) (.cons (.refl _) (.cons (.refl _) (.cons (.refl _) (.cons (.refl _) (.cons (.refl _) (.cons (.refl _) (.cons (.refl _) (.cons (.refl _) (.cons (.zero _ _) (.cons (.zero _ _) (.cons (.refl _) (.cons (.refl _) (.cons (.refl _) (.cons (.refl _) (.cons (.refl _) (.cons (.refl _) .nil)))))))))))))))))))))))))) .nil) ?_
    cases h
    exact To.done hΓ (by kernel_rfl)
  · replace h := if_f hb h
    refine Wp.skip (To.thenN (Wp.seq (Wp.seq ?_)))
    refine rg [2, 4, 20] [2] (K' := [(2, .own 2 0), (4, ls r1), (20, vb (a0 == [99, 114, 97, 115, 104]))]) (L' := [(2, 32, [vi 0, vi 0, vi 0, vi 0, .val (.slice none 0 0), vi 0, vb false, vb false, vi 0, vi 0, vi 0, .str [], vi 0, .str [], .str [], .str [], vi 0, .str [], .val (.slice none 0 0), .val (.slice none 0 0), .str [], vi 0, vi 0, vi 0, vi 0, vi 0])]) (by kernel_rfl) ?_
    refine To.thenN ?_
    refine Wp.cond (b := (a0 == [99, 114, 97, 115, 104])) (by kernel_rfl) (fun hb => ?_) (fun hb => ?_)
    · replace h := if_t hb h
      refine Wp.seq ?_
      refine rg [2, 3] [2] (K' := [(2, .own 2 0), (3, vb true)]) (L' := [(2, 32, [vi 8, vi 0, vi 0, vi 0, .val (.slice none 0 0), vi 0, vb false, vb false, vi 0, vi 0, vi 0, .str [], vi 0, .str [], .str [], .str [], vi 0, .str [], .val (.slice none 0 0), .val (.slice none 0 0), .str [], vi 0, vi 0, vi 0, vi 0, vi 0])]) (by kernel_rfl) ?_
      refine To.thenN ?_
      refine Wp.ret ?_
      refine To.thenR ?_
      refine To.keep (kk := [2, 3]) (kl := [2]) (K' := [(2, .own 2 0), (3, vb true)]) (L' := [(2, 32, [vi 8, vi 0, vi 0, vi 0, .val (.slice none 0 0), vi 0, vb false, vb false, vi 0, vi 0, vi 0, .str [], vi 0, .str [], .str [], .str [], vi 0, .str [], .val (.slice none 0 0), .val (.slice none 0 0), .str [], vi 0, vi 0, vi 0, vi 0, vi 0])]) (by kernel_rfl) (by kernel_rfl) ?_
      refine To.weak (K' := [(2, .own 2 0), (3, vb true)]) (L' := [(2, 32, [vi 8, vi 0, vi 0, vi 0, ls [], vi 0, vb false, vb false, vi 0, vi 0, vi 0, .str [], vi 0, .str [], .str [], .str [], vi 0, .str [], ls [], ls [], .str [], vi 0, vi 0, vi 0, vi 0, vi 0])]) (.cons (.refl _) (.cons (.refl _) .nil)) (.cons (.cons (.refl _) (.cons (.refl _) (.cons (.refl _) (.cons (.refl _) (.cons (.zero _ _) (.cons (.refl _) (.cons (.refl _) (.cons (.refl _) (.cons (.refl _) (.cons (.refl _) (.cons (.refl _) (.cons (.refl _) (.cons (.refl _) (.cons (.refl _) (.cons (.refl _) (.cons (.refl _) (.cons (.refl _) (.cons (.refl _) (.cons (.zero _ _) (.cons (.zero _ _) (.cons (.refl _) (.cons (.refl _) (.cons (.refl _) (.cons (.refl _) (.cons (.refl _) (.cons (.refl _) .nil)))))))))))))))))))))))))) .nil) ?_
      cases h
      exact To.done hΓ (by kernel_rfl)
    · replace h := if_f hb h
      refine Wp.skip (To.thenN (Wp.seq (Wp.seq ?_)))
      obtain ⟨hc19, h⟩ := chk_of h
      refine Wp.region hΓ [] [] [] [2, 4, 25] [2] (K' := [(2, .own 2 0), (4, ls r1), (25, vb (((r1)[Int.toNat 0]?.getD []) == [99, 97, 108, 108]))]) (L' := [(2, 32, [vi 0, vi 0, vi 0, vi 0, .val (.slice none 0 0), vi 0, vb false, vb false, vi 0, vi 0, vi 0, .str [], vi 0, .str [], .str [], .str [], vi 0, .str [], .val (.slice none 0 0), .val (.slice none 0 0), .str [], vi 0, vi 0, vi 0, vi 0, vi 0])]) (ob := [(decide (0 ≤ (0 : Int) ∧ (0 : Int) < (List.length r1 : Int))) = true]) (by kernel_rfl) (AllP.cons hc19 AllP.nil) ?_
      refine To.thenN ?_
      refine Wp.cond (b := (((r1)[Int.toNat 0]?.getD []) == [99, 97, 108, 108])) (by kernel_rfl) (fun hb => ?_) (fun hb => ?_)
      · replace h := if_t hb h
        refine Wp.seq ?_
        obtain ⟨hc3, h⟩ := chk_of h
        obtain ⟨r2, hr2, h⟩ := bind_of h
        refine Wp.region hΓ [] [(2, .tup [.agg [vi r2.1.f_Kind, .str r2.1.f_Name, vi r2.1.f_Id, .str r2.1.f_Spec.f_Name, .str r2.1.f_Spec.f_Project, .str r2.1.f_Spec.f_Service, vi r2.1.f_Spec.f_Number, .str r2.1.f_Spec.f_Hash, ls r2.1.f_Spec.f_Nets, ls r2.1.f_Spec.f_Vols, .str r2.1.f_Spec.f_Health.f_Test, vi r2.1.f_Spec.f_Health.f_Every, vi r2.1.f_Spec.f_Health.f_Start, vi r2.1.f_Spec.f_Health.f_Retries, vi r2.1.f_Spec.f_Restart, vi r2.1.f_Spec.f_Tries], vb r2.2])] [] [2, 5, 6] [2, 5] (K' := [(2, .own 2 0), (5, .own 5 0), (6, vb r2.2)]) (L' := [(2, 32, [vi 0, vi 0, vi 0, vi 0, .val (.slice none 0 0), vi 0, vb false, vb false, vi 0, vi 0, vi 0, .str [], vi 0, .str [], .str [], .str [], vi 0, .str [], .val (.slice none 0 0), .val (.slice none 0 0), .str [], vi 0, vi 0, vi 0, vi 0, vi 0]), (5, 30, (E_api_Call r2.1))]) (ob := [(decide (0 ≤ (1 : Int) ∧ (1 : Int) ≤ (List.length r1 : Int))) = true, (true = true → CX Tryd.prog 35 [ls (List.drop (Int.toNat 1) r1)] (.tup [.agg [vi r2.1.f_Kind, .str r2.1.f_Name, vi r2.1.f_Id, .str r2.1.f_Spec.f_Name, .str r2.1.f_Spec.f_Project, .str r2.1.f_Spec.f_Service, vi r2.1.f_Spec.f_Number, .str r2.1.f_Spec.f_Hash, ls r2.1.f_Spec.f_Nets, ls r2.1.f_Spec.f_Vols, .str r2.1.f_Spec.f_Health.f_Test, vi r2.1.f_Spec.f_Health.f_Every, vi r2.1.f_Spec.f_Health.f_Start, vi r2.1.f_Spec.f_Health.f_Retries, vi r2.1.f_Spec.f_Restart, vi r2.1.f_Spec.f_Tries], vb r2.2]))]) (by kernel_rfl) (AllP.cons hc3 (AllP.cons (fun _ => cx (ok_ref45_call n (List.drop (Int.toNat 1) r1) _ hr2)) AllP.nil)) ?_
        refine To.thenN (Wp.seq (Wp.seq ?_))
        refine rg [2, 5, 33] [2, 5] (K' := [(2, .own 2 0), (5, .own 5 0), (33, vb (!r2.2))]) (L' := [(2, 32, [vi 0, vi 0, vi 0, vi 0, .val (.slice none 0 0), vi 0, vb false, vb false, vi 0, vi 0, vi 0, .str [], vi 0, .str [], .str [], .str [], vi 0, .str [], .val (.slice none 0 0), .val (.slice none 0 0), .str [], vi 0, vi 0, vi 0, vi 0, vi 0]), (5, 30, (E_api_Call r2.1))]) (by kernel_rfl) ?_
        refine To.thenN ?_
        refine Wp.cond (b := (!r2.2)) (by kernel_rfl) (fun hb => ?_) (fun hb => ?_)
        · replace h := if_t hb h
          refine Wp.seq ?_
          refine rg [2, 3] [2] (K' := [(2, .own 2 0), (3, vb false)]) (L' := [(2, 32, [vi 0, vi 0, vi 0, vi 0, .val (.slice none 0 0), vi 0, vb false, vb false, vi 0, vi 0, vi 0, .str [], vi 0, .str [], .str [], .str [], vi 0, .str [], .val (.slice none 0 0), .val (.slice none 0 0), .str [], vi 0, vi 0, vi 0, vi 0, vi 0])]) (by kernel_rfl) ?_
          refine To.thenN ?_
          refine Wp.ret ?_
          refine To.thenR ?_
          refine To.thenR ?_
          refine To.keep (kk := [2, 3]) (kl := [2]) (K' := [(2, .own 2 0), (3, vb false)]) (L' := [(2, 32, [vi 0, vi 0, vi 0, vi 0, .val (.slice none 0 0), vi 0, vb false, vb false, vi 0, vi 0, vi 0, .str [], vi 0, .str [], .str [], .str [], vi 0, .str [], .val (.slice none 0 0), .val (.slice none 0 0), .str [], vi 0, vi 0, vi 0, vi 0, vi 0])]) (by kernel_rfl) (by kernel_rfl) ?_
          refine To.weak (K' := [(2, .own 2 0), (3, vb false)]) (L' := [(2, 32, [vi 0, vi 0, vi 0, vi 0, ls [], vi 0, vb false, vb false, vi 0, vi 0, vi 0, .str [], vi 0, .str [], .str [], .str [], vi 0, .str [], ls [], ls [], .str [], vi 0, vi 0, vi 0, vi 0, vi 0])]) (.cons (.refl _) (.cons (.refl _) .nil)) (.cons (.cons (.refl _) (.cons (.refl _) (.cons (.refl _) (.cons (.refl _) (.cons (.zero _ _) (.cons (.refl _) (.cons (.refl _) (.cons (.refl _) (.cons (.refl _) (.cons (.refl _) (.cons (.refl _) (.cons (.refl _) (.cons (.refl _) (.cons (.refl _) (.cons (.refl _) (.cons (.refl _) (.cons (.refl _) (.cons (.refl _) (.cons (.zero _ _) (.cons (.zero _ _) (.cons (.refl _) (.cons (.refl _) (.cons (.refl _) (.cons (.refl _) (.cons (.refl _) (.cons (.refl _) .nil)))))))))))))))))))))))))) .nil) ?_
          cases h
          exact To.done hΓ (by kernel_rfl)
        · replace h := if_f hb h
          refine Wp.skip (To.thenN (Wp.seq ?_))
          refine rg [2, 3] [2] (K' := [(2, .own 2 0), (3, vb true)]) (L' := [(2, 32, [vi 9, vi 0, vi 0, vi 0, .val (.slice none 0 0), vi 0, vb false, vb false, vi 0, vi 0, vi r2.1.f_Kind, .str r2.1.f_Name, vi r2.1.f_Id, .str r2.1.f_Spec.f_Name, .str r2.1.f_Spec.f_Project, .str r2.1.f_Spec.f_Service, vi r2.1.f_Spec.f_Number, .str r2.1.f_Spec.f_Hash, ls r2.1.f_Spec.f_Nets, ls r2.1.f_Spec.f_Vols, .str r2.1.f_Spec.f_Health.f_Test, vi r2.1.f_Spec.f_Health.f_Every, vi r2.1.f_Spec.f_Health.f_Start, vi r2.1.f_Spec.f_Health.f_Retries, vi r2.1.f_Spec.f_Restart, vi r2.1.f_Spec.f_Tries])]) (by kernel_rfl) ?_
          refine To.thenN ?_
          refine Wp.ret ?_
          refine To.thenR ?_
          refine To.keep (kk := [2, 3]) (kl := [2]) (K' := [(2, .own 2 0), (3, vb true)]) (L' := [(2, 32, [vi 9, vi 0, vi 0, vi 0, .val (.slice none 0 0), vi 0, vb false, vb false, vi 0, vi 0, vi r2.1.f_Kind, .str r2.1.f_Name, vi r2.1.f_Id, .str r2.1.f_Spec.f_Name, .str r2.1.f_Spec.f_Project, .str r2.1.f_Spec.f_Service, vi r2.1.f_Spec.f_Number, .str r2.1.f_Spec.f_Hash, ls r2.1.f_Spec.f_Nets, ls r2.1.f_Spec.f_Vols, .str r2.1.f_Spec.f_Health.f_Test, vi r2.1.f_Spec.f_Health.f_Every, vi r2.1.f_Spec.f_Health.f_Start, vi r2.1.f_Spec.f_Health.f_Retries, vi r2.1.f_Spec.f_Restart, vi r2.1.f_Spec.f_Tries])]) (by kernel_rfl) (by kernel_rfl) ?_
          refine To.weak (K' := [(2, .own 2 0), (3, vb true)]) (L' := [(2, 32, [vi 9, vi 0, vi 0, vi 0, ls [], vi 0, vb false, vb false, vi 0, vi 0, vi r2.1.f_Kind, .str r2.1.f_Name, vi r2.1.f_Id, .str r2.1.f_Spec.f_Name, .str r2.1.f_Spec.f_Project, .str r2.1.f_Spec.f_Service, vi r2.1.f_Spec.f_Number, .str r2.1.f_Spec.f_Hash, ls r2.1.f_Spec.f_Nets, ls r2.1.f_Spec.f_Vols, .str r2.1.f_Spec.f_Health.f_Test, vi r2.1.f_Spec.f_Health.f_Every, vi r2.1.f_Spec.f_Health.f_Start, vi r2.1.f_Spec.f_Health.f_Retries, vi r2.1.f_Spec.f_Restart, vi r2.1.f_Spec.f_Tries])]) (.cons (.refl _) (.cons (.refl _) .nil)) (.cons (.cons (.refl _) (.cons (.refl _) (.cons (.refl _) (.cons (.refl _) (.cons (.zero _ _) (.cons (.refl _) (.cons (.refl _) (.cons (.refl _) (.cons (.refl _) (.cons (.refl _) (.cons (.refl _) (.cons (.refl _) (.cons (.refl _) (.cons (.refl _) (.cons (.refl _) (.cons (.refl _) (.cons (.refl _) (.cons (.refl _) (.cons (.refl _) (.cons (.refl _) (.cons (.refl _) (.cons (.refl _) (.cons (.refl _) (.cons (.refl _) (.cons (.refl _) (.cons (.refl _) .nil)))))))))))))))))))))))))) .nil) ?_
          cases h
          exact To.done hΓ (by kernel_rfl)
      · replace h := if_f hb h
        refine Wp.skip (To.thenN (Wp.seq (Wp.seq ?_)))
        refine rg [2, 4, 7] [2] (K' := [(2, .own 2 0), (4, ls r1), (7, vi 1)]) (L' := [(2, 32, [vi 0, vi 0, vi 0, vi 0, .val (.slice none 0 0), vi 0, vb false, vb false, vi 0, vi 0, vi 0, .str [], vi 0, .str [], .str [], .str [], vi 0, .str [], .val (.slice none 0 0), .val (.slice none 0 0), .str [], vi 0, vi 0, vi 0, vi 0, vi 0])]) (by kernel_rfl) ?_
        refine To.thenN (Wp.block ?_)
        obtain ⟨o4, ho4, h⟩ := bind_of h
        refine Wp.keep (kk := [2, 4, 7]) (kl := [2]) (K' := [(2, .own 2 0), (4, ls r1), (7, vi 1)]) (L' := [(2, 32, [vi 0, vi 0, vi 0, vi 0, .val (.slice none 0 0), vi 0, vb false, vb false, vi 0, vi 0, vi 0, .str [], vi 0, .str [], .str [], .str [], vi 0, .str [], .val (.slice none 0 0), .val (.slice none 0 0), .str [], vi 0, vi 0, vi 0, vi 0, vi 0])]) (by kernel_rfl) (by kernel_rfl) ?_
        refine Wp.weak (K' := [(2, .own 2 0), (4, ls r1), (7, vi 1)]) (L' := [(2, 32, [vi 0, vi 0, vi 0, vi 0, ls [], vi 0, vb false, vb false, vi 0, vi 0, vi 0, .str [], vi 0, .str [], .str [], .str [], vi 0, .str [], ls [], ls [], .str [], vi 0, vi 0, vi 0, vi 0, vi 0])]) (.cons (.refl _) (.cons (.refl _) (.cons (.refl _) .nil))) (.cons (.cons (.refl _) (.cons (.refl _) (.cons (.refl _) (.cons (.refl _) (.cons (.zero _ _) (.cons (.refl _) (.cons (.refl _) (.cons (.refl _) (.cons (.refl _) (.cons (.refl _) (.cons (.refl _) (.cons (.refl _) (.cons (.refl _) (.cons (.refl _) (.cons (.refl _) (.cons (.refl _) (.cons (.refl _) (.cons (.refl _) (.cons (.zero _ _) (.cons (.zero _ _) (.cons (.refl _) (.cons (.refl _) (.cons (.refl _) (.cons (.refl _) (.cons (.refl _) (.cons (.refl _) .nil)))))))))))))))))))))))))) .nil) ?_
        refine Wp.loopL ?_
        refine ok_ref45_Line_l1 n r1 n 1 (S_ref45_Step.mk 0 0 0 (S_api_Command.mk 0 [] 0 false false 0 0) (S_api_Call.mk 0 [] 0 (S_api_Spec.mk [] [] [] 0 [] [] [] (S_api_Check.mk [] 0 0 0) 0 0))) o4 ho4 ?_
        rcases o4 with o4 | o4
        · replace h := sum_l h
          refine To.blockX ?_
          refine To.thenN (Wp.seq ?_)
          refine Wp.region hΓ [] [(0, ls ([[116, 105, 99, 107], [115, 105, 99, 107], [119, 101, 108, 108]]))] [] [2, 4, 10] [2, 75] (K' := [(2, .own 2 0), (4, ls r1), (10, .row 75)]) (L' := [(2, 32, (E_ref45_Step o4)), (75, 9, [.rowc false (α := List UInt8) [] E_string ([[116, 105, 99, 107], [115, 105, 99, 107], [119, 101, 108, 108]])])]) (ob := [(MkOb 1 [.str [116, 105, 99, 107], .str [115, 105, 99, 107], .str [119, 101, 108, 108]] 3 (ls ([[116, 105, 99, 107], [115, 105, 99, 107], [119, 101, 108, 108]])) ∧ GoodR (ls ([[116, 105, 99, 107], [115, 105, 99, 107], [119, 101, 108, 108]])))]) (by kernel_rfl) (AllP.cons (mkOb (by kernel_rfl) rfl (by kernel_rfl) (good_E_string _)) AllP.nil) ?_
          refine To.thenN (Wp.seq (Wp.seq ?_))
          refine rg [2, 4, 10, 11] [2, 75] (K' := [(2, .own 2 0), (4, ls r1), (10, .row 75), (11, vi 0)]) (L' := [(2, 32, (E_ref45_Step o4)), (75, 9, [.rowc false (α := List UInt8) [] E_string ([[116, 105, 99, 107], [115, 105, 99, 107], [119, 101, 108, 108]])])]) (by kernel_rfl) ?_
          refine To.thenN (Wp.block ?_)
          obtain ⟨o5, ho5, h⟩ := bind_of h
          refine Wp.keep (kk := [2, 4, 10, 11]) (kl := [2, 75]) (K' := [(2, .own 2 0), (4, ls r1), (10, .row 75), (11, vi 0)]) (L' := [(2, 32, (E_ref45_Step o4)), (75, 9, [.rowc false (α := List UInt8) [] E_string ([[116, 105, 99, 107], [115, 105, 99, 107], [119, 101, 108, 108]])])]) (by kernel_rfl) (by kernel_rfl) ?_
          refine Wp.pre (St.rename 75 1010 (by decide) (K' := [(2, .own 2 0), (4, ls r1), (10, .row 1010), (11, vi 0)]) (L' := [(2, 32, (E_ref45_Step o4)), (1010, 9, [.rowc false (α := List UInt8) [] E_string ([[116, 105, 99, 107], [115, 105, 99, 107], [119, 101, 108, 108]])])]) (by kernel_rfl) (by kernel_rfl) (by kernel_rfl)) ?_
          refine Wp.keep (kk := [2, 4, 10, 11]) (kl := [2, 1010]) (K' := [(2, .own 2 0), (4, ls r1), (10, .row 1010), (11, vi 0)]) (L' := [(2, 32, (E_ref45_Step o4)), (1010, 9, [.rowc false (α := List UInt8) [] E_string ([[116, 105, 99, 107], [115, 105, 99, 107], [119, 101, 108, 108]])])]) (by kernel_rfl) (by kernel_rfl) ?_
          refine Wp.loopL ?_
          refine ok_ref45_Line_l2 n r1 ([[116, 105, 99, 107], [115, 105, 99, 107], [119, 101, 108, 108]] : List (List UInt8)) n 0 o4 o5 ho5 ?_
          rcases o5 with o5 | o5
          · replace h := sum_l h
            refine To.blockX ?_
            refine To.thenN (Wp.seq (Wp.seq ?_))
            obtain ⟨hc15, h⟩ := chk_of h
            obtain ⟨hc16, h⟩ := chk_of h
            obtain ⟨hc17, h⟩ := chk_of h
            obtain ⟨r6, hr6, h⟩ := bind_of h
            obtain ⟨hc18, h⟩ := chk_of h
            obtain ⟨r7, hr7, h⟩ := bind_of h
            obtain ⟨x8, hx8, h⟩ := lett_of h
            refine Wp.region hΓ [] [(19, vi r6), (26, vi r7)] [] [2, 4, 138] [2] (K' := [(2, .own 2 0), (4, ls r1), (138, vb (bif (bif (bif (bif (((r1)[Int.toNat 0]?.getD []) == [101, 120, 105, 116]) then true else (((r1)[Int.toNat 0]?.getD []) == [102, 97, 117, 108, 116])) then ((List.length r1 : Int) == 3) else false) then (decide (r6 ≥ 0)) else false) then (decide (r7 ≥ 0)) else false))]) (L' := [(2, 32, (E_ref45_Step o5))]) (ob := [(decide (0 ≤ (0 : Int) ∧ (0 : Int) < (List.length r1 : Int))) = true, (!((((r1)[Int.toNat 0]?.getD []) == [101, 120, 105, 116]) == false) || decide (0 ≤ (0 : Int) ∧ (0 : Int) < (List.length r1 : Int))) = true, (!((bif (bif (((r1)[Int.toNat 0]?.getD []) == [101, 120, 105, 116]) then true else (((r1)[Int.toNat 0]?.getD []) == [102, 97, 117, 108, 116])) then ((List.length r1 : Int) == 3) else false) == true) || decide (0 ≤ (1 : Int) ∧ (1 : Int) < (List.length r1 : Int))) = true, (((bif (bif (((r1)[Int.toNat 0]?.getD []) == [101, 120, 105, 116]) then true else (((r1)[Int.toNat 0]?.getD []) == [102, 97, 117, 108, 116])) then ((List.length r1 : Int) == 3) else false) == true) = true → CX Tryd.prog 37 [.str ((r1)[Int.toNat 1]?.getD [])] (vi r6)), (!((bif (bif (bif (((r1)[Int.toNat 0]?.getD []) == [101, 120, 105, 116]) then true else (((r1)[Int.toNat 0]?.getD []) == [102, 97, 117, 108, 116])) then ((List.length r1 : Int) == 3) else false) then (decide (r6 ≥ 0)) else false) == true) || decide (0 ≤ (2 : Int) ∧ (2 : Int) < (List.length r1 : Int))) = true, (((bif (bif (bif (((r1)[Int.toNat 0]?.getD []) == [101, 120, 105, 116]) then true else (((r1)[Int.toNat 0]?.getD []) == [102, 97, 117, 108, 116])) then ((List.length r1 : Int) == 3) else false) then (decide (r6 ≥ 0)) else false) == true) = true → CX Tryd.prog 37 [.str ((r1)[Int.toNat 2]?.getD [])] (vi r7))]) (by kernel_rfl) (AllP.cons hc15 (AllP.cons hc16 (AllP.cons hc17 (AllP.cons (fun hg => cx (ok_ref45_number n ((r1)[Int.toNat 1]?.getD []) _ (if_t hg hr6))) (AllP.cons hc18 (AllP.cons (fun hg => cx (ok_ref45_number n ((r1)[Int.toNat 2]?.getD []) _ (if_t hg hr7))) AllP.nil)))))) ?_
            refine To.eq (K' := [(2, .own 2 0), (4, ls r1), (138, vb x8)]) (L' := [(2, 32, (E_ref45_Step o5))]) (by cases hx8; rfl) (by cases hx8; rfl) ?_
            refine To.thenN ?_
            refine Wp.cond (b := x8) (by kernel_rfl) (fun hb => ?_) (fun hb => ?_)
            · replace h := if_t hb h
              refine Wp.seq ?_
              refine rg [2, 4, 13] [2] (K' := [(2, .own 2 0), (4, ls r1), (13, vi 4)]) (L' := [(2, 32, (E_ref45_Step o5))]) (by kernel_rfl) ?_
              refine To.thenN (Wp.seq (Wp.seq ?_))
              obtain ⟨hc14, h⟩ := chk_of h
              refine Wp.region hΓ [] [] [] [2, 4, 13, 142] [2] (K' := [(2, .own 2 0), (4, ls r1), (13, vi 4), (142, vb (((r1)[Int.toNat 0]?.getD []) == [102, 97, 117, 108, 116]))]) (L' := [(2, 32, (E_ref45_Step o5))]) (ob := [(decide (0 ≤ (0 : Int) ∧ (0 : Int) < (List.length r1 : Int))) = true]) (by kernel_rfl) (AllP.cons hc14 AllP.nil) ?_
              refine To.thenN ?_
              obtain ⟨o9, ho9, h⟩ := bind_of h
              refine Wp.keep (kk := [2, 4, 13, 142]) (kl := [2]) (K' := [(2, .own 2 0), (4, ls r1), (13, vi 4), (142, vb (((r1)[Int.toNat 0]?.getD []) == [102, 97, 117, 108, 116]))]) (L' := [(2, 32, (E_ref45_Step o5))]) (by kernel_rfl) (by kernel_rfl) ?_
              refine ok_ref45_Line_j3 n r1 4 (((r1)[Int.toNat 0]?.getD []) == [102, 97, 117, 108, 116]) o5 o9 ho9 ?_
              refine To.thenN (Wp.seq ?_)
              obtain ⟨hc12, h⟩ := chk_of h
              obtain ⟨r10, hr10, h⟩ := bind_of h
              obtain ⟨hc13, h⟩ := chk_of h
              obtain ⟨r11, hr11, h⟩ := bind_of h
              refine Wp.regionD hm hΓ [(4, vi r10), (8, vi r11)] [2, 3] [2] (K' := [(2, .own 2 0), (3, vb true)]) (L' := [(2, 32, [vi o9, vi r10, vi r11, vi 0, .val (.slice none 0 0), vi 0, vb false, vb false, vi 0, vi 0, vi 0, .str [], vi 0, .str [], .str [], .str [], vi 0, .str [], .val (.slice none 0 0), .val (.slice none 0 0), .str [], vi 0, vi 0, vi 0, vi 0, vi 0])]) (ob := [(decide (0 ≤ (1 : Int) ∧ (1 : Int) < (List.length r1 : Int))) = true, (true = true → CX Tryd.prog 37 [.str ((r1)[Int.toNat 1]?.getD [])] (vi r10)), (decide (0 ≤ (2 : Int) ∧ (2 : Int) < (List.length r1 : Int))) = true, (true = true → CX Tryd.prog 37 [.str ((r1)[Int.toNat 2]?.getD [])] (vi r11))]) (by kernel_rfl) (AllP.cons hc12 (AllP.cons (fun _ => cx (ok_ref45_number n ((r1)[Int.toNat 1]?.getD []) _ hr10)) (AllP.cons hc13 (AllP.cons (fun _ => cx (ok_ref45_number n ((r1)[Int.toNat 2]?.getD []) _ hr11)) AllP.nil)))) ?_
              refine To.thenN ?_
              refine Wp.ret ?_
              refine To.thenR ?_
              refine To.keep (kk := [2, 3]) (kl := [2]) (K' := [(2, .own 2 0), (3, vb true)]) (L' := [(2, 32, [vi o9, vi r10, vi r11, vi 0, .val (.slice none 0 0), vi 0, vb false, vb false, vi 0, vi 0, vi 0, .str [], vi 0, .str [], .str [], .str [], vi 0, .str [], .val (.slice none 0 0), .val (.slice none 0 0), .str [], vi 0, vi 0, vi 0, vi 0, vi 0])]) (by kernel_rfl) (by kernel_rfl) ?_
              refine To.weak (K' := [(2, .own 2 0), (3, vb true)]) (L' := [(2, 32, [vi o9, vi r10, vi r11, vi 0, ls [], vi 0, vb false, vb false, vi 0, vi 0, vi 0, .str [], vi 0, .str [], .str [], .str [], vi 0, .str [], ls [], ls [], .str [], vi 0, vi 0, vi 0, vi 0, vi 0])]) (.cons (.refl _) (.cons (.refl _) .nil)) (.cons (.cons (.refl _) (.cons (.refl _) (.cons (.refl _) (.cons (.refl _) (.cons (.zero _ _) (.cons (.refl _) (.cons (.refl _) (.cons (.refl _) (.cons (.refl _) (.cons (.refl _) (.cons (.refl _) (.cons (.refl _) (.cons (.refl _) (.cons (.refl _) (.cons (.refl _) (.cons (.refl _) (.cons (.refl _) (.cons (.refl _) (.cons (.zero _ _) (.cons (.zero _ _) (.cons (.refl _) (.cons (.refl _) (.cons (.refl _) (.cons (.refl _) (.cons (.refl _) (.cons (.refl _) .nil)))))))))))))))))))))))))) .nil) ?_
              cases h
              exact To.done hΓ (by kernel_rfl)
            · replace h := if_f hb h
              refine Wp.skip (To.thenN (Wp.seq ?_))
              refine rg [2, 3] [2] (K' := [(2, .own 2 0), (3, vb false)]) (L' := [(2, 32, [vi 0, vi 0, vi 0, vi 0, .val (.slice none 0 0), vi 0, vb false, vb false, vi 0, vi 0, vi 0, .str [], vi 0, .str [], .str [], .str [], vi 0, .str [], .val (.slice none 0 0), .val (.slice none 0 0), .str [], vi 0, vi 0, vi 0, vi 0, vi 0])]) (by kernel_rfl) ?_
              refine To.thenN ?_
              refine Wp.ret ?_
              refine To.keep (kk := [2, 3]) (kl := [2]) (K' := [(2, .own 2 0), (3, vb false)]) (L' := [(2, 32, [vi 0, vi 0, vi 0, vi 0, .val (.slice none 0 0), vi 0, vb false, vb false, vi 0, vi 0, vi 0, .str [], vi 0, .str [], .str [], .str [], vi 0, .str [], .val (.slice none 0 0), .val (.slice none 0 0), .str [], vi 0, vi 0, vi 0, vi 0, vi 0])]) (by kernel_rfl) (by kernel_rfl) ?_
              refine To.weak (K' := [(2, .own 2 0), (3, vb false)]) (L' := [(2, 32, [vi 0, vi 0, vi 0, vi 0, ls [], vi 0, vb false, vb false, vi 0, vi 0, vi 0, .str [], vi 0, .str [], .str [], .str [], vi 0, .str [], ls [], ls [], .str [], vi 0, vi 0, vi 0, vi 0, vi 0])]) (.cons (.refl _) (.cons (.refl _) .nil)) (.cons (.cons (.refl _) (.cons (.refl _) (.cons (.refl _) (.cons (.refl _) (.cons (.zero _ _) (.cons (.refl _) (.cons (.refl _) (.cons (.refl _) (.cons (.refl _) (.cons (.refl _) (.cons (.refl _) (.cons (.refl _) (.cons (.refl _) (.cons (.refl _) (.cons (.refl _) (.cons (.refl _) (.cons (.refl _) (.cons (.refl _) (.cons (.zero _ _) (.cons (.zero _ _) (.cons (.refl _) (.cons (.refl _) (.cons (.refl _) (.cons (.refl _) (.cons (.refl _) (.cons (.refl _) .nil)))))))))))))))))))))))))) .nil) ?_
              cases h
              exact To.done hΓ (by kernel_rfl)
          · replace h := sum_r h
            refine To.blockR ?_
            refine To.thenR ?_
            refine To.keep (kk := [2, 3]) (kl := [2]) (K' := [(2, .own 2 0), (3, vb o5.1)]) (L' := [(2, 32, (E_ref45_Step o5.2))]) (by kernel_rfl) (by kernel_rfl) ?_
            cases h
            exact To.done hΓ (by kernel_rfl)
        · replace h := sum_r h
          refine To.blockR ?_
          refine To.thenR ?_
          refine To.keep (kk := [2, 3]) (kl := [2]) (K' := [(2, .own 2 0), (3, vb o4.1)]) (L' := [(2, 32, (E_ref45_Step o4.2))]) (by kernel_rfl) (by kernel_rfl) ?_
          cases h
          exact To.done hΓ (by kernel_rfl)
def ref02_Same_l1 (n : Nat) (v0 : List (List UInt8)) (v1 : List (List UInt8)) : Nat → Int → Option (Sum (Unit) (Bool))
  | 0, _ => none
  | k + 1, v5 => if (decide (v5 < (List.length v0 : Int))) = true then (if (decide (0 ≤ v5 ∧ v5 < (List.length v0 : Int))) = true then (if (decide (0 ≤ v5 ∧ v5 < (List.length v1 : Int))) = true then (if (!(((v0)[Int.toNat v5]?.getD []) == ((v1)[Int.toNat v5]?.getD []))) = true then (some (.inr false))
  else (ref02_Same_l1 n v0 v1 k (IntKind.wrap .i64 (v5 + 1)))) else none) else none)
  else (some (.inl ()))
theorem ok_ref02_Same_l1 (n : Nat) (v0 : List (List UInt8)) (v1 : List (List UInt8)) {F0 : Fz} {w0 : Pt Tryd.prog} {Q : Exit → Act → World → Prop} (k : Nat) : ∀ (v5 : Int) (o : Sum (Unit) (Bool)), ref02_Same_l1 n v0 v1 k v5 = some o → (Sum.elim (fun s => To 26 F0 w0 [] [] (.exit 0) Q) (fun s => To 26 F0 w0 [(4, vb s)] [] .ret Q)) o → WL Tryd.prog 26 F0 w0 [(0, ls v0), (1, ls v1), (5, vi v5)] [] (cI (cI (cB (cA (cB (cB (cF Tryd.f24))))))) Q := by
  induction k with
  | zero => intro v5 o h; cases h
  | succ k ih =>
    intro v5 o h hQ
    rw [ref02_Same_l1] at h
    refine WL.round ?_
    refine Wp.seq (Wp.seq ?_)
    refine rg [0, 1, 5, 14] [] (K' := [(0, ls v0), (1, ls v1), (5, vi v5), (14, vb (decide (v5 < (List.length v0 : Int))))]) (L' := []) (by kernel_rfl) ?_
    refine To.thenN ?_
    refine Wp.cond (b := (decide (v5 < (List.length v0 : Int)))) (by kernel_rfl) (fun hb => ?_) (fun hb => ?_)
    · replace h := if_t hb h
      refine Wp.skip (To.thenN (Wp.seq (Wp.block (Wp.seq ?_))))
      obtain ⟨hc1, h⟩ := chk_of h
      obtain ⟨hc2, h⟩ := chk_of h
      refine Wp.regionD hm hΓ [] [0, 1, 5, 25] [] (K' := [(0, ls v0), (1, ls v1), (5, vi v5), (25, vb (!(((v0)[Int.toNat v5]?.getD []) == ((v1)[Int.toNat v5]?.getD []))))]) (L' := []) (ob := [(decide (0 ≤ v5 ∧ v5 < (List.length v0 : Int))) = true, (decide (0 ≤ v5 ∧ v5 < (List.length v1 : Int))) = true]) (by kernel_rfl) (AllP.cons hc1 (AllP.cons hc2 AllP.nil)) ?_
      refine To.thenN ?_
      refine Wp.cond (b := (!(((v0)[Int.toNat v5]?.getD []) == ((v1)[Int.toNat v5]?.getD [])))) (by kernel_rfl) (fun hb => ?_) (fun hb => ?_)
      · replace h := if_t hb h
        refine Wp.seq ?_
        refine rg [4] [] (K' := [(4, vb false)]) (L' := []) (by kernel_rfl) ?_
        refine To.thenN ?_
        refine Wp.ret ?_
        refine To.blockR ?_
        refine To.thenR ?_
        refine To.thenR ?_
        refine To.keep (kk := [4]) (kl := []) (K' := [(4, vb false)]) (L' := []) (by kernel_rfl) (by kernel_rfl) ?_
        cases h
        exact hQ
      · replace h := if_f hb h
        refine Wp.skip ?_
        refine To.blockN ?_
        refine To.thenN ?_
        refine rg [0, 1, 5] [] (K' := [(0, ls v0), (1, ls v1), (5, vi (IntKind.wrap .i64 (v5 + 1)))]) (L' := []) (by kernel_rfl) ?_
        refine To.keep (kk := [0, 1, 5]) (kl := []) (K' := [(0, ls v0), (1, ls v1), (5, vi (IntKind.wrap .i64 (v5 + 1)))]) (L' := []) (by kernel_rfl) (by kernel_rfl) ?_
        refine To.again ?_
        exact ih (IntKind.wrap .i64 (v5 + 1)) _ h hQ
    · replace h := if_f hb h
      refine Wp.exit ?_
      refine To.thenX ?_
      refine To.thenX ?_
      refine To.keep (kk := []) (kl := []) (K' := []) (L' := []) (by kernel_rfl) (by kernel_rfl) ?_
      cases h
      exact hQ
def ref02_Same (n : Nat) (a0 : List (List UInt8)) (a1 : List (List UInt8)) : Option (Bool) :=
  if ((List.length a0 : Int) != (List.length a1 : Int)) = true then some false
  else ((ref02_Same_l1 n a0 a1 n 0).bind fun o1 =>
  (Sum.elim (fun o1 => some true) (fun o1 => some o1)) o1)
theorem ok_ref02_Same (n : Nat) (a0 : List (List UInt8)) (a1 : List (List UInt8)) (r : Bool) (h : ref02_Same n a0 a1 = some r) : CallsX Tryd.prog 24 [ls a0, ls a1] (vb r) := by
  unfold ref02_Same at h
  refine callsX_of (fn := Tryd.f24) (by kernel_rfl) rfl (by kernel_rfl) (Nat.le_of_ble_eq_true (by kernel_rfl)) fun F0 w0 _ => ?_
  refine Wp.keep (kk := [0, 1]) (kl := []) (K' := [(0, ls a0), (1, ls a1)]) (L' := []) (by kernel_rfl) (by kernel_rfl) ?_
  refine Wp.seq ?_
  refine rg [0, 1] [] (K' := [(0, ls a0), (1, ls a1)]) (L' := []) (by kernel_rfl) ?_
  refine To.thenN (Wp.seq (Wp.seq ?_))
  refine rg [0, 1, 10] [] (K' := [(0, ls a0), (1, ls a1), (10, vb ((List.length a0 : Int) != (List.length a1 : Int)))]) (L' := []) (by kernel_rfl) ?_
  refine To.thenN ?_
  refine Wp.cond (b := ((List.length a0 : Int) != (List.length a1 : Int))) (by kernel_rfl) (fun hb => ?_) (fun hb => ?_)
  · replace h := if_t hb h
    refine Wp.seq ?_
    refine rg [4] [] (K' := [(4, vb false)]) (L' := []) (by kernel_rfl) ?_
    refine To.thenN ?_
    refine Wp.ret ?_
    refine To.thenR ?_
    refine To.keep (kk := [4]) (kl := []) (K' := [(4, vb false)]) (L' := []) (by kernel_rfl) (by kernel_rfl) ?_
    cases h
    exact To.done hΓ (by kernel_rfl)
  · replace h := if_f hb h
    refine Wp.skip (To.thenN (Wp.seq (Wp.seq ?_)))
    refine rg [0, 1, 5] [] (K' := [(0, ls a0), (1, ls a1), (5, vi 0)]) (L' := []) (by kernel_rfl) ?_
    refine To.thenN (Wp.block ?_)
    obtain ⟨o1, ho1, h⟩ := bind_of h
    refine Wp.keep (kk := [0, 1, 5]) (kl := []) (K' := [(0, ls a0), (1, ls a1), (5, vi 0)]) (L' := []) (by kernel_rfl) (by kernel_rfl) ?_
    refine Wp.loopL ?_
    refine ok_ref02_Same_l1 n a0 a1 n 0 o1 ho1 ?_
    rcases o1 with o1 | o1
    · replace h := sum_l h
      refine To.blockX ?_
      refine To.thenN (Wp.seq ?_)
      refine rg [4] [] (K' := [(4, vb true)]) (L' := []) (by kernel_rfl) ?_
      refine To.thenN ?_
      refine Wp.ret ?_
      refine To.keep (kk := [4]) (kl := []) (K' := [(4, vb true)]) (L' := []) (by kernel_rfl) (by kernel_rfl) ?_
      cases h
      exact To.done hΓ (by kernel_rfl)
    · replace h := sum_r h
      refine To.blockR ?_
      refine To.thenR ?_
      refine To.keep (kk := [4]) (kl := []) (K' := [(4, vb o1)]) (L' := []) (by kernel_rfl) (by kernel_rfl) ?_
      cases h
      exact To.done hΓ (by kernel_rfl)
def ref27_Alike (n : Nat) (a0 : S_api_Spec) (a1 : S_api_Spec) : Option (Bool) :=
  (ref02_Same n a0.f_Nets a1.f_Nets).bind fun r1 =>
  ((if ((!r1) == false) = true then ref02_Same n a0.f_Vols a1.f_Vols else some false)).bind fun r2 =>
  if (bif (!r1) then true else (!r2)) = true then some false
  else (lett ((bif (bif (bif (bif (bif (bif (bif (a0.f_Name == a1.f_Name) then (a0.f_Project == a1.f_Project) else false) then (a0.f_Service == a1.f_Service) else false) then (a0.f_Number == a1.f_Number) else false) then (a0.f_Hash == a1.f_Hash) else false) then ((a0.f_Health.f_Test == a1.f_Health.f_Test) && ((a0.f_Health.f_Every == a1.f_Health.f_Every) && ((a0.f_Health.f_Start == a1.f_Health.f_Start) && (a0.f_Health.f_Retries == a1.f_Health.f_Retries)))) else false) then (a0.f_Restart == a1.f_Restart) else false) then (a0.f_Tries == a1.f_Tries) else false) : Bool) fun x3 =>
  some x3)
theorem ok_ref27_Alike (n : Nat) (a0 : S_api_Spec) (a1 : S_api_Spec) (r : Bool) (h : ref27_Alike n a0 a1 = some r) : CallsX Tryd.prog 48 [.agg [.str a0.f_Name, .str a0.f_Project, .str a0.f_Service, vi a0.f_Number, .str a0.f_Hash, ls a0.f_Nets, ls a0.f_Vols, .str a0.f_Health.f_Test, vi a0.f_Health.f_Every, vi a0.f_Health.f_Start, vi a0.f_Health.f_Retries, vi a0.f_Restart, vi a0.f_Tries], .agg [.str a1.f_Name, .str a1.f_Project, .str a1.f_Service, vi a1.f_Number, .str a1.f_Hash, ls a1.f_Nets, ls a1.f_Vols, .str a1.f_Health.f_Test, vi a1.f_Health.f_Every, vi a1.f_Health.f_Start, vi a1.f_Health.f_Retries, vi a1.f_Restart, vi a1.f_Tries]] (vb r) := by
  unfold ref27_Alike at h
  refine callsX_of (fn := Tryd.f48) (by kernel_rfl) rfl (by kernel_rfl) (Nat.le_of_ble_eq_true (by kernel_rfl)) fun F0 w0 _ => ?_
  refine Wp.keep (kk := [0, 1]) (kl := []) (K' := [(0, .agg (E_api_Spec a0)), (1, .agg (E_api_Spec a1))]) (L' := []) (by kernel_rfl) (by kernel_rfl) ?_
  refine Wp.seq ?_
  refine rg [2, 3] [2, 3] (K' := [(2, .own 2 0), (3, .own 3 0)]) (L' := [(2, 28, (E_api_Spec a0)), (3, 28, (E_api_Spec a1))]) (by kernel_rfl) ?_
  refine To.thenN (Wp.seq (Wp.seq ?_))
  obtain ⟨r1, hr1, h⟩ := bind_of h
  obtain ⟨r2, hr2, h⟩ := bind_of h
  refine Wp.region hΓ [] [(4, vb r1), (11, vb r2)] [] [2, 3, 18] [2, 3] (K' := [(2, .own 2 0), (3, .own 3 0), (18, vb (bif (!r1) then true else (!r2)))]) (L' := [(2, 28, (E_api_Spec a0)), (3, 28, (E_api_Spec a1))]) (ob := [(true = true → CX Tryd.prog 24 [ls a0.f_Nets, ls a1.f_Nets] (vb r1)), (((!r1) == false) = true → CX Tryd.prog 24 [ls a0.f_Vols, ls a1.f_Vols] (vb r2))]) (by kernel_rfl) (AllP.cons (fun _ => cx (ok_ref02_Same n a0.f_Nets a1.f_Nets _ hr1)) (AllP.cons (fun hg => cx (ok_ref02_Same n a0.f_Vols a1.f_Vols _ (if_t hg hr2))) AllP.nil)) ?_
  refine To.thenN ?_
  refine Wp.cond (b := (bif (!r1) then true else (!r2))) (by kernel_rfl) (fun hb => ?_) (fun hb => ?_)
  · replace h := if_t hb h
    refine Wp.seq ?_
    refine rg [4] [] (K' := [(4, vb false)]) (L' := []) (by kernel_rfl) ?_
    refine To.thenN ?_
    refine Wp.ret ?_
    refine To.thenR ?_
    refine To.keep (kk := [4]) (kl := []) (K' := [(4, vb false)]) (L' := []) (by kernel_rfl) (by kernel_rfl) ?_
    cases h
    exact To.done hΓ (by kernel_rfl)
  · replace h := if_f hb h
    refine Wp.skip (To.thenN (Wp.seq ?_))
    obtain ⟨x3, hx3, h⟩ := lett_of h
    refine rg [4] [] (K' := [(4, vb (bif (bif (bif (bif (bif (bif (bif (a0.f_Name == a1.f_Name) then (a0.f_Project == a1.f_Project) else false) then (a0.f_Service == a1.f_Service) else false) then (a0.f_Number == a1.f_Number) else false) then (a0.f_Hash == a1.f_Hash) else false) then ((a0.f_Health.f_Test == a1.f_Health.f_Test) && ((a0.f_Health.f_Every == a1.f_Health.f_Every) && ((a0.f_Health.f_Start == a1.f_Health.f_Start) && (a0.f_Health.f_Retries == a1.f_Health.f_Retries)))) else false) then (a0.f_Restart == a1.f_Restart) else false) then (a0.f_Tries == a1.f_Tries) else false))]) (L' := []) (by kernel_rfl) ?_
    refine To.eq (K' := [(4, vb x3)]) (L' := []) (by cases hx3; rfl) (by cases hx3; rfl) ?_
    refine To.thenN ?_
    refine Wp.ret ?_
    refine To.keep (kk := [4]) (kl := []) (K' := [(4, vb x3)]) (L' := []) (by kernel_rfl) (by kernel_rfl) ?_
    cases h
    exact To.done hΓ (by kernel_rfl)
def ref40_SameCall (n : Nat) (a0 : S_api_Call) (a1 : S_api_Call) : Option (Bool) :=
  ((if ((bif (bif (a0.f_Kind == a1.f_Kind) then (a0.f_Name == a1.f_Name) else false) then (a0.f_Id == a1.f_Id) else false) == true) = true then ref27_Alike n a0.f_Spec a1.f_Spec else some false)).bind fun r1 =>
  lett ((bif (bif (bif (a0.f_Kind == a1.f_Kind) then (a0.f_Name == a1.f_Name) else false) then (a0.f_Id == a1.f_Id) else false) then r1 else false) : Bool) fun x2 =>
  some x2
theorem ok_ref40_SameCall (n : Nat) (a0 : S_api_Call) (a1 : S_api_Call) (r : Bool) (h : ref40_SameCall n a0 a1 = some r) : CallsX Tryd.prog 23 [.agg [vi a0.f_Kind, .str a0.f_Name, vi a0.f_Id, .str a0.f_Spec.f_Name, .str a0.f_Spec.f_Project, .str a0.f_Spec.f_Service, vi a0.f_Spec.f_Number, .str a0.f_Spec.f_Hash, ls a0.f_Spec.f_Nets, ls a0.f_Spec.f_Vols, .str a0.f_Spec.f_Health.f_Test, vi a0.f_Spec.f_Health.f_Every, vi a0.f_Spec.f_Health.f_Start, vi a0.f_Spec.f_Health.f_Retries, vi a0.f_Spec.f_Restart, vi a0.f_Spec.f_Tries], .agg [vi a1.f_Kind, .str a1.f_Name, vi a1.f_Id, .str a1.f_Spec.f_Name, .str a1.f_Spec.f_Project, .str a1.f_Spec.f_Service, vi a1.f_Spec.f_Number, .str a1.f_Spec.f_Hash, ls a1.f_Spec.f_Nets, ls a1.f_Spec.f_Vols, .str a1.f_Spec.f_Health.f_Test, vi a1.f_Spec.f_Health.f_Every, vi a1.f_Spec.f_Health.f_Start, vi a1.f_Spec.f_Health.f_Retries, vi a1.f_Spec.f_Restart, vi a1.f_Spec.f_Tries]] (vb r) := by
  unfold ref40_SameCall at h
  refine callsX_of (fn := Tryd.f23) (by kernel_rfl) rfl (by kernel_rfl) (Nat.le_of_ble_eq_true (by kernel_rfl)) fun F0 w0 _ => ?_
  refine Wp.keep (kk := [0, 1]) (kl := []) (K' := [(0, .agg (E_api_Call a0)), (1, .agg (E_api_Call a1))]) (L' := []) (by kernel_rfl) (by kernel_rfl) ?_
  refine Wp.seq ?_
  refine rg [2, 3] [2, 3] (K' := [(2, .own 2 0), (3, .own 3 0)]) (L' := [(2, 30, (E_api_Call a0)), (3, 30, (E_api_Call a1))]) (by kernel_rfl) ?_
  refine To.thenN (Wp.seq ?_)
  obtain ⟨r1, hr1, h⟩ := bind_of h
  obtain ⟨x2, hx2, h⟩ := lett_of h
  refine Wp.region hΓ [] [(24, vb r1)] [] [4] [] (K' := [(4, vb (bif (bif (bif (a0.f_Kind == a1.f_Kind) then (a0.f_Name == a1.f_Name) else false) then (a0.f_Id == a1.f_Id) else false) then r1 else false))]) (L' := []) (ob := [(((bif (bif (a0.f_Kind == a1.f_Kind) then (a0.f_Name == a1.f_Name) else false) then (a0.f_Id == a1.f_Id) else false) == true) = true → CX Tryd.prog 48 [.agg [.str a0.f_Spec.f_Name, .str a0.f_Spec.f_Project, .str a0.f_Spec.f_Service, vi a0.f_Spec.f_Number, .str a0.f_Spec.f_Hash, ls a0.f_Spec.f_Nets, ls a0.f_Spec.f_Vols, .str a0.f_Spec.f_Health.f_Test, vi a0.f_Spec.f_Health.f_Every, vi a0.f_Spec.f_Health.f_Start, vi a0.f_Spec.f_Health.f_Retries, vi a0.f_Spec.f_Restart, vi a0.f_Spec.f_Tries], .agg [.str a1.f_Spec.f_Name, .str a1.f_Spec.f_Project, .str a1.f_Spec.f_Service, vi a1.f_Spec.f_Number, .str a1.f_Spec.f_Hash, ls a1.f_Spec.f_Nets, ls a1.f_Spec.f_Vols, .str a1.f_Spec.f_Health.f_Test, vi a1.f_Spec.f_Health.f_Every, vi a1.f_Spec.f_Health.f_Start, vi a1.f_Spec.f_Health.f_Retries, vi a1.f_Spec.f_Restart, vi a1.f_Spec.f_Tries]] (vb r1))]) (by kernel_rfl) (AllP.cons (fun hg => cx (ok_ref27_Alike n a0.f_Spec a1.f_Spec _ (if_t hg hr1))) AllP.nil) ?_
  refine To.eq (K' := [(4, vb x2)]) (L' := []) (by cases hx2; rfl) (by cases hx2; rfl) ?_
  refine To.thenN ?_
  refine Wp.ret ?_
  refine To.keep (kk := [4]) (kl := []) (K' := [(4, vb x2)]) (L' := []) (by kernel_rfl) (by kernel_rfl) ?_
  cases h
  exact To.done hΓ (by kernel_rfl)
def ref45_Same (n : Nat) (a0 : S_ref45_Step) (a1 : S_ref45_Step) : Option (Bool) :=
  ((if ((bif (bif (a0.f_Kind != a1.f_Kind) then true else (a0.f_N != a1.f_N)) then true else (a0.f_M != a1.f_M)) == false) = true then ref40_SameCall n a0.f_Call a1.f_Call else some false)).bind fun r1 =>
  lett ((bif (bif (bif (a0.f_Kind != a1.f_Kind) then true else (a0.f_N != a1.f_N)) then true else (a0.f_M != a1.f_M)) then true else (!r1)) : Bool) fun x2 =>
  if x2 = true then some false
  else (((if ((a0.f_Command.f_Kind == a1.f_Command.f_Kind) == true) = true then ref02_Same n a0.f_Command.f_Services a1.f_Command.f_Services else some false)).bind fun r3 =>
  lett ((bif (bif (bif (bif (bif (bif (a0.f_Command.f_Kind == a1.f_Command.f_Kind) then r3 else false) then (a0.f_Command.f_Count == a1.f_Command.f_Count) else false) then (a0.f_Command.f_Orphans == a1.f_Command.f_Orphans) else false) then (a0.f_Command.f_Volumes == a1.f_Command.f_Volumes) else false) then (a0.f_Command.f_Timeout == a1.f_Command.f_Timeout) else false) then (a0.f_Command.f_Retries == a1.f_Command.f_Retries) else false) : Bool) fun x4 =>
  some x4)
theorem ok_ref45_Same (n : Nat) (a0 : S_ref45_Step) (a1 : S_ref45_Step) (r : Bool) (h : ref45_Same n a0 a1 = some r) : CallsX Tryd.prog 11 [.agg [vi a0.f_Kind, vi a0.f_N, vi a0.f_M, vi a0.f_Command.f_Kind, ls a0.f_Command.f_Services, vi a0.f_Command.f_Count, vb a0.f_Command.f_Orphans, vb a0.f_Command.f_Volumes, vi a0.f_Command.f_Timeout, vi a0.f_Command.f_Retries, vi a0.f_Call.f_Kind, .str a0.f_Call.f_Name, vi a0.f_Call.f_Id, .str a0.f_Call.f_Spec.f_Name, .str a0.f_Call.f_Spec.f_Project, .str a0.f_Call.f_Spec.f_Service, vi a0.f_Call.f_Spec.f_Number, .str a0.f_Call.f_Spec.f_Hash, ls a0.f_Call.f_Spec.f_Nets, ls a0.f_Call.f_Spec.f_Vols, .str a0.f_Call.f_Spec.f_Health.f_Test, vi a0.f_Call.f_Spec.f_Health.f_Every, vi a0.f_Call.f_Spec.f_Health.f_Start, vi a0.f_Call.f_Spec.f_Health.f_Retries, vi a0.f_Call.f_Spec.f_Restart, vi a0.f_Call.f_Spec.f_Tries], .agg [vi a1.f_Kind, vi a1.f_N, vi a1.f_M, vi a1.f_Command.f_Kind, ls a1.f_Command.f_Services, vi a1.f_Command.f_Count, vb a1.f_Command.f_Orphans, vb a1.f_Command.f_Volumes, vi a1.f_Command.f_Timeout, vi a1.f_Command.f_Retries, vi a1.f_Call.f_Kind, .str a1.f_Call.f_Name, vi a1.f_Call.f_Id, .str a1.f_Call.f_Spec.f_Name, .str a1.f_Call.f_Spec.f_Project, .str a1.f_Call.f_Spec.f_Service, vi a1.f_Call.f_Spec.f_Number, .str a1.f_Call.f_Spec.f_Hash, ls a1.f_Call.f_Spec.f_Nets, ls a1.f_Call.f_Spec.f_Vols, .str a1.f_Call.f_Spec.f_Health.f_Test, vi a1.f_Call.f_Spec.f_Health.f_Every, vi a1.f_Call.f_Spec.f_Health.f_Start, vi a1.f_Call.f_Spec.f_Health.f_Retries, vi a1.f_Call.f_Spec.f_Restart, vi a1.f_Call.f_Spec.f_Tries]] (vb r) := by
  unfold ref45_Same at h
  refine callsX_of (fn := Tryd.f11) (by kernel_rfl) rfl (by kernel_rfl) (Nat.le_of_ble_eq_true (by kernel_rfl)) fun F0 w0 _ => ?_
  refine Wp.keep (kk := [0, 1]) (kl := []) (K' := [(0, .agg (E_ref45_Step a0)), (1, .agg (E_ref45_Step a1))]) (L' := []) (by kernel_rfl) (by kernel_rfl) ?_
  refine Wp.seq ?_
  refine rg [2, 3] [2, 3] (K' := [(2, .own 2 0), (3, .own 3 0)]) (L' := [(2, 32, (E_ref45_Step a0)), (3, 32, (E_ref45_Step a1))]) (by kernel_rfl) ?_
  refine To.thenN (Wp.seq ?_)
  refine Wp.regionD hm hΓ [] [2, 3, 5, 6] [2, 3, 5, 6] (K' := [(2, .own 2 0), (3, .own 3 0), (5, .own 5 0), (6, .own 6 0)]) (L' := [(2, 32, (E_ref45_Step a0)), (3, 32, (E_ref45_Step a1)), (5, 24, (E_api_Command a0.f_Command)), (6, 24, (E_api_Command a1.f_Command))]) (ob := []) (by kernel_rfl) AllP.nil ?_
  refine To.thenN (Wp.seq (Wp.seq ?_))
  obtain ⟨r1, hr1, h⟩ := bind_of h
  obtain ⟨x2, hx2, h⟩ := lett_of h
  refine Wp.region hΓ [] [(24, vb r1)] [] [5, 6, 37] [5, 6] (K' := [(5, .own 5 0), (6, .own 6 0), (37, vb (bif (bif (bif (a0.f_Kind != a1.f_Kind) then true else (a0.f_N != a1.f_N)) then true else (a0.f_M != a1.f_M)) then true else (!r1)))]) (L' := [(5, 24, (E_api_Command a0.f_Command)), (6, 24, (E_api_Command a1.f_Command))]) (ob := [(((bif (bif (a0.f_Kind != a1.f_Kind) then true else (a0.f_N != a1.f_N)) then true else (a0.f_M != a1.f_M)) == false) = true → CX Tryd.prog 23 [.agg [vi a0.f_Call.f_Kind, .str a0.f_Call.f_Name, vi a0.f_Call.f_Id, .str a0.f_Call.f_Spec.f_Name, .str a0.f_Call.f_Spec.f_Project, .str a0.f_Call.f_Spec.f_Service, vi a0.f_Call.f_Spec.f_Number, .str a0.f_Call.f_Spec.f_Hash, ls a0.f_Call.f_Spec.f_Nets, ls a0.f_Call.f_Spec.f_Vols, .str a0.f_Call.f_Spec.f_Health.f_Test, vi a0.f_Call.f_Spec.f_Health.f_Every, vi a0.f_Call.f_Spec.f_Health.f_Start, vi a0.f_Call.f_Spec.f_Health.f_Retries, vi a0.f_Call.f_Spec.f_Restart, vi a0.f_Call.f_Spec.f_Tries], .agg [vi a1.f_Call.f_Kind, .str a1.f_Call.f_Name, vi a1.f_Call.f_Id, .str a1.f_Call.f_Spec.f_Name, .str a1.f_Call.f_Spec.f_Project, .str a1.f_Call.f_Spec.f_Service, vi a1.f_Call.f_Spec.f_Number, .str a1.f_Call.f_Spec.f_Hash, ls a1.f_Call.f_Spec.f_Nets, ls a1.f_Call.f_Spec.f_Vols, .str a1.f_Call.f_Spec.f_Health.f_Test, vi a1.f_Call.f_Spec.f_Health.f_Every, vi a1.f_Call.f_Spec.f_Health.f_Start, vi a1.f_Call.f_Spec.f_Health.f_Retries, vi a1.f_Call.f_Spec.f_Restart, vi a1.f_Call.f_Spec.f_Tries]] (vb r1))]) (by kernel_rfl) (AllP.cons (fun hg => cx (ok_ref40_SameCall n a0.f_Call a1.f_Call _ (if_t hg hr1))) AllP.nil) ?_
  refine To.eq (K' := [(5, .own 5 0), (6, .own 6 0), (37, vb x2)]) (L' := [(5, 24, (E_api_Command a0.f_Command)), (6, 24, (E_api_Command a1.f_Command))]) (by cases hx2; rfl) (by cases hx2; rfl) ?_
  refine To.thenN ?_
  refine Wp.cond (b := x2) (by kernel_rfl) (fun hb => ?_) (fun hb => ?_)
  · replace h := if_t hb h
    refine Wp.seq ?_
    refine rg [4] [] (K' := [(4, vb false)]) (L' := []) (by kernel_rfl) ?_
    refine To.thenN ?_
    refine Wp.ret ?_
    refine To.thenR ?_
    refine To.keep (kk := [4]) (kl := []) (K' := [(4, vb false)]) (L' := []) (by kernel_rfl) (by kernel_rfl) ?_
    cases h
    exact To.done hΓ (by kernel_rfl)
  · replace h := if_f hb h
    refine Wp.skip (To.thenN (Wp.seq ?_))
    obtain ⟨r3, hr3, h⟩ := bind_of h
    obtain ⟨x4, hx4, h⟩ := lett_of h
    refine Wp.region hΓ [] [(10, vb r3)] [] [4] [] (K' := [(4, vb (bif (bif (bif (bif (bif (bif (a0.f_Command.f_Kind == a1.f_Command.f_Kind) then r3 else false) then (a0.f_Command.f_Count == a1.f_Command.f_Count) else false) then (a0.f_Command.f_Orphans == a1.f_Command.f_Orphans) else false) then (a0.f_Command.f_Volumes == a1.f_Command.f_Volumes) else false) then (a0.f_Command.f_Timeout == a1.f_Command.f_Timeout) else false) then (a0.f_Command.f_Retries == a1.f_Command.f_Retries) else false))]) (L' := []) (ob := [(((a0.f_Command.f_Kind == a1.f_Command.f_Kind) == true) = true → CX Tryd.prog 24 [ls a0.f_Command.f_Services, ls a1.f_Command.f_Services] (vb r3))]) (by kernel_rfl) (AllP.cons (fun hg => cx (ok_ref02_Same n a0.f_Command.f_Services a1.f_Command.f_Services _ (if_t hg hr3))) AllP.nil) ?_
    refine To.eq (K' := [(4, vb x4)]) (L' := []) (by cases hx4; rfl) (by cases hx4; rfl) ?_
    refine To.thenN ?_
    refine Wp.ret ?_
    refine To.keep (kk := [4]) (kl := []) (K' := [(4, vb x4)]) (L' := []) (by kernel_rfl) (by kernel_rfl) ?_
    cases h
    exact To.done hΓ (by kernel_rfl)
def ref45_Text (n : Nat) (a0 : S_ref45_Step) : Option ((List UInt8)) :=
  (ref45_written n a0).bind fun r1 =>
  (ref45_Line n r1).bind fun r2 =>
  ((if ((!r2.2) == false) = true then ref45_Same n a0 r2.1 else some false)).bind fun r3 =>
  if (bif (!r2.2) then true else (!r3)) = true then (some [])
  else some r1
theorem ok_ref45_Text (n : Nat) (a0 : S_ref45_Step) (r : (List UInt8)) (h : ref45_Text n a0 = some r) : CallsX Tryd.prog 9 [.agg [vi a0.f_Kind, vi a0.f_N, vi a0.f_M, vi a0.f_Command.f_Kind, ls a0.f_Command.f_Services, vi a0.f_Command.f_Count, vb a0.f_Command.f_Orphans, vb a0.f_Command.f_Volumes, vi a0.f_Command.f_Timeout, vi a0.f_Command.f_Retries, vi a0.f_Call.f_Kind, .str a0.f_Call.f_Name, vi a0.f_Call.f_Id, .str a0.f_Call.f_Spec.f_Name, .str a0.f_Call.f_Spec.f_Project, .str a0.f_Call.f_Spec.f_Service, vi a0.f_Call.f_Spec.f_Number, .str a0.f_Call.f_Spec.f_Hash, ls a0.f_Call.f_Spec.f_Nets, ls a0.f_Call.f_Spec.f_Vols, .str a0.f_Call.f_Spec.f_Health.f_Test, vi a0.f_Call.f_Spec.f_Health.f_Every, vi a0.f_Call.f_Spec.f_Health.f_Start, vi a0.f_Call.f_Spec.f_Health.f_Retries, vi a0.f_Call.f_Spec.f_Restart, vi a0.f_Call.f_Spec.f_Tries]] (.str r) := by
  unfold ref45_Text at h
  refine callsX_of (fn := Tryd.f9) (by kernel_rfl) rfl (by kernel_rfl) (Nat.le_of_ble_eq_true (by kernel_rfl)) fun F0 w0 _ => ?_
  refine Wp.keep (kk := [0]) (kl := []) (K' := [(0, .agg (E_ref45_Step a0))]) (L' := []) (by kernel_rfl) (by kernel_rfl) ?_
  refine Wp.seq ?_
  refine rg [1] [1] (K' := [(1, .own 1 0)]) (L' := [(1, 32, (E_ref45_Step a0))]) (by kernel_rfl) ?_
  refine To.thenN (Wp.seq ?_)
  obtain ⟨r1, hr1, h⟩ := bind_of h
  refine Wp.region hΓ [] [(1, .str r1)] [] [1, 3] [1] (K' := [(1, .own 1 0), (3, .str r1)]) (L' := [(1, 32, (E_ref45_Step a0))]) (ob := [(true = true → CX Tryd.prog 21 [.agg [vi a0.f_Kind, vi a0.f_N, vi a0.f_M, vi a0.f_Command.f_Kind, ls a0.f_Command.f_Services, vi a0.f_Command.f_Count, vb a0.f_Command.f_Orphans, vb a0.f_Command.f_Volumes, vi a0.f_Command.f_Timeout, vi a0.f_Command.f_Retries, vi a0.f_Call.f_Kind, .str a0.f_Call.f_Name, vi a0.f_Call.f_Id, .str a0.f_Call.f_Spec.f_Name, .str a0.f_Call.f_Spec.f_Project, .str a0.f_Call.f_Spec.f_Service, vi a0.f_Call.f_Spec.f_Number, .str a0.f_Call.f_Spec.f_Hash, ls a0.f_Call.f_Spec.f_Nets, ls a0.f_Call.f_Spec.f_Vols, .str a0.f_Call.f_Spec.f_Health.f_Test, vi a0.f_Call.f_Spec.f_Health.f_Every, vi a0.f_Call.f_Spec.f_Health.f_Start, vi a0.f_Call.f_Spec.f_Health.f_Retries, vi a0.f_Call.f_Spec.f_Restart, vi a0.f_Call.f_Spec.f_Tries]] (.str r1))]) (by kernel_rfl) (AllP.cons (fun _ => cx (ok_ref45_written n a0 _ hr1)) AllP.nil) ?_
  refine To.thenN (Wp.seq ?_)
  obtain ⟨r2, hr2, h⟩ := bind_of h
  refine Wp.region hΓ [] [(1, .tup [.agg [vi r2.1.f_Kind, vi r2.1.f_N, vi r2.1.f_M, vi r2.1.f_Command.f_Kind, ls r2.1.f_Command.f_Services, vi r2.1.f_Command.f_Count, vb r2.1.f_Command.f_Orphans, vb r2.1.f_Command.f_Volumes, vi r2.1.f_Command.f_Timeout, vi r2.1.f_Command.f_Retries, vi r2.1.f_Call.f_Kind, .str r2.1.f_Call.f_Name, vi r2.1.f_Call.f_Id, .str r2.1.f_Call.f_Spec.f_Name, .str r2.1.f_Call.f_Spec.f_Project, .str r2.1.f_Call.f_Spec.f_Service, vi r2.1.f_Call.f_Spec.f_Number, .str r2.1.f_Call.f_Spec.f_Hash, ls r2.1.f_Call.f_Spec.f_Nets, ls r2.1.f_Call.f_Spec.f_Vols, .str r2.1.f_Call.f_Spec.f_Health.f_Test, vi r2.1.f_Call.f_Spec.f_Health.f_Every, vi r2.1.f_Call.f_Spec.f_Health.f_Start, vi r2.1.f_Call.f_Spec.f_Health.f_Retries, vi r2.1.f_Call.f_Spec.f_Restart, vi r2.1.f_Call.f_Spec.f_Tries], vb r2.2])] [] [1, 3, 4, 5] [1, 4] (K' := [(1, .own 1 0), (3, .str r1), (4, .own 4 0), (5, vb r2.2)]) (L' := [(1, 32, (E_ref45_Step a0)), (4, 32, (E_ref45_Step r2.1))]) (ob := [(true = true → CX Tryd.prog 14 [.str r1] (.tup [.agg [vi r2.1.f_Kind, vi r2.1.f_N, vi r2.1.f_M, vi r2.1.f_Command.f_Kind, ls r2.1.f_Command.f_Services, vi r2.1.f_Command.f_Count, vb r2.1.f_Command.f_Orphans, vb r2.1.f_Command.f_Volumes, vi r2.1.f_Command.f_Timeout, vi r2.1.f_Command.f_Retries, vi r2.1.f_Call.f_Kind, .str r2.1.f_Call.f_Name, vi r2.1.f_Call.f_Id, .str r2.1.f_Call.f_Spec.f_Name, .str r2.1.f_Call.f_Spec.f_Project, .str r2.1.f_Call.f_Spec.f_Service, vi r2.1.f_Call.f_Spec.f_Number, .str r2.1.f_Call.f_Spec.f_Hash, ls r2.1.f_Call.f_Spec.f_Nets, ls r2.1.f_Call.f_Spec.f_Vols, .str r2.1.f_Call.f_Spec.f_Health.f_Test, vi r2.1.f_Call.f_Spec.f_Health.f_Every, vi r2.1.f_Call.f_Spec.f_Health.f_Start, vi r2.1.f_Call.f_Spec.f_Health.f_Retries, vi r2.1.f_Call.f_Spec.f_Restart, vi r2.1.f_Call.f_Spec.f_Tries], vb r2.2]))]) (by kernel_rfl) (AllP.cons (fun _ => cx (ok_ref45_Line n r1 _ hr2)) AllP.nil) ?_
  refine To.thenN (Wp.seq (Wp.seq ?_))
  obtain ⟨r3, hr3, h⟩ := bind_of h
  refine Wp.region hΓ [] [(5, vb r3)] [] [3, 20] [] (K' := [(3, .str r1), (20, vb (bif (!r2.2) then true else (!r3)))]) (L' := []) (ob := [(((!r2.2) == false) = true → CX Tryd.prog 11 [.agg [vi a0.f_Kind, vi a0.f_N, vi a0.f_M, vi a0.f_Command.f_Kind, ls a0.f_Command.f_Services, vi a0.f_Command.f_Count, vb a0.f_Command.f_Orphans, vb a0.f_Command.f_Volumes, vi a0.f_Command.f_Timeout, vi a0.f_Command.f_Retries, vi a0.f_Call.f_Kind, .str a0.f_Call.f_Name, vi a0.f_Call.f_Id, .str a0.f_Call.f_Spec.f_Name, .str a0.f_Call.f_Spec.f_Project, .str a0.f_Call.f_Spec.f_Service, vi a0.f_Call.f_Spec.f_Number, .str a0.f_Call.f_Spec.f_Hash, ls a0.f_Call.f_Spec.f_Nets, ls a0.f_Call.f_Spec.f_Vols, .str a0.f_Call.f_Spec.f_Health.f_Test, vi a0.f_Call.f_Spec.f_Health.f_Every, vi a0.f_Call.f_Spec.f_Health.f_Start, vi a0.f_Call.f_Spec.f_Health.f_Retries, vi a0.f_Call.f_Spec.f_Restart, vi a0.f_Call.f_Spec.f_Tries], .agg [vi r2.1.f_Kind, vi r2.1.f_N, vi r2.1.f_M, vi r2.1.f_Command.f_Kind, ls r2.1.f_Command.f_Services, vi r2.1.f_Command.f_Count, vb r2.1.f_Command.f_Orphans, vb r2.1.f_Command.f_Volumes, vi r2.1.f_Command.f_Timeout, vi r2.1.f_Command.f_Retries, vi r2.1.f_Call.f_Kind, .str r2.1.f_Call.f_Name, vi r2.1.f_Call.f_Id, .str r2.1.f_Call.f_Spec.f_Name, .str r2.1.f_Call.f_Spec.f_Project, .str r2.1.f_Call.f_Spec.f_Service, vi r2.1.f_Call.f_Spec.f_Number, .str r2.1.f_Call.f_Spec.f_Hash, ls r2.1.f_Call.f_Spec.f_Nets, ls r2.1.f_Call.f_Spec.f_Vols, .str r2.1.f_Call.f_Spec.f_Health.f_Test, vi r2.1.f_Call.f_Spec.f_Health.f_Every, vi r2.1.f_Call.f_Spec.f_Health.f_Start, vi r2.1.f_Call.f_Spec.f_Health.f_Retries, vi r2.1.f_Call.f_Spec.f_Restart, vi r2.1.f_Call.f_Spec.f_Tries]] (vb r3))]) (by kernel_rfl) (AllP.cons (fun hg => cx (ok_ref45_Same n a0 r2.1 _ (if_t hg hr3))) AllP.nil) ?_
  refine To.thenN ?_
  refine Wp.cond (b := (bif (!r2.2) then true else (!r3))) (by kernel_rfl) (fun hb => ?_) (fun hb => ?_)
  · replace h := if_t hb h
    refine Wp.seq ?_
    refine rg [2] [] (K' := [(2, .str [])]) (L' := []) (by kernel_rfl) ?_
    refine To.thenN ?_
    refine Wp.ret ?_
    refine To.thenR ?_
    refine To.keep (kk := [2]) (kl := []) (K' := [(2, .str [])]) (L' := []) (by kernel_rfl) (by kernel_rfl) ?_
    cases h
    exact To.done hΓ (by kernel_rfl)
  · replace h := if_f hb h
    refine Wp.skip (To.thenN (Wp.seq ?_))
    refine rg [2] [] (K' := [(2, .str r1)]) (L' := []) (by kernel_rfl) ?_
    refine To.thenN ?_
    refine Wp.ret ?_
    refine To.keep (kk := [2]) (kl := []) (K' := [(2, .str r1)]) (L' := []) (by kernel_rfl) (by kernel_rfl) ?_
    cases h
    exact To.done hΓ (by kernel_rfl)
abbrev Z_api_Command : S_api_Command := (S_api_Command.mk 0 [] 0 false false 0 0)
abbrev Z_api_Spec : S_api_Spec := (S_api_Spec.mk [] [] [] 0 [] [] [] (S_api_Check.mk [] 0 0 0) 0 0)
abbrev Z_ref45_Step : S_ref45_Step := (S_ref45_Step.mk 0 0 0 Z_api_Command (S_api_Call.mk 0 [] 0 Z_api_Spec))
def script_Show_l1 (n : Nat) (v6 : List (S_ref45_Step)) (v7 : Int) : Nat → Int → (List UInt8) → Option ((List UInt8))
  | 0, _, _ => none
  | k + 1, v8, b3 => if (decide (v8 < v7)) = true then (if (decide (0 ≤ v8 ∧ v8 < (List.length v6 : Int))) = true then ((script_Text n ((v6)[Int.toNat v8]?.getD Z_ref45_Step)).bind fun r1 =>
  if (decide ((List.length b3 + List.length r1) * (1 + 1) ≤ limit)) = true then (if (decide ((List.length (b3 ++ r1) + 1) * (1 + 1) ≤ limit)) = true then (script_Show_l1 n v6 v7 k (IntKind.wrap .i64 (v8 + 1)) ((b3 ++ r1) ++ [10])) else none) else none) else none)
  else some b3
theorem ok_script_Show_l1 (n : Nat) (v6 : List (S_ref45_Step)) (v7 : Int) {F0 : Fz} {w0 : Pt Tryd.prog} {Q : Exit → Act → World → Prop} (k : Nat) : ∀ (v8 : Int) (b3 : List UInt8) (o : (List UInt8)), script_Show_l1 n v6 v7 k v8 b3 = some o → To 18 F0 w0 [(3, .own 3 0)] [(3, 62, [.opt 3, .srow 4181]), (4181, 5, [.rowc false (α := UInt8) 0 e8 o])] (.exit 0) Q → WL Tryd.prog 18 F0 w0 [(3, .own 3 0), (6, .recs (α := S_ref45_Step) Z_ref45_Step E_script_Step v6), (7, vi v7), (8, vi v8)] [(3, 62, [.opt 3, .srow 4181]), (4181, 5, [.rowc false (α := UInt8) 0 e8 b3])] (cI (cI (cB (cA (cB (cB (cF Tryd.f12))))))) Q := by
  induction k with
  | zero => intro v8 b3 o h; cases h
  | succ k ih =>
    intro v8 b3 o h hQ
    rw [script_Show_l1] at h
    refine WL.round ?_
    refine Wp.seq ?_
    refine rg [3, 6, 7, 8, 9] [3, 4181] (K' := [(3, .own 3 0), (6, .recs (α := S_ref45_Step) Z_ref45_Step E_script_Step v6), (7, vi v7), (8, vi v8), (9, vb (decide (v8 < v7)))]) (L' := [(3, 62, [.opt 3, .srow 4181]), (4181, 5, [.rowc false (α := UInt8) 0 e8 b3])]) (by kernel_rfl) ?_
    refine To.thenN (Wp.seq ?_)
    refine Wp.cond (b := (decide (v8 < v7))) (by kernel_rfl) (fun hb => ?_) (fun hb => ?_)
    · replace h := if_t hb h
      refine Wp.skip (To.thenN (Wp.seq (Wp.block (Wp.seq ?_))))
      obtain ⟨hc4, h⟩ := chk_of h
      refine Wp.region hΓ [] [] [] [3, 5, 6, 7, 8] [3, 5, 4181] (K' := [(3, .own 3 0), (5, .own 5 0), (6, .recs (α := S_ref45_Step) Z_ref45_Step E_script_Step v6), (7, vi v7), (8, vi v8)]) (L' := [(3, 62, [.opt 3, .srow 4181]), (5, 36, (E_script_Step ((v6)[Int.toNat v8]?.getD Z_ref45_Step))), (4181, 5, [.rowc false (α := UInt8) 0 e8 b3])]) (ob := [(decide (0 ≤ v8 ∧ v8 < (List.length v6 : Int))) = true]) (by kernel_rfl) (AllP.cons hc4 AllP.nil) ?_
      refine To.thenN (Wp.seq ?_)
      obtain ⟨r1, hr1, h⟩ := bind_of h
      obtain ⟨u2, h⟩ := chk_of h
      refine Wp.region hΓ [] [(1, .str r1)] [(2, ⟨[(1000000, 3), (1000001, 4181)], [(1000000, 3), (1, 4181)], [.own 1000000 0, .str r1], [(1000000, 62, [.opt 1000000, .srow 1000001]), (1000001, 5, [.rowc false (α := UInt8) 0 e8 b3])], .tup [vi (List.length r1 : Int), .val (.nilIface)], [(1000000, 62, [.opt 1000000, .srow 1]), (1, 5, [.rowc false (α := UInt8) 0 e8 (b3 ++ r1)])]⟩)] [3, 6, 7, 8] [3, 4181] (K' := [(3, .own 3 0), (6, .recs (α := S_ref45_Step) Z_ref45_Step E_script_Step v6), (7, vi v7), (8, vi v8)]) (L' := [(3, 62, [.opt 3, .srow 4181]), (4181, 5, [.rowc false (α := UInt8) 0 e8 (b3 ++ r1)])]) (ob := [(true = true → CX Tryd.prog 8 [.agg [vi (((v6)[Int.toNat v8]?.getD Z_ref45_Step).f_Kind), vi (((v6)[Int.toNat v8]?.getD Z_ref45_Step).f_N), vi (((v6)[Int.toNat v8]?.getD Z_ref45_Step).f_M), vi (((v6)[Int.toNat v8]?.getD Z_ref45_Step).f_Command.f_Kind), ls (((v6)[Int.toNat v8]?.getD Z_ref45_Step).f_Command.f_Services), vi (((v6)[Int.toNat v8]?.getD Z_ref45_Step).f_Command.f_Count), vb (((v6)[Int.toNat v8]?.getD Z_ref45_Step).f_Command.f_Orphans), vb (((v6)[Int.toNat v8]?.getD Z_ref45_Step).f_Command.f_Volumes), vi (((v6)[Int.toNat v8]?.getD Z_ref45_Step).f_Command.f_Timeout), vi (((v6)[Int.toNat v8]?.getD Z_ref45_Step).f_Command.f_Retries), vi (((v6)[Int.toNat v8]?.getD Z_ref45_Step).f_Call.f_Kind), .str (((v6)[Int.toNat v8]?.getD Z_ref45_Step).f_Call.f_Name), vi (((v6)[Int.toNat v8]?.getD Z_ref45_Step).f_Call.f_Id), .str (((v6)[Int.toNat v8]?.getD Z_ref45_Step).f_Call.f_Spec.f_Name), .str (((v6)[Int.toNat v8]?.getD Z_ref45_Step).f_Call.f_Spec.f_Project), .str (((v6)[Int.toNat v8]?.getD Z_ref45_Step).f_Call.f_Spec.f_Service), vi (((v6)[Int.toNat v8]?.getD Z_ref45_Step).f_Call.f_Spec.f_Number), .str (((v6)[Int.toNat v8]?.getD Z_ref45_Step).f_Call.f_Spec.f_Hash), ls (((v6)[Int.toNat v8]?.getD Z_ref45_Step).f_Call.f_Spec.f_Nets), ls (((v6)[Int.toNat v8]?.getD Z_ref45_Step).f_Call.f_Spec.f_Vols), .str (((v6)[Int.toNat v8]?.getD Z_ref45_Step).f_Call.f_Spec.f_Health.f_Test), vi (((v6)[Int.toNat v8]?.getD Z_ref45_Step).f_Call.f_Spec.f_Health.f_Every), vi (((v6)[Int.toNat v8]?.getD Z_ref45_Step).f_Call.f_Spec.f_Health.f_Start), vi (((v6)[Int.toNat v8]?.getD Z_ref45_Step).f_Call.f_Spec.f_Health.f_Retries), vi (((v6)[Int.toNat v8]?.getD Z_ref45_Step).f_Call.f_Spec.f_Restart), vi (((v6)[Int.toNat v8]?.getD Z_ref45_Step).f_Call.f_Spec.f_Tries)]] (.str r1)), CbOb (CallsB Tryd.prog) 25 [.own 3 0, .str r1] [some (62, [.opt 3, .srow 4181]), some (5, [.rowc false (α := UInt8) 0 e8 b3])] ⟨[(1000000, 3), (1000001, 4181)], [(1000000, 3), (1, 4181)], [.own 1000000 0, .str r1], [(1000000, 62, [.opt 1000000, .srow 1000001]), (1000001, 5, [.rowc false (α := UInt8) 0 e8 b3])], .tup [vi (List.length r1 : Int), .val (.nilIface)], [(1000000, 62, [.opt 1000000, .srow 1]), (1, 5, [.rowc false (α := UInt8) 0 e8 (b3 ++ r1)])]⟩]) (by kernel_rfl) (AllP.cons (fun _ => cx (ok_script_Text n ((v6)[Int.toNat v8]?.getD Z_ref45_Step) _ hr1)) (AllP.cons (⟨writeString (l := b3) (s := r1) u2, by kernel_rfl, by kernel_rfl⟩) AllP.nil)) ?_
      refine To.thenN ?_
      obtain ⟨u3, h⟩ := chk_of h
      refine Wp.region hΓ [] [] [(0, ⟨[(1000000, 3), (1000001, 4181)], [(1000000, 3), (1, 4181)], [.own 1000000 0, .val (.int .u8 10)], [(1000000, 62, [.opt 1000000, .srow 1000001]), (1000001, 5, [.rowc false (α := UInt8) 0 e8 (b3 ++ r1)])], .val (.nilIface), [(1000000, 62, [.opt 1000000, .srow 1]), (1, 5, [.rowc false (α := UInt8) 0 e8 ((b3 ++ r1) ++ [10])])]⟩)] [3, 6, 7, 8] [3, 4181] (K' := [(3, .own 3 0), (6, .recs (α := S_ref45_Step) Z_ref45_Step E_script_Step v6), (7, vi v7), (8, vi v8)]) (L' := [(3, 62, [.opt 3, .srow 4181]), (4181, 5, [.rowc false (α := UInt8) 0 e8 ((b3 ++ r1) ++ [10])])]) (ob := [CbOb (CallsB Tryd.prog) 26 [.own 3 0, .val (.int .u8 10)] [some (62, [.opt 3, .srow 4181]), some (5, [.rowc false (α := UInt8) 0 e8 (b3 ++ r1)])] ⟨[(1000000, 3), (1000001, 4181)], [(1000000, 3), (1, 4181)], [.own 1000000 0, .val (.int .u8 10)], [(1000000, 62, [.opt 1000000, .srow 1000001]), (1000001, 5, [.rowc false (α := UInt8) 0 e8 (b3 ++ r1)])], .val (.nilIface), [(1000000, 62, [.opt 1000000, .srow 1]), (1, 5, [.rowc false (α := UInt8) 0 e8 ((b3 ++ r1) ++ [10])])]⟩]) (by kernel_rfl) (AllP.cons (⟨writeByteI (l := (b3 ++ r1)) (x := 10) rfl u3, by kernel_rfl, by kernel_rfl⟩) AllP.nil) ?_
      refine To.blockN ?_
      refine To.thenN ?_
      refine rg [3, 6, 7, 8] [3, 4181] (K' := [(3, .own 3 0), (6, .recs (α := S_ref45_Step) Z_ref45_Step E_script_Step v6), (7, vi v7), (8, vi (IntKind.wrap .i64 (v8 + 1)))]) (L' := [(3, 62, [.opt 3, .srow 4181]), (4181, 5, [.rowc false (α := UInt8) 0 e8 ((b3 ++ r1) ++ [10])])]) (by kernel_rfl) ?_
      refine To.keep (kk := [3, 6, 7, 8]) (kl := [3, 4181]) (K' := [(3, .own 3 0), (6, .recs (α := S_ref45_Step) Z_ref45_Step E_script_Step v6), (7, vi v7), (8, vi (IntKind.wrap .i64 (v8 + 1)))]) (L' := [(3, 62, [.opt 3, .srow 4181]), (4181, 5, [.rowc false (α := UInt8) 0 e8 ((b3 ++ r1) ++ [10])])]) (by kernel_rfl) (by kernel_rfl) ?_
      refine To.again ?_
      exact ih (IntKind.wrap .i64 (v8 + 1)) ((b3 ++ r1) ++ [10]) _ h hQ
    · replace h := if_f hb h
      refine Wp.exit ?_
      refine To.thenX ?_
      refine To.thenX ?_
      refine To.keep (kk := [3]) (kl := [3, 4181]) (K' := [(3, .own 3 0)]) (L' := [(3, 62, [.opt 3, .srow 4181]), (4181, 5, [.rowc false (α := UInt8) 0 e8 b3])]) (by kernel_rfl) (by kernel_rfl) ?_
      cases h
      exact hQ
def script_Show (n : Nat) (a0 : List (S_ref45_Step)) : Option ((List UInt8)) :=
  (script_Show_l1 n a0 (List.length a0 : Int) n 0 ([] : List (UInt8))).bind fun o1 =>
  some o1
theorem ok_script_Show (n : Nat) (a0 : List (S_ref45_Step)) (r : (List UInt8)) (h : script_Show n a0 = some r) : CallsX Tryd.prog 12 [.recs (α := S_ref45_Step) Z_ref45_Step E_script_Step a0] (.str r) := by
  unfold script_Show at h
  refine callsX_of (fn := Tryd.f12) (by kernel_rfl) rfl (by kernel_rfl) (Nat.le_of_ble_eq_true (by kernel_rfl)) fun F0 w0 _ => ?_
  refine Wp.keep (kk := [0]) (kl := []) (K' := [(0, .recs (α := S_ref45_Step) Z_ref45_Step E_script_Step a0)]) (L' := []) (by kernel_rfl) (by kernel_rfl) ?_
  refine Wp.seq ?_
  refine rg [0] [] (K' := [(0, .recs (α := S_ref45_Step) Z_ref45_Step E_script_Step a0)]) (L' := []) (by kernel_rfl) ?_
  refine To.thenN (Wp.seq ?_)
  refine rg [0, 3] [3] (K' := [(0, .recs (α := S_ref45_Step) Z_ref45_Step E_script_Step a0), (3, .own 3 0)]) (L' := [(3, 62, [.val (.pointer none), .val (.slice none 0 0)])]) (by kernel_rfl) ?_
  refine To.pre (St.builderB 3 4181 5 (by decide) (by kernel_rfl) (L' := [(3, 62, [.opt 3, .srow 4181])]) (by kernel_rfl)) ?_
  refine To.thenN (Wp.seq (Wp.seq ?_))
  refine rg [3, 6, 7, 8] [3, 4181] (K' := [(3, .own 3 0), (6, .recs (α := S_ref45_Step) Z_ref45_Step E_script_Step a0), (7, vi (List.length a0 : Int)), (8, vi 0)]) (L' := [(3, 62, [.opt 3, .srow 4181]), (4181, 5, [.rowc false (α := UInt8) 0 e8 []])]) (by kernel_rfl) ?_
  refine To.thenN (Wp.block ?_)
  obtain ⟨o1, ho1, h⟩ := bind_of h
  refine Wp.keep (kk := [3, 6, 7, 8]) (kl := [3, 4181]) (K' := [(3, .own 3 0), (6, .recs (α := S_ref45_Step) Z_ref45_Step E_script_Step a0), (7, vi (List.length a0 : Int)), (8, vi 0)]) (L' := [(3, 62, [.opt 3, .srow 4181]), (4181, 5, [.rowc false (α := UInt8) 0 e8 []])]) (by kernel_rfl) (by kernel_rfl) ?_
  refine Wp.loopL ?_
  refine ok_script_Show_l1 n a0 (List.length a0 : Int) n 0 ([] : List (UInt8)) o1 ho1 ?_
  refine To.blockX ?_
  refine To.thenN (Wp.seq ?_)
  refine Wp.region hΓ [] [] [(0, ⟨[(1000000, 3), (1000001, 4181)], [(1000000, 3)], [.own 1000000 0], [(1000000, 62, [.opt 1000000, .srow 1000001]), (1000001, 5, [.rowc false (α := UInt8) 0 e8 o1])], .str o1, [(1000000, 62, [.opt 1000000, .hole])]⟩)] [2] [] (K' := [(2, .str o1)]) (L' := []) (ob := [CbOb (CallsB Tryd.prog) 27 [.own 3 0] [some (62, [.opt 3, .srow 4181]), some (5, [.rowc false (α := UInt8) 0 e8 o1])] ⟨[(1000000, 3), (1000001, 4181)], [(1000000, 3)], [.own 1000000 0], [(1000000, 62, [.opt 1000000, .srow 1000001]), (1000001, 5, [.rowc false (α := UInt8) 0 e8 o1])], .str o1, [(1000000, 62, [.opt 1000000, .hole])]⟩]) (by kernel_rfl) (AllP.cons (⟨bstring (l := o1), by kernel_rfl, by kernel_rfl⟩) AllP.nil) ?_
  refine To.thenN ?_
  refine Wp.ret ?_
  refine To.keep (kk := [2]) (kl := []) (K' := [(2, .str o1)]) (L' := []) (by kernel_rfl) (by kernel_rfl) ?_
  cases h
  exact To.done hΓ (by kernel_rfl)
theorem good_E_script_Step (l : List (S_ref45_Step)) : GoodR (.recs Z_ref45_Step E_script_Step l) := ⟨Nat.le_of_ble_eq_true (by kernel_rfl), fun _ => ⟨rfl, rfl⟩⟩
def law45_ScriptWrites (n : Nat) (a0 : S_ref45_Step) (a1 : S_ref45_Step) : Option (Bool) :=
  (law45_Few n a0).bind fun r1 =>
  ((if ((!r1) == false) = true then law45_Few n a1 else some false)).bind fun r2 =>
  if (bif (!r1) then true else (!r2)) = true then ((law45_awake n).bind fun r3 =>
  some r3)
  else ((script_Text n a0).bind fun r4 =>
  (ref45_Text n a0).bind fun r5 =>
  ((if ((r4 == r5) == true) = true then script_Same n a0 a1 else some false)).bind fun r6 =>
  ((if ((r4 == r5) == true) = true then ref45_Same n a0 a1 else some false)).bind fun r7 =>
  ((if ((bif (r4 == r5) then (r6 == r7) else false) == true) = true then script_Show n [a0, a1] else some [])).bind fun r8 =>
  ((if ((bif (r4 == r5) then (r6 == r7) else false) == true) = true then ref45_Text n a0 else some [])).bind fun r9 =>
  if ((!((bif (r4 == r5) then (r6 == r7) else false) == true) || decide (((List.length r9 + List.length ([10] : List UInt8) : Nat) : Int) ≤ 9223372036854775807))) = true then (((if ((bif (r4 == r5) then (r6 == r7) else false) == true) = true then ref45_Text n a1 else some [])).bind fun r10 =>
  if ((!((bif (r4 == r5) then (r6 == r7) else false) == true) || decide (((List.length (r9 ++ [10]) + List.length r10 : Nat) : Int) ≤ 9223372036854775807))) = true then (if ((!((bif (r4 == r5) then (r6 == r7) else false) == true) || decide (((List.length ((r9 ++ [10]) ++ r10) + List.length ([10] : List UInt8) : Nat) : Int) ≤ 9223372036854775807))) = true then (((if ((bif (bif (r4 == r5) then (r6 == r7) else false) then (r8 == (((r9 ++ [10]) ++ r10) ++ [10])) else false) == true) = true then law45_awake n else some false)).bind fun r11 =>
  lett ((bif (bif (bif (r4 == r5) then (r6 == r7) else false) then (r8 == (((r9 ++ [10]) ++ r10) ++ [10])) else false) then r11 else false) : Bool) fun x12 =>
  some x12) else none) else none) else none)
theorem ok_law45_ScriptWrites (n : Nat) (a0 : S_ref45_Step) (a1 : S_ref45_Step) (r : Bool) (h : law45_ScriptWrites n a0 a1 = some r) : CallsX Tryd.prog 3 [.agg [vi a0.f_Kind, vi a0.f_N, vi a0.f_M, vi a0.f_Command.f_Kind, ls a0.f_Command.f_Services, vi a0.f_Command.f_Count, vb a0.f_Command.f_Orphans, vb a0.f_Command.f_Volumes, vi a0.f_Command.f_Timeout, vi a0.f_Command.f_Retries, vi a0.f_Call.f_Kind, .str a0.f_Call.f_Name, vi a0.f_Call.f_Id, .str a0.f_Call.f_Spec.f_Name, .str a0.f_Call.f_Spec.f_Project, .str a0.f_Call.f_Spec.f_Service, vi a0.f_Call.f_Spec.f_Number, .str a0.f_Call.f_Spec.f_Hash, ls a0.f_Call.f_Spec.f_Nets, ls a0.f_Call.f_Spec.f_Vols, .str a0.f_Call.f_Spec.f_Health.f_Test, vi a0.f_Call.f_Spec.f_Health.f_Every, vi a0.f_Call.f_Spec.f_Health.f_Start, vi a0.f_Call.f_Spec.f_Health.f_Retries, vi a0.f_Call.f_Spec.f_Restart, vi a0.f_Call.f_Spec.f_Tries], .agg [vi a1.f_Kind, vi a1.f_N, vi a1.f_M, vi a1.f_Command.f_Kind, ls a1.f_Command.f_Services, vi a1.f_Command.f_Count, vb a1.f_Command.f_Orphans, vb a1.f_Command.f_Volumes, vi a1.f_Command.f_Timeout, vi a1.f_Command.f_Retries, vi a1.f_Call.f_Kind, .str a1.f_Call.f_Name, vi a1.f_Call.f_Id, .str a1.f_Call.f_Spec.f_Name, .str a1.f_Call.f_Spec.f_Project, .str a1.f_Call.f_Spec.f_Service, vi a1.f_Call.f_Spec.f_Number, .str a1.f_Call.f_Spec.f_Hash, ls a1.f_Call.f_Spec.f_Nets, ls a1.f_Call.f_Spec.f_Vols, .str a1.f_Call.f_Spec.f_Health.f_Test, vi a1.f_Call.f_Spec.f_Health.f_Every, vi a1.f_Call.f_Spec.f_Health.f_Start, vi a1.f_Call.f_Spec.f_Health.f_Retries, vi a1.f_Call.f_Spec.f_Restart, vi a1.f_Call.f_Spec.f_Tries]] (vb r) := by
  unfold law45_ScriptWrites at h
  refine callsX_of (fn := Tryd.f3) (by kernel_rfl) rfl (by kernel_rfl) (Nat.le_of_ble_eq_true (by kernel_rfl)) fun F0 w0 _ => ?_
  refine Wp.keep (kk := [0, 1]) (kl := []) (K' := [(0, .agg (E_ref45_Step a0)), (1, .agg (E_ref45_Step a1))]) (L' := []) (by kernel_rfl) (by kernel_rfl) ?_
  refine Wp.seq ?_
  refine rg [2, 3] [2, 3] (K' := [(2, .own 2 0), (3, .own 3 0)]) (L' := [(2, 32, (E_ref45_Step a0)), (3, 32, (E_ref45_Step a1))]) (by kernel_rfl) ?_
  refine To.thenN (Wp.seq (Wp.seq ?_))
  obtain ⟨r1, hr1, h⟩ := bind_of h
  obtain ⟨r2, hr2, h⟩ := bind_of h
  refine Wp.region hΓ [] [(1, vb r1), (5, vb r2)] [] [2, 3, 12] [2, 3] (K' := [(2, .own 2 0), (3, .own 3 0), (12, vb (bif (!r1) then true else (!r2)))]) (L' := [(2, 32, (E_ref45_Step a0)), (3, 32, (E_ref45_Step a1))]) (ob := [(true = true → CX Tryd.prog 6 [.agg [vi a0.f_Kind, vi a0.f_N, vi a0.f_M, vi a0.f_Command.f_Kind, ls a0.f_Command.f_Services, vi a0.f_Command.f_Count, vb a0.f_Command.f_Orphans, vb a0.f_Command.f_Volumes, vi a0.f_Command.f_Timeout, vi a0.f_Command.f_Retries, vi a0.f_Call.f_Kind, .str a0.f_Call.f_Name, vi a0.f_Call.f_Id, .str a0.f_Call.f_Spec.f_Name, .str a0.f_Call.f_Spec.f_Project, .str a0.f_Call.f_Spec.f_Service, vi a0.f_Call.f_Spec.f_Number, .str a0.f_Call.f_Spec.f_Hash, ls a0.f_Call.f_Spec.f_Nets, ls a0.f_Call.f_Spec.f_Vols, .str a0.f_Call.f_Spec.f_Health.f_Test, vi a0.f_Call.f_Spec.f_Health.f_Every, vi a0.f_Call.f_Spec.f_Health.f_Start, vi a0.f_Call.f_Spec.f_Health.f_Retries, vi a0.f_Call.f_Spec.f_Restart, vi a0.f_Call.f_Spec.f_Tries]] (vb r1)), (((!r1) == false) = true → CX Tryd.prog 6 [.agg [vi a1.f_Kind, vi a1.f_N, vi a1.f_M, vi a1.f_Command.f_Kind, ls a1.f_Command.f_Services, vi a1.f_Command.f_Count, vb a1.f_Command.f_Orphans, vb a1.f_Command.f_Volumes, vi a1.f_Command.f_Timeout, vi a1.f_Command.f_Retries, vi a1.f_Call.f_Kind, .str a1.f_Call.f_Name, vi a1.f_Call.f_Id, .str a1.f_Call.f_Spec.f_Name, .str a1.f_Call.f_Spec.f_Project, .str a1.f_Call.f_Spec.f_Service, vi a1.f_Call.f_Spec.f_Number, .str a1.f_Call.f_Spec.f_Hash, ls a1.f_Call.f_Spec.f_Nets, ls a1.f_Call.f_Spec.f_Vols, .str a1.f_Call.f_Spec.f_Health.f_Test, vi a1.f_Call.f_Spec.f_Health.f_Every, vi a1.f_Call.f_Spec.f_Health.f_Start, vi a1.f_Call.f_Spec.f_Health.f_Retries, vi a1.f_Call.f_Spec.f_Restart, vi a1.f_Call.f_Spec.f_Tries]] (vb r2))]) (by kernel_rfl) (AllP.cons (fun _ => cx (ok_law45_Few n a0 _ hr1)) (AllP.cons (fun hg => cx (ok_law45_Few n a1 _ (if_t hg hr2))) AllP.nil)) ?_
  refine To.thenN ?_
  refine Wp.cond (b := (bif (!r1) then true else (!r2))) (by kernel_rfl) (fun hb => ?_) (fun hb => ?_)
  · replace h := if_t hb h
    refine Wp.seq ?_
    obtain ⟨r3, hr3, h⟩ := bind_of h
    refine Wp.region hΓ [] [(0, vb r3)] [] [4] [] (K' := [(4, vb r3)]) (L' := []) (ob := [(true = true → CX Tryd.prog 7 [] (vb r3))]) (by kernel_rfl) (AllP.cons (fun _ => cx (ok_law45_awake n  _ hr3)) AllP.nil) ?_
    refine To.thenN ?_
    refine Wp.ret ?_
    refine To.thenR ?_
    refine To.keep (kk := [4]) (kl := []) (K' := [(4, vb r3)]) (L' := []) (by kernel_rfl) (by kernel_rfl) ?_
    cases h
    exact To.done hΓ (by kernel_rfl)
  · replace h := if_f hb h
    refine Wp.skip (To.thenN (Wp.seq ?_))
    obtain ⟨r4, hr4, h⟩ := bind_of h
    obtain ⟨r5, hr5, h⟩ := bind_of h
    obtain ⟨r6, hr6, h⟩ := bind_of h
    obtain ⟨r7, hr7, h⟩ := bind_of h
    obtain ⟨r8, hr8, h⟩ := bind_of h
    obtain ⟨r9, hr9, h⟩ := bind_of h
    obtain ⟨hc13, h⟩ := chk_of h
    obtain ⟨r10, hr10, h⟩ := bind_of h
    obtain ⟨hc14, h⟩ := chk_of h
    obtain ⟨hc15, h⟩ := chk_of h
    obtain ⟨r11, hr11, h⟩ := bind_of h
    obtain ⟨x12, hx12, h⟩ := lett_of h
    refine Wp.regionD hm hΓ [(1, .str r4), (3, .str r5), (8, vb r6), (11, vb r7), (17, .recs (α := S_ref45_Step) Z_ref45_Step E_script_Step [a0, a1]), (18, .str r8), (20, .str r9), (23, .str r10), (29, vb r11)] [4] [] (K' := [(4, vb (bif (bif (bif (r4 == r5) then (r6 == r7) else false) then (r8 == (((r9 ++ [10]) ++ r10) ++ [10])) else false) then r11 else false))]) (L' := []) (ob := [(true = true → CX Tryd.prog 8 [.agg [vi a0.f_Kind, vi a0.f_N, vi a0.f_M, vi a0.f_Command.f_Kind, ls a0.f_Command.f_Services, vi a0.f_Command.f_Count, vb a0.f_Command.f_Orphans, vb a0.f_Command.f_Volumes, vi a0.f_Command.f_Timeout, vi a0.f_Command.f_Retries, vi a0.f_Call.f_Kind, .str a0.f_Call.f_Name, vi a0.f_Call.f_Id, .str a0.f_Call.f_Spec.f_Name, .str a0.f_Call.f_Spec.f_Project, .str a0.f_Call.f_Spec.f_Service, vi a0.f_Call.f_Spec.f_Number, .str a0.f_Call.f_Spec.f_Hash, ls a0.f_Call.f_Spec.f_Nets, ls a0.f_Call.f_Spec.f_Vols, .str a0.f_Call.f_Spec.f_Health.f_Test, vi a0.f_Call.f_Spec.f_Health.f_Every, vi a0.f_Call.f_Spec.f_Health.f_Start, vi a0.f_Call.f_Spec.f_Health.f_Retries, vi a0.f_Call.f_Spec.f_Restart, vi a0.f_Call.f_Spec.f_Tries]] (.str r4)), (true = true → CX Tryd.prog 9 [.agg [vi a0.f_Kind, vi a0.f_N, vi a0.f_M, vi a0.f_Command.f_Kind, ls a0.f_Command.f_Services, vi a0.f_Command.f_Count, vb a0.f_Command.f_Orphans, vb a0.f_Command.f_Volumes, vi a0.f_Command.f_Timeout, vi a0.f_Command.f_Retries, vi a0.f_Call.f_Kind, .str a0.f_Call.f_Name, vi a0.f_Call.f_Id, .str a0.f_Call.f_Spec.f_Name, .str a0.f_Call.f_Spec.f_Project, .str a0.f_Call.f_Spec.f_Service, vi a0.f_Call.f_Spec.f_Number, .str a0.f_Call.f_Spec.f_Hash, ls a0.f_Call.f_Spec.f_Nets, ls a0.f_Call.f_Spec.f_Vols, .str a0.f_Call.f_Spec.f_Health.f_Test, vi a0.f_Call.f_Spec.f_Health.f_Every, vi a0.f_Call.f_Spec.f_Health.f_Start, vi a0.f_Call.f_Spec.f_Health.f_Retries, vi a0.f_Call.f_Spec.f_Restart, vi a0.f_Call.f_Spec.f_Tries]] (.str r5)), (((r4 == r5) == true) = true → CX Tryd.prog 10 [.agg [vi a0.f_Kind, vi a0.f_N, vi a0.f_M, vi a0.f_Command.f_Kind, ls a0.f_Command.f_Services, vi a0.f_Command.f_Count, vb a0.f_Command.f_Orphans, vb a0.f_Command.f_Volumes, vi a0.f_Command.f_Timeout, vi a0.f_Command.f_Retries, vi a0.f_Call.f_Kind, .str a0.f_Call.f_Name, vi a0.f_Call.f_Id, .str a0.f_Call.f_Spec.f_Name, .str a0.f_Call.f_Spec.f_Project, .str a0.f_Call.f_Spec.f_Service, vi a0.f_Call.f_Spec.f_Number, .str a0.f_Call.f_Spec.f_Hash, ls a0.f_Call.f_Spec.f_Nets, ls a0.f_Call.f_Spec.f_Vols, .str a0.f_Call.f_Spec.f_Health.f_Test, vi a0.f_Call.f_Spec.f_Health.f_Every, vi a0.f_Call.f_Spec.f_Health.f_Start, vi a0.f_Call.f_Spec.f_Health.f_Retries, vi a0.f_Call.f_Spec.f_Restart, vi a0.f_Call.f_Spec.f_Tries], .agg [vi a1.f_Kind, vi a1.f_N, vi a1.f_M, vi a1.f_Command.f_Kind, ls a1.f_Command.f_Services, vi a1.f_Command.f_Count, vb a1.f_Command.f_Orphans, vb a1.f_Command.f_Volumes, vi a1.f_Command.f_Timeout, vi a1.f_Command.f_Retries, vi a1.f_Call.f_Kind, .str a1.f_Call.f_Name, vi a1.f_Call.f_Id, .str a1.f_Call.f_Spec.f_Name, .str a1.f_Call.f_Spec.f_Project, .str a1.f_Call.f_Spec.f_Service, vi a1.f_Call.f_Spec.f_Number, .str a1.f_Call.f_Spec.f_Hash, ls a1.f_Call.f_Spec.f_Nets, ls a1.f_Call.f_Spec.f_Vols, .str a1.f_Call.f_Spec.f_Health.f_Test, vi a1.f_Call.f_Spec.f_Health.f_Every, vi a1.f_Call.f_Spec.f_Health.f_Start, vi a1.f_Call.f_Spec.f_Health.f_Retries, vi a1.f_Call.f_Spec.f_Restart, vi a1.f_Call.f_Spec.f_Tries]] (vb r6)), (((r4 == r5) == true) = true → CX Tryd.prog 11 [.agg [vi a0.f_Kind, vi a0.f_N, vi a0.f_M, vi a0.f_Command.f_Kind, ls a0.f_Command.f_Services, vi a0.f_Command.f_Count, vb a0.f_Command.f_Orphans, vb a0.f_Command.f_Volumes, vi a0.f_Command.f_Timeout, vi a0.f_Command.f_Retries, vi a0.f_Call.f_Kind, .str a0.f_Call.f_Name, vi a0.f_Call.f_Id, .str a0.f_Call.f_Spec.f_Name, .str a0.f_Call.f_Spec.f_Project, .str a0.f_Call.f_Spec.f_Service, vi a0.f_Call.f_Spec.f_Number, .str a0.f_Call.f_Spec.f_Hash, ls a0.f_Call.f_Spec.f_Nets, ls a0.f_Call.f_Spec.f_Vols, .str a0.f_Call.f_Spec.f_Health.f_Test, vi a0.f_Call.f_Spec.f_Health.f_Every, vi a0.f_Call.f_Spec.f_Health.f_Start, vi a0.f_Call.f_Spec.f_Health.f_Retries, vi a0.f_Call.f_Spec.f_Restart, vi a0.f_Call.f_Spec.f_Tries], .agg [vi a1.f_Kind, vi a1.f_N, vi a1.f_M, vi a1.f_Command.f_Kind, ls a1.f_Command.f_Services, vi a1.f_Command.f_Count, vb a1.f_Command.f_Orphans, vb a1.f_Command.f_Volumes, vi a1.f_Command.f_Timeout, vi a1.f_Command.f_Retries, vi a1.f_Call.f_Kind, .str a1.f_Call.f_Name, vi a1.f_Call.f_Id, .str a1.f_Call.f_Spec.f_Name, .str a1.f_Call.f_Spec.f_Project, .str a1.f_Call.f_Spec.f_Service, vi a1.f_Call.f_Spec.f_Number, .str a1.f_Call.f_Spec.f_Hash, ls a1.f_Call.f_Spec.f_Nets, ls a1.f_Call.f_Spec.f_Vols, .str a1.f_Call.f_Spec.f_Health.f_Test, vi a1.f_Call.f_Spec.f_Health.f_Every, vi a1.f_Call.f_Spec.f_Health.f_Start, vi a1.f_Call.f_Spec.f_Health.f_Retries, vi a1.f_Call.f_Spec.f_Restart, vi a1.f_Call.f_Spec.f_Tries]] (vb r7)), (((bif (r4 == r5) then (r6 == r7) else false) == true) = true → MkOb 26 [vi a0.f_Kind, vi a0.f_N, vi a0.f_M, vi a0.f_Command.f_Kind, ls a0.f_Command.f_Services, vi a0.f_Command.f_Count, vb a0.f_Command.f_Orphans, vb a0.f_Command.f_Volumes, vi a0.f_Command.f_Timeout, vi a0.f_Command.f_Retries, vi a0.f_Call.f_Kind, .str a0.f_Call.f_Name, vi a0.f_Call.f_Id, .str a0.f_Call.f_Spec.f_Name, .str a0.f_Call.f_Spec.f_Project, .str a0.f_Call.f_Spec.f_Service, vi a0.f_Call.f_Spec.f_Number, .str a0.f_Call.f_Spec.f_Hash, ls a0.f_Call.f_Spec.f_Nets, ls a0.f_Call.f_Spec.f_Vols, .str a0.f_Call.f_Spec.f_Health.f_Test, vi a0.f_Call.f_Spec.f_Health.f_Every, vi a0.f_Call.f_Spec.f_Health.f_Start, vi a0.f_Call.f_Spec.f_Health.f_Retries, vi a0.f_Call.f_Spec.f_Restart, vi a0.f_Call.f_Spec.f_Tries, vi a1.f_Kind, vi a1.f_N, vi a1.f_M, vi a1.f_Command.f_Kind, ls a1.f_Command.f_Services, vi a1.f_Command.f_Count, vb a1.f_Command.f_Orphans, vb a1.f_Command.f_Volumes, vi a1.f_Command.f_Timeout, vi a1.f_Command.f_Retries, vi a1.f_Call.f_Kind, .str a1.f_Call.f_Name, vi a1.f_Call.f_Id, .str a1.f_Call.f_Spec.f_Name, .str a1.f_Call.f_Spec.f_Project, .str a1.f_Call.f_Spec.f_Service, vi a1.f_Call.f_Spec.f_Number, .str a1.f_Call.f_Spec.f_Hash, ls a1.f_Call.f_Spec.f_Nets, ls a1.f_Call.f_Spec.f_Vols, .str a1.f_Call.f_Spec.f_Health.f_Test, vi a1.f_Call.f_Spec.f_Health.f_Every, vi a1.f_Call.f_Spec.f_Health.f_Start, vi a1.f_Call.f_Spec.f_Health.f_Retries, vi a1.f_Call.f_Spec.f_Restart, vi a1.f_Call.f_Spec.f_Tries] 2 (.recs (α := S_ref45_Step) Z_ref45_Step E_script_Step [a0, a1]) ∧ GoodR (.recs (α := S_ref45_Step) Z_ref45_Step E_script_Step [a0, a1])), (((bif (r4 == r5) then (r6 == r7) else false) == true) = true → CX Tryd.prog 12 [.recs (α := S_ref45_Step) Z_ref45_Step E_script_Step [a0, a1]] (.str r8)), (((bif (r4 == r5) then (r6 == r7) else false) == true) = true → CX Tryd.prog 9 [.agg [vi a0.f_Kind, vi a0.f_N, vi a0.f_M, vi a0.f_Command.f_Kind, ls a0.f_Command.f_Services, vi a0.f_Command.f_Count, vb a0.f_Command.f_Orphans, vb a0.f_Command.f_Volumes, vi a0.f_Command.f_Timeout, vi a0.f_Command.f_Retries, vi a0.f_Call.f_Kind, .str a0.f_Call.f_Name, vi a0.f_Call.f_Id, .str a0.f_Call.f_Spec.f_Name, .str a0.f_Call.f_Spec.f_Project, .str a0.f_Call.f_Spec.f_Service, vi a0.f_Call.f_Spec.f_Number, .str a0.f_Call.f_Spec.f_Hash, ls a0.f_Call.f_Spec.f_Nets, ls a0.f_Call.f_Spec.f_Vols, .str a0.f_Call.f_Spec.f_Health.f_Test, vi a0.f_Call.f_Spec.f_Health.f_Every, vi a0.f_Call.f_Spec.f_Health.f_Start, vi a0.f_Call.f_Spec.f_Health.f_Retries, vi a0.f_Call.f_Spec.f_Restart, vi a0.f_Call.f_Spec.f_Tries]] (.str r9)), (!((bif (r4 == r5) then (r6 == r7) else false) == true) || decide (((List.length r9 + List.length ([10] : List UInt8) : Nat) : Int) ≤ 9223372036854775807)) = true, (((bif (r4 == r5) then (r6 == r7) else false) == true) = true → CX Tryd.prog 9 [.agg [vi a1.f_Kind, vi a1.f_N, vi a1.f_M, vi a1.f_Command.f_Kind, ls a1.f_Command.f_Services, vi a1.f_Command.f_Count, vb a1.f_Command.f_Orphans, vb a1.f_Command.f_Volumes, vi a1.f_Command.f_Timeout, vi a1.f_Command.f_Retries, vi a1.f_Call.f_Kind, .str a1.f_Call.f_Name, vi a1.f_Call.f_Id, .str a1.f_Call.f_Spec.f_Name, .str a1.f_Call.f_Spec.f_Project, .str a1.f_Call.f_Spec.f_Service, vi a1.f_Call.f_Spec.f_Number, .str a1.f_Call.f_Spec.f_Hash, ls a1.f_Call.f_Spec.f_Nets, ls a1.f_Call.f_Spec.f_Vols, .str a1.f_Call.f_Spec.f_Health.f_Test, vi a1.f_Call.f_Spec.f_Health.f_Every, vi a1.f_Call.f_Spec.f_Health.f_Start, vi a1.f_Call.f_Spec.f_Health.f_Retries, vi a1.f_Call.f_Spec.f_Restart, vi a1.f_Call.f_Spec.f_Tries]] (.str r10)), (!((bif (r4 == r5) then (r6 == r7) else false) == true) || decide (((List.length (r9 ++ [10]) + List.length r10 : Nat) : Int) ≤ 9223372036854775807)) = true, (!((bif (r4 == r5) then (r6 == r7) else false) == true) || decide (((List.length ((r9 ++ [10]) ++ r10) + List.length ([10] : List UInt8) : Nat) : Int) ≤ 9223372036854775807)) = true, (((bif (bif (r4 == r5) then (r6 == r7) else false) then (r8 == (((r9 ++ [10]) ++ r10) ++ [10])) else false) == true) = true → CX Tryd.prog 7 [] (vb r11))]) (by kernel_rfl) (AllP.cons (fun _ => cx (ok_script_Text n a0 _ hr4)) (AllP.cons (fun _ => cx (ok_ref45_Text n a0 _ hr5)) (AllP.cons (fun hg => cx (ok_script_Same n a0 a1 _ (if_t hg hr6))) (AllP.cons (fun hg => cx (ok_ref45_Same n a0 a1 _ (if_t hg hr7))) (AllP.cons (fun _ => mkOb (by kernel_rfl) rfl (by kernel_rfl) (good_E_script_Step _)) (AllP.cons (fun hg => cx (ok_script_Show n [a0, a1] _ (if_t hg hr8))) (AllP.cons (fun hg => cx (ok_ref45_Text n a0 _ (if_t hg hr9))) (AllP.cons hc13 (AllP.cons (fun hg => cx (ok_ref45_Text n a1 _ (if_t hg hr10))) (AllP.cons hc14 (AllP.cons hc15 (AllP.cons (fun hg => cx (ok_law45_awake n  _ (if_t hg hr11))) AllP.nil)))))))))))) ?_
    refine To.eq (K' := [(4, vb x12)]) (L' := []) (by cases hx12; rfl) (by cases hx12; rfl) ?_
    refine To.thenN ?_
    refine Wp.ret ?_
    refine To.keep (kk := [4]) (kl := []) (K' := [(4, vb x12)]) (L' := []) (by kernel_rfl) (by kernel_rfl) ?_
    cases h
    exact To.done hΓ (by kernel_rfl)
end Go.Proofs.YtjjlpomfnfipbaaDoor.M
