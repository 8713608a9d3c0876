import Derived.Test.YtjjlpomfnfipbaaDoorQM45a
set_option linter.all false
namespace Go.Proofs.YtjjlpomfnfipbaaDoor.M
open Go.RowKit Go.Proofs.YtjjlpomfnfipbaaDoor.RX
set_option maxRecDepth 100000
mutual
def script_Line_g1_e (n : Nat) : Nat → (List UInt8) → S_ref45_Step → Option (Int × S_ref45_Step)
  | 0, _, _ => none
  | k + 1, v0, b2 => if (decide (List.length v0 < 4294967281 ∧ 1 ≤ List.length ([32] : List UInt8))) = true then ((script_words_next__o0 n (S_script_words.mk (splitL v0 ([32] : List UInt8)) false)).bind fun r2 =>
  (script_commandKind n r2.1).bind fun r3 =>
  if (decide (r3 > 0)) = true then ((script_words_command__o0 n r3 r2.2).bind fun r4 =>
  script_Line_g1_0 n k b2 r4.1 r4.2)
  else ((script_Line_j2 n r2.1 b2 (S_ref45_Step.mk 0 0 0 (S_api_Command.mk 0 [] 0 false false 0 0) (S_api_Call.mk 0 [] 0 (S_api_Spec.mk [] [] [] 0 [] [] [] (S_api_Check.mk [] 0 0 0) 0 0))) r2.2).bind fun o5 =>
  if (bif o5.2.f_bad then true else (decide ((List.length o5.2.f_l : Int) > 0))) = true then (some (18, (S_ref45_Step.mk 0 0 0 (S_api_Command.mk 0 [] 0 false false 0 0) (S_api_Call.mk 0 [] 0 (S_api_Spec.mk [] [] [] 0 [] [] [] (S_api_Check.mk [] 0 0 0) 0 0)))))
  else (some (0, o5.1)))) else none
def script_Line_g1_0 (n : Nat) : Nat → S_ref45_Step → S_ref45_Step → S_script_words → Option (Int × S_ref45_Step)
  | 0, _, _, _ => none
  | k + 1, b2, b5, b11 => if (bif b11.f_bad then true else (decide ((List.length b11.f_l : Int) > 0))) = true then (some (18, (S_ref45_Step.mk 0 0 0 (S_api_Command.mk 0 [] 0 false false 0 0) (S_api_Call.mk 0 [] 0 (S_api_Spec.mk [] [] [] 0 [] [] [] (S_api_Check.mk [] 0 0 0) 0 0)))))
  else (some (0, b5))
end
theorem ok_script_Line_g1 (n : Nat) {F0 : Fz} {w0 : Pt Tryd.prog} {Q : Exit → Act → World → Prop} (k : Nat) : (∀ (v0 : List UInt8) (b2 : S_ref45_Step) (o : Int × S_ref45_Step), script_Line_g1_e n k v0 b2 = some o → To 79 F0 w0 [(2, .own 2 0), (3, vi o.1)] [(2, 36, [vi o.2.f_Kind, vi o.2.f_N, vi o.2.f_M, vi o.2.f_Command.f_Kind, ls o.2.f_Command.f_Services, vi o.2.f_Command.f_Count, vb o.2.f_Command.f_Orphans, vb o.2.f_Command.f_Volumes, vi o.2.f_Command.f_Timeout, vi o.2.f_Command.f_Retries, vi o.2.f_Call.f_Kind, .str o.2.f_Call.f_Name, vi o.2.f_Call.f_Id, .str o.2.f_Call.f_Spec.f_Name, .str o.2.f_Call.f_Spec.f_Project, .str o.2.f_Call.f_Spec.f_Service, vi o.2.f_Call.f_Spec.f_Number, .str o.2.f_Call.f_Spec.f_Hash, ls o.2.f_Call.f_Spec.f_Nets, ls o.2.f_Call.f_Spec.f_Vols, .str o.2.f_Call.f_Spec.f_Health.f_Test, vi o.2.f_Call.f_Spec.f_Health.f_Every, vi o.2.f_Call.f_Spec.f_Health.f_Start, vi o.2.f_Call.f_Spec.f_Health.f_Retries, vi o.2.f_Call.f_Spec.f_Restart, vi o.2.f_Call.f_Spec.f_Tries])] .ret Q → WG Tryd.prog 79 F0 w0 [(0, .str v0), (2, .own 2 0)] [(2, 36, (E_script_Step b2))] (cI (cB (cF Tryd.f13))) (cI (cB (cF Tryd.f13))) Q) ∧
  (∀ (b2 : S_ref45_Step) (b5 : S_ref45_Step) (b11 : S_script_words) (o : Int × S_ref45_Step), script_Line_g1_0 n k b2 b5 b11 = some o → To 79 F0 w0 [(2, .own 2 0), (3, vi o.1)] [(2, 36, [vi o.2.f_Kind, vi o.2.f_N, vi o.2.f_M, vi o.2.f_Command.f_Kind, ls o.2.f_Command.f_Services, vi o.2.f_Command.f_Count, vb o.2.f_Command.f_Orphans, vb o.2.f_Command.f_Volumes, vi o.2.f_Command.f_Timeout, vi o.2.f_Command.f_Retries, vi o.2.f_Call.f_Kind, .str o.2.f_Call.f_Name, vi o.2.f_Call.f_Id, .str o.2.f_Call.f_Spec.f_Name, .str o.2.f_Call.f_Spec.f_Project, .str o.2.f_Call.f_Spec.f_Service, vi o.2.f_Call.f_Spec.f_Number, .str o.2.f_Call.f_Spec.f_Hash, ls o.2.f_Call.f_Spec.f_Nets, ls o.2.f_Call.f_Spec.f_Vols, .str o.2.f_Call.f_Spec.f_Health.f_Test, vi o.2.f_Call.f_Spec.f_Health.f_Every, vi o.2.f_Call.f_Spec.f_Health.f_Start, vi o.2.f_Call.f_Spec.f_Health.f_Retries, vi o.2.f_Call.f_Spec.f_Restart, vi o.2.f_Call.f_Spec.f_Tries])] .ret Q → WG Tryd.prog 79 F0 w0 [(2, .own 2 0), (4, .own 11 0), (5, .own 5 0)] [(2, 36, (E_script_Step b2)), (5, 36, (E_script_Step b5)), (11, 72, [ls b11.f_l, vb b11.f_bad])] (cI (cB (cF Tryd.f13))) (cG 0 (cB (cF Tryd.f13))) Q) := by
  induction k with
  | zero => exact ⟨(by intro v0 b2 o h; cases h), (by intro b2 b5 b11 o h; cases h)⟩
  | succ k ih =>
    refine ⟨?_, ?_⟩
    · intro v0 b2 o h hQ
      rw [script_Line_g1_e] at h
      refine WG.pass ?_
      refine Wp.seq ?_
      obtain ⟨u1, h⟩ := chk_of h
      refine Wp.region hΓ [] [(1, ls (splitL v0 ([32] : List UInt8)))] [] [2, 4] [2, 11] (K' := [(2, .own 2 0), (4, .own 11 0)]) (L' := [(2, 36, (E_script_Step b2)), (11, 72, [ls (splitL v0 ([32] : List UInt8)), vb false])]) (ob := [(true = true → CX Tryd.prog 28 [.str v0, .str [32]] (ls (splitL v0 ([32] : List UInt8))))]) (by kernel_rfl) (AllP.cons (fun _ => cx (Sh.split28 u1)) AllP.nil) ?_
      refine To.thenN (Wp.seq ?_)
      refine rg [2, 4, 5] [2, 5, 11] (K' := [(2, .own 2 0), (4, .own 11 0), (5, .own 5 0)]) (L' := [(2, 36, (E_script_Step b2)), (5, 36, [vi 0, vi 0, vi 0, vi 0, .val (.slice none 0 0), vi 0, vb false, vb false, vi 0, vi 0, vi 0, .str [], vi 0, .str [], .str [], .str [], vi 0, .str [], .val (.slice none 0 0), .val (.slice none 0 0), .str [], vi 0, vi 0, vi 0, vi 0, vi 0]), (11, 72, [ls (splitL v0 ([32] : List UInt8)), vb false])]) (by kernel_rfl) ?_
      refine To.thenN (Wp.seq ?_)
      obtain ⟨r2, hr2, h⟩ := bind_of h
      refine Wp.region hΓ [] [] [(1, ⟨[(1000000, 11)], [(1000000, 11)], [.own 1000000 0], [(1000000, 72, [ls (splitL v0 ([32] : List UInt8)), vb false])], .str r2.1, [(1000000, 72, [ls r2.2.f_l, vb r2.2.f_bad])]⟩)] [2, 4, 5, 6] [2, 5, 11] (K' := [(2, .own 2 0), (4, .own 11 0), (5, .own 5 0), (6, .str r2.1)]) (L' := [(2, 36, (E_script_Step b2)), (5, 36, [vi 0, vi 0, vi 0, vi 0, .val (.slice none 0 0), vi 0, vb false, vb false, vi 0, vi 0, vi 0, .str [], vi 0, .str [], .str [], .str [], vi 0, .str [], .val (.slice none 0 0), .val (.slice none 0 0), .str [], vi 0, vi 0, vi 0, vi 0, vi 0]), (11, 72, [ls r2.2.f_l, vb r2.2.f_bad])]) (ob := [CbOb (CallsB Tryd.prog) 29 [.own 11 0] [some (72, [ls (splitL v0 ([32] : List UInt8)), vb false])] ⟨[(1000000, 11)], [(1000000, 11)], [.own 1000000 0], [(1000000, 72, [ls (splitL v0 ([32] : List UInt8)), vb false])], .str r2.1, [(1000000, 72, [ls r2.2.f_l, vb r2.2.f_bad])]⟩]) (by kernel_rfl) (AllP.cons (⟨(ok_script_words_next__o0 n (S_script_words.mk (splitL v0 ([32] : List UInt8)) false) _ hr2), by kernel_rfl, by kernel_rfl⟩) AllP.nil) ?_
      refine To.thenN (Wp.seq (Wp.seq ?_))
      obtain ⟨r3, hr3, h⟩ := bind_of h
      refine Wp.region hΓ [] [(1, vi r3)] [] [2, 4, 5, 6, 7] [2, 5, 11] (K' := [(2, .own 2 0), (4, .own 11 0), (5, .own 5 0), (6, .str r2.1), (7, vi r3)]) (L' := [(2, 36, (E_script_Step b2)), (5, 36, [vi 0, vi 0, vi 0, vi 0, .val (.slice none 0 0), vi 0, vb false, vb false, vi 0, vi 0, vi 0, .str [], vi 0, .str [], .str [], .str [], vi 0, .str [], .val (.slice none 0 0), .val (.slice none 0 0), .str [], vi 0, vi 0, vi 0, vi 0, vi 0]), (11, 72, [ls r2.2.f_l, vb r2.2.f_bad])]) (ob := [(true = true → CX Tryd.prog 30 [.str r2.1] (vi r3))]) (by kernel_rfl) (AllP.cons (fun _ => cx (ok_script_commandKind n r2.1 _ hr3)) AllP.nil) ?_
      refine To.thenN (Wp.seq ?_)
      refine rg [2, 4, 5, 6, 7, 17] [2, 5, 11] (K' := [(2, .own 2 0), (4, .own 11 0), (5, .own 5 0), (6, .str r2.1), (7, vi r3), (17, vb (decide (r3 > 0)))]) (L' := [(2, 36, (E_script_Step b2)), (5, 36, [vi 0, vi 0, vi 0, vi 0, .val (.slice none 0 0), vi 0, vb false, vb false, vi 0, vi 0, vi 0, .str [], vi 0, .str [], .str [], .str [], vi 0, .str [], .val (.slice none 0 0), .val (.slice none 0 0), .str [], vi 0, vi 0, vi 0, vi 0, vi 0]), (11, 72, [ls r2.2.f_l, vb r2.2.f_bad])]) (by kernel_rfl) ?_
      refine To.thenN ?_
      refine Wp.cond (b := (decide (r3 > 0))) (by kernel_rfl) (fun hb => ?_) (fun hb => ?_)
      · replace h := if_t hb h
        refine Wp.seq ?_
        obtain ⟨r4, hr4, h⟩ := bind_of h
        refine Wp.region hΓ [] [] [(2, ⟨[(1000000, 11)], [(1000000, 11)], [.own 1000000 0, vi r3], [(1000000, 72, [ls r2.2.f_l, vb r2.2.f_bad])], .agg [vi r4.1.f_Kind, vi r4.1.f_N, vi r4.1.f_M, vi r4.1.f_Command.f_Kind, ls r4.1.f_Command.f_Services, vi r4.1.f_Command.f_Count, vb r4.1.f_Command.f_Orphans, vb r4.1.f_Command.f_Volumes, vi r4.1.f_Command.f_Timeout, vi r4.1.f_Command.f_Retries, vi r4.1.f_Call.f_Kind, .str r4.1.f_Call.f_Name, vi r4.1.f_Call.f_Id, .str r4.1.f_Call.f_Spec.f_Name, .str r4.1.f_Call.f_Spec.f_Project, .str r4.1.f_Call.f_Spec.f_Service, vi r4.1.f_Call.f_Spec.f_Number, .str r4.1.f_Call.f_Spec.f_Hash, ls r4.1.f_Call.f_Spec.f_Nets, ls r4.1.f_Call.f_Spec.f_Vols, .str r4.1.f_Call.f_Spec.f_Health.f_Test, vi r4.1.f_Call.f_Spec.f_Health.f_Every, vi r4.1.f_Call.f_Spec.f_Health.f_Start, vi r4.1.f_Call.f_Spec.f_Health.f_Retries, vi r4.1.f_Call.f_Spec.f_Restart, vi r4.1.f_Call.f_Spec.f_Tries], [(1000000, 72, [ls r4.2.f_l, vb r4.2.f_bad])]⟩)] [2, 4, 5] [2, 5, 11] (K' := [(2, .own 2 0), (4, .own 11 0), (5, .own 5 0)]) (L' := [(2, 36, (E_script_Step b2)), (5, 36, (E_script_Step r4.1)), (11, 72, [ls r4.2.f_l, vb r4.2.f_bad])]) (ob := [CbOb (CallsB Tryd.prog) 31 [.own 11 0, vi r3] [some (72, [ls r2.2.f_l, vb r2.2.f_bad])] ⟨[(1000000, 11)], [(1000000, 11)], [.own 1000000 0, vi r3], [(1000000, 72, [ls r2.2.f_l, vb r2.2.f_bad])], .agg [vi r4.1.f_Kind, vi r4.1.f_N, vi r4.1.f_M, vi r4.1.f_Command.f_Kind, ls r4.1.f_Command.f_Services, vi r4.1.f_Command.f_Count, vb r4.1.f_Command.f_Orphans, vb r4.1.f_Command.f_Volumes, vi r4.1.f_Command.f_Timeout, vi r4.1.f_Command.f_Retries, vi r4.1.f_Call.f_Kind, .str r4.1.f_Call.f_Name, vi r4.1.f_Call.f_Id, .str r4.1.f_Call.f_Spec.f_Name, .str r4.1.f_Call.f_Spec.f_Project, .str r4.1.f_Call.f_Spec.f_Service, vi r4.1.f_Call.f_Spec.f_Number, .str r4.1.f_Call.f_Spec.f_Hash, ls r4.1.f_Call.f_Spec.f_Nets, ls r4.1.f_Call.f_Spec.f_Vols, .str r4.1.f_Call.f_Spec.f_Health.f_Test, vi r4.1.f_Call.f_Spec.f_Health.f_Every, vi r4.1.f_Call.f_Spec.f_Health.f_Start, vi r4.1.f_Call.f_Spec.f_Health.f_Retries, vi r4.1.f_Call.f_Spec.f_Restart, vi r4.1.f_Call.f_Spec.f_Tries], [(1000000, 72, [ls r4.2.f_l, vb r4.2.f_bad])]⟩]) (by kernel_rfl) (AllP.cons (⟨(ok_script_words_command__o0 n r3 r2.2 _ hr4), by kernel_rfl, by kernel_rfl⟩) AllP.nil) ?_
        refine To.thenN ?_
        refine Wp.goto ?_
        refine To.thenG ?_
        refine To.keep (kk := [2, 4, 5]) (kl := [2, 5, 11]) (K' := [(2, .own 2 0), (4, .own 11 0), (5, .own 5 0)]) (L' := [(2, 36, (E_script_Step b2)), (5, 36, (E_script_Step r4.1)), (11, 72, [ls r4.2.f_l, vb r4.2.f_bad])]) (by kernel_rfl) (by kernel_rfl) ?_
        refine To.goto (rest := cG 0 (cB (cF Tryd.f13))) (by kernel_rfl) ?_
        exact ih.2 b2 r4.1 r4.2 _ h hQ
      · replace h := if_f hb h
        refine Wp.skip (To.thenN (Wp.seq (Wp.seq ?_)))
        refine rg [2, 4, 5, 21] [2, 5, 11] (K' := [(2, .own 2 0), (4, .own 11 0), (5, .own 5 0), (21, .str r2.1)]) (L' := [(2, 36, (E_script_Step b2)), (5, 36, [vi 0, vi 0, vi 0, vi 0, .val (.slice none 0 0), vi 0, vb false, vb false, vi 0, vi 0, vi 0, .str [], vi 0, .str [], .str [], .str [], vi 0, .str [], .val (.slice none 0 0), .val (.slice none 0 0), .str [], vi 0, vi 0, vi 0, vi 0, vi 0]), (11, 72, [ls r2.2.f_l, vb r2.2.f_bad])]) (by kernel_rfl) ?_
        refine To.thenN ?_
        obtain ⟨o5, ho5, h⟩ := bind_of h
        refine Wp.keep (kk := [2, 4, 5, 21]) (kl := [2, 5, 11]) (K' := [(2, .own 2 0), (4, .own 11 0), (5, .own 5 0), (21, .str r2.1)]) (L' := [(2, 36, (E_script_Step b2)), (5, 36, [vi 0, vi 0, vi 0, vi 0, .val (.slice none 0 0), vi 0, vb false, vb false, vi 0, vi 0, vi 0, .str [], vi 0, .str [], .str [], .str [], vi 0, .str [], .val (.slice none 0 0), .val (.slice none 0 0), .str [], vi 0, vi 0, vi 0, vi 0, vi 0]), (11, 72, [ls r2.2.f_l, vb r2.2.f_bad])]) (by kernel_rfl) (by kernel_rfl) ?_
        refine Wp.weak (K' := [(2, .own 2 0), (4, .own 11 0), (5, .own 5 0), (21, .str r2.1)]) (L' := [(2, 36, (E_script_Step b2)), (5, 36, [vi 0, vi 0, vi 0, vi 0, ls [], vi 0, vb false, vb false, vi 0, vi 0, vi 0, .str [], vi 0, .str [], .str [], .str [], vi 0, .str [], ls [], ls [], .str [], vi 0, vi 0, vi 0, vi 0, vi 0]), (11, 72, [ls r2.2.f_l, vb r2.2.f_bad])]) (.cons (.refl _) (.cons (.refl _) (.cons (.refl _) (.cons (.refl _) .nil)))) (.cons (.cons (.refl _) (.cons (.refl _) (.cons (.refl _) (.cons (.refl _) (.cons (.refl _) (.cons (.refl _) (.cons (.refl _) (.cons (.refl _) (.cons (.refl _) (.cons (.refl _) (.cons (.refl _) (.cons (.refl _) (.cons (.refl _) (.cons (.refl _) (.cons (.refl _) (.cons (.refl _) (.cons (.refl _) (.cons (.refl _) (.cons (.refl _) (.cons (.refl _) (.cons (.refl _) (.cons (.refl _) (.cons (.refl _) (.cons (.refl _) (.cons (.refl _) (.cons (.refl _) .nil)))))))))))))))))))))))))) (.cons (.cons (.refl _) (.cons (.refl _) (.cons (.refl _) (.cons (.refl _) (.cons (.zero _ _) (.cons (.refl _) (.cons (.refl _) (.cons (.refl _) (.cons (.refl _) (.cons (.refl _) (.cons (.refl _) (.cons (.refl _) (.cons (.refl _) (.cons (.refl _) (.cons (.refl _) (.cons (.refl _) (.cons (.refl _) (.cons (.refl _) (.cons (.zero _ _) (.cons (.zero _ _) (.cons (.refl _) (.cons (.refl _) (.cons (.refl _) (.cons (.refl _) (.cons (.refl _) (.cons (.refl _) .nil)))))))))))))))))))))))))) (.cons (.cons (.refl _) (.cons (.refl _) .nil)) .nil))) ?_
        refine ok_script_Line_j2 n r2.1 b2 (S_ref45_Step.mk 0 0 0 (S_api_Command.mk 0 [] 0 false false 0 0) (S_api_Call.mk 0 [] 0 (S_api_Spec.mk [] [] [] 0 [] [] [] (S_api_Check.mk [] 0 0 0) 0 0))) r2.2 o5 ho5 ?_
        refine To.thenN (Wp.seq ?_)
        refine Wp.label ?_
        refine To.thenN (Wp.seq (Wp.seq ?_))
        refine rg [2, 5, 76] [2, 5] (K' := [(2, .own 2 0), (5, .own 5 0), (76, vb (bif o5.2.f_bad then true else (decide ((List.length o5.2.f_l : Int) > 0))))]) (L' := [(2, 36, (E_script_Step b2)), (5, 36, (E_script_Step o5.1))]) (by kernel_rfl) ?_
        refine To.thenN ?_
        refine Wp.cond (b := (bif o5.2.f_bad then true else (decide ((List.length o5.2.f_l : Int) > 0)))) (by kernel_rfl) (fun hb => ?_) (fun hb => ?_)
        · replace h := if_t hb h
          refine Wp.seq ?_
          refine rg [2, 3] [2] (K' := [(2, .own 2 0), (3, vi 18)]) (L' := [(2, 36, [vi 0, vi 0, vi 0, vi 0, .val (.slice none 0 0), vi 0, vb false, vb false, vi 0, vi 0, vi 0, .str [], vi 0, .str [], .str [], .str [], vi 0, .str [], .val (.slice none 0 0), .val (.slice none 0 0), .str [], vi 0, vi 0, vi 0, vi 0, vi 0])]) (by kernel_rfl) ?_
          refine To.thenN ?_
          refine Wp.ret ?_
          refine To.thenR ?_
          refine To.goesO (.inr (.inl rfl)) ?_
          refine To.keep (kk := [2, 3]) (kl := [2]) (K' := [(2, .own 2 0), (3, vi 18)]) (L' := [(2, 36, [vi 0, vi 0, vi 0, vi 0, .val (.slice none 0 0), vi 0, vb false, vb false, vi 0, vi 0, vi 0, .str [], vi 0, .str [], .str [], .str [], vi 0, .str [], .val (.slice none 0 0), .val (.slice none 0 0), .str [], vi 0, vi 0, vi 0, vi 0, vi 0])]) (by kernel_rfl) (by kernel_rfl) ?_
          refine To.weak (K' := [(2, .own 2 0), (3, vi 18)]) (L' := [(2, 36, [vi 0, vi 0, vi 0, vi 0, ls [], vi 0, vb false, vb false, vi 0, vi 0, vi 0, .str [], vi 0, .str [], .str [], .str [], vi 0, .str [], ls [], ls [], .str [], vi 0, vi 0, vi 0, vi 0, vi 0])]) (.cons (.refl _) (.cons (.refl _) .nil)) (.cons (.cons (.refl _) (.cons (.refl _) (.cons (.refl _) (.cons (.refl _) (.cons (.zero _ _) (.cons (.refl _) (.cons (.refl _) (.cons (.refl _) (.cons (.refl _) (.cons (.refl _) (.cons (.refl _) (.cons (.refl _) (.cons (.refl _) (.cons (.refl _) (.cons (.refl _) (.cons (.refl _) (.cons (.refl _) (.cons (.refl _) (.cons (.zero _ _) (.cons (.zero _ _) (.cons (.refl _) (.cons (.refl _) (.cons (.refl _) (.cons (.refl _) (.cons (.refl _) (.cons (.refl _) .nil)))))))))))))))))))))))))) .nil) ?_
          cases h
          exact hQ
        · replace h := if_f hb h
          refine Wp.skip (To.thenN (Wp.seq ?_))
          refine rg [2, 3] [2] (K' := [(2, .own 2 0), (3, vi 0)]) (L' := [(2, 36, (E_script_Step o5.1))]) (by kernel_rfl) ?_
          refine To.thenN ?_
          refine Wp.ret ?_
          refine To.goesO (.inr (.inl rfl)) ?_
          refine To.keep (kk := [2, 3]) (kl := [2]) (K' := [(2, .own 2 0), (3, vi 0)]) (L' := [(2, 36, (E_script_Step o5.1))]) (by kernel_rfl) (by kernel_rfl) ?_
          cases h
          exact hQ
    · intro b2 b5 b11 o h hQ
      rw [script_Line_g1_0] at h
      refine WG.pass ?_
      refine Wp.seq (Wp.skip (To.thenN (Wp.seq (Wp.seq ?_))))
      refine rg [2, 5, 76] [2, 5] (K' := [(2, .own 2 0), (5, .own 5 0), (76, vb (bif b11.f_bad then true else (decide ((List.length b11.f_l : Int) > 0))))]) (L' := [(2, 36, (E_script_Step b2)), (5, 36, (E_script_Step b5))]) (by kernel_rfl) ?_
      refine To.thenN ?_
      refine Wp.cond (b := (bif b11.f_bad then true else (decide ((List.length b11.f_l : Int) > 0)))) (by kernel_rfl) (fun hb => ?_) (fun hb => ?_)
      · replace h := if_t hb h
        refine Wp.seq ?_
        refine rg [2, 3] [2] (K' := [(2, .own 2 0), (3, vi 18)]) (L' := [(2, 36, [vi 0, vi 0, vi 0, vi 0, .val (.slice none 0 0), vi 0, vb false, vb false, vi 0, vi 0, vi 0, .str [], vi 0, .str [], .str [], .str [], vi 0, .str [], .val (.slice none 0 0), .val (.slice none 0 0), .str [], vi 0, vi 0, vi 0, vi 0, vi 0])]) (by kernel_rfl) ?_
        refine To.thenN ?_
        refine Wp.ret ?_
        refine To.thenR ?_
        refine To.goesO (.inr (.inl rfl)) ?_
        refine To.keep (kk := [2, 3]) (kl := [2]) (K' := [(2, .own 2 0), (3, vi 18)]) (L' := [(2, 36, [vi 0, vi 0, vi 0, vi 0, .val (.slice none 0 0), vi 0, vb false, vb false, vi 0, vi 0, vi 0, .str [], vi 0, .str [], .str [], .str [], vi 0, .str [], .val (.slice none 0 0), .val (.slice none 0 0), .str [], vi 0, vi 0, vi 0, vi 0, vi 0])]) (by kernel_rfl) (by kernel_rfl) ?_
        refine To.weak (K' := [(2, .own 2 0), (3, vi 18)]) (L' := [(2, 36, [vi 0, vi 0, vi 0, vi 0, ls [], vi 0, vb false, vb false, vi 0, vi 0, vi 0, .str [], vi 0, .str [], .str [], .str [], vi 0, .str [], ls [], ls [], .str [], vi 0, vi 0, vi 0, vi 0, vi 0])]) (.cons (.refl _) (.cons (.refl _) .nil)) (.cons (.cons (.refl _) (.cons (.refl _) (.cons (.refl _) (.cons (.refl _) (.cons (.zero _ _) (.cons (.refl _) (.cons (.refl _) (.cons (.refl _) (.cons (.refl _) (.cons (.refl _) (.cons (.refl _) (.cons (.refl _) (.cons (.refl _) (.cons (.refl _) (.cons (.refl _) (.cons (.refl _) (.cons (.refl _) (.cons (.refl _) (.cons (.zero _ _) (.cons (.zero _ _) (.cons (.refl _) (.cons (.refl _) (.cons (.refl _) (.cons (.refl _) (.cons (.refl _) (.cons (.refl _) .nil)))))))))))))))))))))))))) .nil) ?_
        cases h
        exact hQ
      · replace h := if_f hb h
        refine Wp.skip (To.thenN (Wp.seq ?_))
        refine rg [2, 3] [2] (K' := [(2, .own 2 0), (3, vi 0)]) (L' := [(2, 36, (E_script_Step b5))]) (by kernel_rfl) ?_
        refine To.thenN ?_
        refine Wp.ret ?_
        refine To.goesO (.inr (.inl rfl)) ?_
        refine To.keep (kk := [2, 3]) (kl := [2]) (K' := [(2, .own 2 0), (3, vi 0)]) (L' := [(2, 36, (E_script_Step b5))]) (by kernel_rfl) (by kernel_rfl) ?_
        cases h
        exact hQ
def script_Line (n : Nat) (a0 : List UInt8) : Option (S_ref45_Step × Int) :=
  (script_Line_g1_e n n a0 (S_ref45_Step.mk 0 0 0 (S_api_Command.mk 0 [] 0 false false 0 0) (S_api_Call.mk 0 [] 0 (S_api_Spec.mk [] [] [] 0 [] [] [] (S_api_Check.mk [] 0 0 0) 0 0)))).bind fun o1 =>
  some (o1.2, o1.1)
theorem ok_script_Line (n : Nat) (a0 : List UInt8) (r : S_ref45_Step × Int) (h : script_Line n a0 = some r) : CallsX Tryd.prog 13 [.str a0] (.tup [.agg [vi r.1.f_Kind, vi r.1.f_N, vi r.1.f_M, vi r.1.f_Command.f_Kind, ls r.1.f_Command.f_Services, vi r.1.f_Command.f_Count, vb r.1.f_Command.f_Orphans, vb r.1.f_Command.f_Volumes, vi r.1.f_Command.f_Timeout, vi r.1.f_Command.f_Retries, vi r.1.f_Call.f_Kind, .str r.1.f_Call.f_Name, vi r.1.f_Call.f_Id, .str r.1.f_Call.f_Spec.f_Name, .str r.1.f_Call.f_Spec.f_Project, .str r.1.f_Call.f_Spec.f_Service, vi r.1.f_Call.f_Spec.f_Number, .str r.1.f_Call.f_Spec.f_Hash, ls r.1.f_Call.f_Spec.f_Nets, ls r.1.f_Call.f_Spec.f_Vols, .str r.1.f_Call.f_Spec.f_Health.f_Test, vi r.1.f_Call.f_Spec.f_Health.f_Every, vi r.1.f_Call.f_Spec.f_Health.f_Start, vi r.1.f_Call.f_Spec.f_Health.f_Retries, vi r.1.f_Call.f_Spec.f_Restart, vi r.1.f_Call.f_Spec.f_Tries], vi r.2]) := by
  unfold script_Line at h
  refine callsX_of (fn := Tryd.f13) (by kernel_rfl) rfl (by kernel_rfl) (Nat.le_of_ble_eq_true (by kernel_rfl)) fun F0 w0 _ => ?_
  refine Wp.keep (kk := [0]) (kl := []) (K' := [(0, .str a0)]) (L' := []) (by kernel_rfl) (by kernel_rfl) ?_
  refine Wp.seq ?_
  refine rg [0, 2] [2] (K' := [(0, .str a0), (2, .own 2 0)]) (L' := [(2, 36, [vi 0, vi 0, vi 0, vi 0, .val (.slice none 0 0), vi 0, vb false, vb false, vi 0, vi 0, vi 0, .str [], vi 0, .str [], .str [], .str [], vi 0, .str [], .val (.slice none 0 0), .val (.slice none 0 0), .str [], vi 0, vi 0, vi 0, vi 0, vi 0])]) (by kernel_rfl) ?_
  refine To.thenN ?_
  obtain ⟨o1, ho1, h⟩ := bind_of h
  refine Wp.keep (kk := [0, 2]) (kl := [2]) (K' := [(0, .str a0), (2, .own 2 0)]) (L' := [(2, 36, [vi 0, vi 0, vi 0, vi 0, .val (.slice none 0 0), vi 0, vb false, vb false, vi 0, vi 0, vi 0, .str [], vi 0, .str [], .str [], .str [], vi 0, .str [], .val (.slice none 0 0), .val (.slice none 0 0), .str [], vi 0, vi 0, vi 0, vi 0, vi 0])]) (by kernel_rfl) (by kernel_rfl) ?_
  refine Wp.weak (K' := [(0, .str a0), (2, .own 2 0)]) (L' := [(2, 36, [vi 0, vi 0, vi 0, vi 0, ls [], vi 0, vb false, vb false, vi 0, vi 0, vi 0, .str [], vi 0, .str [], .str [], .str [], vi 0, .str [], ls [], ls [], .str [], vi 0, vi 0, vi 0, vi 0, vi 0])]) (.cons (.refl _) (.cons (.refl _) .nil)) (.cons (.cons (.refl _) (.cons (.refl _) (.cons (.refl _) (.cons (.refl _) (.cons (.zero _ _) (.cons (.refl _) (.cons (.refl _) (.cons (.refl _) (.cons (.refl _) (.cons (.refl _) (.cons (.refl _) (.cons (.refl _) (.cons (.refl _) (.cons (.refl _) (.cons (.refl _) (.cons (.refl _) (.cons (.refl _) (.cons (.refl _) (.cons (.zero _ _) (.cons (.zero _ _) (.cons (.refl _) (.cons (.refl _) (.cons (.refl _) (.cons (.refl _) (.cons (.refl _) (.cons (.refl _) .nil)))))))))))))))))))))))))) .nil) ?_
  refine Wp.scopeG ?_
  refine (ok_script_Line_g1 n n).1 a0 (S_ref45_Step.mk 0 0 0 (S_api_Command.mk 0 [] 0 false false 0 0) (S_api_Call.mk 0 [] 0 (S_api_Spec.mk [] [] [] 0 [] [] [] (S_api_Check.mk [] 0 0 0) 0 0))) o1 ho1 ?_
  refine To.keep (kk := [2, 3]) (kl := [2]) (K' := [(2, .own 2 0), (3, vi o1.1)]) (L' := [(2, 36, (E_script_Step o1.2))]) (by kernel_rfl) (by kernel_rfl) ?_
  cases h
  exact To.done hΓ (by kernel_rfl)
def digit_Text_j1 (n : Nat) (v4 : Int) (v5 : Bool) (v6 : Int) (v11 : Bool) (b3 : List (UInt8)) : Option (Int) :=
  if v11 = true then (some (IntKind.wrap .u64 (0 - v6)))
  else some v6
theorem ok_digit_Text_j1 (n : Nat) (v4 : Int) (v5 : Bool) (v6 : Int) (v11 : Bool) (b3 : List (UInt8)) (o : Int) (h : digit_Text_j1 n v4 v5 v6 v11 b3 = some o) {F0 : Fz} {w0 : Pt Tryd.prog} {Q : Exit → Act → World → Prop} (hQ : To 34 F0 w0 [(3, .elm 3 0 1 0), (4, vi v4), (5, vb v5), (6, .val (.int .u64 o))] [(3, 97, [.rowc false (α := UInt8) 0 e8 b3])] .normal Q) : Wp Tryd.prog 34 F0 w0 [(3, .elm 3 0 1 0), (4, vi v4), (5, vb v5), (6, .val (.int .u64 v6)), (11, vb v11)] [(3, 97, [.rowc false (α := UInt8) 0 e8 b3])] (cB (cA (cB (cB (cB (cB (cF Tryd.f40))))))) Q := by
  unfold digit_Text_j1 at h
  refine Wp.cond (b := v11) (by kernel_rfl) (fun hb => ?_) (fun hb => ?_)
  · replace h := if_t hb h
    refine rg [3, 4, 5, 6] [3] (K' := [(3, .elm 3 0 1 0), (4, vi v4), (5, vb v5), (6, .val (.int .u64 (IntKind.wrap .u64 (0 - v6))))]) (L' := [(3, 97, [.rowc false (α := UInt8) 0 e8 b3])]) (by kernel_rfl) ?_
    refine To.keep (kk := [3, 4, 5, 6]) (kl := [3]) (K' := [(3, .elm 3 0 1 0), (4, vi v4), (5, vb v5), (6, .val (.int .u64 (IntKind.wrap .u64 (0 - v6))))]) (L' := [(3, 97, [.rowc false (α := UInt8) 0 e8 b3])]) (by kernel_rfl) (by kernel_rfl) ?_
    cases h
    exact hQ
  · replace h := if_f hb h
    refine Wp.skip ?_
    refine To.keep (kk := [3, 4, 5, 6]) (kl := [3]) (K' := [(3, .elm 3 0 1 0), (4, vi v4), (5, vb v5), (6, .val (.int .u64 v6))]) (L' := [(3, 97, [.rowc false (α := UInt8) 0 e8 b3])]) (by kernel_rfl) (by kernel_rfl) ?_
    cases h
    exact hQ
def digit_Text_l2 (n : Nat) (v5 : Bool) : Nat → Int → Int → (List (UInt8)) → Option (Int × (List (UInt8)))
  | 0, _, _, _ => none
  | k + 1, v4, v6, b3 => if ((10 != 0)) = true then (if (decide (0 ≤ (IntKind.wrap .i64 (v4 - 1)) ∧ (IntKind.wrap .i64 (v4 - 1)) < (20 : Int))) = true then (if (decide (0 ≤ (IntKind.wrap .u8 ((IntKind.wrap .u64 (48 + (Int.tmod v6 10))))) ∧ (IntKind.wrap .u8 ((IntKind.wrap .u64 (48 + (Int.tmod v6 10))))) < 256)) = true then (if (decide (0 ≤ (IntKind.wrap .i64 (v4 - 1)) ∧ (IntKind.wrap .i64 (v4 - 1)) < (List.length b3 : Int))) = true then (lett ((List.set b3 (Int.toNat (IntKind.wrap .i64 (v4 - 1))) (UInt8.ofNat (Int.toNat (IntKind.wrap .u8 ((IntKind.wrap .u64 (48 + (Int.tmod v6 10)))))))) : List (UInt8)) fun x3 =>
  if ((10 != 0)) = true then (if ((IntKind.wrap .u64 (Int.tdiv v6 10)) == 0) = true then (some ((IntKind.wrap .i64 (v4 - 1)), x3))
  else (digit_Text_l2 n v5 k (IntKind.wrap .i64 (v4 - 1)) (IntKind.wrap .u64 (Int.tdiv v6 10)) x3)) else none) else none) else none) else none) else none
theorem ok_digit_Text_l2 (n : Nat) (v5 : Bool) {F0 : Fz} {w0 : Pt Tryd.prog} {Q : Exit → Act → World → Prop} (k : Nat) : ∀ (v4 : Int) (v6 : Int) (b3 : List (UInt8)) (o : Int × (List (UInt8))), digit_Text_l2 n v5 k v4 v6 b3 = some o → To 34 F0 w0 [(3, .elm 3 0 1 0), (4, vi o.1), (5, vb v5)] [(3, 97, [.rowc false (α := UInt8) 0 e8 o.2])] (.exit 0) Q → WL Tryd.prog 34 F0 w0 [(3, .elm 3 0 1 0), (4, vi v4), (5, vb v5), (6, .val (.int .u64 v6))] [(3, 97, [.rowc false (α := UInt8) 0 e8 b3])] (cI (cI (cA (cB (cB (cB (cB (cB (cF Tryd.f40))))))))) Q := by
  induction k with
  | zero => intro v4 v6 b3 o h; cases h
  | succ k ih =>
    intro v4 v6 b3 o h hQ
    rw [digit_Text_l2] at h
    refine WL.round ?_
    refine Wp.block (Wp.seq ?_)
    refine rg [3, 4, 5, 6] [3] (K' := [(3, .elm 3 0 1 0), (4, vi (IntKind.wrap .i64 (v4 - 1))), (5, vb v5), (6, .val (.int .u64 v6))]) (L' := [(3, 97, [.rowc false (α := UInt8) 0 e8 b3])]) (by kernel_rfl) ?_
    refine To.thenN (Wp.seq ?_)
    obtain ⟨hc5, h⟩ := chk_of h
    obtain ⟨hc6, h⟩ := chk_of h
    obtain ⟨u2, h⟩ := chk_of h
    obtain ⟨hc7, h⟩ := chk_of h
    obtain ⟨x3, hx3, h⟩ := lett_of h
    refine Wp.region hΓ [] [(6, .recs (α := UInt8) 0 e8 (List.set b3 (Int.toNat (IntKind.wrap .i64 (v4 - 1))) (UInt8.ofNat (Int.toNat (IntKind.wrap .u8 ((IntKind.wrap .u64 (48 + (Int.tmod v6 10)))))))))] [] [3, 4, 5, 6] [3] (K' := [(3, .elm 3 0 1 0), (4, vi (IntKind.wrap .i64 (v4 - 1))), (5, vb v5), (6, .val (.int .u64 v6))]) (L' := [(3, 97, [.rowc false (α := UInt8) 0 e8 (List.set b3 (Int.toNat (IntKind.wrap .i64 (v4 - 1))) (UInt8.ofNat (Int.toNat (IntKind.wrap .u8 ((IntKind.wrap .u64 (48 + (Int.tmod v6 10))))))))])]) (ob := [((10 != 0)) = true, (decide (0 ≤ (IntKind.wrap .i64 (v4 - 1)) ∧ (IntKind.wrap .i64 (v4 - 1)) < (20 : Int))) = true, (decide (0 ≤ (IntKind.wrap .i64 (v4 - 1)) ∧ (IntKind.wrap .i64 (v4 - 1)) < (List.length b3 : Int))) = true, UpdOb 0 e8 b3 (IntKind.wrap .i64 (v4 - 1)) 0 [.val (.int .u8 (IntKind.wrap .u8 ((IntKind.wrap .u64 (48 + (Int.tmod v6 10))))))] (.recs (α := UInt8) 0 e8 (List.set b3 (Int.toNat (IntKind.wrap .i64 (v4 - 1))) (UInt8.ofNat (Int.toNat (IntKind.wrap .u8 ((IntKind.wrap .u64 (48 + (Int.tmod v6 10)))))))))]) (by kernel_rfl) (AllP.cons hc5 (AllP.cons hc6 (AllP.cons hc7 (AllP.cons (upd8 (u8_of u2)) AllP.nil)))) ?_
    refine To.eq (K' := [(3, .elm 3 0 1 0), (4, vi (IntKind.wrap .i64 (v4 - 1))), (5, vb v5), (6, .val (.int .u64 v6))]) (L' := [(3, 97, [.rowc false (α := UInt8) 0 e8 x3])]) (by cases hx3; rfl) (by cases hx3; rfl) ?_
    refine To.thenN (Wp.seq ?_)
    obtain ⟨hc4, h⟩ := chk_of h
    refine Wp.region hΓ [] [] [] [3, 4, 5, 6] [3] (K' := [(3, .elm 3 0 1 0), (4, vi (IntKind.wrap .i64 (v4 - 1))), (5, vb v5), (6, .val (.int .u64 (IntKind.wrap .u64 (Int.tdiv v6 10))))]) (L' := [(3, 97, [.rowc false (α := UInt8) 0 e8 x3])]) (ob := [((10 != 0)) = true]) (by kernel_rfl) (AllP.cons hc4 AllP.nil) ?_
    refine To.thenN (Wp.seq ?_)
    refine rg [3, 4, 5, 6, 25] [3] (K' := [(3, .elm 3 0 1 0), (4, vi (IntKind.wrap .i64 (v4 - 1))), (5, vb v5), (6, .val (.int .u64 (IntKind.wrap .u64 (Int.tdiv v6 10)))), (25, vb ((IntKind.wrap .u64 (Int.tdiv v6 10)) == 0))]) (L' := [(3, 97, [.rowc false (α := UInt8) 0 e8 x3])]) (by kernel_rfl) ?_
    refine To.thenN ?_
    refine Wp.cond (b := ((IntKind.wrap .u64 (Int.tdiv v6 10)) == 0)) (by kernel_rfl) (fun hb => ?_) (fun hb => ?_)
    · replace h := if_t hb h
      refine Wp.exit ?_
      refine To.blockO (by decide) ?_
      refine To.thenX ?_
      refine To.keep (kk := [3, 4, 5]) (kl := [3]) (K' := [(3, .elm 3 0 1 0), (4, vi (IntKind.wrap .i64 (v4 - 1))), (5, vb v5)]) (L' := [(3, 97, [.rowc false (α := UInt8) 0 e8 x3])]) (by kernel_rfl) (by kernel_rfl) ?_
      cases h
      exact hQ
    · replace h := if_f hb h
      refine Wp.skip ?_
      refine To.blockN ?_
      refine To.keep (kk := [3, 4, 5, 6]) (kl := [3]) (K' := [(3, .elm 3 0 1 0), (4, vi (IntKind.wrap .i64 (v4 - 1))), (5, vb v5), (6, .val (.int .u64 (IntKind.wrap .u64 (Int.tdiv v6 10))))]) (L' := [(3, 97, [.rowc false (α := UInt8) 0 e8 x3])]) (by kernel_rfl) (by kernel_rfl) ?_
      refine To.again ?_
      exact ih (IntKind.wrap .i64 (v4 - 1)) (IntKind.wrap .u64 (Int.tdiv v6 10)) x3 _ h hQ
def digit_Text_j3 (n : Nat) (v4 : Int) (v26 : Bool) (b3 : List (UInt8)) : Option (Int × (List (UInt8))) :=
  if v26 = true then (if (decide (0 ≤ (IntKind.wrap .i64 (v4 - 1)) ∧ (IntKind.wrap .i64 (v4 - 1)) < (20 : Int))) = true then (if (decide (0 ≤ (IntKind.wrap .i64 (v4 - 1)) ∧ (IntKind.wrap .i64 (v4 - 1)) < (List.length b3 : Int))) = true then (some ((IntKind.wrap .i64 (v4 - 1)), (List.set b3 (Int.toNat (IntKind.wrap .i64 (v4 - 1))) 45))) else none) else none)
  else (some (v4, b3))
theorem ok_digit_Text_j3 (n : Nat) (v4 : Int) (v26 : Bool) (b3 : List (UInt8)) (o : Int × (List (UInt8))) (h : digit_Text_j3 n v4 v26 b3 = some o) {F0 : Fz} {w0 : Pt Tryd.prog} {Q : Exit → Act → World → Prop} (hQ : To 34 F0 w0 [(3, .elm 3 0 1 0), (4, vi o.1)] [(3, 97, [.rowc false (α := UInt8) 0 e8 o.2])] .normal Q) : Wp Tryd.prog 34 F0 w0 [(3, .elm 3 0 1 0), (4, vi v4), (26, vb v26)] [(3, 97, [.rowc false (α := UInt8) 0 e8 b3])] (cB (cA (cB (cB (cB (cB (cB (cB (cF Tryd.f40))))))))) Q := by
  unfold digit_Text_j3 at h
  refine Wp.cond (b := v26) (by kernel_rfl) (fun hb => ?_) (fun hb => ?_)
  · replace h := if_t hb h
    refine Wp.seq ?_
    refine rg [3, 4] [3] (K' := [(3, .elm 3 0 1 0), (4, vi (IntKind.wrap .i64 (v4 - 1)))]) (L' := [(3, 97, [.rowc false (α := UInt8) 0 e8 b3])]) (by kernel_rfl) ?_
    refine To.thenN ?_
    obtain ⟨hc3, h⟩ := chk_of h
    obtain ⟨hc4, h⟩ := chk_of h
    refine Wp.region hΓ [] [(2, .recs (α := UInt8) 0 e8 (List.set b3 (Int.toNat (IntKind.wrap .i64 (v4 - 1))) 45))] [] [3, 4] [3] (K' := [(3, .elm 3 0 1 0), (4, vi (IntKind.wrap .i64 (v4 - 1)))]) (L' := [(3, 97, [.rowc false (α := UInt8) 0 e8 (List.set b3 (Int.toNat (IntKind.wrap .i64 (v4 - 1))) 45)])]) (ob := [(decide (0 ≤ (IntKind.wrap .i64 (v4 - 1)) ∧ (IntKind.wrap .i64 (v4 - 1)) < (20 : Int))) = true, (decide (0 ≤ (IntKind.wrap .i64 (v4 - 1)) ∧ (IntKind.wrap .i64 (v4 - 1)) < (List.length b3 : Int))) = true, UpdOb 0 e8 b3 (IntKind.wrap .i64 (v4 - 1)) 0 [.val (.int .u8 45)] (.recs (α := UInt8) 0 e8 (List.set b3 (Int.toNat (IntKind.wrap .i64 (v4 - 1))) 45))]) (by kernel_rfl) (AllP.cons hc3 (AllP.cons hc4 (AllP.cons (upd8 rfl) AllP.nil))) ?_
    refine To.keep (kk := [3, 4]) (kl := [3]) (K' := [(3, .elm 3 0 1 0), (4, vi (IntKind.wrap .i64 (v4 - 1)))]) (L' := [(3, 97, [.rowc false (α := UInt8) 0 e8 (List.set b3 (Int.toNat (IntKind.wrap .i64 (v4 - 1))) 45)])]) (by kernel_rfl) (by kernel_rfl) ?_
    cases h
    exact hQ
  · replace h := if_f hb h
    refine Wp.skip ?_
    refine To.keep (kk := [3, 4]) (kl := [3]) (K' := [(3, .elm 3 0 1 0), (4, vi v4)]) (L' := [(3, 97, [.rowc false (α := UInt8) 0 e8 b3])]) (by kernel_rfl) (by kernel_rfl) ?_
    cases h
    exact hQ
def digit_Text (n : Nat) (a0 : Int) : Option ((List UInt8)) :=
  (digit_Text_j1 n 20 (decide (a0 < 0)) (IntKind.wrap .u64 (a0)) (decide (a0 < 0)) (List.replicate 20 0)).bind fun o1 =>
  (digit_Text_l2 n (decide (a0 < 0)) n 20 o1 (List.replicate 20 0)).bind fun o2 =>
  (digit_Text_j3 n o2.1 (decide (a0 < 0)) o2.2).bind fun o3 =>
  if (decide (List.length o3.2 = 20)) = true then (if (decide (0 ≤ o3.1 ∧ o3.1 ≤ (List.length o3.2 : Int))) = true then (some (List.drop (Int.toNat o3.1) o3.2)) else none) else none
theorem ok_digit_Text (n : Nat) (a0 : Int) (r : (List UInt8)) (h : digit_Text n a0 = some r) : CallsX Tryd.prog 40 [vi a0] (.str r) := by
  unfold digit_Text at h
  refine callsX_of (fn := Tryd.f40) (by kernel_rfl) rfl (by kernel_rfl) (Nat.le_of_ble_eq_true (by kernel_rfl)) fun F0 w0 _ => ?_
  refine Wp.keep (kk := [0]) (kl := []) (K' := [(0, vi a0)]) (L' := []) (by kernel_rfl) (by kernel_rfl) ?_
  refine Wp.seq ?_
  refine rg [0] [] (K' := [(0, vi a0)]) (L' := []) (by kernel_rfl) ?_
  refine To.thenN (Wp.seq ?_)
  refine rg [0, 3] [3] (K' := [(0, vi a0), (3, .own 3 0)]) (L' := [(3, 97, [.val (.int .u8 0), .val (.int .u8 0), .val (.int .u8 0), .val (.int .u8 0), .val (.int .u8 0), .val (.int .u8 0), .val (.int .u8 0), .val (.int .u8 0), .val (.int .u8 0), .val (.int .u8 0), .val (.int .u8 0), .val (.int .u8 0), .val (.int .u8 0), .val (.int .u8 0), .val (.int .u8 0), .val (.int .u8 0), .val (.int .u8 0), .val (.int .u8 0), .val (.int .u8 0), .val (.int .u8 0)])]) (by kernel_rfl) ?_
  refine To.pre (St.toRow (t := 97) (l := (List.replicate 20 0)) 3 1 20 (by decide) (by decide) (good8 _) (by kernel_rfl) (by kernel_rfl) (by kernel_rfl) (by kernel_rfl) (K' := [(0, vi a0), (3, .elm 3 0 1 0)]) (L' := [(3, 97, [.rowc false (α := UInt8) 0 e8 (List.replicate 20 0)])]) (by kernel_rfl) (by kernel_rfl)) ?_
  refine To.thenN (Wp.seq ?_)
  refine rg [0, 3, 4, 5] [3] (K' := [(0, vi a0), (3, .elm 3 0 1 0), (4, vi 20), (5, vb (decide (a0 < 0)))]) (L' := [(3, 97, [.rowc false (α := UInt8) 0 e8 (List.replicate 20 0)])]) (by kernel_rfl) ?_
  refine To.thenN (Wp.seq ?_)
  refine rg [3, 4, 5, 6] [3] (K' := [(3, .elm 3 0 1 0), (4, vi 20), (5, vb (decide (a0 < 0))), (6, .val (.int .u64 (IntKind.wrap .u64 (a0))))]) (L' := [(3, 97, [.rowc false (α := UInt8) 0 e8 (List.replicate 20 0)])]) (by kernel_rfl) ?_
  refine To.thenN (Wp.seq (Wp.seq ?_))
  refine rg [3, 4, 5, 6, 11] [3] (K' := [(3, .elm 3 0 1 0), (4, vi 20), (5, vb (decide (a0 < 0))), (6, .val (.int .u64 (IntKind.wrap .u64 (a0)))), (11, vb (decide (a0 < 0)))]) (L' := [(3, 97, [.rowc false (α := UInt8) 0 e8 (List.replicate 20 0)])]) (by kernel_rfl) ?_
  refine To.thenN ?_
  obtain ⟨o1, ho1, h⟩ := bind_of h
  refine Wp.keep (kk := [3, 4, 5, 6, 11]) (kl := [3]) (K' := [(3, .elm 3 0 1 0), (4, vi 20), (5, vb (decide (a0 < 0))), (6, .val (.int .u64 (IntKind.wrap .u64 (a0)))), (11, vb (decide (a0 < 0)))]) (L' := [(3, 97, [.rowc false (α := UInt8) 0 e8 (List.replicate 20 0)])]) (by kernel_rfl) (by kernel_rfl) ?_
  refine ok_digit_Text_j1 n 20 (decide (a0 < 0)) (IntKind.wrap .u64 (a0)) (decide (a0 < 0)) (List.replicate 20 0) o1 ho1 ?_
  refine To.thenN (Wp.seq (Wp.block ?_))
  obtain ⟨o2, ho2, h⟩ := bind_of h
  refine Wp.keep (kk := [3, 4, 5, 6]) (kl := [3]) (K' := [(3, .elm 3 0 1 0), (4, vi 20), (5, vb (decide (a0 < 0))), (6, .val (.int .u64 o1))]) (L' := [(3, 97, [.rowc false (α := UInt8) 0 e8 (List.replicate 20 0)])]) (by kernel_rfl) (by kernel_rfl) ?_
  refine Wp.loopL ?_
  refine ok_digit_Text_l2 n (decide (a0 < 0)) n 20 o1 (List.replicate 20 0) o2 ho2 ?_
  refine To.blockX ?_
  refine To.thenN (Wp.seq (Wp.seq ?_))
  refine rg [3, 4, 26] [3] (K' := [(3, .elm 3 0 1 0), (4, vi o2.1), (26, vb (decide (a0 < 0)))]) (L' := [(3, 97, [.rowc false (α := UInt8) 0 e8 o2.2])]) (by kernel_rfl) ?_
  refine To.thenN ?_
  obtain ⟨o3, ho3, h⟩ := bind_of h
  refine Wp.keep (kk := [3, 4, 26]) (kl := [3]) (K' := [(3, .elm 3 0 1 0), (4, vi o2.1), (26, vb (decide (a0 < 0)))]) (L' := [(3, 97, [.rowc false (α := UInt8) 0 e8 o2.2])]) (by kernel_rfl) (by kernel_rfl) ?_
  refine ok_digit_Text_j3 n o2.1 (decide (a0 < 0)) o2.2 o3 ho3 ?_
  refine To.thenN (Wp.seq ?_)
  obtain ⟨hc4, h⟩ := chk_of h
  obtain ⟨hc5, h⟩ := chk_of h
  refine Wp.region hΓ [(1, [3])] [(2, .str (List.drop (Int.toNat o3.1) o3.2))] [] [2] [] (K' := [(2, .str (List.drop (Int.toNat o3.1) o3.2))]) (L' := []) (ob := [(decide (List.length o3.2 = 20)) = true, (decide (0 ≤ o3.1 ∧ o3.1 ≤ (List.length o3.2 : Int))) = true, (true = true → StrOb (List.flatMap e8 (List.drop (Int.toNat o3.1) o3.2)) (.str (List.drop (Int.toNat o3.1) o3.2)))]) (by kernel_rfl) (AllP.cons hc4 (AllP.cons hc5 (AllP.cons (fun _ => strOb (flat8 _)) AllP.nil))) ?_
  refine To.thenN ?_
  refine Wp.ret ?_
  refine To.keep (kk := [2]) (kl := []) (K' := [(2, .str (List.drop (Int.toNat o3.1) o3.2))]) (L' := []) (by kernel_rfl) (by kernel_rfl) ?_
  cases h
  exact To.done hΓ (by kernel_rfl)
def event_Call (n : Nat) (a0 : S_api_Call) : Option ((List UInt8)) :=
  (event_one n a0.f_Kind ([[109, 97, 107, 101, 45, 110, 101, 116], [109, 97, 107, 101, 45, 118, 111, 108], [100, 114, 111, 112, 45, 110, 101, 116], [100, 114, 111, 112, 45, 118, 111, 108], [109, 97, 107, 101], [115, 116, 97, 114, 116], [115, 116, 111, 112], [100, 114, 111, 112]])).bind fun r1 =>
  if (r1 == []) = true then (some [63])
  else (if (decide (a0.f_Kind ≤ 4)) = true then (if (decide (((List.length r1 + List.length ([32] : List UInt8) : Nat) : Int) ≤ 9223372036854775807)) = true then (if (decide (((List.length (r1 ++ [32]) + List.length a0.f_Name : Nat) : Int) ≤ 9223372036854775807)) = true then (some ((r1 ++ [32]) ++ a0.f_Name)) else none) else none)
  else (if (a0.f_Kind == 5) = true then (if (decide (((List.length r1 + List.length ([32] : List UInt8) : Nat) : Int) ≤ 9223372036854775807)) = true then (if (decide (((List.length (r1 ++ [32]) + List.length a0.f_Spec.f_Name : Nat) : Int) ≤ 9223372036854775807)) = true then (some ((r1 ++ [32]) ++ a0.f_Spec.f_Name)) else none) else none)
  else (if (decide (((List.length r1 + List.length ([32] : List UInt8) : Nat) : Int) ≤ 9223372036854775807)) = true then ((digit_Text n a0.f_Id).bind fun r6 =>
  if (decide (((List.length (r1 ++ [32]) + List.length r6 : Nat) : Int) ≤ 9223372036854775807)) = true then (some ((r1 ++ [32]) ++ r6)) else none) else none)))
theorem ok_event_Call (n : Nat) (a0 : S_api_Call) (r : (List UInt8)) (h : event_Call n a0 = some r) : CallsX Tryd.prog 41 [.agg [vi a0.f_Kind, .str a0.f_Name, vi a0.f_Id, .str a0.f_Spec.f_Name, .str a0.f_Spec.f_Project, .str a0.f_Spec.f_Service, vi a0.f_Spec.f_Number, .str a0.f_Spec.f_Hash, ls a0.f_Spec.f_Nets, ls a0.f_Spec.f_Vols, .str a0.f_Spec.f_Health.f_Test, vi a0.f_Spec.f_Health.f_Every, vi a0.f_Spec.f_Health.f_Start, vi a0.f_Spec.f_Health.f_Retries, vi a0.f_Spec.f_Restart, vi a0.f_Spec.f_Tries]] (.str r) := by
  unfold event_Call at h
  refine callsX_of (fn := Tryd.f41) (by kernel_rfl) rfl (by kernel_rfl) (Nat.le_of_ble_eq_true (by kernel_rfl)) fun F0 w0 _ => ?_
  refine Wp.keep (kk := [0]) (kl := []) (K' := [(0, .agg (E_api_Call a0))]) (L' := []) (by kernel_rfl) (by kernel_rfl) ?_
  refine Wp.seq ?_
  refine rg [1] [1] (K' := [(1, .own 1 0)]) (L' := [(1, 30, (E_api_Call a0))]) (by kernel_rfl) ?_
  refine To.thenN (Wp.seq ?_)
  obtain ⟨r1, hr1, h⟩ := bind_of h
  refine Wp.region hΓ [(3, [6])] [(2, ls ([[109, 97, 107, 101, 45, 110, 101, 116], [109, 97, 107, 101, 45, 118, 111, 108], [100, 114, 111, 112, 45, 110, 101, 116], [100, 114, 111, 112, 45, 118, 111, 108], [109, 97, 107, 101], [115, 116, 97, 114, 116], [115, 116, 111, 112], [100, 114, 111, 112]])), (3, .str r1)] [] [1, 3] [1] (K' := [(1, .own 1 0), (3, .str r1)]) (L' := [(1, 30, (E_api_Call a0))]) (ob := [(MkOb 1 [.str [109, 97, 107, 101, 45, 110, 101, 116], .str [109, 97, 107, 101, 45, 118, 111, 108], .str [100, 114, 111, 112, 45, 110, 101, 116], .str [100, 114, 111, 112, 45, 118, 111, 108], .str [109, 97, 107, 101], .str [115, 116, 97, 114, 116], .str [115, 116, 111, 112], .str [100, 114, 111, 112]] 8 (ls ([[109, 97, 107, 101, 45, 110, 101, 116], [109, 97, 107, 101, 45, 118, 111, 108], [100, 114, 111, 112, 45, 110, 101, 116], [100, 114, 111, 112, 45, 118, 111, 108], [109, 97, 107, 101], [115, 116, 97, 114, 116], [115, 116, 111, 112], [100, 114, 111, 112]])) ∧ GoodR (ls ([[109, 97, 107, 101, 45, 110, 101, 116], [109, 97, 107, 101, 45, 118, 111, 108], [100, 114, 111, 112, 45, 110, 101, 116], [100, 114, 111, 112, 45, 118, 111, 108], [109, 97, 107, 101], [115, 116, 97, 114, 116], [115, 116, 111, 112], [100, 114, 111, 112]]))), (true = true → CX Tryd.prog 63 [vi a0.f_Kind, ls ([[109, 97, 107, 101, 45, 110, 101, 116], [109, 97, 107, 101, 45, 118, 111, 108], [100, 114, 111, 112, 45, 110, 101, 116], [100, 114, 111, 112, 45, 118, 111, 108], [109, 97, 107, 101], [115, 116, 97, 114, 116], [115, 116, 111, 112], [100, 114, 111, 112]])] (.str r1))]) (by kernel_rfl) (AllP.cons (mkOb (by kernel_rfl) rfl (by kernel_rfl) (good_E_string _)) (AllP.cons (fun _ => cx (ok_event_one n a0.f_Kind ([[109, 97, 107, 101, 45, 110, 101, 116], [109, 97, 107, 101, 45, 118, 111, 108], [100, 114, 111, 112, 45, 110, 101, 116], [100, 114, 111, 112, 45, 118, 111, 108], [109, 97, 107, 101], [115, 116, 97, 114, 116], [115, 116, 111, 112], [100, 114, 111, 112]]) _ hr1)) AllP.nil)) ?_
  refine To.thenN (Wp.seq (Wp.block (Wp.seq ?_)))
  refine rg [1, 3, 8] [1] (K' := [(1, .own 1 0), (3, .str r1), (8, vb (r1 == []))]) (L' := [(1, 30, (E_api_Call a0))]) (by kernel_rfl) ?_
  refine To.thenN ?_
  refine Wp.cond (b := (r1 == [])) (by kernel_rfl) (fun hb => ?_) (fun hb => ?_)
  · replace h := if_t hb h
    refine Wp.seq ?_
    refine rg [2] [] (K' := [(2, .str [63])]) (L' := []) (by kernel_rfl) ?_
    refine To.thenN ?_
    refine Wp.ret ?_
    refine To.blockR ?_
    refine To.thenR ?_
    refine To.keep (kk := [2]) (kl := []) (K' := [(2, .str [63])]) (L' := []) (by kernel_rfl) (by kernel_rfl) ?_
    cases h
    exact To.done hΓ (by kernel_rfl)
  · replace h := if_f hb h
    refine Wp.seq ?_
    refine rg [1, 3, 11] [1] (K' := [(1, .own 1 0), (3, .str r1), (11, vb (decide (a0.f_Kind ≤ 4)))]) (L' := [(1, 30, (E_api_Call a0))]) (by kernel_rfl) ?_
    refine To.thenN ?_
    refine Wp.cond (b := (decide (a0.f_Kind ≤ 4))) (by kernel_rfl) (fun hb => ?_) (fun hb => ?_)
    · replace h := if_t hb h
      refine Wp.seq ?_
      obtain ⟨hc2, h⟩ := chk_of h
      obtain ⟨hc3, h⟩ := chk_of h
      refine Wp.region hΓ [] [] [] [2] [] (K' := [(2, .str ((r1 ++ [32]) ++ a0.f_Name))]) (L' := []) (ob := [(decide (((List.length r1 + List.length ([32] : List UInt8) : Nat) : Int) ≤ 9223372036854775807)) = true, (decide (((List.length (r1 ++ [32]) + List.length a0.f_Name : Nat) : Int) ≤ 9223372036854775807)) = true]) (by kernel_rfl) (AllP.cons hc2 (AllP.cons hc3 AllP.nil)) ?_
      refine To.thenN ?_
      refine Wp.ret ?_
      refine To.blockR ?_
      refine To.thenR ?_
      refine To.keep (kk := [2]) (kl := []) (K' := [(2, .str ((r1 ++ [32]) ++ a0.f_Name))]) (L' := []) (by kernel_rfl) (by kernel_rfl) ?_
      cases h
      exact To.done hΓ (by kernel_rfl)
    · replace h := if_f hb h
      refine Wp.seq ?_
      refine rg [1, 3, 20] [1] (K' := [(1, .own 1 0), (3, .str r1), (20, vb (a0.f_Kind == 5))]) (L' := [(1, 30, (E_api_Call a0))]) (by kernel_rfl) ?_
      refine To.thenN ?_
      refine Wp.cond (b := (a0.f_Kind == 5)) (by kernel_rfl) (fun hb => ?_) (fun hb => ?_)
      · replace h := if_t hb h
        refine Wp.seq ?_
        obtain ⟨hc4, h⟩ := chk_of h
        obtain ⟨hc5, h⟩ := chk_of h
        refine Wp.region hΓ [] [] [] [2] [] (K' := [(2, .str ((r1 ++ [32]) ++ a0.f_Spec.f_Name))]) (L' := []) (ob := [(decide (((List.length r1 + List.length ([32] : List UInt8) : Nat) : Int) ≤ 9223372036854775807)) = true, (decide (((List.length (r1 ++ [32]) + List.length a0.f_Spec.f_Name : Nat) : Int) ≤ 9223372036854775807)) = true]) (by kernel_rfl) (AllP.cons hc4 (AllP.cons hc5 AllP.nil)) ?_
        refine To.thenN ?_
        refine Wp.ret ?_
        refine To.blockR ?_
        refine To.thenR ?_
        refine To.keep (kk := [2]) (kl := []) (K' := [(2, .str ((r1 ++ [32]) ++ a0.f_Spec.f_Name))]) (L' := []) (by kernel_rfl) (by kernel_rfl) ?_
        cases h
        exact To.done hΓ (by kernel_rfl)
      · replace h := if_f hb h
        refine Wp.skip ?_
        refine To.blockN ?_
        refine To.thenN (Wp.seq ?_)
        obtain ⟨hc7, h⟩ := chk_of h
        obtain ⟨r6, hr6, h⟩ := bind_of h
        obtain ⟨hc8, h⟩ := chk_of h
        refine Wp.region hΓ [] [(4, .str r6)] [] [2] [] (K' := [(2, .str ((r1 ++ [32]) ++ r6))]) (L' := []) (ob := [(decide (((List.length r1 + List.length ([32] : List UInt8) : Nat) : Int) ≤ 9223372036854775807)) = true, (true = true → CX Tryd.prog 40 [vi a0.f_Id] (.str r6)), (decide (((List.length (r1 ++ [32]) + List.length r6 : Nat) : Int) ≤ 9223372036854775807)) = true]) (by kernel_rfl) (AllP.cons hc7 (AllP.cons (fun _ => cx (ok_digit_Text n a0.f_Id _ hr6)) (AllP.cons hc8 AllP.nil))) ?_
        refine To.thenN ?_
        refine Wp.ret ?_
        refine To.keep (kk := [2]) (kl := []) (K' := [(2, .str ((r1 ++ [32]) ++ r6))]) (L' := []) (by kernel_rfl) (by kernel_rfl) ?_
        cases h
        exact To.done hΓ (by kernel_rfl)
def script_write_1__o0 (n : Nat) (a0 : List UInt8) (a1 : Int) (h0 : List (List UInt8)) : Option ((List (List UInt8))) :=
  if (a1 != 0) = true then ((digit_Text n a1).bind fun r1 =>
  if (decide ((List.length h0 + List.length ([a0, r1] : List (List UInt8))) * (16 + 1) ≤ limit)) = true then (some (h0 ++ ([a0, r1] : List (List UInt8)))) else none)
  else some h0
theorem ok_script_write_1__o0 (n : Nat) (a0 : List UInt8) (a1 : Int) (h0 : List (List UInt8)) (r : (List (List UInt8))) (h : script_write_1__o0 n a0 a1 h0 = some r) : CallsB Tryd.prog 43 [.str a0, vi a1, .own 1000000 0] [(1000000, 22, [.row 1010000]), (1010000, 9, [.rowc false (α := List UInt8) [] E_string h0])] (.tup []) [(200, 9, [.rowc false (α := List UInt8) [] E_string r]), (1000000, 22, [.row 200])] := by
  unfold script_write_1__o0 at h
  refine callsB_of (fn := Tryd.f43) (by kernel_rfl) rfl (by kernel_rfl) (Nat.le_of_ble_eq_true (by kernel_rfl)) fun F0 w0 => ?_
  refine Wp.keep (kk := [0, 1, 2]) (kl := [1000000, 1010000]) (K' := [(0, .str a0), (1, vi a1), (2, .own 1000000 0)]) (L' := [(1000000, 22, [.row 1010000]), (1010000, 9, [.rowc false (α := List UInt8) [] E_string h0])]) (by kernel_rfl) (by kernel_rfl) ?_
  refine Wp.pre (St.rename 1010000 504000 (by decide) (K' := [(0, .str a0), (1, vi a1), (2, .own 1000000 0)]) (L' := [(1000000, 22, [.row 504000]), (504000, 9, [.rowc false (α := List UInt8) [] E_string h0])]) (by kernel_rfl) (by kernel_rfl) (by kernel_rfl)) ?_
  refine Wp.keep (kk := [0, 1, 2]) (kl := [504000, 1000000]) (K' := [(0, .str a0), (1, vi a1), (2, .own 1000000 0)]) (L' := [(504000, 9, [.rowc false (α := List UInt8) [] E_string h0]), (1000000, 22, [.row 504000])]) (by kernel_rfl) (by kernel_rfl) ?_
  refine Wp.seq ?_
  refine rg [0, 1, 2, 6] [504000, 1000000] (K' := [(0, .str a0), (1, vi a1), (2, .own 1000000 0), (6, vb (a1 != 0))]) (L' := [(504000, 9, [.rowc false (α := List UInt8) [] E_string h0]), (1000000, 22, [.row 504000])]) (by kernel_rfl) ?_
  refine To.thenN ?_
  refine Wp.cond (b := (a1 != 0)) (by kernel_rfl) (fun hb => ?_) (fun hb => ?_)
  · replace h := if_t hb h
    obtain ⟨r1, hr1, h⟩ := bind_of h
    obtain ⟨hc2, h⟩ := chk_of h
    refine Wp.regionD hm hΓ [(3, .str r1), (4, ls [a0, r1]), (5, .row 12), (1005, ls (h0 ++ ([a0, r1] : List (List UInt8))))] [] [12, 1000000] (K' := []) (L' := [(12, 9, [.rowc false (α := List UInt8) [] E_string (h0 ++ ([a0, r1] : List (List UInt8)))]), (1000000, 22, [.row 12])]) (ob := [(true = true → CX Tryd.prog 40 [vi a1] (.str r1)), (true = true → MkOb 1 [.str a0, .str r1] 2 (ls [a0, r1]) ∧ GoodR (ls [a0, r1])), (decide ((List.length h0 + List.length ([a0, r1] : List (List UInt8))) * (16 + 1) ≤ limit)) = true, (AppOb [] E_string h0 (List.flatMap E_string ([a0, r1] : List (List UInt8))) (List.length ([a0, r1] : List (List UInt8))) (ls (h0 ++ ([a0, r1] : List (List UInt8)))) ∧ GoodR (ls (h0 ++ ([a0, r1] : List (List UInt8)))))]) (by kernel_rfl) (AllP.cons (fun _ => cx (ok_digit_Text n a1 _ hr1)) (AllP.cons (fun _ => mkOb (by kernel_rfl) rfl (by kernel_rfl) (good_E_string _)) (AllP.cons hc2 (AllP.cons (appOb rfl rfl (good_E_string _)) AllP.nil)))) ?_
    refine To.fin ?_
    refine To.keep (kk := []) (kl := [12, 1000000]) (K' := []) (L' := [(12, 9, [.rowc false (α := List UInt8) [] E_string (h0 ++ ([a0, r1] : List (List UInt8)))]), (1000000, 22, [.row 12])]) (by kernel_rfl) (by kernel_rfl) ?_
    refine To.pre (St.rename 12 200 (by decide) (K' := []) (L' := [(200, 9, [.rowc false (α := List UInt8) [] E_string (h0 ++ ([a0, r1] : List (List UInt8)))]), (1000000, 22, [.row 200])]) (by kernel_rfl) (by kernel_rfl) (by kernel_rfl)) ?_
    refine To.keep (kk := []) (kl := [200, 1000000]) (K' := []) (L' := [(200, 9, [.rowc false (α := List UInt8) [] E_string (h0 ++ ([a0, r1] : List (List UInt8)))]), (1000000, 22, [.row 200])]) (by kernel_rfl) (by kernel_rfl) ?_
    cases h
    exact To.doneB hΓ [200, 1000000] (by kernel_rfl) (by kernel_rfl)
  · replace h := if_f hb h
    refine Wp.skip ?_
    refine To.fin ?_
    refine To.keep (kk := []) (kl := [504000, 1000000]) (K' := []) (L' := [(504000, 9, [.rowc false (α := List UInt8) [] E_string h0]), (1000000, 22, [.row 504000])]) (by kernel_rfl) (by kernel_rfl) ?_
    refine To.pre (St.rename 504000 200 (by decide) (K' := []) (L' := [(200, 9, [.rowc false (α := List UInt8) [] E_string h0]), (1000000, 22, [.row 200])]) (by kernel_rfl) (by kernel_rfl) (by kernel_rfl)) ?_
    refine To.keep (kk := []) (kl := [200, 1000000]) (K' := []) (L' := [(200, 9, [.rowc false (α := List UInt8) [] E_string h0]), (1000000, 22, [.row 200])]) (by kernel_rfl) (by kernel_rfl) ?_
    cases h
    exact To.doneB hΓ [200, 1000000] (by kernel_rfl) (by kernel_rfl)
def E_api_Command : S_api_Command → List D := fun x => [.val (.int .i64 x.f_Kind), .recs (α := List UInt8) [] E_string x.f_Services, .val (.int .i64 x.f_Count), .val (.bool x.f_Orphans), .val (.bool x.f_Volumes), .val (.int .i64 x.f_Timeout), .val (.int .i64 x.f_Retries)]
def script_write_j1 (n : Nat) (v5 : List UInt8) (v62 : Bool) (b1 : S_ref45_Step) : Option ((List UInt8)) :=
  if v62 = true then (if (decide (((List.length ([32] : List UInt8) + List.length b1.f_Call.f_Spec.f_Project : Nat) : Int) ≤ 9223372036854775807)) = true then (if (decide (((List.length v5 + List.length (([32] : List UInt8) ++ b1.f_Call.f_Spec.f_Project) : Nat) : Int) ≤ 9223372036854775807)) = true then (some (v5 ++ (([32] : List UInt8) ++ b1.f_Call.f_Spec.f_Project))) else none) else none)
  else some v5
theorem ok_script_write_j1 (n : Nat) (v5 : List UInt8) (v62 : Bool) (b1 : S_ref45_Step) (o : (List UInt8)) (h : script_write_j1 n v5 v62 b1 = some o) {F0 : Fz} {w0 : Pt Tryd.prog} {Q : Exit → Act → World → Prop} (hQ : To 106 F0 w0 [(5, .str o)] [] .normal Q) : Wp Tryd.prog 106 F0 w0 [(1, .own 1 0), (5, .str v5), (62, vb v62)] [(1, 36, (E_script_Step b1))] (cB (cA (cB (cT (cB (cE (cB (cE (cB (cE (cB (cE (cB (cE (cB (cE (cB (cE (cB (cI (cB (cA (cB (cB (cF Tryd.f20))))))))))))))))))))))))) Q := by
  unfold script_write_j1 at h
  refine Wp.cond (b := v62) (by kernel_rfl) (fun hb => ?_) (fun hb => ?_)
  · replace h := if_t hb h
    obtain ⟨hc13, h⟩ := chk_of h
    obtain ⟨hc14, h⟩ := chk_of h
    refine Wp.region hΓ [] [] [] [5] [] (K' := [(5, .str (v5 ++ (([32] : List UInt8) ++ b1.f_Call.f_Spec.f_Project)))]) (L' := []) (ob := [(decide (((List.length ([32] : List UInt8) + List.length b1.f_Call.f_Spec.f_Project : Nat) : Int) ≤ 9223372036854775807)) = true, (decide (((List.length v5 + List.length (([32] : List UInt8) ++ b1.f_Call.f_Spec.f_Project) : Nat) : Int) ≤ 9223372036854775807)) = true]) (by kernel_rfl) (AllP.cons hc13 (AllP.cons hc14 AllP.nil)) ?_
    refine To.keep (kk := [5]) (kl := []) (K' := [(5, .str (v5 ++ (([32] : List UInt8) ++ b1.f_Call.f_Spec.f_Project)))]) (L' := []) (by kernel_rfl) (by kernel_rfl) ?_
    cases h
    exact hQ
  · replace h := if_f hb h
    refine Wp.skip ?_
    refine To.keep (kk := [5]) (kl := []) (K' := [(5, .str v5)]) (L' := []) (by kernel_rfl) (by kernel_rfl) ?_
    cases h
    exact hQ
def script_write_j2 (n : Nat) (v87 : Bool) (b6 : S_api_Command) (b7 : List (List UInt8)) : Option ((List (List UInt8))) :=
  if v87 = true then (if (decide ((List.length b7 + List.length ([[45, 111]] : List (List UInt8))) * (16 + 1) ≤ limit)) = true then (some (b7 ++ ([[45, 111]] : List (List UInt8)))) else none)
  else some b7
theorem ok_script_write_j2 (n : Nat) (v87 : Bool) (b6 : S_api_Command) (b7 : List (List UInt8)) (o : (List (List UInt8))) (h : script_write_j2 n v87 b6 b7 = some o) {F0 : Fz} {w0 : Pt Tryd.prog} {Q : Exit → Act → World → Prop} (hQ : To 106 F0 w0 [(6, .own 6 0), (7, .own 7 0), (8, .fn 43 [.own 7 0])] [(6, 24, (E_api_Command b6)), (7, 22, [.row 4420]), (4420, 9, [.rowc false (α := List UInt8) [] E_string o])] .normal Q) : Wp Tryd.prog 106 F0 w0 [(6, .own 6 0), (7, .own 7 0), (8, .fn 43 [.own 7 0]), (87, vb v87)] [(6, 24, (E_api_Command b6)), (7, 22, [.row 4420]), (4420, 9, [.rowc false (α := List UInt8) [] E_string b7])] (cB (cA (cB (cB (cB (cB (cB (cB (cB (cF Tryd.f20)))))))))) Q := by
  unfold script_write_j2 at h
  refine Wp.cond (b := v87) (by kernel_rfl) (fun hb => ?_) (fun hb => ?_)
  · replace h := if_t hb h
    obtain ⟨hc17, h⟩ := chk_of h
    refine Wp.region hΓ [] [(1, ls ([[45, 111]])), (2, ls (b7 ++ ([[45, 111]] : List (List UInt8))))] [] [6, 7, 8] [6, 7, 90] (K' := [(6, .own 6 0), (7, .own 7 0), (8, .fn 43 [.own 7 0])]) (L' := [(6, 24, (E_api_Command b6)), (7, 22, [.row 90]), (90, 9, [.rowc false (α := List UInt8) [] E_string (b7 ++ ([[45, 111]] : List (List UInt8)))])]) (ob := [(MkOb 1 [.str [45, 111]] 1 (ls ([[45, 111]])) ∧ GoodR (ls ([[45, 111]]))), (decide ((List.length b7 + List.length ([[45, 111]] : List (List UInt8))) * (16 + 1) ≤ limit)) = true, (AppOb [] E_string b7 (List.flatMap E_string ([[45, 111]] : List (List UInt8))) (List.length ([[45, 111]] : List (List UInt8))) (ls (b7 ++ ([[45, 111]] : List (List UInt8)))) ∧ GoodR (ls (b7 ++ ([[45, 111]] : List (List UInt8)))))]) (by kernel_rfl) (AllP.cons (mkOb (by kernel_rfl) rfl (by kernel_rfl) (good_E_string _)) (AllP.cons hc17 (AllP.cons (appOb rfl rfl (good_E_string _)) AllP.nil))) ?_
    refine To.keep (kk := [6, 7, 8]) (kl := [6, 7, 90]) (K' := [(6, .own 6 0), (7, .own 7 0), (8, .fn 43 [.own 7 0])]) (L' := [(6, 24, (E_api_Command b6)), (7, 22, [.row 90]), (90, 9, [.rowc false (α := List UInt8) [] E_string (b7 ++ ([[45, 111]] : List (List UInt8)))])]) (by kernel_rfl) (by kernel_rfl) ?_
    refine To.pre (St.rename 90 4420 (by decide) (K' := [(6, .own 6 0), (7, .own 7 0), (8, .fn 43 [.own 7 0])]) (L' := [(6, 24, (E_api_Command b6)), (7, 22, [.row 4420]), (4420, 9, [.rowc false (α := List UInt8) [] E_string (b7 ++ ([[45, 111]] : List (List UInt8)))])]) (by kernel_rfl) (by kernel_rfl) (by kernel_rfl)) ?_
    refine To.keep (kk := [6, 7, 8]) (kl := [6, 7, 4420]) (K' := [(6, .own 6 0), (7, .own 7 0), (8, .fn 43 [.own 7 0])]) (L' := [(6, 24, (E_api_Command b6)), (7, 22, [.row 4420]), (4420, 9, [.rowc false (α := List UInt8) [] E_string (b7 ++ ([[45, 111]] : List (List UInt8)))])]) (by kernel_rfl) (by kernel_rfl) ?_
    cases h
    exact hQ
  · replace h := if_f hb h
    refine Wp.skip ?_
    refine To.keep (kk := [6, 7, 8]) (kl := [6, 7, 4420]) (K' := [(6, .own 6 0), (7, .own 7 0), (8, .fn 43 [.own 7 0])]) (L' := [(6, 24, (E_api_Command b6)), (7, 22, [.row 4420]), (4420, 9, [.rowc false (α := List UInt8) [] E_string b7])]) (by kernel_rfl) (by kernel_rfl) ?_
    cases h
    exact hQ
def script_write_j3 (n : Nat) (v92 : Bool) (b6 : S_api_Command) (b7 : List (List UInt8)) : Option ((List (List UInt8))) :=
  if v92 = true then (if (decide ((List.length b7 + List.length ([[45, 118]] : List (List UInt8))) * (16 + 1) ≤ limit)) = true then (some (b7 ++ ([[45, 118]] : List (List UInt8)))) else none)
  else some b7
theorem ok_script_write_j3 (n : Nat) (v92 : Bool) (b6 : S_api_Command) (b7 : List (List UInt8)) (o : (List (List UInt8))) (h : script_write_j3 n v92 b6 b7 = some o) {F0 : Fz} {w0 : Pt Tryd.prog} {Q : Exit → Act → World → Prop} (hQ : To 106 F0 w0 [(6, .own 6 0), (7, .own 7 0), (8, .fn 43 [.own 7 0])] [(6, 24, (E_api_Command b6)), (7, 22, [.row 4420]), (4420, 9, [.rowc false (α := List UInt8) [] E_string o])] .normal Q) : Wp Tryd.prog 106 F0 w0 [(6, .own 6 0), (7, .own 7 0), (8, .fn 43 [.own 7 0]), (92, vb v92)] [(6, 24, (E_api_Command b6)), (7, 22, [.row 4420]), (4420, 9, [.rowc false (α := List UInt8) [] E_string b7])] (cB (cA (cB (cB (cB (cB (cB (cB (cB (cB (cF Tryd.f20))))))))))) Q := by
  unfold script_write_j3 at h
  refine Wp.cond (b := v92) (by kernel_rfl) (fun hb => ?_) (fun hb => ?_)
  · replace h := if_t hb h
    obtain ⟨hc18, h⟩ := chk_of h
    refine Wp.region hΓ [] [(1, ls ([[45, 118]])), (2, ls (b7 ++ ([[45, 118]] : List (List UInt8))))] [] [6, 7, 8] [6, 7, 95] (K' := [(6, .own 6 0), (7, .own 7 0), (8, .fn 43 [.own 7 0])]) (L' := [(6, 24, (E_api_Command b6)), (7, 22, [.row 95]), (95, 9, [.rowc false (α := List UInt8) [] E_string (b7 ++ ([[45, 118]] : List (List UInt8)))])]) (ob := [(MkOb 1 [.str [45, 118]] 1 (ls ([[45, 118]])) ∧ GoodR (ls ([[45, 118]]))), (decide ((List.length b7 + List.length ([[45, 118]] : List (List UInt8))) * (16 + 1) ≤ limit)) = true, (AppOb [] E_string b7 (List.flatMap E_string ([[45, 118]] : List (List UInt8))) (List.length ([[45, 118]] : List (List UInt8))) (ls (b7 ++ ([[45, 118]] : List (List UInt8)))) ∧ GoodR (ls (b7 ++ ([[45, 118]] : List (List UInt8)))))]) (by kernel_rfl) (AllP.cons (mkOb (by kernel_rfl) rfl (by kernel_rfl) (good_E_string _)) (AllP.cons hc18 (AllP.cons (appOb rfl rfl (good_E_string _)) AllP.nil))) ?_
    refine To.keep (kk := [6, 7, 8]) (kl := [6, 7, 95]) (K' := [(6, .own 6 0), (7, .own 7 0), (8, .fn 43 [.own 7 0])]) (L' := [(6, 24, (E_api_Command b6)), (7, 22, [.row 95]), (95, 9, [.rowc false (α := List UInt8) [] E_string (b7 ++ ([[45, 118]] : List (List UInt8)))])]) (by kernel_rfl) (by kernel_rfl) ?_
    refine To.pre (St.rename 95 4420 (by decide) (K' := [(6, .own 6 0), (7, .own 7 0), (8, .fn 43 [.own 7 0])]) (L' := [(6, 24, (E_api_Command b6)), (7, 22, [.row 4420]), (4420, 9, [.rowc false (α := List UInt8) [] E_string (b7 ++ ([[45, 118]] : List (List UInt8)))])]) (by kernel_rfl) (by kernel_rfl) (by kernel_rfl)) ?_
    refine To.keep (kk := [6, 7, 8]) (kl := [6, 7, 4420]) (K' := [(6, .own 6 0), (7, .own 7 0), (8, .fn 43 [.own 7 0])]) (L' := [(6, 24, (E_api_Command b6)), (7, 22, [.row 4420]), (4420, 9, [.rowc false (α := List UInt8) [] E_string (b7 ++ ([[45, 118]] : List (List UInt8)))])]) (by kernel_rfl) (by kernel_rfl) ?_
    cases h
    exact hQ
  · replace h := if_f hb h
    refine Wp.skip ?_
    refine To.keep (kk := [6, 7, 8]) (kl := [6, 7, 4420]) (K' := [(6, .own 6 0), (7, .own 7 0), (8, .fn 43 [.own 7 0])]) (L' := [(6, 24, (E_api_Command b6)), (7, 22, [.row 4420]), (4420, 9, [.rowc false (α := List UInt8) [] E_string b7])]) (by kernel_rfl) (by kernel_rfl) ?_
    cases h
    exact hQ
def script_write (n : Nat) (a0 : S_ref45_Step) : Option ((List UInt8)) :=
  (digit_Text n a0.f_N).bind fun r1 =>
  (digit_Text n a0.f_M).bind fun r2 =>
  if (a0.f_Kind == 2) = true then (some [103, 111])
  else (if (a0.f_Kind == 8) = true then (some [99, 114, 97, 115, 104])
  else (if (a0.f_Kind == 3) = true then (if (decide (((List.length ([116, 105, 99, 107, 32] : List UInt8) + List.length r1 : Nat) : Int) ≤ 9223372036854775807)) = true then (some (([116, 105, 99, 107, 32] : List UInt8) ++ r1)) else none)
  else (if (a0.f_Kind == 5) = true then (if (decide (((List.length ([115, 105, 99, 107, 32] : List UInt8) + List.length r1 : Nat) : Int) ≤ 9223372036854775807)) = true then (some (([115, 105, 99, 107, 32] : List UInt8) ++ r1)) else none)
  else (if (a0.f_Kind == 6) = true then (if (decide (((List.length ([119, 101, 108, 108, 32] : List UInt8) + List.length r1 : Nat) : Int) ≤ 9223372036854775807)) = true then (some (([119, 101, 108, 108, 32] : List UInt8) ++ r1)) else none)
  else (if (a0.f_Kind == 4) = true then (if (decide (((List.length ([101, 120, 105, 116, 32] : List UInt8) + List.length r1 : Nat) : Int) ≤ 9223372036854775807)) = true then (if (decide (((List.length (([101, 120, 105, 116, 32] : List UInt8) ++ r1) + List.length ([32] : List UInt8) : Nat) : Int) ≤ 9223372036854775807)) = true then (if (decide (((List.length ((([101, 120, 105, 116, 32] : List UInt8) ++ r1) ++ [32]) + List.length r2 : Nat) : Int) ≤ 9223372036854775807)) = true then (some (((([101, 120, 105, 116, 32] : List UInt8) ++ r1) ++ [32]) ++ r2)) else none) else none) else none)
  else (if (a0.f_Kind == 7) = true then (if (decide (((List.length ([102, 97, 117, 108, 116, 32] : List UInt8) + List.length r1 : Nat) : Int) ≤ 9223372036854775807)) = true then (if (decide (((List.length (([102, 97, 117, 108, 116, 32] : List UInt8) ++ r1) + List.length ([32] : List UInt8) : Nat) : Int) ≤ 9223372036854775807)) = true then (if (decide (((List.length ((([102, 97, 117, 108, 116, 32] : List UInt8) ++ r1) ++ [32]) + List.length r2 : Nat) : Int) ≤ 9223372036854775807)) = true then (some (((([102, 97, 117, 108, 116, 32] : List UInt8) ++ r1) ++ [32]) ++ r2)) else none) else none) else none)
  else (if (a0.f_Kind == 9) = true then ((event_Call n a0.f_Call).bind fun r12 =>
  if (decide (((List.length ([99, 97, 108, 108, 32] : List UInt8) + List.length r12 : Nat) : Int) ≤ 9223372036854775807)) = true then ((script_write_j1 n (([99, 97, 108, 108, 32] : List UInt8) ++ r12) (bif (a0.f_Call.f_Kind == 1) then true else (a0.f_Call.f_Kind == 2)) a0).bind fun o13 =>
  some o13) else none)
  else ((event_Command n a0.f_Command.f_Kind).bind fun r15 =>
  if (decide ((List.length ([r15, r1] : List (List UInt8)) + List.length a0.f_Command.f_Services) * (16 + 1) ≤ limit)) = true then ((script_write_1__o0 n [45, 110] a0.f_Command.f_Count (([r15, r1] : List (List UInt8)) ++ a0.f_Command.f_Services)).bind fun r16 =>
  (script_write_j2 n a0.f_Command.f_Orphans a0.f_Command r16).bind fun o17 =>
  (script_write_j3 n a0.f_Command.f_Volumes a0.f_Command o17).bind fun o18 =>
  (script_write_1__o0 n [45, 116] a0.f_Command.f_Timeout o18).bind fun r19 =>
  (script_write_1__o0 n [45, 114] a0.f_Command.f_Retries r19).bind fun r20 =>
  if (decide (List.length r20 ≤ limit ∧ List.length (Lib.join r20 ([32] : List UInt8)) ≤ limit)) = true then (some (Lib.join r20 ([32] : List UInt8))) else none) else none))))))))
theorem ok_script_write (n : Nat) (a0 : S_ref45_Step) (r : (List UInt8)) (h : script_write n a0 = some r) : CallsX Tryd.prog 20 [.agg [vi a0.f_Kind, vi a0.f_N, vi a0.f_M, vi a0.f_Command.f_Kind, ls a0.f_Command.f_Services, vi a0.f_Command.f_Count, vb a0.f_Command.f_Orphans, vb a0.f_Command.f_Volumes, vi a0.f_Command.f_Timeout, vi a0.f_Command.f_Retries, vi a0.f_Call.f_Kind, .str a0.f_Call.f_Name, vi a0.f_Call.f_Id, .str a0.f_Call.f_Spec.f_Name, .str a0.f_Call.f_Spec.f_Project, .str a0.f_Call.f_Spec.f_Service, vi a0.f_Call.f_Spec.f_Number, .str a0.f_Call.f_Spec.f_Hash, ls a0.f_Call.f_Spec.f_Nets, ls a0.f_Call.f_Spec.f_Vols, .str a0.f_Call.f_Spec.f_Health.f_Test, vi a0.f_Call.f_Spec.f_Health.f_Every, vi a0.f_Call.f_Spec.f_Health.f_Start, vi a0.f_Call.f_Spec.f_Health.f_Retries, vi a0.f_Call.f_Spec.f_Restart, vi a0.f_Call.f_Spec.f_Tries]] (.str r) := by
  unfold script_write at h
  refine callsX_of (fn := Tryd.f20) (by kernel_rfl) rfl (by kernel_rfl) (Nat.le_of_ble_eq_true (by kernel_rfl)) fun F0 w0 _ => ?_
  refine Wp.keep (kk := [0]) (kl := []) (K' := [(0, .agg (E_script_Step a0))]) (L' := []) (by kernel_rfl) (by kernel_rfl) ?_
  refine Wp.seq ?_
  refine rg [1] [1] (K' := [(1, .own 1 0)]) (L' := [(1, 36, (E_script_Step a0))]) (by kernel_rfl) ?_
  refine To.thenN (Wp.seq ?_)
  obtain ⟨r1, hr1, h⟩ := bind_of h
  obtain ⟨r2, hr2, h⟩ := bind_of h
  refine Wp.regionD hm hΓ [(2, .str r1), (5, .str r2)] [1, 3, 4] [1] (K' := [(1, .own 1 0), (3, .str r1), (4, .str r2)]) (L' := [(1, 36, (E_script_Step a0))]) (ob := [(true = true → CX Tryd.prog 40 [vi a0.f_N] (.str r1)), (true = true → CX Tryd.prog 40 [vi a0.f_M] (.str r2))]) (by kernel_rfl) (AllP.cons (fun _ => cx (ok_digit_Text n a0.f_N _ hr1)) (AllP.cons (fun _ => cx (ok_digit_Text n a0.f_M _ hr2)) AllP.nil)) ?_
  refine To.thenN (Wp.seq (Wp.seq ?_))
  refine rg [1, 3, 4, 16] [1] (K' := [(1, .own 1 0), (3, .str r1), (4, .str r2), (16, vi a0.f_Kind)]) (L' := [(1, 36, (E_script_Step a0))]) (by kernel_rfl) ?_
  refine To.thenN (Wp.block (Wp.seq ?_))
  refine rg [1, 3, 4, 16, 17] [1] (K' := [(1, .own 1 0), (3, .str r1), (4, .str r2), (16, vi a0.f_Kind), (17, vb (a0.f_Kind == 2))]) (L' := [(1, 36, (E_script_Step a0))]) (by kernel_rfl) ?_
  refine To.thenN ?_
  refine Wp.cond (b := (a0.f_Kind == 2)) (by kernel_rfl) (fun hb => ?_) (fun hb => ?_)
  · replace h := if_t hb h
    refine Wp.seq ?_
    refine rg [2] [] (K' := [(2, .str [103, 111])]) (L' := []) (by kernel_rfl) ?_
    refine To.thenN ?_
    refine Wp.ret ?_
    refine To.blockR ?_
    refine To.thenR ?_
    refine To.keep (kk := [2]) (kl := []) (K' := [(2, .str [103, 111])]) (L' := []) (by kernel_rfl) (by kernel_rfl) ?_
    cases h
    exact To.done hΓ (by kernel_rfl)
  · replace h := if_f hb h
    refine Wp.seq ?_
    refine rg [1, 3, 4, 16, 19] [1] (K' := [(1, .own 1 0), (3, .str r1), (4, .str r2), (16, vi a0.f_Kind), (19, vb (a0.f_Kind == 8))]) (L' := [(1, 36, (E_script_Step a0))]) (by kernel_rfl) ?_
    refine To.thenN ?_
    refine Wp.cond (b := (a0.f_Kind == 8)) (by kernel_rfl) (fun hb => ?_) (fun hb => ?_)
    · replace h := if_t hb h
      refine Wp.seq ?_
      refine rg [2] [] (K' := [(2, .str [99, 114, 97, 115, 104])]) (L' := []) (by kernel_rfl) ?_
      refine To.thenN ?_
      refine Wp.ret ?_
      refine To.blockR ?_
      refine To.thenR ?_
      refine To.keep (kk := [2]) (kl := []) (K' := [(2, .str [99, 114, 97, 115, 104])]) (L' := []) (by kernel_rfl) (by kernel_rfl) ?_
      cases h
      exact To.done hΓ (by kernel_rfl)
    · replace h := if_f hb h
      refine Wp.seq ?_
      refine rg [1, 3, 4, 16, 21] [1] (K' := [(1, .own 1 0), (3, .str r1), (4, .str r2), (16, vi a0.f_Kind), (21, vb (a0.f_Kind == 3))]) (L' := [(1, 36, (E_script_Step a0))]) (by kernel_rfl) ?_
      refine To.thenN ?_
      refine Wp.cond (b := (a0.f_Kind == 3)) (by kernel_rfl) (fun hb => ?_) (fun hb => ?_)
      · replace h := if_t hb h
        refine Wp.seq ?_
        obtain ⟨hc3, h⟩ := chk_of h
        refine Wp.region hΓ [] [] [] [2] [] (K' := [(2, .str (([116, 105, 99, 107, 32] : List UInt8) ++ r1))]) (L' := []) (ob := [(decide (((List.length ([116, 105, 99, 107, 32] : List UInt8) + List.length r1 : Nat) : Int) ≤ 9223372036854775807)) = true]) (by kernel_rfl) (AllP.cons hc3 AllP.nil) ?_
        refine To.thenN ?_
        refine Wp.ret ?_
        refine To.blockR ?_
        refine To.thenR ?_
        refine To.keep (kk := [2]) (kl := []) (K' := [(2, .str (([116, 105, 99, 107, 32] : List UInt8) ++ r1))]) (L' := []) (by kernel_rfl) (by kernel_rfl) ?_
        cases h
        exact To.done hΓ (by kernel_rfl)
      · replace h := if_f hb h
        refine Wp.seq ?_
        refine rg [1, 3, 4, 16, 25] [1] (K' := [(1, .own 1 0), (3, .str r1), (4, .str r2), (16, vi a0.f_Kind), (25, vb (a0.f_Kind == 5))]) (L' := [(1, 36, (E_script_Step a0))]) (by kernel_rfl) ?_
        refine To.thenN ?_
        refine Wp.cond (b := (a0.f_Kind == 5)) (by kernel_rfl) (fun hb => ?_) (fun hb => ?_)
        · replace h := if_t hb h
          refine Wp.seq ?_
          obtain ⟨hc4, h⟩ := chk_of h
          refine Wp.region hΓ [] [] [] [2] [] (K' := [(2, .str (([115, 105, 99, 107, 32] : List UInt8) ++ r1))]) (L' := []) (ob := [(decide (((List.length ([115, 105, 99, 107, 32] : List UInt8) + List.length r1 : Nat) : Int) ≤ 9223372036854775807)) = true]) (by kernel_rfl) (AllP.cons hc4 AllP.nil) ?_
          refine To.thenN ?_
          refine Wp.ret ?_
          refine To.blockR ?_
          refine To.thenR ?_
          refine To.keep (kk := [2]) (kl := []) (K' := [(2, .str (([115, 105, 99, 107, 32] : List UInt8) ++ r1))]) (L' := []) (by kernel_rfl) (by kernel_rfl) ?_
          cases h
          exact To.done hΓ (by kernel_rfl)
        · replace h := if_f hb h
          refine Wp.seq ?_
          refine rg [1, 3, 4, 16, 29] [1] (K' := [(1, .own 1 0), (3, .str r1), (4, .str r2), (16, vi a0.f_Kind), (29, vb (a0.f_Kind == 6))]) (L' := [(1, 36, (E_script_Step a0))]) (by kernel_rfl) ?_
          refine To.thenN ?_
          refine Wp.cond (b := (a0.f_Kind == 6)) (by kernel_rfl) (fun hb => ?_) (fun hb => ?_)
          · replace h := if_t hb h
            refine Wp.seq ?_
            obtain ⟨hc5, h⟩ := chk_of h
            refine Wp.region hΓ [] [] [] [2] [] (K' := [(2, .str (([119, 101, 108, 108, 32] : List UInt8) ++ r1))]) (L' := []) (ob := [(decide (((List.length ([119, 101, 108, 108, 32] : List UInt8) + List.length r1 : Nat) : Int) ≤ 9223372036854775807)) = true]) (by kernel_rfl) (AllP.cons hc5 AllP.nil) ?_
            refine To.thenN ?_
            refine Wp.ret ?_
            refine To.blockR ?_
            refine To.thenR ?_
            refine To.keep (kk := [2]) (kl := []) (K' := [(2, .str (([119, 101, 108, 108, 32] : List UInt8) ++ r1))]) (L' := []) (by kernel_rfl) (by kernel_rfl) ?_
            cases h
            exact To.done hΓ (by kernel_rfl)
          · replace h := if_f hb h
            refine Wp.seq ?_
            refine rg [1, 3, 4, 16, 33] [1] (K' := [(1, .own 1 0), (3, .str r1), (4, .str r2), (16, vi a0.f_Kind), (33, vb (a0.f_Kind == 4))]) (L' := [(1, 36, (E_script_Step a0))]) (by kernel_rfl) ?_
            refine To.thenN ?_
            refine Wp.cond (b := (a0.f_Kind == 4)) (by kernel_rfl) (fun hb => ?_) (fun hb => ?_)
            · replace h := if_t hb h
              refine Wp.seq ?_
              obtain ⟨hc6, h⟩ := chk_of h
              obtain ⟨hc7, h⟩ := chk_of h
              obtain ⟨hc8, h⟩ := chk_of h
              refine Wp.region hΓ [] [] [] [2] [] (K' := [(2, .str (((([101, 120, 105, 116, 32] : List UInt8) ++ r1) ++ [32]) ++ r2))]) (L' := []) (ob := [(decide (((List.length ([101, 120, 105, 116, 32] : List UInt8) + List.length r1 : Nat) : Int) ≤ 9223372036854775807)) = true, (decide (((List.length (([101, 120, 105, 116, 32] : List UInt8) ++ r1) + List.length ([32] : List UInt8) : Nat) : Int) ≤ 9223372036854775807)) = true, (decide (((List.length ((([101, 120, 105, 116, 32] : List UInt8) ++ r1) ++ [32]) + List.length r2 : Nat) : Int) ≤ 9223372036854775807)) = true]) (by kernel_rfl) (AllP.cons hc6 (AllP.cons hc7 (AllP.cons hc8 AllP.nil))) ?_
              refine To.thenN ?_
              refine Wp.ret ?_
              refine To.blockR ?_
              refine To.thenR ?_
              refine To.keep (kk := [2]) (kl := []) (K' := [(2, .str (((([101, 120, 105, 116, 32] : List UInt8) ++ r1) ++ [32]) ++ r2))]) (L' := []) (by kernel_rfl) (by kernel_rfl) ?_
              cases h
              exact To.done hΓ (by kernel_rfl)
            · replace h := if_f hb h
              refine Wp.seq ?_
              refine rg [1, 3, 4, 16, 40] [1] (K' := [(1, .own 1 0), (3, .str r1), (4, .str r2), (16, vi a0.f_Kind), (40, vb (a0.f_Kind == 7))]) (L' := [(1, 36, (E_script_Step a0))]) (by kernel_rfl) ?_
              refine To.thenN ?_
              refine Wp.cond (b := (a0.f_Kind == 7)) (by kernel_rfl) (fun hb => ?_) (fun hb => ?_)
              · replace h := if_t hb h
                refine Wp.seq ?_
                obtain ⟨hc9, h⟩ := chk_of h
                obtain ⟨hc10, h⟩ := chk_of h
                obtain ⟨hc11, h⟩ := chk_of h
                refine Wp.region hΓ [] [] [] [2] [] (K' := [(2, .str (((([102, 97, 117, 108, 116, 32] : List UInt8) ++ r1) ++ [32]) ++ r2))]) (L' := []) (ob := [(decide (((List.length ([102, 97, 117, 108, 116, 32] : List UInt8) + List.length r1 : Nat) : Int) ≤ 9223372036854775807)) = true, (decide (((List.length (([102, 97, 117, 108, 116, 32] : List UInt8) ++ r1) + List.length ([32] : List UInt8) : Nat) : Int) ≤ 9223372036854775807)) = true, (decide (((List.length ((([102, 97, 117, 108, 116, 32] : List UInt8) ++ r1) ++ [32]) + List.length r2 : Nat) : Int) ≤ 9223372036854775807)) = true]) (by kernel_rfl) (AllP.cons hc9 (AllP.cons hc10 (AllP.cons hc11 AllP.nil))) ?_
                refine To.thenN ?_
                refine Wp.ret ?_
                refine To.blockR ?_
                refine To.thenR ?_
                refine To.keep (kk := [2]) (kl := []) (K' := [(2, .str (((([102, 97, 117, 108, 116, 32] : List UInt8) ++ r1) ++ [32]) ++ r2))]) (L' := []) (by kernel_rfl) (by kernel_rfl) ?_
                cases h
                exact To.done hΓ (by kernel_rfl)
              · replace h := if_f hb h
                refine Wp.seq ?_
                refine rg [1, 3, 47] [1] (K' := [(1, .own 1 0), (3, .str r1), (47, vb (a0.f_Kind == 9))]) (L' := [(1, 36, (E_script_Step a0))]) (by kernel_rfl) ?_
                refine To.thenN ?_
                refine Wp.cond (b := (a0.f_Kind == 9)) (by kernel_rfl) (fun hb => ?_) (fun hb => ?_)
                · replace h := if_t hb h
                  refine Wp.seq ?_
                  obtain ⟨r12, hr12, h⟩ := bind_of h
                  obtain ⟨hc14, h⟩ := chk_of h
                  refine Wp.region hΓ [] [(2, .str r12)] [] [1, 5] [1] (K' := [(1, .own 1 0), (5, .str (([99, 97, 108, 108, 32] : List UInt8) ++ r12))]) (L' := [(1, 36, (E_script_Step a0))]) (ob := [(true = true → CX Tryd.prog 41 [.agg [vi a0.f_Call.f_Kind, .str a0.f_Call.f_Name, vi a0.f_Call.f_Id, .str a0.f_Call.f_Spec.f_Name, .str a0.f_Call.f_Spec.f_Project, .str a0.f_Call.f_Spec.f_Service, vi a0.f_Call.f_Spec.f_Number, .str a0.f_Call.f_Spec.f_Hash, ls a0.f_Call.f_Spec.f_Nets, ls a0.f_Call.f_Spec.f_Vols, .str a0.f_Call.f_Spec.f_Health.f_Test, vi a0.f_Call.f_Spec.f_Health.f_Every, vi a0.f_Call.f_Spec.f_Health.f_Start, vi a0.f_Call.f_Spec.f_Health.f_Retries, vi a0.f_Call.f_Spec.f_Restart, vi a0.f_Call.f_Spec.f_Tries]] (.str r12)), (decide (((List.length ([99, 97, 108, 108, 32] : List UInt8) + List.length r12 : Nat) : Int) ≤ 9223372036854775807)) = true]) (by kernel_rfl) (AllP.cons (fun _ => cx (ok_event_Call n a0.f_Call _ hr12)) (AllP.cons hc14 AllP.nil)) ?_
                  refine To.thenN (Wp.seq (Wp.seq ?_))
                  refine rg [1, 5, 62] [1] (K' := [(1, .own 1 0), (5, .str (([99, 97, 108, 108, 32] : List UInt8) ++ r12)), (62, vb (bif (a0.f_Call.f_Kind == 1) then true else (a0.f_Call.f_Kind == 2)))]) (L' := [(1, 36, (E_script_Step a0))]) (by kernel_rfl) ?_
                  refine To.thenN ?_
                  obtain ⟨o13, ho13, h⟩ := bind_of h
                  refine Wp.keep (kk := [1, 5, 62]) (kl := [1]) (K' := [(1, .own 1 0), (5, .str (([99, 97, 108, 108, 32] : List UInt8) ++ r12)), (62, vb (bif (a0.f_Call.f_Kind == 1) then true else (a0.f_Call.f_Kind == 2)))]) (L' := [(1, 36, (E_script_Step a0))]) (by kernel_rfl) (by kernel_rfl) ?_
                  refine ok_script_write_j1 n (([99, 97, 108, 108, 32] : List UInt8) ++ r12) (bif (a0.f_Call.f_Kind == 1) then true else (a0.f_Call.f_Kind == 2)) a0 o13 ho13 ?_
                  refine To.thenN (Wp.seq ?_)
                  refine rg [2] [] (K' := [(2, .str o13)]) (L' := []) (by kernel_rfl) ?_
                  refine To.thenN ?_
                  refine Wp.ret ?_
                  refine To.blockR ?_
                  refine To.thenR ?_
                  refine To.keep (kk := [2]) (kl := []) (K' := [(2, .str o13)]) (L' := []) (by kernel_rfl) (by kernel_rfl) ?_
                  cases h
                  exact To.done hΓ (by kernel_rfl)
                · replace h := if_f hb h
                  refine Wp.skip ?_
                  refine To.blockN ?_
                  refine To.thenN (Wp.seq ?_)
                  refine rg [3, 6] [6] (K' := [(3, .str r1), (6, .own 6 0)]) (L' := [(6, 24, (E_api_Command a0.f_Command))]) (by kernel_rfl) ?_
                  refine To.thenN (Wp.seq ?_)
                  obtain ⟨r15, hr15, h⟩ := bind_of h
                  obtain ⟨hc22, h⟩ := chk_of h
                  refine Wp.regionO hm hΓ [] [(2, .str r15), (4, ls [r15, r1]), (7, ls (([r15, r1] : List (List UInt8)) ++ a0.f_Command.f_Services))] [] [3, 6, 7, 73, 74, 75, 76, 77, 78, 79, 80] [6, 7, 77, 80] [6, 7] [6, 7, 80] (K' := [(6, .own 6 0), (7, .own 7 0)]) (L' := [(6, 24, (E_api_Command a0.f_Command)), (7, 22, [.row 80]), (80, 9, [.rowc false (α := List UInt8) [] E_string (([r15, r1] : List (List UInt8)) ++ a0.f_Command.f_Services)])]) (ob := [(true = true → CX Tryd.prog 42 [vi a0.f_Command.f_Kind] (.str r15)), (MkOb 1 [.str r15, .str r1] 2 (ls [r15, r1]) ∧ GoodR (ls [r15, r1])), (decide ((List.length ([r15, r1] : List (List UInt8)) + List.length a0.f_Command.f_Services) * (16 + 1) ≤ limit)) = true, (AppOb [] E_string ([r15, r1] : List (List UInt8)) (List.flatMap E_string a0.f_Command.f_Services) (List.length a0.f_Command.f_Services) (ls (([r15, r1] : List (List UInt8)) ++ a0.f_Command.f_Services)) ∧ GoodR (ls (([r15, r1] : List (List UInt8)) ++ a0.f_Command.f_Services)))]) (by kernel_rfl) (by kernel_rfl) (AllP.cons (fun _ => cx (ok_event_Command n a0.f_Command.f_Kind _ hr15)) (AllP.cons (mkOb (by kernel_rfl) rfl (by kernel_rfl) (good_E_string _)) (AllP.cons hc22 (AllP.cons (appOb rfl rfl (good_E_string _)) AllP.nil)))) ?_
                  refine To.thenN (Wp.seq ?_)
                  refine rg [6, 7, 8] [6, 7, 80] (K' := [(6, .own 6 0), (7, .own 7 0), (8, .fn 43 [.own 7 0])]) (L' := [(6, 24, (E_api_Command a0.f_Command)), (7, 22, [.row 80]), (80, 9, [.rowc false (α := List UInt8) [] E_string (([r15, r1] : List (List UInt8)) ++ a0.f_Command.f_Services)])]) (by kernel_rfl) ?_
                  refine To.thenN (Wp.seq ?_)
                  obtain ⟨r16, hr16, h⟩ := bind_of h
                  refine Wp.region hΓ [] [] [(3, ⟨[(1000000, 7), (1010000, 80)], [(200, 80), (1000000, 7)], [.str [45, 110], vi a0.f_Command.f_Count, .own 1000000 0], [(1000000, 22, [.row 1010000]), (1010000, 9, [.rowc false (α := List UInt8) [] E_string (([r15, r1] : List (List UInt8)) ++ a0.f_Command.f_Services)])], .tup [], [(200, 9, [.rowc false (α := List UInt8) [] E_string r16]), (1000000, 22, [.row 200])]⟩)] [6, 7, 8] [6, 7, 80] (K' := [(6, .own 6 0), (7, .own 7 0), (8, .fn 43 [.own 7 0])]) (L' := [(6, 24, (E_api_Command a0.f_Command)), (7, 22, [.row 80]), (80, 9, [.rowc false (α := List UInt8) [] E_string r16])]) (ob := [CbOb (CallsB Tryd.prog) 43 [.str [45, 110], vi a0.f_Command.f_Count, .own 7 0] [some (22, [.row 80]), some (9, [.rowc false (α := List UInt8) [] E_string (([r15, r1] : List (List UInt8)) ++ a0.f_Command.f_Services)])] ⟨[(1000000, 7), (1010000, 80)], [(200, 80), (1000000, 7)], [.str [45, 110], vi a0.f_Command.f_Count, .own 1000000 0], [(1000000, 22, [.row 1010000]), (1010000, 9, [.rowc false (α := List UInt8) [] E_string (([r15, r1] : List (List UInt8)) ++ a0.f_Command.f_Services)])], .tup [], [(200, 9, [.rowc false (α := List UInt8) [] E_string r16]), (1000000, 22, [.row 200])]⟩]) (by kernel_rfl) (AllP.cons (⟨(ok_script_write_1__o0 n [45, 110] a0.f_Command.f_Count (([r15, r1] : List (List UInt8)) ++ a0.f_Command.f_Services) _ hr16), by kernel_rfl, by kernel_rfl⟩) AllP.nil) ?_
                  refine To.thenN (Wp.seq (Wp.seq ?_))
                  refine rg [6, 7, 8, 87] [6, 7, 80] (K' := [(6, .own 6 0), (7, .own 7 0), (8, .fn 43 [.own 7 0]), (87, vb a0.f_Command.f_Orphans)]) (L' := [(6, 24, (E_api_Command a0.f_Command)), (7, 22, [.row 80]), (80, 9, [.rowc false (α := List UInt8) [] E_string r16])]) (by kernel_rfl) ?_
                  refine To.thenN ?_
                  obtain ⟨o17, ho17, h⟩ := bind_of h
                  refine Wp.keep (kk := [6, 7, 8, 87]) (kl := [6, 7, 80]) (K' := [(6, .own 6 0), (7, .own 7 0), (8, .fn 43 [.own 7 0]), (87, vb a0.f_Command.f_Orphans)]) (L' := [(6, 24, (E_api_Command a0.f_Command)), (7, 22, [.row 80]), (80, 9, [.rowc false (α := List UInt8) [] E_string r16])]) (by kernel_rfl) (by kernel_rfl) ?_
                  refine Wp.pre (St.rename 80 4420 (by decide) (K' := [(6, .own 6 0), (7, .own 7 0), (8, .fn 43 [.own 7 0]), (87, vb a0.f_Command.f_Orphans)]) (L' := [(6, 24, (E_api_Command a0.f_Command)), (7, 22, [.row 4420]), (4420, 9, [.rowc false (α := List UInt8) [] E_string r16])]) (by kernel_rfl) (by kernel_rfl) (by kernel_rfl)) ?_
                  refine Wp.keep (kk := [6, 7, 8, 87]) (kl := [6, 7, 4420]) (K' := [(6, .own 6 0), (7, .own 7 0), (8, .fn 43 [.own 7 0]), (87, vb a0.f_Command.f_Orphans)]) (L' := [(6, 24, (E_api_Command a0.f_Command)), (7, 22, [.row 4420]), (4420, 9, [.rowc false (α := List UInt8) [] E_string r16])]) (by kernel_rfl) (by kernel_rfl) ?_
                  refine ok_script_write_j2 n a0.f_Command.f_Orphans a0.f_Command r16 o17 ho17 ?_
                  refine To.thenN (Wp.seq (Wp.seq ?_))
                  refine rg [6, 7, 8, 92] [6, 7, 4420] (K' := [(6, .own 6 0), (7, .own 7 0), (8, .fn 43 [.own 7 0]), (92, vb a0.f_Command.f_Volumes)]) (L' := [(6, 24, (E_api_Command a0.f_Command)), (7, 22, [.row 4420]), (4420, 9, [.rowc false (α := List UInt8) [] E_string o17])]) (by kernel_rfl) ?_
                  refine To.thenN ?_
                  obtain ⟨o18, ho18, h⟩ := bind_of h
                  refine Wp.keep (kk := [6, 7, 8, 92]) (kl := [6, 7, 4420]) (K' := [(6, .own 6 0), (7, .own 7 0), (8, .fn 43 [.own 7 0]), (92, vb a0.f_Command.f_Volumes)]) (L' := [(6, 24, (E_api_Command a0.f_Command)), (7, 22, [.row 4420]), (4420, 9, [.rowc false (α := List UInt8) [] E_string o17])]) (by kernel_rfl) (by kernel_rfl) ?_
                  refine ok_script_write_j3 n a0.f_Command.f_Volumes a0.f_Command o17 o18 ho18 ?_
                  refine To.thenN (Wp.seq ?_)
                  obtain ⟨r19, hr19, h⟩ := bind_of h
                  refine Wp.region hΓ [] [] [(3, ⟨[(1000000, 7), (1010000, 4420)], [(200, 4420), (1000000, 7)], [.str [45, 116], vi a0.f_Command.f_Timeout, .own 1000000 0], [(1000000, 22, [.row 1010000]), (1010000, 9, [.rowc false (α := List UInt8) [] E_string o18])], .tup [], [(200, 9, [.rowc false (α := List UInt8) [] E_string r19]), (1000000, 22, [.row 200])]⟩)] [6, 7, 8] [6, 7, 4420] (K' := [(6, .own 6 0), (7, .own 7 0), (8, .fn 43 [.own 7 0])]) (L' := [(6, 24, (E_api_Command a0.f_Command)), (7, 22, [.row 4420]), (4420, 9, [.rowc false (α := List UInt8) [] E_string r19])]) (ob := [CbOb (CallsB Tryd.prog) 43 [.str [45, 116], vi a0.f_Command.f_Timeout, .own 7 0] [some (22, [.row 4420]), some (9, [.rowc false (α := List UInt8) [] E_string o18])] ⟨[(1000000, 7), (1010000, 4420)], [(200, 4420), (1000000, 7)], [.str [45, 116], vi a0.f_Command.f_Timeout, .own 1000000 0], [(1000000, 22, [.row 1010000]), (1010000, 9, [.rowc false (α := List UInt8) [] E_string o18])], .tup [], [(200, 9, [.rowc false (α := List UInt8) [] E_string r19]), (1000000, 22, [.row 200])]⟩]) (by kernel_rfl) (AllP.cons (⟨(ok_script_write_1__o0 n [45, 116] a0.f_Command.f_Timeout o18 _ hr19), by kernel_rfl, by kernel_rfl⟩) AllP.nil) ?_
                  refine To.thenN (Wp.seq ?_)
                  obtain ⟨r20, hr20, h⟩ := bind_of h
                  refine Wp.region hΓ [] [] [(3, ⟨[(1000000, 7), (1010000, 4420)], [(200, 4420), (1000000, 7)], [.str [45, 114], vi a0.f_Command.f_Retries, .own 1000000 0], [(1000000, 22, [.row 1010000]), (1010000, 9, [.rowc false (α := List UInt8) [] E_string r19])], .tup [], [(200, 9, [.rowc false (α := List UInt8) [] E_string r20]), (1000000, 22, [.row 200])]⟩)] [7] [7, 4420] (K' := [(7, .own 7 0)]) (L' := [(7, 22, [.row 4420]), (4420, 9, [.rowc false (α := List UInt8) [] E_string r20])]) (ob := [CbOb (CallsB Tryd.prog) 43 [.str [45, 114], vi a0.f_Command.f_Retries, .own 7 0] [some (22, [.row 4420]), some (9, [.rowc false (α := List UInt8) [] E_string r19])] ⟨[(1000000, 7), (1010000, 4420)], [(200, 4420), (1000000, 7)], [.str [45, 114], vi a0.f_Command.f_Retries, .own 1000000 0], [(1000000, 22, [.row 1010000]), (1010000, 9, [.rowc false (α := List UInt8) [] E_string r19])], .tup [], [(200, 9, [.rowc false (α := List UInt8) [] E_string r20]), (1000000, 22, [.row 200])]⟩]) (by kernel_rfl) (AllP.cons (⟨(ok_script_write_1__o0 n [45, 114] a0.f_Command.f_Retries r19 _ hr20), by kernel_rfl, by kernel_rfl⟩) AllP.nil) ?_
                  refine To.thenN (Wp.seq ?_)
                  obtain ⟨u21, h⟩ := chk_of h
                  refine Wp.region hΓ [(1, [4420])] [(1, .str (Lib.join r20 ([32] : List UInt8)))] [] [2] [] (K' := [(2, .str (Lib.join r20 ([32] : List UInt8)))]) (L' := []) (ob := [(true = true → CX Tryd.prog 44 [ls r20, .str [32]] (.str (Lib.join r20 ([32] : List UInt8))))]) (by kernel_rfl) (AllP.cons (fun _ => cx (Sh.join44 u21)) AllP.nil) ?_
                  refine To.thenN ?_
                  refine Wp.ret ?_
                  refine To.keep (kk := [2]) (kl := []) (K' := [(2, .str (Lib.join r20 ([32] : List UInt8)))]) (L' := []) (by kernel_rfl) (by kernel_rfl) ?_
                  cases h
                  exact To.done hΓ (by kernel_rfl)
def slices_Equal_string_string_l1 (n : Nat) (v0 : List (List UInt8)) (v1 : List (List UInt8)) (v12 : Int) : Nat → Int → Option (Sum (Unit) (Bool))
  | 0, _ => none
  | k + 1, v13 => if (decide (v13 < v12)) = true then (if (decide (0 ≤ v13 ∧ v13 < (List.length v0 : Int))) = true then (if (decide (0 ≤ v13 ∧ v13 < (List.length v1 : Int))) = true then (if (!(((v0)[Int.toNat v13]?.getD []) == ((v1)[Int.toNat v13]?.getD []))) = true then (some (.inr false))
  else (slices_Equal_string_string_l1 n v0 v1 v12 k (IntKind.wrap .i64 (v13 + 1)))) else none) else none)
  else (some (.inl ()))
theorem ok_slices_Equal_string_string_l1 (n : Nat) (v0 : List (List UInt8)) (v1 : List (List UInt8)) (v12 : Int) {F0 : Fz} {w0 : Pt Tryd.prog} {Q : Exit → Act → World → Prop} (k : Nat) : ∀ (v13 : Int) (o : Sum (Unit) (Bool)), slices_Equal_string_string_l1 n v0 v1 v12 k v13 = some o → (Sum.elim (fun s => To 26 F0 w0 [] [] (.exit 0) Q) (fun s => To 26 F0 w0 [(4, vb s)] [] .ret Q)) o → WL Tryd.prog 26 F0 w0 [(0, ls v0), (1, ls v1), (12, vi v12), (13, vi v13)] [] (cI (cI (cB (cA (cB (cB (cF Tryd.f22))))))) Q := by
  induction k with
  | zero => intro v13 o h; cases h
  | succ k ih =>
    intro v13 o h hQ
    rw [slices_Equal_string_string_l1] at h
    refine WL.round ?_
    refine Wp.seq ?_
    refine rg [0, 1, 12, 13, 14] [] (K' := [(0, ls v0), (1, ls v1), (12, vi v12), (13, vi v13), (14, vb (decide (v13 < v12)))]) (L' := []) (by kernel_rfl) ?_
    refine To.thenN (Wp.seq ?_)
    refine Wp.cond (b := (decide (v13 < v12))) (by kernel_rfl) (fun hb => ?_) (fun hb => ?_)
    · replace h := if_t hb h
      refine Wp.skip (To.thenN (Wp.seq (Wp.block (Wp.seq ?_))))
      refine rg [0, 1, 5, 12, 13] [] (K' := [(0, ls v0), (1, ls v1), (5, vi v13), (12, vi v12), (13, vi v13)]) (L' := []) (by kernel_rfl) ?_
      refine To.thenN (Wp.seq ?_)
      obtain ⟨hc1, h⟩ := chk_of h
      obtain ⟨hc2, h⟩ := chk_of h
      refine Wp.regionD hm hΓ [] [0, 1, 12, 13, 24] [] (K' := [(0, ls v0), (1, ls v1), (12, vi v12), (13, vi v13), (24, vb (!(((v0)[Int.toNat v13]?.getD []) == ((v1)[Int.toNat v13]?.getD []))))]) (L' := []) (ob := [(decide (0 ≤ v13 ∧ v13 < (List.length v0 : Int))) = true, (decide (0 ≤ v13 ∧ v13 < (List.length v1 : Int))) = true]) (by kernel_rfl) (AllP.cons hc1 (AllP.cons hc2 AllP.nil)) ?_
      refine To.thenN ?_
      refine Wp.cond (b := (!(((v0)[Int.toNat v13]?.getD []) == ((v1)[Int.toNat v13]?.getD [])))) (by kernel_rfl) (fun hb => ?_) (fun hb => ?_)
      · replace h := if_t hb h
        refine Wp.seq ?_
        refine rg [4] [] (K' := [(4, vb false)]) (L' := []) (by kernel_rfl) ?_
        refine To.thenN ?_
        refine Wp.ret ?_
        refine To.blockR ?_
        refine To.thenR ?_
        refine To.thenR ?_
        refine To.keep (kk := [4]) (kl := []) (K' := [(4, vb false)]) (L' := []) (by kernel_rfl) (by kernel_rfl) ?_
        cases h
        exact hQ
      · replace h := if_f hb h
        refine Wp.skip ?_
        refine To.blockN ?_
        refine To.thenN ?_
        refine rg [0, 1, 12, 13] [] (K' := [(0, ls v0), (1, ls v1), (12, vi v12), (13, vi (IntKind.wrap .i64 (v13 + 1)))]) (L' := []) (by kernel_rfl) ?_
        refine To.keep (kk := [0, 1, 12, 13]) (kl := []) (K' := [(0, ls v0), (1, ls v1), (12, vi v12), (13, vi (IntKind.wrap .i64 (v13 + 1)))]) (L' := []) (by kernel_rfl) (by kernel_rfl) ?_
        refine To.again ?_
        exact ih (IntKind.wrap .i64 (v13 + 1)) _ h hQ
    · replace h := if_f hb h
      refine Wp.exit ?_
      refine To.thenX ?_
      refine To.thenX ?_
      refine To.keep (kk := []) (kl := []) (K' := []) (L' := []) (by kernel_rfl) (by kernel_rfl) ?_
      cases h
      exact hQ
def slices_Equal_string_string (n : Nat) (a0 : List (List UInt8)) (a1 : List (List UInt8)) : Option (Bool) :=
  if ((List.length a0 : Int) != (List.length a1 : Int)) = true then some false
  else ((slices_Equal_string_string_l1 n a0 a1 (List.length a0 : Int) n 0).bind fun o1 =>
  (Sum.elim (fun o1 => some true) (fun o1 => some o1)) o1)
theorem ok_slices_Equal_string_string (n : Nat) (a0 : List (List UInt8)) (a1 : List (List UInt8)) (r : Bool) (h : slices_Equal_string_string n a0 a1 = some r) : CallsX Tryd.prog 22 [ls a0, ls a1] (vb r) := by
  unfold slices_Equal_string_string at h
  refine callsX_of (fn := Tryd.f22) (by kernel_rfl) rfl (by kernel_rfl) (Nat.le_of_ble_eq_true (by kernel_rfl)) fun F0 w0 _ => ?_
  refine Wp.keep (kk := [0, 1]) (kl := []) (K' := [(0, ls a0), (1, ls a1)]) (L' := []) (by kernel_rfl) (by kernel_rfl) ?_
  refine Wp.seq ?_
  refine rg [0, 1] [] (K' := [(0, ls a0), (1, ls a1)]) (L' := []) (by kernel_rfl) ?_
  refine To.thenN (Wp.seq (Wp.seq ?_))
  refine rg [0, 1, 10] [] (K' := [(0, ls a0), (1, ls a1), (10, vb ((List.length a0 : Int) != (List.length a1 : Int)))]) (L' := []) (by kernel_rfl) ?_
  refine To.thenN ?_
  refine Wp.cond (b := ((List.length a0 : Int) != (List.length a1 : Int))) (by kernel_rfl) (fun hb => ?_) (fun hb => ?_)
  · replace h := if_t hb h
    refine Wp.seq ?_
    refine rg [4] [] (K' := [(4, vb false)]) (L' := []) (by kernel_rfl) ?_
    refine To.thenN ?_
    refine Wp.ret ?_
    refine To.thenR ?_
    refine To.keep (kk := [4]) (kl := []) (K' := [(4, vb false)]) (L' := []) (by kernel_rfl) (by kernel_rfl) ?_
    cases h
    exact To.done hΓ (by kernel_rfl)
  · replace h := if_f hb h
    refine Wp.skip (To.thenN (Wp.seq (Wp.seq ?_)))
    refine rg [0, 1, 12, 13] [] (K' := [(0, ls a0), (1, ls a1), (12, vi (List.length a0 : Int)), (13, vi 0)]) (L' := []) (by kernel_rfl) ?_
    refine To.thenN (Wp.block ?_)
    obtain ⟨o1, ho1, h⟩ := bind_of h
    refine Wp.keep (kk := [0, 1, 12, 13]) (kl := []) (K' := [(0, ls a0), (1, ls a1), (12, vi (List.length a0 : Int)), (13, vi 0)]) (L' := []) (by kernel_rfl) (by kernel_rfl) ?_
    refine Wp.loopL ?_
    refine ok_slices_Equal_string_string_l1 n a0 a1 (List.length a0 : Int) n 0 o1 ho1 ?_
    rcases o1 with o1 | o1
    · replace h := sum_l h
      refine To.blockX ?_
      refine To.thenN (Wp.seq ?_)
      refine rg [4] [] (K' := [(4, vb true)]) (L' := []) (by kernel_rfl) ?_
      refine To.thenN ?_
      refine Wp.ret ?_
      refine To.keep (kk := [4]) (kl := []) (K' := [(4, vb true)]) (L' := []) (by kernel_rfl) (by kernel_rfl) ?_
      cases h
      exact To.done hΓ (by kernel_rfl)
    · replace h := sum_r h
      refine To.blockR ?_
      refine To.thenR ?_
      refine To.keep (kk := [4]) (kl := []) (K' := [(4, vb o1)]) (L' := []) (by kernel_rfl) (by kernel_rfl) ?_
      cases h
      exact To.done hΓ (by kernel_rfl)
def E_api_Spec : S_api_Spec → List D := fun x => [.str x.f_Name, .str x.f_Project, .str x.f_Service, .val (.int .i64 x.f_Number), .str x.f_Hash, .recs (α := List UInt8) [] E_string x.f_Nets, .recs (α := List UInt8) [] E_string x.f_Vols, .str x.f_Health.f_Test, .val (.int .i64 x.f_Health.f_Every), .val (.int .i64 x.f_Health.f_Start), .val (.int .i64 x.f_Health.f_Retries), .val (.int .i64 x.f_Restart), .val (.int .i64 x.f_Tries)]
def script_Same (n : Nat) (a0 : S_ref45_Step) (a1 : S_ref45_Step) : Option (Bool) :=
  ((if ((bif (bif (bif (bif (bif (bif (bif (bif (a0.f_Kind != a1.f_Kind) then true else (a0.f_N != a1.f_N)) then true else (a0.f_M != a1.f_M)) then true else (a0.f_Command.f_Kind != a1.f_Command.f_Kind)) then true else (a0.f_Command.f_Count != a1.f_Command.f_Count)) then true else (!(a0.f_Command.f_Orphans == a1.f_Command.f_Orphans))) then true else (!(a0.f_Command.f_Volumes == a1.f_Command.f_Volumes))) then true else (a0.f_Command.f_Timeout != a1.f_Command.f_Timeout)) then true else (a0.f_Command.f_Retries != a1.f_Command.f_Retries)) == false) = true then slices_Equal_string_string n a0.f_Command.f_Services a1.f_Command.f_Services else some false)).bind fun r1 =>
  lett ((bif (bif (bif (bif (bif (bif (bif (bif (bif (a0.f_Kind != a1.f_Kind) then true else (a0.f_N != a1.f_N)) then true else (a0.f_M != a1.f_M)) then true else (a0.f_Command.f_Kind != a1.f_Command.f_Kind)) then true else (a0.f_Command.f_Count != a1.f_Command.f_Count)) then true else (!(a0.f_Command.f_Orphans == a1.f_Command.f_Orphans))) then true else (!(a0.f_Command.f_Volumes == a1.f_Command.f_Volumes))) then true else (a0.f_Command.f_Timeout != a1.f_Command.f_Timeout)) then true else (a0.f_Command.f_Retries != a1.f_Command.f_Retries)) then true else (!r1)) : Bool) fun x2 =>
  if x2 = true then some false
  else (((if ((bif (bif (bif (bif (bif (bif (bif (a0.f_Call.f_Kind == a1.f_Call.f_Kind) then (a0.f_Call.f_Name == a1.f_Call.f_Name) else false) then (a0.f_Call.f_Id == a1.f_Call.f_Id) else false) then (a0.f_Call.f_Spec.f_Name == a1.f_Call.f_Spec.f_Name) else false) then (a0.f_Call.f_Spec.f_Project == a1.f_Call.f_Spec.f_Project) else false) then (a0.f_Call.f_Spec.f_Service == a1.f_Call.f_Spec.f_Service) else false) then (a0.f_Call.f_Spec.f_Number == a1.f_Call.f_Spec.f_Number) else false) then (a0.f_Call.f_Spec.f_Hash == a1.f_Call.f_Spec.f_Hash) else false) == true) = true then slices_Equal_string_string n a0.f_Call.f_Spec.f_Nets a1.f_Call.f_Spec.f_Nets else some false)).bind fun r3 =>
  ((if ((bif (bif (bif (bif (bif (bif (bif (bif (a0.f_Call.f_Kind == a1.f_Call.f_Kind) then (a0.f_Call.f_Name == a1.f_Call.f_Name) else false) then (a0.f_Call.f_Id == a1.f_Call.f_Id) else false) then (a0.f_Call.f_Spec.f_Name == a1.f_Call.f_Spec.f_Name) else false) then (a0.f_Call.f_Spec.f_Project == a1.f_Call.f_Spec.f_Project) else false) then (a0.f_Call.f_Spec.f_Service == a1.f_Call.f_Spec.f_Service) else false) then (a0.f_Call.f_Spec.f_Number == a1.f_Call.f_Spec.f_Number) else false) then (a0.f_Call.f_Spec.f_Hash == a1.f_Call.f_Spec.f_Hash) else false) then r3 else false) == true) = true then slices_Equal_string_string n a0.f_Call.f_Spec.f_Vols a1.f_Call.f_Spec.f_Vols else some false)).bind fun r4 =>
  lett ((bif (bif (bif (bif (bif (bif (bif (bif (bif (bif (bif (bif (a0.f_Call.f_Kind == a1.f_Call.f_Kind) then (a0.f_Call.f_Name == a1.f_Call.f_Name) else false) then (a0.f_Call.f_Id == a1.f_Call.f_Id) else false) then (a0.f_Call.f_Spec.f_Name == a1.f_Call.f_Spec.f_Name) else false) then (a0.f_Call.f_Spec.f_Project == a1.f_Call.f_Spec.f_Project) else false) then (a0.f_Call.f_Spec.f_Service == a1.f_Call.f_Spec.f_Service) else false) then (a0.f_Call.f_Spec.f_Number == a1.f_Call.f_Spec.f_Number) else false) then (a0.f_Call.f_Spec.f_Hash == a1.f_Call.f_Spec.f_Hash) else false) then r3 else false) then r4 else false) then ((a0.f_Call.f_Spec.f_Health.f_Test == a1.f_Call.f_Spec.f_Health.f_Test) && ((a0.f_Call.f_Spec.f_Health.f_Every == a1.f_Call.f_Spec.f_Health.f_Every) && ((a0.f_Call.f_Spec.f_Health.f_Start == a1.f_Call.f_Spec.f_Health.f_Start) && (a0.f_Call.f_Spec.f_Health.f_Retries == a1.f_Call.f_Spec.f_Health.f_Retries)))) else false) then (a0.f_Call.f_Spec.f_Restart == a1.f_Call.f_Spec.f_Restart) else false) then (a0.f_Call.f_Spec.f_Tries == a1.f_Call.f_Spec.f_Tries) else false) : Bool) fun x5 =>
  some x5)
theorem ok_script_Same (n : Nat) (a0 : S_ref45_Step) (a1 : S_ref45_Step) (r : Bool) (h : script_Same n a0 a1 = some r) : CallsX Tryd.prog 10 [.agg [vi a0.f_Kind, vi a0.f_N, vi a0.f_M, vi a0.f_Command.f_Kind, ls a0.f_Command.f_Services, vi a0.f_Command.f_Count, vb a0.f_Command.f_Orphans, vb a0.f_Command.f_Volumes, vi a0.f_Command.f_Timeout, vi a0.f_Command.f_Retries, vi a0.f_Call.f_Kind, .str a0.f_Call.f_Name, vi a0.f_Call.f_Id, .str a0.f_Call.f_Spec.f_Name, .str a0.f_Call.f_Spec.f_Project, .str a0.f_Call.f_Spec.f_Service, vi a0.f_Call.f_Spec.f_Number, .str a0.f_Call.f_Spec.f_Hash, ls a0.f_Call.f_Spec.f_Nets, ls a0.f_Call.f_Spec.f_Vols, .str a0.f_Call.f_Spec.f_Health.f_Test, vi a0.f_Call.f_Spec.f_Health.f_Every, vi a0.f_Call.f_Spec.f_Health.f_Start, vi a0.f_Call.f_Spec.f_Health.f_Retries, vi a0.f_Call.f_Spec.f_Restart, vi a0.f_Call.f_Spec.f_Tries], .agg [vi a1.f_Kind, vi a1.f_N, vi a1.f_M, vi a1.f_Command.f_Kind, ls a1.f_Command.f_Services, vi a1.f_Command.f_Count, vb a1.f_Command.f_Orphans, vb a1.f_Command.f_Volumes, vi a1.f_Command.f_Timeout, vi a1.f_Command.f_Retries, vi a1.f_Call.f_Kind, .str a1.f_Call.f_Name, vi a1.f_Call.f_Id, .str a1.f_Call.f_Spec.f_Name, .str a1.f_Call.f_Spec.f_Project, .str a1.f_Call.f_Spec.f_Service, vi a1.f_Call.f_Spec.f_Number, .str a1.f_Call.f_Spec.f_Hash, ls a1.f_Call.f_Spec.f_Nets, ls a1.f_Call.f_Spec.f_Vols, .str a1.f_Call.f_Spec.f_Health.f_Test, vi a1.f_Call.f_Spec.f_Health.f_Every, vi a1.f_Call.f_Spec.f_Health.f_Start, vi a1.f_Call.f_Spec.f_Health.f_Retries, vi a1.f_Call.f_Spec.f_Restart, vi a1.f_Call.f_Spec.f_Tries]] (vb r) := by
  unfold script_Same at h
  refine callsX_of (fn := Tryd.f10) (by kernel_rfl) rfl (by kernel_rfl) (Nat.le_of_ble_eq_true (by kernel_rfl)) fun F0 w0 _ => ?_
  refine Wp.keep (kk := [0, 1]) (kl := []) (K' := [(0, .agg (E_script_Step a0)), (1, .agg (E_script_Step a1))]) (L' := []) (by kernel_rfl) (by kernel_rfl) ?_
  refine Wp.seq ?_
  refine rg [2, 3] [2, 3] (K' := [(2, .own 2 0), (3, .own 3 0)]) (L' := [(2, 36, (E_script_Step a0)), (3, 36, (E_script_Step a1))]) (by kernel_rfl) ?_
  refine To.thenN (Wp.seq ?_)
  refine Wp.regionD hm hΓ [] [2, 3, 5, 6] [2, 3, 5, 6] (K' := [(2, .own 2 0), (3, .own 3 0), (5, .own 5 0), (6, .own 6 0)]) (L' := [(2, 36, (E_script_Step a0)), (3, 36, (E_script_Step a1)), (5, 24, (E_api_Command a0.f_Command)), (6, 24, (E_api_Command a1.f_Command))]) (ob := []) (by kernel_rfl) AllP.nil ?_
  refine To.thenN (Wp.seq (Wp.seq ?_))
  obtain ⟨r1, hr1, h⟩ := bind_of h
  obtain ⟨x2, hx2, h⟩ := lett_of h
  refine Wp.region hΓ [] [(66, vb r1)] [] [2, 3, 83] [2, 3] (K' := [(2, .own 2 0), (3, .own 3 0), (83, vb (bif (bif (bif (bif (bif (bif (bif (bif (bif (a0.f_Kind != a1.f_Kind) then true else (a0.f_N != a1.f_N)) then true else (a0.f_M != a1.f_M)) then true else (a0.f_Command.f_Kind != a1.f_Command.f_Kind)) then true else (a0.f_Command.f_Count != a1.f_Command.f_Count)) then true else (!(a0.f_Command.f_Orphans == a1.f_Command.f_Orphans))) then true else (!(a0.f_Command.f_Volumes == a1.f_Command.f_Volumes))) then true else (a0.f_Command.f_Timeout != a1.f_Command.f_Timeout)) then true else (a0.f_Command.f_Retries != a1.f_Command.f_Retries)) then true else (!r1)))]) (L' := [(2, 36, (E_script_Step a0)), (3, 36, (E_script_Step a1))]) (ob := [(((bif (bif (bif (bif (bif (bif (bif (bif (a0.f_Kind != a1.f_Kind) then true else (a0.f_N != a1.f_N)) then true else (a0.f_M != a1.f_M)) then true else (a0.f_Command.f_Kind != a1.f_Command.f_Kind)) then true else (a0.f_Command.f_Count != a1.f_Command.f_Count)) then true else (!(a0.f_Command.f_Orphans == a1.f_Command.f_Orphans))) then true else (!(a0.f_Command.f_Volumes == a1.f_Command.f_Volumes))) then true else (a0.f_Command.f_Timeout != a1.f_Command.f_Timeout)) then true else (a0.f_Command.f_Retries != a1.f_Command.f_Retries)) == false) = true → CX Tryd.prog 22 [ls a0.f_Command.f_Services, ls a1.f_Command.f_Services] (vb r1))]) (by kernel_rfl) (AllP.cons (fun hg => cx (ok_slices_Equal_string_string n a0.f_Command.f_Services a1.f_Command.f_Services _ (if_t hg hr1))) AllP.nil) ?_
  refine To.eq (K' := [(2, .own 2 0), (3, .own 3 0), (83, vb x2)]) (L' := [(2, 36, (E_script_Step a0)), (3, 36, (E_script_Step a1))]) (by cases hx2; rfl) (by cases hx2; rfl) ?_
  refine To.thenN ?_
  refine Wp.cond (b := x2) (by kernel_rfl) (fun hb => ?_) (fun hb => ?_)
  · replace h := if_t hb h
    refine Wp.seq ?_
    refine rg [4] [] (K' := [(4, vb false)]) (L' := []) (by kernel_rfl) ?_
    refine To.thenN ?_
    refine Wp.ret ?_
    refine To.thenR ?_
    refine To.keep (kk := [4]) (kl := []) (K' := [(4, vb false)]) (L' := []) (by kernel_rfl) (by kernel_rfl) ?_
    cases h
    exact To.done hΓ (by kernel_rfl)
  · replace h := if_f hb h
    refine Wp.skip (To.thenN (Wp.seq ?_))
    refine Wp.regionD hm hΓ [] [7, 8] [7, 8] (K' := [(7, .own 7 0), (8, .own 8 0)]) (L' := [(7, 30, (E_api_Call a0.f_Call)), (8, 30, (E_api_Call a1.f_Call))]) (ob := []) (by kernel_rfl) AllP.nil ?_
    refine To.thenN (Wp.seq ?_)
    refine Wp.regionD hm hΓ [] [7, 8, 9, 10] [7, 8, 9, 10] (K' := [(7, .own 7 0), (8, .own 8 0), (9, .own 9 0), (10, .own 10 0)]) (L' := [(7, 30, (E_api_Call a0.f_Call)), (8, 30, (E_api_Call a1.f_Call)), (9, 28, (E_api_Spec a0.f_Call.f_Spec)), (10, 28, (E_api_Spec a1.f_Call.f_Spec))]) (ob := []) (by kernel_rfl) AllP.nil ?_
    refine To.thenN (Wp.seq ?_)
    obtain ⟨r3, hr3, h⟩ := bind_of h
    obtain ⟨r4, hr4, h⟩ := bind_of h
    obtain ⟨x5, hx5, h⟩ := lett_of h
    refine Wp.region hΓ [] [(59, vb r3), (66, vb r4)] [] [4] [] (K' := [(4, vb (bif (bif (bif (bif (bif (bif (bif (bif (bif (bif (bif (bif (a0.f_Call.f_Kind == a1.f_Call.f_Kind) then (a0.f_Call.f_Name == a1.f_Call.f_Name) else false) then (a0.f_Call.f_Id == a1.f_Call.f_Id) else false) then (a0.f_Call.f_Spec.f_Name == a1.f_Call.f_Spec.f_Name) else false) then (a0.f_Call.f_Spec.f_Project == a1.f_Call.f_Spec.f_Project) else false) then (a0.f_Call.f_Spec.f_Service == a1.f_Call.f_Spec.f_Service) else false) then (a0.f_Call.f_Spec.f_Number == a1.f_Call.f_Spec.f_Number) else false) then (a0.f_Call.f_Spec.f_Hash == a1.f_Call.f_Spec.f_Hash) else false) then r3 else false) then r4 else false) then ((a0.f_Call.f_Spec.f_Health.f_Test == a1.f_Call.f_Spec.f_Health.f_Test) && ((a0.f_Call.f_Spec.f_Health.f_Every == a1.f_Call.f_Spec.f_Health.f_Every) && ((a0.f_Call.f_Spec.f_Health.f_Start == a1.f_Call.f_Spec.f_Health.f_Start) && (a0.f_Call.f_Spec.f_Health.f_Retries == a1.f_Call.f_Spec.f_Health.f_Retries)))) else false) then (a0.f_Call.f_Spec.f_Restart == a1.f_Call.f_Spec.f_Restart) else false) then (a0.f_Call.f_Spec.f_Tries == a1.f_Call.f_Spec.f_Tries) else false))]) (L' := []) (ob := [(((bif (bif (bif (bif (bif (bif (bif (a0.f_Call.f_Kind == a1.f_Call.f_Kind) then (a0.f_Call.f_Name == a1.f_Call.f_Name) else false) then (a0.f_Call.f_Id == a1.f_Call.f_Id) else false) then (a0.f_Call.f_Spec.f_Name == a1.f_Call.f_Spec.f_Name) else false) then (a0.f_Call.f_Spec.f_Project == a1.f_Call.f_Spec.f_Project) else false) then (a0.f_Call.f_Spec.f_Service == a1.f_Call.f_Spec.f_Service) else false) then (a0.f_Call.f_Spec.f_Number == a1.f_Call.f_Spec.f_Number) else false) then (a0.f_Call.f_Spec.f_Hash == a1.f_Call.f_Spec.f_Hash) else false) == true) = true → CX Tryd.prog 22 [ls a0.f_Call.f_Spec.f_Nets, ls a1.f_Call.f_Spec.f_Nets] (vb r3)), (((bif (bif (bif (bif (bif (bif (bif (bif (a0.f_Call.f_Kind == a1.f_Call.f_Kind) then (a0.f_Call.f_Name == a1.f_Call.f_Name) else false) then (a0.f_Call.f_Id == a1.f_Call.f_Id) else false) then (a0.f_Call.f_Spec.f_Name == a1.f_Call.f_Spec.f_Name) else false) then (a0.f_Call.f_Spec.f_Project == a1.f_Call.f_Spec.f_Project) else false) then (a0.f_Call.f_Spec.f_Service == a1.f_Call.f_Spec.f_Service) else false) then (a0.f_Call.f_Spec.f_Number == a1.f_Call.f_Spec.f_Number) else false) then (a0.f_Call.f_Spec.f_Hash == a1.f_Call.f_Spec.f_Hash) else false) then r3 else false) == true) = true → CX Tryd.prog 22 [ls a0.f_Call.f_Spec.f_Vols, ls a1.f_Call.f_Spec.f_Vols] (vb r4))]) (by kernel_rfl) (AllP.cons (fun hg => cx (ok_slices_Equal_string_string n a0.f_Call.f_Spec.f_Nets a1.f_Call.f_Spec.f_Nets _ (if_t hg hr3))) (AllP.cons (fun hg => cx (ok_slices_Equal_string_string n a0.f_Call.f_Spec.f_Vols a1.f_Call.f_Spec.f_Vols _ (if_t hg hr4))) AllP.nil)) ?_
    refine To.eq (K' := [(4, vb x5)]) (L' := []) (by cases hx5; rfl) (by cases hx5; rfl) ?_
    refine To.thenN ?_
    refine Wp.ret ?_
    refine To.keep (kk := [4]) (kl := []) (K' := [(4, vb x5)]) (L' := []) (by kernel_rfl) (by kernel_rfl) ?_
    cases h
    exact To.done hΓ (by kernel_rfl)
def script_Text (n : Nat) (a0 : S_ref45_Step) : Option ((List UInt8)) :=
  (script_write n a0).bind fun r1 =>
  (script_Line n r1).bind fun r2 =>
  ((if ((r2.2 != 0) == false) = true then script_Same n a0 r2.1 else some false)).bind fun r3 =>
  if (bif (r2.2 != 0) then true else (!r3)) = true then (some [])
  else some r1
theorem ok_script_Text (n : Nat) (a0 : S_ref45_Step) (r : (List UInt8)) (h : script_Text n a0 = some r) : CallsX Tryd.prog 8 [.agg [vi a0.f_Kind, vi a0.f_N, vi a0.f_M, vi a0.f_Command.f_Kind, ls a0.f_Command.f_Services, vi a0.f_Command.f_Count, vb a0.f_Command.f_Orphans, vb a0.f_Command.f_Volumes, vi a0.f_Command.f_Timeout, vi a0.f_Command.f_Retries, vi a0.f_Call.f_Kind, .str a0.f_Call.f_Name, vi a0.f_Call.f_Id, .str a0.f_Call.f_Spec.f_Name, .str a0.f_Call.f_Spec.f_Project, .str a0.f_Call.f_Spec.f_Service, vi a0.f_Call.f_Spec.f_Number, .str a0.f_Call.f_Spec.f_Hash, ls a0.f_Call.f_Spec.f_Nets, ls a0.f_Call.f_Spec.f_Vols, .str a0.f_Call.f_Spec.f_Health.f_Test, vi a0.f_Call.f_Spec.f_Health.f_Every, vi a0.f_Call.f_Spec.f_Health.f_Start, vi a0.f_Call.f_Spec.f_Health.f_Retries, vi a0.f_Call.f_Spec.f_Restart, vi a0.f_Call.f_Spec.f_Tries]] (.str r) := by
  unfold script_Text at h
  refine callsX_of (fn := Tryd.f8) (by kernel_rfl) rfl (by kernel_rfl) (Nat.le_of_ble_eq_true (by kernel_rfl)) fun F0 w0 _ => ?_
  refine Wp.keep (kk := [0]) (kl := []) (K' := [(0, .agg (E_script_Step a0))]) (L' := []) (by kernel_rfl) (by kernel_rfl) ?_
  refine Wp.seq ?_
  refine rg [1] [1] (K' := [(1, .own 1 0)]) (L' := [(1, 36, (E_script_Step a0))]) (by kernel_rfl) ?_
  refine To.thenN (Wp.seq ?_)
  obtain ⟨r1, hr1, h⟩ := bind_of h
  refine Wp.region hΓ [] [(1, .str r1)] [] [1, 3] [1] (K' := [(1, .own 1 0), (3, .str r1)]) (L' := [(1, 36, (E_script_Step a0))]) (ob := [(true = true → CX Tryd.prog 20 [.agg [vi a0.f_Kind, vi a0.f_N, vi a0.f_M, vi a0.f_Command.f_Kind, ls a0.f_Command.f_Services, vi a0.f_Command.f_Count, vb a0.f_Command.f_Orphans, vb a0.f_Command.f_Volumes, vi a0.f_Command.f_Timeout, vi a0.f_Command.f_Retries, vi a0.f_Call.f_Kind, .str a0.f_Call.f_Name, vi a0.f_Call.f_Id, .str a0.f_Call.f_Spec.f_Name, .str a0.f_Call.f_Spec.f_Project, .str a0.f_Call.f_Spec.f_Service, vi a0.f_Call.f_Spec.f_Number, .str a0.f_Call.f_Spec.f_Hash, ls a0.f_Call.f_Spec.f_Nets, ls a0.f_Call.f_Spec.f_Vols, .str a0.f_Call.f_Spec.f_Health.f_Test, vi a0.f_Call.f_Spec.f_Health.f_Every, vi a0.f_Call.f_Spec.f_Health.f_Start, vi a0.f_Call.f_Spec.f_Health.f_Retries, vi a0.f_Call.f_Spec.f_Restart, vi a0.f_Call.f_Spec.f_Tries]] (.str r1))]) (by kernel_rfl) (AllP.cons (fun _ => cx (ok_script_write n a0 _ hr1)) AllP.nil) ?_
  refine To.thenN (Wp.seq (Wp.seq ?_))
  obtain ⟨r2, hr2, h⟩ := bind_of h
  refine Wp.region hΓ [] [(1, .tup [.agg [vi r2.1.f_Kind, vi r2.1.f_N, vi r2.1.f_M, vi r2.1.f_Command.f_Kind, ls r2.1.f_Command.f_Services, vi r2.1.f_Command.f_Count, vb r2.1.f_Command.f_Orphans, vb r2.1.f_Command.f_Volumes, vi r2.1.f_Command.f_Timeout, vi r2.1.f_Command.f_Retries, vi r2.1.f_Call.f_Kind, .str r2.1.f_Call.f_Name, vi r2.1.f_Call.f_Id, .str r2.1.f_Call.f_Spec.f_Name, .str r2.1.f_Call.f_Spec.f_Project, .str r2.1.f_Call.f_Spec.f_Service, vi r2.1.f_Call.f_Spec.f_Number, .str r2.1.f_Call.f_Spec.f_Hash, ls r2.1.f_Call.f_Spec.f_Nets, ls r2.1.f_Call.f_Spec.f_Vols, .str r2.1.f_Call.f_Spec.f_Health.f_Test, vi r2.1.f_Call.f_Spec.f_Health.f_Every, vi r2.1.f_Call.f_Spec.f_Health.f_Start, vi r2.1.f_Call.f_Spec.f_Health.f_Retries, vi r2.1.f_Call.f_Spec.f_Restart, vi r2.1.f_Call.f_Spec.f_Tries], vi r2.2])] [] [1, 3, 4, 5] [1, 4] (K' := [(1, .own 1 0), (3, .str r1), (4, .own 4 0), (5, vi r2.2)]) (L' := [(1, 36, (E_script_Step a0)), (4, 36, (E_script_Step r2.1))]) (ob := [(true = true → CX Tryd.prog 13 [.str r1] (.tup [.agg [vi r2.1.f_Kind, vi r2.1.f_N, vi r2.1.f_M, vi r2.1.f_Command.f_Kind, ls r2.1.f_Command.f_Services, vi r2.1.f_Command.f_Count, vb r2.1.f_Command.f_Orphans, vb r2.1.f_Command.f_Volumes, vi r2.1.f_Command.f_Timeout, vi r2.1.f_Command.f_Retries, vi r2.1.f_Call.f_Kind, .str r2.1.f_Call.f_Name, vi r2.1.f_Call.f_Id, .str r2.1.f_Call.f_Spec.f_Name, .str r2.1.f_Call.f_Spec.f_Project, .str r2.1.f_Call.f_Spec.f_Service, vi r2.1.f_Call.f_Spec.f_Number, .str r2.1.f_Call.f_Spec.f_Hash, ls r2.1.f_Call.f_Spec.f_Nets, ls r2.1.f_Call.f_Spec.f_Vols, .str r2.1.f_Call.f_Spec.f_Health.f_Test, vi r2.1.f_Call.f_Spec.f_Health.f_Every, vi r2.1.f_Call.f_Spec.f_Health.f_Start, vi r2.1.f_Call.f_Spec.f_Health.f_Retries, vi r2.1.f_Call.f_Spec.f_Restart, vi r2.1.f_Call.f_Spec.f_Tries], vi r2.2]))]) (by kernel_rfl) (AllP.cons (fun _ => cx (ok_script_Line n r1 _ hr2)) AllP.nil) ?_
  refine To.thenN (Wp.seq ?_)
  obtain ⟨r3, hr3, h⟩ := bind_of h
  refine Wp.region hΓ [] [(5, vb r3)] [] [3, 20] [] (K' := [(3, .str r1), (20, vb (bif (r2.2 != 0) then true else (!r3)))]) (L' := []) (ob := [(((r2.2 != 0) == false) = true → CX Tryd.prog 10 [.agg [vi a0.f_Kind, vi a0.f_N, vi a0.f_M, vi a0.f_Command.f_Kind, ls a0.f_Command.f_Services, vi a0.f_Command.f_Count, vb a0.f_Command.f_Orphans, vb a0.f_Command.f_Volumes, vi a0.f_Command.f_Timeout, vi a0.f_Command.f_Retries, vi a0.f_Call.f_Kind, .str a0.f_Call.f_Name, vi a0.f_Call.f_Id, .str a0.f_Call.f_Spec.f_Name, .str a0.f_Call.f_Spec.f_Project, .str a0.f_Call.f_Spec.f_Service, vi a0.f_Call.f_Spec.f_Number, .str a0.f_Call.f_Spec.f_Hash, ls a0.f_Call.f_Spec.f_Nets, ls a0.f_Call.f_Spec.f_Vols, .str a0.f_Call.f_Spec.f_Health.f_Test, vi a0.f_Call.f_Spec.f_Health.f_Every, vi a0.f_Call.f_Spec.f_Health.f_Start, vi a0.f_Call.f_Spec.f_Health.f_Retries, vi a0.f_Call.f_Spec.f_Restart, vi a0.f_Call.f_Spec.f_Tries], .agg [vi r2.1.f_Kind, vi r2.1.f_N, vi r2.1.f_M, vi r2.1.f_Command.f_Kind, ls r2.1.f_Command.f_Services, vi r2.1.f_Command.f_Count, vb r2.1.f_Command.f_Orphans, vb r2.1.f_Command.f_Volumes, vi r2.1.f_Command.f_Timeout, vi r2.1.f_Command.f_Retries, vi r2.1.f_Call.f_Kind, .str r2.1.f_Call.f_Name, vi r2.1.f_Call.f_Id, .str r2.1.f_Call.f_Spec.f_Name, .str r2.1.f_Call.f_Spec.f_Project, .str r2.1.f_Call.f_Spec.f_Service, vi r2.1.f_Call.f_Spec.f_Number, .str r2.1.f_Call.f_Spec.f_Hash, ls r2.1.f_Call.f_Spec.f_Nets, ls r2.1.f_Call.f_Spec.f_Vols, .str r2.1.f_Call.f_Spec.f_Health.f_Test, vi r2.1.f_Call.f_Spec.f_Health.f_Every, vi r2.1.f_Call.f_Spec.f_Health.f_Start, vi r2.1.f_Call.f_Spec.f_Health.f_Retries, vi r2.1.f_Call.f_Spec.f_Restart, vi r2.1.f_Call.f_Spec.f_Tries]] (vb r3))]) (by kernel_rfl) (AllP.cons (fun hg => cx (ok_script_Same n a0 r2.1 _ (if_t hg hr3))) AllP.nil) ?_
  refine To.thenN ?_
  refine Wp.cond (b := (bif (r2.2 != 0) then true else (!r3))) (by kernel_rfl) (fun hb => ?_) (fun hb => ?_)
  · replace h := if_t hb h
    refine Wp.seq ?_
    refine rg [2] [] (K' := [(2, .str [])]) (L' := []) (by kernel_rfl) ?_
    refine To.thenN ?_
    refine Wp.ret ?_
    refine To.thenR ?_
    refine To.keep (kk := [2]) (kl := []) (K' := [(2, .str [])]) (L' := []) (by kernel_rfl) (by kernel_rfl) ?_
    cases h
    exact To.done hΓ (by kernel_rfl)
  · replace h := if_f hb h
    refine Wp.skip (To.thenN (Wp.seq ?_))
    refine rg [2] [] (K' := [(2, .str r1)]) (L' := []) (by kernel_rfl) ?_
    refine To.thenN ?_
    refine Wp.ret ?_
    refine To.keep (kk := [2]) (kl := []) (K' := [(2, .str r1)]) (L' := []) (by kernel_rfl) (by kernel_rfl) ?_
    cases h
    exact To.done hΓ (by kernel_rfl)
def law45_awake (n : Nat) : Option (Bool) :=
  (script_Line n [117, 112, 32, 48, 32, 119, 101, 98, 32, 45, 116, 32, 53, 48, 48]).bind fun r1 =>
  (script_Line n [117, 112, 32, 32, 48]).bind fun r2 =>
  ((if ((bif (bif (bif (bif (bif (r1.2 == 0) then (r1.1.f_Kind == 1) else false) then (r1.1.f_Command.f_Kind == 1) else false) then ((List.length r1.1.f_Command.f_Services : Int) == 1) else false) then (r1.1.f_Command.f_Timeout == 500) else false) then (r2.2 == 18) else false) == true) = true then script_Text n r1.1 else some [])).bind fun r3 =>
  lett ((bif (bif (bif (bif (bif (bif (r1.2 == 0) then (r1.1.f_Kind == 1) else false) then (r1.1.f_Command.f_Kind == 1) else false) then ((List.length r1.1.f_Command.f_Services : Int) == 1) else false) then (r1.1.f_Command.f_Timeout == 500) else false) then (r2.2 == 18) else false) then (r3 == [117, 112, 32, 48, 32, 119, 101, 98, 32, 45, 116, 32, 53, 48, 48]) else false) : Bool) fun x4 =>
  some x4
theorem ok_law45_awake (n : Nat) (r : Bool) (h : law45_awake n = some r) : CallsX Tryd.prog 7 [] (vb r) := by
  unfold law45_awake at h
  refine callsX_of (fn := Tryd.f7) (by kernel_rfl) rfl (by kernel_rfl) (Nat.le_of_ble_eq_true (by kernel_rfl)) fun F0 w0 _ => ?_
  refine Wp.keep (kk := []) (kl := []) (K' := []) (L' := []) (by kernel_rfl) (by kernel_rfl) ?_
  refine Wp.seq ?_
  refine rg [] [] (K' := []) (L' := []) (by kernel_rfl) ?_
  refine To.thenN (Wp.seq ?_)
  obtain ⟨r1, hr1, h⟩ := bind_of h
  refine Wp.region hΓ [] [(0, .tup [.agg [vi r1.1.f_Kind, vi r1.1.f_N, vi r1.1.f_M, vi r1.1.f_Command.f_Kind, ls r1.1.f_Command.f_Services, vi r1.1.f_Command.f_Count, vb r1.1.f_Command.f_Orphans, vb r1.1.f_Command.f_Volumes, vi r1.1.f_Command.f_Timeout, vi r1.1.f_Command.f_Retries, vi r1.1.f_Call.f_Kind, .str r1.1.f_Call.f_Name, vi r1.1.f_Call.f_Id, .str r1.1.f_Call.f_Spec.f_Name, .str r1.1.f_Call.f_Spec.f_Project, .str r1.1.f_Call.f_Spec.f_Service, vi r1.1.f_Call.f_Spec.f_Number, .str r1.1.f_Call.f_Spec.f_Hash, ls r1.1.f_Call.f_Spec.f_Nets, ls r1.1.f_Call.f_Spec.f_Vols, .str r1.1.f_Call.f_Spec.f_Health.f_Test, vi r1.1.f_Call.f_Spec.f_Health.f_Every, vi r1.1.f_Call.f_Spec.f_Health.f_Start, vi r1.1.f_Call.f_Spec.f_Health.f_Retries, vi r1.1.f_Call.f_Spec.f_Restart, vi r1.1.f_Call.f_Spec.f_Tries], vi r1.2])] [] [1, 2] [1] (K' := [(1, .own 1 0), (2, vi r1.2)]) (L' := [(1, 36, (E_script_Step r1.1))]) (ob := [(true = true → CX Tryd.prog 13 [.str [117, 112, 32, 48, 32, 119, 101, 98, 32, 45, 116, 32, 53, 48, 48]] (.tup [.agg [vi r1.1.f_Kind, vi r1.1.f_N, vi r1.1.f_M, vi r1.1.f_Command.f_Kind, ls r1.1.f_Command.f_Services, vi r1.1.f_Command.f_Count, vb r1.1.f_Command.f_Orphans, vb r1.1.f_Command.f_Volumes, vi r1.1.f_Command.f_Timeout, vi r1.1.f_Command.f_Retries, vi r1.1.f_Call.f_Kind, .str r1.1.f_Call.f_Name, vi r1.1.f_Call.f_Id, .str r1.1.f_Call.f_Spec.f_Name, .str r1.1.f_Call.f_Spec.f_Project, .str r1.1.f_Call.f_Spec.f_Service, vi r1.1.f_Call.f_Spec.f_Number, .str r1.1.f_Call.f_Spec.f_Hash, ls r1.1.f_Call.f_Spec.f_Nets, ls r1.1.f_Call.f_Spec.f_Vols, .str r1.1.f_Call.f_Spec.f_Health.f_Test, vi r1.1.f_Call.f_Spec.f_Health.f_Every, vi r1.1.f_Call.f_Spec.f_Health.f_Start, vi r1.1.f_Call.f_Spec.f_Health.f_Retries, vi r1.1.f_Call.f_Spec.f_Restart, vi r1.1.f_Call.f_Spec.f_Tries], vi r1.2]))]) (by kernel_rfl) (AllP.cons (fun _ => cx (ok_script_Line n [117, 112, 32, 48, 32, 119, 101, 98, 32, 45, 116, 32, 53, 48, 48] _ hr1)) AllP.nil) ?_
  refine To.thenN (Wp.seq ?_)
  obtain ⟨r2, hr2, h⟩ := bind_of h
  refine Wp.region hΓ [] [(0, .tup [.agg [vi r2.1.f_Kind, vi r2.1.f_N, vi r2.1.f_M, vi r2.1.f_Command.f_Kind, ls r2.1.f_Command.f_Services, vi r2.1.f_Command.f_Count, vb r2.1.f_Command.f_Orphans, vb r2.1.f_Command.f_Volumes, vi r2.1.f_Command.f_Timeout, vi r2.1.f_Command.f_Retries, vi r2.1.f_Call.f_Kind, .str r2.1.f_Call.f_Name, vi r2.1.f_Call.f_Id, .str r2.1.f_Call.f_Spec.f_Name, .str r2.1.f_Call.f_Spec.f_Project, .str r2.1.f_Call.f_Spec.f_Service, vi r2.1.f_Call.f_Spec.f_Number, .str r2.1.f_Call.f_Spec.f_Hash, ls r2.1.f_Call.f_Spec.f_Nets, ls r2.1.f_Call.f_Spec.f_Vols, .str r2.1.f_Call.f_Spec.f_Health.f_Test, vi r2.1.f_Call.f_Spec.f_Health.f_Every, vi r2.1.f_Call.f_Spec.f_Health.f_Start, vi r2.1.f_Call.f_Spec.f_Health.f_Retries, vi r2.1.f_Call.f_Spec.f_Restart, vi r2.1.f_Call.f_Spec.f_Tries], vi r2.2])] [] [1, 2, 4] [1] (K' := [(1, .own 1 0), (2, vi r1.2), (4, vi r2.2)]) (L' := [(1, 36, (E_script_Step r1.1))]) (ob := [(true = true → CX Tryd.prog 13 [.str [117, 112, 32, 32, 48]] (.tup [.agg [vi r2.1.f_Kind, vi r2.1.f_N, vi r2.1.f_M, vi r2.1.f_Command.f_Kind, ls r2.1.f_Command.f_Services, vi r2.1.f_Command.f_Count, vb r2.1.f_Command.f_Orphans, vb r2.1.f_Command.f_Volumes, vi r2.1.f_Command.f_Timeout, vi r2.1.f_Command.f_Retries, vi r2.1.f_Call.f_Kind, .str r2.1.f_Call.f_Name, vi r2.1.f_Call.f_Id, .str r2.1.f_Call.f_Spec.f_Name, .str r2.1.f_Call.f_Spec.f_Project, .str r2.1.f_Call.f_Spec.f_Service, vi r2.1.f_Call.f_Spec.f_Number, .str r2.1.f_Call.f_Spec.f_Hash, ls r2.1.f_Call.f_Spec.f_Nets, ls r2.1.f_Call.f_Spec.f_Vols, .str r2.1.f_Call.f_Spec.f_Health.f_Test, vi r2.1.f_Call.f_Spec.f_Health.f_Every, vi r2.1.f_Call.f_Spec.f_Health.f_Start, vi r2.1.f_Call.f_Spec.f_Health.f_Retries, vi r2.1.f_Call.f_Spec.f_Restart, vi r2.1.f_Call.f_Spec.f_Tries], vi r2.2]))]) (by kernel_rfl) (AllP.cons (fun _ => cx (ok_script_Line n [117, 112, 32, 32, 48] _ hr2)) AllP.nil) ?_
  refine To.thenN (Wp.seq ?_)
  obtain ⟨r3, hr3, h⟩ := bind_of h
  obtain ⟨x4, hx4, h⟩ := lett_of h
  refine Wp.region hΓ [] [(32, .str r3)] [] [0] [] (K' := [(0, vb (bif (bif (bif (bif (bif (bif (r1.2 == 0) then (r1.1.f_Kind == 1) else false) then (r1.1.f_Command.f_Kind == 1) else false) then ((List.length r1.1.f_Command.f_Services : Int) == 1) else false) then (r1.1.f_Command.f_Timeout == 500) else false) then (r2.2 == 18) else false) then (r3 == [117, 112, 32, 48, 32, 119, 101, 98, 32, 45, 116, 32, 53, 48, 48]) else false))]) (L' := []) (ob := [(((bif (bif (bif (bif (bif (r1.2 == 0) then (r1.1.f_Kind == 1) else false) then (r1.1.f_Command.f_Kind == 1) else false) then ((List.length r1.1.f_Command.f_Services : Int) == 1) else false) then (r1.1.f_Command.f_Timeout == 500) else false) then (r2.2 == 18) else false) == true) = true → CX Tryd.prog 8 [.agg [vi r1.1.f_Kind, vi r1.1.f_N, vi r1.1.f_M, vi r1.1.f_Command.f_Kind, ls r1.1.f_Command.f_Services, vi r1.1.f_Command.f_Count, vb r1.1.f_Command.f_Orphans, vb r1.1.f_Command.f_Volumes, vi r1.1.f_Command.f_Timeout, vi r1.1.f_Command.f_Retries, vi r1.1.f_Call.f_Kind, .str r1.1.f_Call.f_Name, vi r1.1.f_Call.f_Id, .str r1.1.f_Call.f_Spec.f_Name, .str r1.1.f_Call.f_Spec.f_Project, .str r1.1.f_Call.f_Spec.f_Service, vi r1.1.f_Call.f_Spec.f_Number, .str r1.1.f_Call.f_Spec.f_Hash, ls r1.1.f_Call.f_Spec.f_Nets, ls r1.1.f_Call.f_Spec.f_Vols, .str r1.1.f_Call.f_Spec.f_Health.f_Test, vi r1.1.f_Call.f_Spec.f_Health.f_Every, vi r1.1.f_Call.f_Spec.f_Health.f_Start, vi r1.1.f_Call.f_Spec.f_Health.f_Retries, vi r1.1.f_Call.f_Spec.f_Restart, vi r1.1.f_Call.f_Spec.f_Tries]] (.str r3))]) (by kernel_rfl) (AllP.cons (fun hg => cx (ok_script_Text n r1.1 _ (if_t hg hr3))) AllP.nil) ?_
  refine To.eq (K' := [(0, vb x4)]) (L' := []) (by cases hx4; rfl) (by cases hx4; rfl) ?_
  refine To.thenN ?_
  refine Wp.ret ?_
  refine To.keep (kk := [0]) (kl := []) (K' := [(0, vb x4)]) (L' := []) (by kernel_rfl) (by kernel_rfl) ?_
  cases h
  exact To.done hΓ (by kernel_rfl)
def ref01_digits_l1 (n : Nat) : Nat → Int → (List UInt8) → Option (Int × (List UInt8))
  | 0, _, _ => none
  | k + 1, v0, v3 => if (decide (v0 ≥ 10)) = true then (if ((10 != 0)) = true then (if (decide (0 ≤ (IntKind.wrap .u8 ((IntKind.wrap .u64 (48 + (Int.tmod v0 10))))) ∧ (IntKind.wrap .u8 ((IntKind.wrap .u64 (48 + (Int.tmod v0 10))))) < 256)) = true then (if (decide (((List.length ([(UInt8.ofNat (Int.toNat (IntKind.wrap .u8 ((IntKind.wrap .u64 (48 + (Int.tmod v0 10)))))))] : List UInt8) + List.length v3 : Nat) : Int) ≤ 9223372036854775807)) = true then (if ((10 != 0)) = true then (ref01_digits_l1 n k (IntKind.wrap .u64 (Int.tdiv v0 10)) (([(UInt8.ofNat (Int.toNat (IntKind.wrap .u8 ((IntKind.wrap .u64 (48 + (Int.tmod v0 10)))))))] : List UInt8) ++ v3)) else none) else none) else none) else none)
  else (some (v0, v3))
theorem ok_ref01_digits_l1 (n : Nat) {F0 : Fz} {w0 : Pt Tryd.prog} {Q : Exit → Act → World → Prop} (k : Nat) : ∀ (v0 : Int) (v3 : List UInt8) (o : Int × (List UInt8)), ref01_digits_l1 n k v0 v3 = some o → To 23 F0 w0 [(0, .val (.int .u64 o.1)), (3, .str o.2)] [] (.exit 0) Q → WL Tryd.prog 23 F0 w0 [(0, .val (.int .u64 v0)), (3, .str v3)] [] (cI (cI (cA (cB (cB (cF Tryd.f65)))))) Q := by
  induction k with
  | zero => intro v0 v3 o h; cases h
  | succ k ih =>
    intro v0 v3 o h hQ
    rw [ref01_digits_l1] at h
    refine WL.round ?_
    refine Wp.seq (Wp.seq ?_)
    refine rg [0, 3, 5] [] (K' := [(0, .val (.int .u64 v0)), (3, .str v3), (5, vb (decide (v0 ≥ 10)))]) (L' := []) (by kernel_rfl) ?_
    refine To.thenN ?_
    refine Wp.cond (b := (decide (v0 ≥ 10))) (by kernel_rfl) (fun hb => ?_) (fun hb => ?_)
    · replace h := if_t hb h
      refine Wp.skip (To.thenN (Wp.block (Wp.seq ?_)))
      obtain ⟨hc3, h⟩ := chk_of h
      obtain ⟨u1, h⟩ := chk_of h
      obtain ⟨hc4, h⟩ := chk_of h
      refine Wp.region hΓ [] [(4, .recs (α := UInt8) 0 e8 [(UInt8.ofNat (Int.toNat (IntKind.wrap .u8 ((IntKind.wrap .u64 (48 + (Int.tmod v0 10)))))))]), (5, .str [(UInt8.ofNat (Int.toNat (IntKind.wrap .u8 ((IntKind.wrap .u64 (48 + (Int.tmod v0 10)))))))])] [] [0, 3] [] (K' := [(0, .val (.int .u64 v0)), (3, .str (([(UInt8.ofNat (Int.toNat (IntKind.wrap .u8 ((IntKind.wrap .u64 (48 + (Int.tmod v0 10)))))))] : List UInt8) ++ v3))]) (L' := []) (ob := [((10 != 0)) = true, (MkOb 1 [.val (.int .u8 (IntKind.wrap .u8 ((IntKind.wrap .u64 (48 + (Int.tmod v0 10))))))] 1 (.recs (α := UInt8) 0 e8 [(UInt8.ofNat (Int.toNat (IntKind.wrap .u8 ((IntKind.wrap .u64 (48 + (Int.tmod v0 10)))))))]) ∧ GoodR (.recs (α := UInt8) 0 e8 [(UInt8.ofNat (Int.toNat (IntKind.wrap .u8 ((IntKind.wrap .u64 (48 + (Int.tmod v0 10)))))))])), (true = true → StrOb (List.flatMap e8 ([(UInt8.ofNat (Int.toNat (IntKind.wrap .u8 ((IntKind.wrap .u64 (48 + (Int.tmod v0 10)))))))] : List (UInt8))) (.str [(UInt8.ofNat (Int.toNat (IntKind.wrap .u8 ((IntKind.wrap .u64 (48 + (Int.tmod v0 10)))))))])), (decide (((List.length ([(UInt8.ofNat (Int.toNat (IntKind.wrap .u8 ((IntKind.wrap .u64 (48 + (Int.tmod v0 10)))))))] : List UInt8) + List.length v3 : Nat) : Int) ≤ 9223372036854775807)) = true]) (by kernel_rfl) (AllP.cons hc3 (AllP.cons (mkOb (All8.cells (ns := [(IntKind.wrap .u8 ((IntKind.wrap .u64 (48 + (Int.tmod v0 10)))))]) (.cons (u8_of u1) .nil)) rfl rfl (good8 _)) (AllP.cons (fun _ => strOb (flat8 _)) (AllP.cons hc4 AllP.nil)))) ?_
      refine To.thenN ?_
      obtain ⟨hc2, h⟩ := chk_of h
      refine Wp.region hΓ [] [] [] [0, 3] [] (K' := [(0, .val (.int .u64 (IntKind.wrap .u64 (Int.tdiv v0 10)))), (3, .str (([(UInt8.ofNat (Int.toNat (IntKind.wrap .u8 ((IntKind.wrap .u64 (48 + (Int.tmod v0 10)))))))] : List UInt8) ++ v3))]) (L' := []) (ob := [((10 != 0)) = true]) (by kernel_rfl) (AllP.cons hc2 AllP.nil) ?_
      refine To.blockN ?_
      refine To.keep (kk := [0, 3]) (kl := []) (K' := [(0, .val (.int .u64 (IntKind.wrap .u64 (Int.tdiv v0 10)))), (3, .str (([(UInt8.ofNat (Int.toNat (IntKind.wrap .u8 ((IntKind.wrap .u64 (48 + (Int.tmod v0 10)))))))] : List UInt8) ++ v3))]) (L' := []) (by kernel_rfl) (by kernel_rfl) ?_
      refine To.again ?_
      exact ih (IntKind.wrap .u64 (Int.tdiv v0 10)) (([(UInt8.ofNat (Int.toNat (IntKind.wrap .u8 ((IntKind.wrap .u64 (48 + (Int.tmod v0 10)))))))] : List UInt8) ++ v3) _ h hQ
    · replace h := if_f hb h
      refine Wp.exit ?_
      refine To.thenX ?_
      refine To.thenX ?_
      refine To.keep (kk := [0, 3]) (kl := []) (K' := [(0, .val (.int .u64 v0)), (3, .str v3)]) (L' := []) (by kernel_rfl) (by kernel_rfl) ?_
      cases h
      exact hQ
def ref01_digits (n : Nat) (a0 : Int) : Option ((List UInt8)) :=
  (ref01_digits_l1 n n a0 []).bind fun o1 =>
  if (decide (0 ≤ (IntKind.wrap .u8 ((IntKind.wrap .u64 (48 + o1.1)))) ∧ (IntKind.wrap .u8 ((IntKind.wrap .u64 (48 + o1.1)))) < 256)) = true then (if (decide (((List.length ([(UInt8.ofNat (Int.toNat (IntKind.wrap .u8 ((IntKind.wrap .u64 (48 + o1.1))))))] : List UInt8) + List.length o1.2 : Nat) : Int) ≤ 9223372036854775807)) = true then (some (([(UInt8.ofNat (Int.toNat (IntKind.wrap .u8 ((IntKind.wrap .u64 (48 + o1.1))))))] : List UInt8) ++ o1.2)) else none) else none
theorem ok_ref01_digits (n : Nat) (a0 : Int) (r : (List UInt8)) (h : ref01_digits n a0 = some r) : CallsX Tryd.prog 65 [.val (.int .u64 a0)] (.str r) := by
  unfold ref01_digits at h
  refine callsX_of (fn := Tryd.f65) (by kernel_rfl) rfl (by kernel_rfl) (Nat.le_of_ble_eq_true (by kernel_rfl)) fun F0 w0 _ => ?_
  refine Wp.keep (kk := [0]) (kl := []) (K' := [(0, .val (.int .u64 a0))]) (L' := []) (by kernel_rfl) (by kernel_rfl) ?_
  refine Wp.seq ?_
  refine rg [0] [] (K' := [(0, .val (.int .u64 a0))]) (L' := []) (by kernel_rfl) ?_
  refine To.thenN (Wp.seq ?_)
  refine rg [0, 3] [] (K' := [(0, .val (.int .u64 a0)), (3, .str [])]) (L' := []) (by kernel_rfl) ?_
  refine To.thenN (Wp.seq (Wp.block ?_))
  obtain ⟨o1, ho1, h⟩ := bind_of h
  refine Wp.keep (kk := [0, 3]) (kl := []) (K' := [(0, .val (.int .u64 a0)), (3, .str [])]) (L' := []) (by kernel_rfl) (by kernel_rfl) ?_
  refine Wp.loopL ?_
  refine ok_ref01_digits_l1 n n a0 [] o1 ho1 ?_
  refine To.blockX ?_
  refine To.thenN (Wp.seq ?_)
  obtain ⟨u2, h⟩ := chk_of h
  obtain ⟨hc3, h⟩ := chk_of h
  refine Wp.region hΓ [] [(3, .recs (α := UInt8) 0 e8 [(UInt8.ofNat (Int.toNat (IntKind.wrap .u8 ((IntKind.wrap .u64 (48 + o1.1))))))]), (4, .str [(UInt8.ofNat (Int.toNat (IntKind.wrap .u8 ((IntKind.wrap .u64 (48 + o1.1))))))])] [] [2] [] (K' := [(2, .str (([(UInt8.ofNat (Int.toNat (IntKind.wrap .u8 ((IntKind.wrap .u64 (48 + o1.1))))))] : List UInt8) ++ o1.2))]) (L' := []) (ob := [(MkOb 1 [.val (.int .u8 (IntKind.wrap .u8 ((IntKind.wrap .u64 (48 + o1.1)))))] 1 (.recs (α := UInt8) 0 e8 [(UInt8.ofNat (Int.toNat (IntKind.wrap .u8 ((IntKind.wrap .u64 (48 + o1.1))))))]) ∧ GoodR (.recs (α := UInt8) 0 e8 [(UInt8.ofNat (Int.toNat (IntKind.wrap .u8 ((IntKind.wrap .u64 (48 + o1.1))))))])), (true = true → StrOb (List.flatMap e8 ([(UInt8.ofNat (Int.toNat (IntKind.wrap .u8 ((IntKind.wrap .u64 (48 + o1.1))))))] : List (UInt8))) (.str [(UInt8.ofNat (Int.toNat (IntKind.wrap .u8 ((IntKind.wrap .u64 (48 + o1.1))))))])), (decide (((List.length ([(UInt8.ofNat (Int.toNat (IntKind.wrap .u8 ((IntKind.wrap .u64 (48 + o1.1))))))] : List UInt8) + List.length o1.2 : Nat) : Int) ≤ 9223372036854775807)) = true]) (by kernel_rfl) (AllP.cons (mkOb (All8.cells (ns := [(IntKind.wrap .u8 ((IntKind.wrap .u64 (48 + o1.1))))]) (.cons (u8_of u2) .nil)) rfl rfl (good8 _)) (AllP.cons (fun _ => strOb (flat8 _)) (AllP.cons hc3 AllP.nil))) ?_
  refine To.thenN ?_
  refine Wp.ret ?_
  refine To.keep (kk := [2]) (kl := []) (K' := [(2, .str (([(UInt8.ofNat (Int.toNat (IntKind.wrap .u8 ((IntKind.wrap .u64 (48 + o1.1))))))] : List UInt8) ++ o1.2))]) (L' := []) (by kernel_rfl) (by kernel_rfl) ?_
  cases h
  exact To.done hΓ (by kernel_rfl)
def ref01_Text (n : Nat) (a0 : Int) : Option ((List UInt8)) :=
  if (decide (a0 < 0)) = true then ((ref01_digits n (IntKind.wrap .u64 (0 - (IntKind.wrap .u64 (a0))))).bind fun r1 =>
  if (decide (((List.length ([45] : List UInt8) + List.length r1 : Nat) : Int) ≤ 9223372036854775807)) = true then (some (([45] : List UInt8) ++ r1)) else none)
  else ((ref01_digits n (IntKind.wrap .u64 (a0))).bind fun r3 =>
  some r3)
theorem ok_ref01_Text (n : Nat) (a0 : Int) (r : (List UInt8)) (h : ref01_Text n a0 = some r) : CallsX Tryd.prog 45 [vi a0] (.str r) := by
  unfold ref01_Text at h
  refine callsX_of (fn := Tryd.f45) (by kernel_rfl) rfl (by kernel_rfl) (Nat.le_of_ble_eq_true (by kernel_rfl)) fun F0 w0 _ => ?_
  refine Wp.keep (kk := [0]) (kl := []) (K' := [(0, vi a0)]) (L' := []) (by kernel_rfl) (by kernel_rfl) ?_
  refine Wp.seq ?_
  refine rg [0] [] (K' := [(0, vi a0)]) (L' := []) (by kernel_rfl) ?_
  refine To.thenN (Wp.seq (Wp.seq ?_))
  refine rg [0, 4] [] (K' := [(0, vi a0), (4, vb (decide (a0 < 0)))]) (L' := []) (by kernel_rfl) ?_
  refine To.thenN ?_
  refine Wp.cond (b := (decide (a0 < 0))) (by kernel_rfl) (fun hb => ?_) (fun hb => ?_)
  · replace h := if_t hb h
    refine Wp.seq ?_
    obtain ⟨r1, hr1, h⟩ := bind_of h
    obtain ⟨hc2, h⟩ := chk_of h
    refine Wp.region hΓ [] [(3, .str r1)] [] [2] [] (K' := [(2, .str (([45] : List UInt8) ++ r1))]) (L' := []) (ob := [(true = true → CX Tryd.prog 65 [.val (.int .u64 (IntKind.wrap .u64 (0 - (IntKind.wrap .u64 (a0)))))] (.str r1)), (decide (((List.length ([45] : List UInt8) + List.length r1 : Nat) : Int) ≤ 9223372036854775807)) = true]) (by kernel_rfl) (AllP.cons (fun _ => cx (ok_ref01_digits n (IntKind.wrap .u64 (0 - (IntKind.wrap .u64 (a0)))) _ hr1)) (AllP.cons hc2 AllP.nil)) ?_
    refine To.thenN ?_
    refine Wp.ret ?_
    refine To.thenR ?_
    refine To.keep (kk := [2]) (kl := []) (K' := [(2, .str (([45] : List UInt8) ++ r1))]) (L' := []) (by kernel_rfl) (by kernel_rfl) ?_
    cases h
    exact To.done hΓ (by kernel_rfl)
  · replace h := if_f hb h
    refine Wp.skip (To.thenN (Wp.seq ?_))
    obtain ⟨r3, hr3, h⟩ := bind_of h
    refine Wp.region hΓ [] [(2, .str r3)] [] [2] [] (K' := [(2, .str r3)]) (L' := []) (ob := [(true = true → CX Tryd.prog 65 [.val (.int .u64 (IntKind.wrap .u64 (a0)))] (.str r3))]) (by kernel_rfl) (AllP.cons (fun _ => cx (ok_ref01_digits n (IntKind.wrap .u64 (a0)) _ hr3)) AllP.nil) ?_
    refine To.thenN ?_
    refine Wp.ret ?_
    refine To.keep (kk := [2]) (kl := []) (K' := [(2, .str r3)]) (L' := []) (by kernel_rfl) (by kernel_rfl) ?_
    cases h
    exact To.done hΓ (by kernel_rfl)
def ref44_word_l1 (n : Nat) (v0 : List (List UInt8)) (v1 : Int) : Nat → Int → Option (Sum (Unit) ((List UInt8)))
  | 0, _ => none
  | k + 1, v5 => if (decide (v5 < (List.length v0 : Int))) = true then (if (v5 == (IntKind.wrap .i64 (v1 - 1))) = true then (if (decide (0 ≤ v5 ∧ v5 < (List.length v0 : Int))) = true then (some (.inr ((v0)[Int.toNat v5]?.getD []))) else none)
  else (ref44_word_l1 n v0 v1 k (IntKind.wrap .i64 (v5 + 1))))
  else (some (.inl ()))
theorem ok_ref44_word_l1 (n : Nat) (v0 : List (List UInt8)) (v1 : Int) {F0 : Fz} {w0 : Pt Tryd.prog} {Q : Exit → Act → World → Prop} (k : Nat) : ∀ (v5 : Int) (o : Sum (Unit) ((List UInt8))), ref44_word_l1 n v0 v1 k v5 = some o → (Sum.elim (fun s => To 20 F0 w0 [] [] (.exit 0) Q) (fun s => To 20 F0 w0 [(4, .str s)] [] .ret Q)) o → WL Tryd.prog 20 F0 w0 [(0, ls v0), (1, vi v1), (5, vi v5)] [] (cI (cI (cB (cA (cB (cF Tryd.f59)))))) Q := by
  induction k with
  | zero => intro v5 o h; cases h
  | succ k ih =>
    intro v5 o h hQ
    rw [ref44_word_l1] at h
    refine WL.round ?_
    refine Wp.seq (Wp.seq ?_)
    refine rg [0, 1, 5, 9] [] (K' := [(0, ls v0), (1, vi v1), (5, vi v5), (9, vb (decide (v5 < (List.length v0 : Int))))]) (L' := []) (by kernel_rfl) ?_
    refine To.thenN ?_
    refine Wp.cond (b := (decide (v5 < (List.length v0 : Int)))) (by kernel_rfl) (fun hb => ?_) (fun hb => ?_)
    · replace h := if_t hb h
      refine Wp.skip (To.thenN (Wp.seq (Wp.block (Wp.seq ?_))))
      refine rg [0, 1, 5, 15] [] (K' := [(0, ls v0), (1, vi v1), (5, vi v5), (15, vb (v5 == (IntKind.wrap .i64 (v1 - 1))))]) (L' := []) (by kernel_rfl) ?_
      refine To.thenN ?_
      refine Wp.cond (b := (v5 == (IntKind.wrap .i64 (v1 - 1)))) (by kernel_rfl) (fun hb => ?_) (fun hb => ?_)
      · replace h := if_t hb h
        refine Wp.seq ?_
        obtain ⟨hc1, h⟩ := chk_of h
        refine Wp.region hΓ [] [] [] [4] [] (K' := [(4, .str ((v0)[Int.toNat v5]?.getD []))]) (L' := []) (ob := [(decide (0 ≤ v5 ∧ v5 < (List.length v0 : Int))) = true]) (by kernel_rfl) (AllP.cons hc1 AllP.nil) ?_
        refine To.thenN ?_
        refine Wp.ret ?_
        refine To.blockR ?_
        refine To.thenR ?_
        refine To.thenR ?_
        refine To.keep (kk := [4]) (kl := []) (K' := [(4, .str ((v0)[Int.toNat v5]?.getD []))]) (L' := []) (by kernel_rfl) (by kernel_rfl) ?_
        cases h
        exact hQ
      · replace h := if_f hb h
        refine Wp.skip ?_
        refine To.blockN ?_
        refine To.thenN ?_
        refine rg [0, 1, 5] [] (K' := [(0, ls v0), (1, vi v1), (5, vi (IntKind.wrap .i64 (v5 + 1)))]) (L' := []) (by kernel_rfl) ?_
        refine To.keep (kk := [0, 1, 5]) (kl := []) (K' := [(0, ls v0), (1, vi v1), (5, vi (IntKind.wrap .i64 (v5 + 1)))]) (L' := []) (by kernel_rfl) (by kernel_rfl) ?_
        refine To.again ?_
        exact ih (IntKind.wrap .i64 (v5 + 1)) _ h hQ
    · replace h := if_f hb h
      refine Wp.exit ?_
      refine To.thenX ?_
      refine To.thenX ?_
      refine To.keep (kk := []) (kl := []) (K' := []) (L' := []) (by kernel_rfl) (by kernel_rfl) ?_
      cases h
      exact hQ
def ref44_word (n : Nat) (a0 : List (List UInt8)) (a1 : Int) : Option ((List UInt8)) :=
  (ref44_word_l1 n a0 a1 n 0).bind fun o1 =>
  (Sum.elim (fun o1 => some []) (fun o1 => some o1)) o1
theorem ok_ref44_word (n : Nat) (a0 : List (List UInt8)) (a1 : Int) (r : (List UInt8)) (h : ref44_word n a0 a1 = some r) : CallsX Tryd.prog 59 [ls a0, vi a1] (.str r) := by
  unfold ref44_word at h
  refine callsX_of (fn := Tryd.f59) (by kernel_rfl) rfl (by kernel_rfl) (Nat.le_of_ble_eq_true (by kernel_rfl)) fun F0 w0 _ => ?_
  refine Wp.keep (kk := [0, 1]) (kl := []) (K' := [(0, ls a0), (1, vi a1)]) (L' := []) (by kernel_rfl) (by kernel_rfl) ?_
  refine Wp.seq ?_
  refine rg [0, 1] [] (K' := [(0, ls a0), (1, vi a1)]) (L' := []) (by kernel_rfl) ?_
  refine To.thenN (Wp.seq (Wp.seq ?_))
  refine rg [0, 1, 5] [] (K' := [(0, ls a0), (1, vi a1), (5, vi 0)]) (L' := []) (by kernel_rfl) ?_
  refine To.thenN (Wp.block ?_)
  obtain ⟨o1, ho1, h⟩ := bind_of h
  refine Wp.keep (kk := [0, 1, 5]) (kl := []) (K' := [(0, ls a0), (1, vi a1), (5, vi 0)]) (L' := []) (by kernel_rfl) (by kernel_rfl) ?_
  refine Wp.loopL ?_
  refine ok_ref44_word_l1 n a0 a1 n 0 o1 ho1 ?_
  rcases o1 with o1 | o1
  · replace h := sum_l h
    refine To.blockX ?_
    refine To.thenN (Wp.seq ?_)
    refine rg [4] [] (K' := [(4, .str [])]) (L' := []) (by kernel_rfl) ?_
    refine To.thenN ?_
    refine Wp.ret ?_
    refine To.keep (kk := [4]) (kl := []) (K' := [(4, .str [])]) (L' := []) (by kernel_rfl) (by kernel_rfl) ?_
    cases h
    exact To.done hΓ (by kernel_rfl)
  · replace h := sum_r h
    refine To.blockR ?_
    refine To.thenR ?_
    refine To.keep (kk := [4]) (kl := []) (K' := [(4, .str o1)]) (L' := []) (by kernel_rfl) (by kernel_rfl) ?_
    cases h
    exact To.done hΓ (by kernel_rfl)
def ref44_Command (n : Nat) (a0 : Int) : Option ((List UInt8)) :=
  if (bif (decide (a0 < 1)) then true else (decide (a0 > 6))) = true then (some [])
  else ((ref44_word n ([[117, 112], [100, 111, 119, 110], [115, 116, 111, 112], [114, 101, 115, 116, 97, 114, 116], [115, 99, 97, 108, 101], [114, 109]]) a0).bind fun r1 =>
  some r1)
theorem ok_ref44_Command (n : Nat) (a0 : Int) (r : (List UInt8)) (h : ref44_Command n a0 = some r) : CallsX Tryd.prog 36 [vi a0] (.str r) := by
  unfold ref44_Command at h
  refine callsX_of (fn := Tryd.f36) (by kernel_rfl) rfl (by kernel_rfl) (Nat.le_of_ble_eq_true (by kernel_rfl)) fun F0 w0 _ => ?_
  refine Wp.keep (kk := [0]) (kl := []) (K' := [(0, vi a0)]) (L' := []) (by kernel_rfl) (by kernel_rfl) ?_
  refine Wp.seq ?_
  refine rg [0] [] (K' := [(0, vi a0)]) (L' := []) (by kernel_rfl) ?_
  refine To.thenN (Wp.seq (Wp.seq ?_))
  refine rg [0, 8] [] (K' := [(0, vi a0), (8, vb (bif (decide (a0 < 1)) then true else (decide (a0 > 6))))]) (L' := []) (by kernel_rfl) ?_
  refine To.thenN ?_
  refine Wp.cond (b := (bif (decide (a0 < 1)) then true else (decide (a0 > 6)))) (by kernel_rfl) (fun hb => ?_) (fun hb => ?_)
  · replace h := if_t hb h
    refine Wp.seq ?_
    refine rg [2] [] (K' := [(2, .str [])]) (L' := []) (by kernel_rfl) ?_
    refine To.thenN ?_
    refine Wp.ret ?_
    refine To.thenR ?_
    refine To.keep (kk := [2]) (kl := []) (K' := [(2, .str [])]) (L' := []) (by kernel_rfl) (by kernel_rfl) ?_
    cases h
    exact To.done hΓ (by kernel_rfl)
  · replace h := if_f hb h
    refine Wp.skip (To.thenN (Wp.seq ?_))
    obtain ⟨r1, hr1, h⟩ := bind_of h
    refine Wp.region hΓ [(2, [9])] [(0, ls ([[117, 112], [100, 111, 119, 110], [115, 116, 111, 112], [114, 101, 115, 116, 97, 114, 116], [115, 99, 97, 108, 101], [114, 109]])), (2, .str r1)] [] [2] [] (K' := [(2, .str r1)]) (L' := []) (ob := [(MkOb 1 [.str [117, 112], .str [100, 111, 119, 110], .str [115, 116, 111, 112], .str [114, 101, 115, 116, 97, 114, 116], .str [115, 99, 97, 108, 101], .str [114, 109]] 6 (ls ([[117, 112], [100, 111, 119, 110], [115, 116, 111, 112], [114, 101, 115, 116, 97, 114, 116], [115, 99, 97, 108, 101], [114, 109]])) ∧ GoodR (ls ([[117, 112], [100, 111, 119, 110], [115, 116, 111, 112], [114, 101, 115, 116, 97, 114, 116], [115, 99, 97, 108, 101], [114, 109]]))), (true = true → CX Tryd.prog 59 [ls ([[117, 112], [100, 111, 119, 110], [115, 116, 111, 112], [114, 101, 115, 116, 97, 114, 116], [115, 99, 97, 108, 101], [114, 109]]), vi a0] (.str r1))]) (by kernel_rfl) (AllP.cons (mkOb (by kernel_rfl) rfl (by kernel_rfl) (good_E_string _)) (AllP.cons (fun _ => cx (ok_ref44_word n ([[117, 112], [100, 111, 119, 110], [115, 116, 111, 112], [114, 101, 115, 116, 97, 114, 116], [115, 99, 97, 108, 101], [114, 109]]) a0 _ hr1)) AllP.nil)) ?_
    refine To.thenN ?_
    refine Wp.ret ?_
    refine To.keep (kk := [2]) (kl := []) (K' := [(2, .str r1)]) (L' := []) (by kernel_rfl) (by kernel_rfl) ?_
    cases h
    exact To.done hΓ (by kernel_rfl)
def ref45_option (n : Nat) (a0 : List UInt8) (a1 : Int) : Option ((List UInt8)) :=
  if (a1 == 0) = true then (some [])
  else (if (decide (((List.length ([32] : List UInt8) + List.length a0 : Nat) : Int) ≤ 9223372036854775807)) = true then (if (decide (((List.length (([32] : List UInt8) ++ a0) + List.length ([32] : List UInt8) : Nat) : Int) ≤ 9223372036854775807)) = true then ((ref01_Text n a1).bind fun r1 =>
  if (decide (((List.length ((([32] : List UInt8) ++ a0) ++ [32]) + List.length r1 : Nat) : Int) ≤ 9223372036854775807)) = true then (some (((([32] : List UInt8) ++ a0) ++ [32]) ++ r1)) else none) else none) else none)
theorem ok_ref45_option (n : Nat) (a0 : List UInt8) (a1 : Int) (r : (List UInt8)) (h : ref45_option n a0 a1 = some r) : CallsX Tryd.prog 46 [.str a0, vi a1] (.str r) := by
  unfold ref45_option at h
  refine callsX_of (fn := Tryd.f46) (by kernel_rfl) rfl (by kernel_rfl) (Nat.le_of_ble_eq_true (by kernel_rfl)) fun F0 w0 _ => ?_
  refine Wp.keep (kk := [0, 1]) (kl := []) (K' := [(0, .str a0), (1, vi a1)]) (L' := []) (by kernel_rfl) (by kernel_rfl) ?_
  refine Wp.seq ?_
  refine rg [0, 1] [] (K' := [(0, .str a0), (1, vi a1)]) (L' := []) (by kernel_rfl) ?_
  refine To.thenN (Wp.seq (Wp.seq ?_))
  refine rg [0, 1, 6] [] (K' := [(0, .str a0), (1, vi a1), (6, vb (a1 == 0))]) (L' := []) (by kernel_rfl) ?_
  refine To.thenN ?_
  refine Wp.cond (b := (a1 == 0)) (by kernel_rfl) (fun hb => ?_) (fun hb => ?_)
  · replace h := if_t hb h
    refine Wp.seq ?_
    refine rg [4] [] (K' := [(4, .str [])]) (L' := []) (by kernel_rfl) ?_
    refine To.thenN ?_
    refine Wp.ret ?_
    refine To.thenR ?_
    refine To.keep (kk := [4]) (kl := []) (K' := [(4, .str [])]) (L' := []) (by kernel_rfl) (by kernel_rfl) ?_
    cases h
    exact To.done hΓ (by kernel_rfl)
  · replace h := if_f hb h
    refine Wp.skip (To.thenN (Wp.seq ?_))
    obtain ⟨hc2, h⟩ := chk_of h
    obtain ⟨hc3, h⟩ := chk_of h
    obtain ⟨r1, hr1, h⟩ := bind_of h
    obtain ⟨hc4, h⟩ := chk_of h
    refine Wp.region hΓ [] [(4, .str r1)] [] [4] [] (K' := [(4, .str (((([32] : List UInt8) ++ a0) ++ [32]) ++ r1))]) (L' := []) (ob := [(decide (((List.length ([32] : List UInt8) + List.length a0 : Nat) : Int) ≤ 9223372036854775807)) = true, (decide (((List.length (([32] : List UInt8) ++ a0) + List.length ([32] : List UInt8) : Nat) : Int) ≤ 9223372036854775807)) = true, (true = true → CX Tryd.prog 45 [vi a1] (.str r1)), (decide (((List.length ((([32] : List UInt8) ++ a0) ++ [32]) + List.length r1 : Nat) : Int) ≤ 9223372036854775807)) = true]) (by kernel_rfl) (AllP.cons hc2 (AllP.cons hc3 (AllP.cons (fun _ => cx (ok_ref01_Text n a1 _ hr1)) (AllP.cons hc4 AllP.nil)))) ?_
    refine To.thenN ?_
    refine Wp.ret ?_
    refine To.keep (kk := [4]) (kl := []) (K' := [(4, .str (((([32] : List UInt8) ++ a0) ++ [32]) ++ r1))]) (L' := []) (by kernel_rfl) (by kernel_rfl) ?_
    cases h
    exact To.done hΓ (by kernel_rfl)
def ref44_Call (n : Nat) (a0 : S_api_Call) : Option ((List UInt8)) :=
  if (bif (decide (a0.f_Kind < 1)) then true else (decide (a0.f_Kind > 8))) = true then (some [63])
  else ((ref44_word n ([[109, 97, 107, 101, 45, 110, 101, 116], [109, 97, 107, 101, 45, 118, 111, 108], [100, 114, 111, 112, 45, 110, 101, 116], [100, 114, 111, 112, 45, 118, 111, 108], [109, 97, 107, 101], [115, 116, 97, 114, 116], [115, 116, 111, 112], [100, 114, 111, 112]]) a0.f_Kind).bind fun r1 =>
  if (decide (((List.length r1 + List.length ([32] : List UInt8) : Nat) : Int) ≤ 9223372036854775807)) = true then (if (decide (a0.f_Kind < 5)) = true then (if (decide (((List.length (r1 ++ [32]) + List.length a0.f_Name : Nat) : Int) ≤ 9223372036854775807)) = true then (some ((r1 ++ [32]) ++ a0.f_Name)) else none)
  else (if (a0.f_Kind == 5) = true then (if (decide (((List.length (r1 ++ [32]) + List.length a0.f_Spec.f_Name : Nat) : Int) ≤ 9223372036854775807)) = true then (some ((r1 ++ [32]) ++ a0.f_Spec.f_Name)) else none)
  else ((ref01_Text n a0.f_Id).bind fun r4 =>
  if (decide (((List.length (r1 ++ [32]) + List.length r4 : Nat) : Int) ≤ 9223372036854775807)) = true then (some ((r1 ++ [32]) ++ r4)) else none))) else none)
theorem ok_ref44_Call (n : Nat) (a0 : S_api_Call) (r : (List UInt8)) (h : ref44_Call n a0 = some r) : CallsX Tryd.prog 47 [.agg [vi a0.f_Kind, .str a0.f_Name, vi a0.f_Id, .str a0.f_Spec.f_Name, .str a0.f_Spec.f_Project, .str a0.f_Spec.f_Service, vi a0.f_Spec.f_Number, .str a0.f_Spec.f_Hash, ls a0.f_Spec.f_Nets, ls a0.f_Spec.f_Vols, .str a0.f_Spec.f_Health.f_Test, vi a0.f_Spec.f_Health.f_Every, vi a0.f_Spec.f_Health.f_Start, vi a0.f_Spec.f_Health.f_Retries, vi a0.f_Spec.f_Restart, vi a0.f_Spec.f_Tries]] (.str r) := by
  unfold ref44_Call at h
  refine callsX_of (fn := Tryd.f47) (by kernel_rfl) rfl (by kernel_rfl) (Nat.le_of_ble_eq_true (by kernel_rfl)) fun F0 w0 _ => ?_
  refine Wp.keep (kk := [0]) (kl := []) (K' := [(0, .agg (E_api_Call a0))]) (L' := []) (by kernel_rfl) (by kernel_rfl) ?_
  refine Wp.seq ?_
  refine rg [1] [1] (K' := [(1, .own 1 0)]) (L' := [(1, 30, (E_api_Call a0))]) (by kernel_rfl) ?_
  refine To.thenN (Wp.seq (Wp.seq ?_))
  refine rg [1, 11] [1] (K' := [(1, .own 1 0), (11, vb (bif (decide (a0.f_Kind < 1)) then true else (decide (a0.f_Kind > 8))))]) (L' := [(1, 30, (E_api_Call a0))]) (by kernel_rfl) ?_
  refine To.thenN ?_
  refine Wp.cond (b := (bif (decide (a0.f_Kind < 1)) then true else (decide (a0.f_Kind > 8)))) (by kernel_rfl) (fun hb => ?_) (fun hb => ?_)
  · replace h := if_t hb h
    refine Wp.seq ?_
    refine rg [2] [] (K' := [(2, .str [63])]) (L' := []) (by kernel_rfl) ?_
    refine To.thenN ?_
    refine Wp.ret ?_
    refine To.thenR ?_
    refine To.keep (kk := [2]) (kl := []) (K' := [(2, .str [63])]) (L' := []) (by kernel_rfl) (by kernel_rfl) ?_
    cases h
    exact To.done hΓ (by kernel_rfl)
  · replace h := if_f hb h
    refine Wp.skip (To.thenN (Wp.seq ?_))
    obtain ⟨r1, hr1, h⟩ := bind_of h
    obtain ⟨hc6, h⟩ := chk_of h
    refine Wp.region hΓ [(3, [12])] [(0, ls ([[109, 97, 107, 101, 45, 110, 101, 116], [109, 97, 107, 101, 45, 118, 111, 108], [100, 114, 111, 112, 45, 110, 101, 116], [100, 114, 111, 112, 45, 118, 111, 108], [109, 97, 107, 101], [115, 116, 97, 114, 116], [115, 116, 111, 112], [100, 114, 111, 112]])), (3, .str r1)] [] [1, 3] [1] (K' := [(1, .own 1 0), (3, .str (r1 ++ [32]))]) (L' := [(1, 30, (E_api_Call a0))]) (ob := [(MkOb 1 [.str [109, 97, 107, 101, 45, 110, 101, 116], .str [109, 97, 107, 101, 45, 118, 111, 108], .str [100, 114, 111, 112, 45, 110, 101, 116], .str [100, 114, 111, 112, 45, 118, 111, 108], .str [109, 97, 107, 101], .str [115, 116, 97, 114, 116], .str [115, 116, 111, 112], .str [100, 114, 111, 112]] 8 (ls ([[109, 97, 107, 101, 45, 110, 101, 116], [109, 97, 107, 101, 45, 118, 111, 108], [100, 114, 111, 112, 45, 110, 101, 116], [100, 114, 111, 112, 45, 118, 111, 108], [109, 97, 107, 101], [115, 116, 97, 114, 116], [115, 116, 111, 112], [100, 114, 111, 112]])) ∧ GoodR (ls ([[109, 97, 107, 101, 45, 110, 101, 116], [109, 97, 107, 101, 45, 118, 111, 108], [100, 114, 111, 112, 45, 110, 101, 116], [100, 114, 111, 112, 45, 118, 111, 108], [109, 97, 107, 101], [115, 116, 97, 114, 116], [115, 116, 111, 112], [100, 114, 111, 112]]))), (true = true → CX Tryd.prog 59 [ls ([[109, 97, 107, 101, 45, 110, 101, 116], [109, 97, 107, 101, 45, 118, 111, 108], [100, 114, 111, 112, 45, 110, 101, 116], [100, 114, 111, 112, 45, 118, 111, 108], [109, 97, 107, 101], [115, 116, 97, 114, 116], [115, 116, 111, 112], [100, 114, 111, 112]]), vi a0.f_Kind] (.str r1)), (decide (((List.length r1 + List.length ([32] : List UInt8) : Nat) : Int) ≤ 9223372036854775807)) = true]) (by kernel_rfl) (AllP.cons (mkOb (by kernel_rfl) rfl (by kernel_rfl) (good_E_string _)) (AllP.cons (fun _ => cx (ok_ref44_word n ([[109, 97, 107, 101, 45, 110, 101, 116], [109, 97, 107, 101, 45, 118, 111, 108], [100, 114, 111, 112, 45, 110, 101, 116], [100, 114, 111, 112, 45, 118, 111, 108], [109, 97, 107, 101], [115, 116, 97, 114, 116], [115, 116, 111, 112], [100, 114, 111, 112]]) a0.f_Kind _ hr1)) (AllP.cons hc6 AllP.nil))) ?_
    refine To.thenN (Wp.seq (Wp.seq ?_))
    refine rg [1, 3, 19] [1] (K' := [(1, .own 1 0), (3, .str (r1 ++ [32])), (19, vb (decide (a0.f_Kind < 5)))]) (L' := [(1, 30, (E_api_Call a0))]) (by kernel_rfl) ?_
    refine To.thenN ?_
    refine Wp.cond (b := (decide (a0.f_Kind < 5))) (by kernel_rfl) (fun hb => ?_) (fun hb => ?_)
    · replace h := if_t hb h
      refine Wp.seq ?_
      obtain ⟨hc2, h⟩ := chk_of h
      refine Wp.region hΓ [] [] [] [2] [] (K' := [(2, .str ((r1 ++ [32]) ++ a0.f_Name))]) (L' := []) (ob := [(decide (((List.length (r1 ++ [32]) + List.length a0.f_Name : Nat) : Int) ≤ 9223372036854775807)) = true]) (by kernel_rfl) (AllP.cons hc2 AllP.nil) ?_
      refine To.thenN ?_
      refine Wp.ret ?_
      refine To.thenR ?_
      refine To.keep (kk := [2]) (kl := []) (K' := [(2, .str ((r1 ++ [32]) ++ a0.f_Name))]) (L' := []) (by kernel_rfl) (by kernel_rfl) ?_
      cases h
      exact To.done hΓ (by kernel_rfl)
    · replace h := if_f hb h
      refine Wp.skip (To.thenN (Wp.seq (Wp.seq ?_)))
      refine rg [1, 3, 26] [1] (K' := [(1, .own 1 0), (3, .str (r1 ++ [32])), (26, vb (a0.f_Kind == 5))]) (L' := [(1, 30, (E_api_Call a0))]) (by kernel_rfl) ?_
      refine To.thenN ?_
      refine Wp.cond (b := (a0.f_Kind == 5)) (by kernel_rfl) (fun hb => ?_) (fun hb => ?_)
      · replace h := if_t hb h
        refine Wp.seq ?_
        obtain ⟨hc3, h⟩ := chk_of h
        refine Wp.region hΓ [] [] [] [2] [] (K' := [(2, .str ((r1 ++ [32]) ++ a0.f_Spec.f_Name))]) (L' := []) (ob := [(decide (((List.length (r1 ++ [32]) + List.length a0.f_Spec.f_Name : Nat) : Int) ≤ 9223372036854775807)) = true]) (by kernel_rfl) (AllP.cons hc3 AllP.nil) ?_
        refine To.thenN ?_
        refine Wp.ret ?_
        refine To.thenR ?_
        refine To.keep (kk := [2]) (kl := []) (K' := [(2, .str ((r1 ++ [32]) ++ a0.f_Spec.f_Name))]) (L' := []) (by kernel_rfl) (by kernel_rfl) ?_
        cases h
        exact To.done hΓ (by kernel_rfl)
      · replace h := if_f hb h
        refine Wp.skip (To.thenN (Wp.seq ?_))
        obtain ⟨r4, hr4, h⟩ := bind_of h
        obtain ⟨hc5, h⟩ := chk_of h
        refine Wp.region hΓ [] [(3, .str r4)] [] [2] [] (K' := [(2, .str ((r1 ++ [32]) ++ r4))]) (L' := []) (ob := [(true = true → CX Tryd.prog 45 [vi a0.f_Id] (.str r4)), (decide (((List.length (r1 ++ [32]) + List.length r4 : Nat) : Int) ≤ 9223372036854775807)) = true]) (by kernel_rfl) (AllP.cons (fun _ => cx (ok_ref01_Text n a0.f_Id _ hr4)) (AllP.cons hc5 AllP.nil)) ?_
        refine To.thenN ?_
        refine Wp.ret ?_
        refine To.keep (kk := [2]) (kl := []) (K' := [(2, .str ((r1 ++ [32]) ++ r4))]) (L' := []) (by kernel_rfl) (by kernel_rfl) ?_
        cases h
        exact To.done hΓ (by kernel_rfl)
def ref45_written_l1 (n : Nat) (b1 : S_ref45_Step) : Nat → (List UInt8) → Int → Option ((List UInt8))
  | 0, _, _ => none
  | k + 1, v5, v6 => if (decide (v6 < (List.length b1.f_Command.f_Services : Int))) = true then (if (decide (((List.length v5 + List.length ([32] : List UInt8) : Nat) : Int) ≤ 9223372036854775807)) = true then (if (decide (0 ≤ v6 ∧ v6 < (List.length b1.f_Command.f_Services : Int))) = true then (if (decide (((List.length (v5 ++ [32]) + List.length ((b1.f_Command.f_Services)[Int.toNat v6]?.getD []) : Nat) : Int) ≤ 9223372036854775807)) = true then (ref45_written_l1 n b1 k ((v5 ++ [32]) ++ ((b1.f_Command.f_Services)[Int.toNat v6]?.getD [])) (IntKind.wrap .i64 (v6 + 1))) else none) else none) else none)
  else some v5
theorem ok_ref45_written_l1 (n : Nat) (b1 : S_ref45_Step) {F0 : Fz} {w0 : Pt Tryd.prog} {Q : Exit → Act → World → Prop} (k : Nat) : ∀ (v5 : List UInt8) (v6 : Int) (o : (List UInt8)), ref45_written_l1 n b1 k v5 v6 = some o → To 131 F0 w0 [(1, .own 1 0), (5, .str o)] [(1, 32, (E_ref45_Step b1))] (.exit 0) Q → WL Tryd.prog 131 F0 w0 [(1, .own 1 0), (5, .str v5), (6, vi v6)] [(1, 32, (E_ref45_Step b1))] (cI (cI (cB (cA (cB (cT (cB (cA (cB (cB (cF Tryd.f21))))))))))) Q := by
  induction k with
  | zero => intro v5 v6 o h; cases h
  | succ k ih =>
    intro v5 v6 o h hQ
    rw [ref45_written_l1] at h
    refine WL.round ?_
    refine Wp.seq (Wp.seq ?_)
    refine rg [1, 5, 6, 31] [1] (K' := [(1, .own 1 0), (5, .str v5), (6, vi v6), (31, vb (decide (v6 < (List.length b1.f_Command.f_Services : Int))))]) (L' := [(1, 32, (E_ref45_Step b1))]) (by kernel_rfl) ?_
    refine To.thenN ?_
    refine Wp.cond (b := (decide (v6 < (List.length b1.f_Command.f_Services : Int)))) (by kernel_rfl) (fun hb => ?_) (fun hb => ?_)
    · replace h := if_t hb h
      refine Wp.skip (To.thenN (Wp.seq (Wp.block ?_)))
      obtain ⟨hc4, h⟩ := chk_of h
      obtain ⟨hc5, h⟩ := chk_of h
      obtain ⟨hc6, h⟩ := chk_of h
      refine Wp.region hΓ [] [] [] [1, 5, 6] [1] (K' := [(1, .own 1 0), (5, .str ((v5 ++ [32]) ++ ((b1.f_Command.f_Services)[Int.toNat v6]?.getD []))), (6, vi v6)]) (L' := [(1, 32, (E_ref45_Step b1))]) (ob := [(decide (((List.length v5 + List.length ([32] : List UInt8) : Nat) : Int) ≤ 9223372036854775807)) = true, (decide (0 ≤ v6 ∧ v6 < (List.length b1.f_Command.f_Services : Int))) = true, (decide (((List.length (v5 ++ [32]) + List.length ((b1.f_Command.f_Services)[Int.toNat v6]?.getD []) : Nat) : Int) ≤ 9223372036854775807)) = true]) (by kernel_rfl) (AllP.cons hc4 (AllP.cons hc5 (AllP.cons hc6 AllP.nil))) ?_
      refine To.blockN ?_
      refine To.thenN ?_
      refine rg [1, 5, 6] [1] (K' := [(1, .own 1 0), (5, .str ((v5 ++ [32]) ++ ((b1.f_Command.f_Services)[Int.toNat v6]?.getD []))), (6, vi (IntKind.wrap .i64 (v6 + 1)))]) (L' := [(1, 32, (E_ref45_Step b1))]) (by kernel_rfl) ?_
      refine To.keep (kk := [1, 5, 6]) (kl := [1]) (K' := [(1, .own 1 0), (5, .str ((v5 ++ [32]) ++ ((b1.f_Command.f_Services)[Int.toNat v6]?.getD []))), (6, vi (IntKind.wrap .i64 (v6 + 1)))]) (L' := [(1, 32, (E_ref45_Step b1))]) (by kernel_rfl) (by kernel_rfl) ?_
      refine To.again ?_
      exact ih ((v5 ++ [32]) ++ ((b1.f_Command.f_Services)[Int.toNat v6]?.getD [])) (IntKind.wrap .i64 (v6 + 1)) _ h hQ
    · replace h := if_f hb h
      refine Wp.exit ?_
      refine To.thenX ?_
      refine To.thenX ?_
      refine To.keep (kk := [1, 5]) (kl := [1]) (K' := [(1, .own 1 0), (5, .str v5)]) (L' := [(1, 32, (E_ref45_Step b1))]) (by kernel_rfl) (by kernel_rfl) ?_
      cases h
      exact hQ
def ref45_written_j2 (n : Nat) (v5 : List UInt8) (v51 : Bool) (b1 : S_ref45_Step) : Option ((List UInt8)) :=
  if v51 = true then (if (decide (((List.length v5 + List.length ([32, 45, 111] : List UInt8) : Nat) : Int) ≤ 9223372036854775807)) = true then (some (v5 ++ [32, 45, 111])) else none)
  else some v5
theorem ok_ref45_written_j2 (n : Nat) (v5 : List UInt8) (v51 : Bool) (b1 : S_ref45_Step) (o : (List UInt8)) (h : ref45_written_j2 n v5 v51 b1 = some o) {F0 : Fz} {w0 : Pt Tryd.prog} {Q : Exit → Act → World → Prop} (hQ : To 131 F0 w0 [(1, .own 1 0), (5, .str o)] [(1, 32, (E_ref45_Step b1))] .normal Q) : Wp Tryd.prog 131 F0 w0 [(1, .own 1 0), (5, .str v5), (51, vb v51)] [(1, 32, (E_ref45_Step b1))] (cB (cA (cB (cB (cB (cT (cB (cA (cB (cB (cF Tryd.f21))))))))))) Q := by
  unfold ref45_written_j2 at h
  refine Wp.cond (b := v51) (by kernel_rfl) (fun hb => ?_) (fun hb => ?_)
  · replace h := if_t hb h
    obtain ⟨hc6, h⟩ := chk_of h
    refine Wp.region hΓ [] [] [] [1, 5] [1] (K' := [(1, .own 1 0), (5, .str (v5 ++ [32, 45, 111]))]) (L' := [(1, 32, (E_ref45_Step b1))]) (ob := [(decide (((List.length v5 + List.length ([32, 45, 111] : List UInt8) : Nat) : Int) ≤ 9223372036854775807)) = true]) (by kernel_rfl) (AllP.cons hc6 AllP.nil) ?_
    refine To.keep (kk := [1, 5]) (kl := [1]) (K' := [(1, .own 1 0), (5, .str (v5 ++ [32, 45, 111]))]) (L' := [(1, 32, (E_ref45_Step b1))]) (by kernel_rfl) (by kernel_rfl) ?_
    cases h
    exact hQ
  · replace h := if_f hb h
    refine Wp.skip ?_
    refine To.keep (kk := [1, 5]) (kl := [1]) (K' := [(1, .own 1 0), (5, .str v5)]) (L' := [(1, 32, (E_ref45_Step b1))]) (by kernel_rfl) (by kernel_rfl) ?_
    cases h
    exact hQ
def ref45_written_j3 (n : Nat) (v5 : List UInt8) (v56 : Bool) (b1 : S_ref45_Step) : Option ((List UInt8)) :=
  if v56 = true then (if (decide (((List.length v5 + List.length ([32, 45, 118] : List UInt8) : Nat) : Int) ≤ 9223372036854775807)) = true then (some (v5 ++ [32, 45, 118])) else none)
  else some v5
theorem ok_ref45_written_j3 (n : Nat) (v5 : List UInt8) (v56 : Bool) (b1 : S_ref45_Step) (o : (List UInt8)) (h : ref45_written_j3 n v5 v56 b1 = some o) {F0 : Fz} {w0 : Pt Tryd.prog} {Q : Exit → Act → World → Prop} (hQ : To 131 F0 w0 [(1, .own 1 0), (5, .str o)] [(1, 32, (E_ref45_Step b1))] .normal Q) : Wp Tryd.prog 131 F0 w0 [(1, .own 1 0), (5, .str v5), (56, vb v56)] [(1, 32, (E_ref45_Step b1))] (cB (cA (cB (cB (cB (cB (cT (cB (cA (cB (cB (cF Tryd.f21)))))))))))) Q := by
  unfold ref45_written_j3 at h
  refine Wp.cond (b := v56) (by kernel_rfl) (fun hb => ?_) (fun hb => ?_)
  · replace h := if_t hb h
    obtain ⟨hc7, h⟩ := chk_of h
    refine Wp.region hΓ [] [] [] [1, 5] [1] (K' := [(1, .own 1 0), (5, .str (v5 ++ [32, 45, 118]))]) (L' := [(1, 32, (E_ref45_Step b1))]) (ob := [(decide (((List.length v5 + List.length ([32, 45, 118] : List UInt8) : Nat) : Int) ≤ 9223372036854775807)) = true]) (by kernel_rfl) (AllP.cons hc7 AllP.nil) ?_
    refine To.keep (kk := [1, 5]) (kl := [1]) (K' := [(1, .own 1 0), (5, .str (v5 ++ [32, 45, 118]))]) (L' := [(1, 32, (E_ref45_Step b1))]) (by kernel_rfl) (by kernel_rfl) ?_
    cases h
    exact hQ
  · replace h := if_f hb h
    refine Wp.skip ?_
    refine To.keep (kk := [1, 5]) (kl := [1]) (K' := [(1, .own 1 0), (5, .str v5)]) (L' := [(1, 32, (E_ref45_Step b1))]) (by kernel_rfl) (by kernel_rfl) ?_
    cases h
    exact hQ
def ref45_written_j4 (n : Nat) (v7 : List UInt8) (v80 : Bool) (b1 : S_ref45_Step) : Option ((List UInt8)) :=
  if v80 = true then (if (decide (((List.length v7 + List.length ([32] : List UInt8) : Nat) : Int) ≤ 9223372036854775807)) = true then (if (decide (((List.length (v7 ++ [32]) + List.length b1.f_Call.f_Spec.f_Project : Nat) : Int) ≤ 9223372036854775807)) = true then (some ((v7 ++ [32]) ++ b1.f_Call.f_Spec.f_Project)) else none) else none)
  else some v7
theorem ok_ref45_written_j4 (n : Nat) (v7 : List UInt8) (v80 : Bool) (b1 : S_ref45_Step) (o : (List UInt8)) (h : ref45_written_j4 n v7 v80 b1 = some o) {F0 : Fz} {w0 : Pt Tryd.prog} {Q : Exit → Act → World → Prop} (hQ : To 131 F0 w0 [(7, .str o)] [] .normal Q) : Wp Tryd.prog 131 F0 w0 [(1, .own 1 0), (7, .str v7), (80, vb v80)] [(1, 32, (E_ref45_Step b1))] (cB (cA (cB (cT (cB (cA (cB (cB (cB (cF Tryd.f21)))))))))) Q := by
  unfold ref45_written_j4 at h
  refine Wp.cond (b := v80) (by kernel_rfl) (fun hb => ?_) (fun hb => ?_)
  · replace h := if_t hb h
    obtain ⟨hc16, h⟩ := chk_of h
    obtain ⟨hc17, h⟩ := chk_of h
    refine Wp.region hΓ [] [] [] [7] [] (K' := [(7, .str ((v7 ++ [32]) ++ b1.f_Call.f_Spec.f_Project))]) (L' := []) (ob := [(decide (((List.length v7 + List.length ([32] : List UInt8) : Nat) : Int) ≤ 9223372036854775807)) = true, (decide (((List.length (v7 ++ [32]) + List.length b1.f_Call.f_Spec.f_Project : Nat) : Int) ≤ 9223372036854775807)) = true]) (by kernel_rfl) (AllP.cons hc16 (AllP.cons hc17 AllP.nil)) ?_
    refine To.keep (kk := [7]) (kl := []) (K' := [(7, .str ((v7 ++ [32]) ++ b1.f_Call.f_Spec.f_Project))]) (L' := []) (by kernel_rfl) (by kernel_rfl) ?_
    cases h
    exact hQ
  · replace h := if_f hb h
    refine Wp.skip ?_
    refine To.keep (kk := [7]) (kl := []) (K' := [(7, .str v7)]) (L' := []) (by kernel_rfl) (by kernel_rfl) ?_
    cases h
    exact hQ
def ref45_written (n : Nat) (a0 : S_ref45_Step) : Option ((List UInt8)) :=
  (ref01_Text n a0.f_N).bind fun r1 =>
  (ref01_Text n a0.f_M).bind fun r2 =>
  if (a0.f_Kind == 1) = true then ((ref44_Command n a0.f_Command.f_Kind).bind fun r3 =>
  if (decide (((List.length r3 + List.length ([32] : List UInt8) : Nat) : Int) ≤ 9223372036854775807)) = true then (if (decide (((List.length (r3 ++ [32]) + List.length r1 : Nat) : Int) ≤ 9223372036854775807)) = true then ((ref45_written_l1 n a0 n ((r3 ++ [32]) ++ r1) 0).bind fun o4 =>
  (ref45_option n [45, 110] a0.f_Command.f_Count).bind fun r5 =>
  if (decide (((List.length o4 + List.length r5 : Nat) : Int) ≤ 9223372036854775807)) = true then ((ref45_written_j2 n (o4 ++ r5) a0.f_Command.f_Orphans a0).bind fun o6 =>
  (ref45_written_j3 n o6 a0.f_Command.f_Volumes a0).bind fun o7 =>
  (ref45_option n [45, 116] a0.f_Command.f_Timeout).bind fun r8 =>
  if (decide (((List.length o7 + List.length r8 : Nat) : Int) ≤ 9223372036854775807)) = true then ((ref45_option n [45, 114] a0.f_Command.f_Retries).bind fun r9 =>
  if (decide (((List.length (o7 ++ r8) + List.length r9 : Nat) : Int) ≤ 9223372036854775807)) = true then (some ((o7 ++ r8) ++ r9)) else none) else none) else none) else none) else none)
  else (if (a0.f_Kind == 9) = true then ((ref44_Call n a0.f_Call).bind fun r15 =>
  if (decide (((List.length ([99, 97, 108, 108, 32] : List UInt8) + List.length r15 : Nat) : Int) ≤ 9223372036854775807)) = true then ((ref45_written_j4 n (([99, 97, 108, 108, 32] : List UInt8) ++ r15) (decide (a0.f_Call.f_Kind < 3)) a0).bind fun o16 =>
  some o16) else none)
  else (lett ([[], [], [103, 111], [116, 105, 99, 107], [101, 120, 105, 116], [115, 105, 99, 107], [119, 101, 108, 108], [102, 97, 117, 108, 116], [99, 114, 97, 115, 104]] : List (List UInt8)) fun x18 =>
  if (bif (decide (a0.f_Kind < 2)) then true else (decide (a0.f_Kind > 8))) = true then (some [])
  else (if (decide (0 ≤ a0.f_Kind ∧ a0.f_Kind < (List.length x18 : Int))) = true then (if (bif (a0.f_Kind == 2) then true else (a0.f_Kind == 8)) = true then (some ((x18)[Int.toNat a0.f_Kind]?.getD []))
  else (if (bif (a0.f_Kind == 4) then true else (a0.f_Kind == 7)) = true then (if (decide (((List.length ((x18)[Int.toNat a0.f_Kind]?.getD []) + List.length ([32] : List UInt8) : Nat) : Int) ≤ 9223372036854775807)) = true then (if (decide (((List.length (((x18)[Int.toNat a0.f_Kind]?.getD []) ++ [32]) + List.length r1 : Nat) : Int) ≤ 9223372036854775807)) = true then (if (decide (((List.length ((((x18)[Int.toNat a0.f_Kind]?.getD []) ++ [32]) ++ r1) + List.length ([32] : List UInt8) : Nat) : Int) ≤ 9223372036854775807)) = true then (if (decide (((List.length (((((x18)[Int.toNat a0.f_Kind]?.getD []) ++ [32]) ++ r1) ++ [32]) + List.length r2 : Nat) : Int) ≤ 9223372036854775807)) = true then (some ((((((x18)[Int.toNat a0.f_Kind]?.getD []) ++ [32]) ++ r1) ++ [32]) ++ r2)) else none) else none) else none) else none)
  else (if (decide (((List.length ((x18)[Int.toNat a0.f_Kind]?.getD []) + List.length ([32] : List UInt8) : Nat) : Int) ≤ 9223372036854775807)) = true then (if (decide (((List.length (((x18)[Int.toNat a0.f_Kind]?.getD []) ++ [32]) + List.length r1 : Nat) : Int) ≤ 9223372036854775807)) = true then (some ((((x18)[Int.toNat a0.f_Kind]?.getD []) ++ [32]) ++ r1)) else none) else none))) else none)))
theorem ok_ref45_written (n : Nat) (a0 : S_ref45_Step) (r : (List UInt8)) (h : ref45_written n a0 = some r) : CallsX Tryd.prog 21 [.agg [vi a0.f_Kind, vi a0.f_N, vi a0.f_M, vi a0.f_Command.f_Kind, ls a0.f_Command.f_Services, vi a0.f_Command.f_Count, vb a0.f_Command.f_Orphans, vb a0.f_Command.f_Volumes, vi a0.f_Command.f_Timeout, vi a0.f_Command.f_Retries, vi a0.f_Call.f_Kind, .str a0.f_Call.f_Name, vi a0.f_Call.f_Id, .str a0.f_Call.f_Spec.f_Name, .str a0.f_Call.f_Spec.f_Project, .str a0.f_Call.f_Spec.f_Service, vi a0.f_Call.f_Spec.f_Number, .str a0.f_Call.f_Spec.f_Hash, ls a0.f_Call.f_Spec.f_Nets, ls a0.f_Call.f_Spec.f_Vols, .str a0.f_Call.f_Spec.f_Health.f_Test, vi a0.f_Call.f_Spec.f_Health.f_Every, vi a0.f_Call.f_Spec.f_Health.f_Start, vi a0.f_Call.f_Spec.f_Health.f_Retries, vi a0.f_Call.f_Spec.f_Restart, vi a0.f_Call.f_Spec.f_Tries]] (.str r) := by
  unfold ref45_written at h
  refine callsX_of (fn := Tryd.f21) (by kernel_rfl) rfl (by kernel_rfl) (Nat.le_of_ble_eq_true (by kernel_rfl)) fun F0 w0 _ => ?_
  refine Wp.keep (kk := [0]) (kl := []) (K' := [(0, .agg (E_ref45_Step a0))]) (L' := []) (by kernel_rfl) (by kernel_rfl) ?_
  refine Wp.seq ?_
  refine rg [1] [1] (K' := [(1, .own 1 0)]) (L' := [(1, 32, (E_ref45_Step a0))]) (by kernel_rfl) ?_
  refine To.thenN (Wp.seq ?_)
  obtain ⟨r1, hr1, h⟩ := bind_of h
  obtain ⟨r2, hr2, h⟩ := bind_of h
  refine Wp.regionD hm hΓ [(2, .str r1), (5, .str r2)] [1, 3, 4] [1] (K' := [(1, .own 1 0), (3, .str r1), (4, .str r2)]) (L' := [(1, 32, (E_ref45_Step a0))]) (ob := [(true = true → CX Tryd.prog 45 [vi a0.f_N] (.str r1)), (true = true → CX Tryd.prog 45 [vi a0.f_M] (.str r2))]) (by kernel_rfl) (AllP.cons (fun _ => cx (ok_ref01_Text n a0.f_N _ hr1)) (AllP.cons (fun _ => cx (ok_ref01_Text n a0.f_M _ hr2)) AllP.nil)) ?_
  refine To.thenN (Wp.seq (Wp.seq ?_))
  refine rg [1, 3, 4, 18] [1] (K' := [(1, .own 1 0), (3, .str r1), (4, .str r2), (18, vb (a0.f_Kind == 1))]) (L' := [(1, 32, (E_ref45_Step a0))]) (by kernel_rfl) ?_
  refine To.thenN ?_
  refine Wp.cond (b := (a0.f_Kind == 1)) (by kernel_rfl) (fun hb => ?_) (fun hb => ?_)
  · replace h := if_t hb h
    refine Wp.seq ?_
    obtain ⟨r3, hr3, h⟩ := bind_of h
    obtain ⟨hc13, h⟩ := chk_of h
    obtain ⟨hc14, h⟩ := chk_of h
    refine Wp.region hΓ [] [(3, .str r3)] [] [1, 5] [1] (K' := [(1, .own 1 0), (5, .str ((r3 ++ [32]) ++ r1))]) (L' := [(1, 32, (E_ref45_Step a0))]) (ob := [(true = true → CX Tryd.prog 36 [vi a0.f_Command.f_Kind] (.str r3)), (decide (((List.length r3 + List.length ([32] : List UInt8) : Nat) : Int) ≤ 9223372036854775807)) = true, (decide (((List.length (r3 ++ [32]) + List.length r1 : Nat) : Int) ≤ 9223372036854775807)) = true]) (by kernel_rfl) (AllP.cons (fun _ => cx (ok_ref44_Command n a0.f_Command.f_Kind _ hr3)) (AllP.cons hc13 (AllP.cons hc14 AllP.nil))) ?_
    refine To.thenN (Wp.seq (Wp.seq ?_))
    refine rg [1, 5, 6] [1] (K' := [(1, .own 1 0), (5, .str ((r3 ++ [32]) ++ r1)), (6, vi 0)]) (L' := [(1, 32, (E_ref45_Step a0))]) (by kernel_rfl) ?_
    refine To.thenN (Wp.block ?_)
    obtain ⟨o4, ho4, h⟩ := bind_of h
    refine Wp.keep (kk := [1, 5, 6]) (kl := [1]) (K' := [(1, .own 1 0), (5, .str ((r3 ++ [32]) ++ r1)), (6, vi 0)]) (L' := [(1, 32, (E_ref45_Step a0))]) (by kernel_rfl) (by kernel_rfl) ?_
    refine Wp.loopL ?_
    refine ok_ref45_written_l1 n a0 n ((r3 ++ [32]) ++ r1) 0 o4 ho4 ?_
    refine To.blockX ?_
    refine To.thenN (Wp.seq ?_)
    obtain ⟨r5, hr5, h⟩ := bind_of h
    obtain ⟨hc12, h⟩ := chk_of h
    refine Wp.region hΓ [] [(4, .str r5)] [] [1, 5] [1] (K' := [(1, .own 1 0), (5, .str (o4 ++ r5))]) (L' := [(1, 32, (E_ref45_Step a0))]) (ob := [(true = true → CX Tryd.prog 46 [.str [45, 110], vi a0.f_Command.f_Count] (.str r5)), (decide (((List.length o4 + List.length r5 : Nat) : Int) ≤ 9223372036854775807)) = true]) (by kernel_rfl) (AllP.cons (fun _ => cx (ok_ref45_option n [45, 110] a0.f_Command.f_Count _ hr5)) (AllP.cons hc12 AllP.nil)) ?_
    refine To.thenN (Wp.seq (Wp.seq ?_))
    refine rg [1, 5, 51] [1] (K' := [(1, .own 1 0), (5, .str (o4 ++ r5)), (51, vb a0.f_Command.f_Orphans)]) (L' := [(1, 32, (E_ref45_Step a0))]) (by kernel_rfl) ?_
    refine To.thenN ?_
    obtain ⟨o6, ho6, h⟩ := bind_of h
    refine Wp.keep (kk := [1, 5, 51]) (kl := [1]) (K' := [(1, .own 1 0), (5, .str (o4 ++ r5)), (51, vb a0.f_Command.f_Orphans)]) (L' := [(1, 32, (E_ref45_Step a0))]) (by kernel_rfl) (by kernel_rfl) ?_
    refine ok_ref45_written_j2 n (o4 ++ r5) a0.f_Command.f_Orphans a0 o6 ho6 ?_
    refine To.thenN (Wp.seq (Wp.seq ?_))
    refine rg [1, 5, 56] [1] (K' := [(1, .own 1 0), (5, .str o6), (56, vb a0.f_Command.f_Volumes)]) (L' := [(1, 32, (E_ref45_Step a0))]) (by kernel_rfl) ?_
    refine To.thenN ?_
    obtain ⟨o7, ho7, h⟩ := bind_of h
    refine Wp.keep (kk := [1, 5, 56]) (kl := [1]) (K' := [(1, .own 1 0), (5, .str o6), (56, vb a0.f_Command.f_Volumes)]) (L' := [(1, 32, (E_ref45_Step a0))]) (by kernel_rfl) (by kernel_rfl) ?_
    refine ok_ref45_written_j3 n o6 a0.f_Command.f_Volumes a0 o7 ho7 ?_
    refine To.thenN (Wp.seq ?_)
    obtain ⟨r8, hr8, h⟩ := bind_of h
    obtain ⟨hc10, h⟩ := chk_of h
    obtain ⟨r9, hr9, h⟩ := bind_of h
    obtain ⟨hc11, h⟩ := chk_of h
    refine Wp.regionD hm hΓ [(4, .str r8), (9, .str r9)] [2] [] (K' := [(2, .str ((o7 ++ r8) ++ r9))]) (L' := []) (ob := [(true = true → CX Tryd.prog 46 [.str [45, 116], vi a0.f_Command.f_Timeout] (.str r8)), (decide (((List.length o7 + List.length r8 : Nat) : Int) ≤ 9223372036854775807)) = true, (true = true → CX Tryd.prog 46 [.str [45, 114], vi a0.f_Command.f_Retries] (.str r9)), (decide (((List.length (o7 ++ r8) + List.length r9 : Nat) : Int) ≤ 9223372036854775807)) = true]) (by kernel_rfl) (AllP.cons (fun _ => cx (ok_ref45_option n [45, 116] a0.f_Command.f_Timeout _ hr8)) (AllP.cons hc10 (AllP.cons (fun _ => cx (ok_ref45_option n [45, 114] a0.f_Command.f_Retries _ hr9)) (AllP.cons hc11 AllP.nil)))) ?_
    refine To.thenN ?_
    refine Wp.ret ?_
    refine To.thenR ?_
    refine To.keep (kk := [2]) (kl := []) (K' := [(2, .str ((o7 ++ r8) ++ r9))]) (L' := []) (by kernel_rfl) (by kernel_rfl) ?_
    cases h
    exact To.done hΓ (by kernel_rfl)
  · replace h := if_f hb h
    refine Wp.skip (To.thenN (Wp.seq (Wp.seq ?_)))
    refine rg [1, 3, 4, 72] [1] (K' := [(1, .own 1 0), (3, .str r1), (4, .str r2), (72, vb (a0.f_Kind == 9))]) (L' := [(1, 32, (E_ref45_Step a0))]) (by kernel_rfl) ?_
    refine To.thenN ?_
    refine Wp.cond (b := (a0.f_Kind == 9)) (by kernel_rfl) (fun hb => ?_) (fun hb => ?_)
    · replace h := if_t hb h
      refine Wp.seq ?_
      obtain ⟨r15, hr15, h⟩ := bind_of h
      obtain ⟨hc17, h⟩ := chk_of h
      refine Wp.region hΓ [] [(2, .str r15)] [] [1, 7] [1] (K' := [(1, .own 1 0), (7, .str (([99, 97, 108, 108, 32] : List UInt8) ++ r15))]) (L' := [(1, 32, (E_ref45_Step a0))]) (ob := [(true = true → CX Tryd.prog 47 [.agg [vi a0.f_Call.f_Kind, .str a0.f_Call.f_Name, vi a0.f_Call.f_Id, .str a0.f_Call.f_Spec.f_Name, .str a0.f_Call.f_Spec.f_Project, .str a0.f_Call.f_Spec.f_Service, vi a0.f_Call.f_Spec.f_Number, .str a0.f_Call.f_Spec.f_Hash, ls a0.f_Call.f_Spec.f_Nets, ls a0.f_Call.f_Spec.f_Vols, .str a0.f_Call.f_Spec.f_Health.f_Test, vi a0.f_Call.f_Spec.f_Health.f_Every, vi a0.f_Call.f_Spec.f_Health.f_Start, vi a0.f_Call.f_Spec.f_Health.f_Retries, vi a0.f_Call.f_Spec.f_Restart, vi a0.f_Call.f_Spec.f_Tries]] (.str r15)), (decide (((List.length ([99, 97, 108, 108, 32] : List UInt8) + List.length r15 : Nat) : Int) ≤ 9223372036854775807)) = true]) (by kernel_rfl) (AllP.cons (fun _ => cx (ok_ref44_Call n a0.f_Call _ hr15)) (AllP.cons hc17 AllP.nil)) ?_
      refine To.thenN (Wp.seq (Wp.seq ?_))
      refine rg [1, 7, 80] [1] (K' := [(1, .own 1 0), (7, .str (([99, 97, 108, 108, 32] : List UInt8) ++ r15)), (80, vb (decide (a0.f_Call.f_Kind < 3)))]) (L' := [(1, 32, (E_ref45_Step a0))]) (by kernel_rfl) ?_
      refine To.thenN ?_
      obtain ⟨o16, ho16, h⟩ := bind_of h
      refine Wp.keep (kk := [1, 7, 80]) (kl := [1]) (K' := [(1, .own 1 0), (7, .str (([99, 97, 108, 108, 32] : List UInt8) ++ r15)), (80, vb (decide (a0.f_Call.f_Kind < 3)))]) (L' := [(1, 32, (E_ref45_Step a0))]) (by kernel_rfl) (by kernel_rfl) ?_
      refine ok_ref45_written_j4 n (([99, 97, 108, 108, 32] : List UInt8) ++ r15) (decide (a0.f_Call.f_Kind < 3)) a0 o16 ho16 ?_
      refine To.thenN (Wp.seq ?_)
      refine rg [2] [] (K' := [(2, .str o16)]) (L' := []) (by kernel_rfl) ?_
      refine To.thenN ?_
      refine Wp.ret ?_
      refine To.thenR ?_
      refine To.keep (kk := [2]) (kl := []) (K' := [(2, .str o16)]) (L' := []) (by kernel_rfl) (by kernel_rfl) ?_
      cases h
      exact To.done hΓ (by kernel_rfl)
    · replace h := if_f hb h
      refine Wp.skip (To.thenN (Wp.seq ?_))
      obtain ⟨x18, hx18, h⟩ := lett_of h
      refine Wp.region hΓ [] [(0, ls ([[], [], [103, 111], [116, 105, 99, 107], [101, 120, 105, 116], [115, 105, 99, 107], [119, 101, 108, 108], [102, 97, 117, 108, 116], [99, 114, 97, 115, 104]]))] [] [1, 3, 4, 8] [1, 89] (K' := [(1, .own 1 0), (3, .str r1), (4, .str r2), (8, .row 89)]) (L' := [(1, 32, (E_ref45_Step a0)), (89, 9, [.rowc false (α := List UInt8) [] E_string ([[], [], [103, 111], [116, 105, 99, 107], [101, 120, 105, 116], [115, 105, 99, 107], [119, 101, 108, 108], [102, 97, 117, 108, 116], [99, 114, 97, 115, 104]])])]) (ob := [(MkOb 1 [.str [], .str [], .str [103, 111], .str [116, 105, 99, 107], .str [101, 120, 105, 116], .str [115, 105, 99, 107], .str [119, 101, 108, 108], .str [102, 97, 117, 108, 116], .str [99, 114, 97, 115, 104]] 9 (ls ([[], [], [103, 111], [116, 105, 99, 107], [101, 120, 105, 116], [115, 105, 99, 107], [119, 101, 108, 108], [102, 97, 117, 108, 116], [99, 114, 97, 115, 104]])) ∧ GoodR (ls ([[], [], [103, 111], [116, 105, 99, 107], [101, 120, 105, 116], [115, 105, 99, 107], [119, 101, 108, 108], [102, 97, 117, 108, 116], [99, 114, 97, 115, 104]])))]) (by kernel_rfl) (AllP.cons (mkOb (by kernel_rfl) rfl (by kernel_rfl) (good_E_string _)) AllP.nil) ?_
      refine To.eq (K' := [(1, .own 1 0), (3, .str r1), (4, .str r2), (8, .row 89)]) (L' := [(1, 32, (E_ref45_Step a0)), (89, 9, [.rowc false (α := List UInt8) [] E_string x18])]) (by cases hx18; rfl) (by cases hx18; rfl) ?_
      refine To.thenN (Wp.seq (Wp.seq ?_))
      refine rg [1, 3, 4, 8, 97] [1, 89] (K' := [(1, .own 1 0), (3, .str r1), (4, .str r2), (8, .row 89), (97, vb (bif (decide (a0.f_Kind < 2)) then true else (decide (a0.f_Kind > 8))))]) (L' := [(1, 32, (E_ref45_Step a0)), (89, 9, [.rowc false (α := List UInt8) [] E_string x18])]) (by kernel_rfl) ?_
      refine To.thenN ?_
      refine Wp.cond (b := (bif (decide (a0.f_Kind < 2)) then true else (decide (a0.f_Kind > 8)))) (by kernel_rfl) (fun hb => ?_) (fun hb => ?_)
      · replace h := if_t hb h
        refine Wp.seq ?_
        refine rg [2] [] (K' := [(2, .str [])]) (L' := []) (by kernel_rfl) ?_
        refine To.thenN ?_
        refine Wp.ret ?_
        refine To.thenR ?_
        refine To.keep (kk := [2]) (kl := []) (K' := [(2, .str [])]) (L' := []) (by kernel_rfl) (by kernel_rfl) ?_
        cases h
        exact To.done hΓ (by kernel_rfl)
      · replace h := if_f hb h
        refine Wp.skip (To.thenN (Wp.seq ?_))
        obtain ⟨hc25, h⟩ := chk_of h
        refine Wp.region hΓ [] [] [] [1, 3, 4, 9] [1] (K' := [(1, .own 1 0), (3, .str r1), (4, .str r2), (9, .str ((x18)[Int.toNat a0.f_Kind]?.getD []))]) (L' := [(1, 32, (E_ref45_Step a0))]) (ob := [(decide (0 ≤ a0.f_Kind ∧ a0.f_Kind < (List.length x18 : Int))) = true, (decide (0 ≤ a0.f_Kind ∧ a0.f_Kind < (List.length x18 : Int))) = true]) (by kernel_rfl) (AllP.cons hc25 (AllP.cons hc25 AllP.nil)) ?_
        refine To.thenN (Wp.seq (Wp.seq ?_))
        refine rg [1, 3, 4, 9, 110] [1] (K' := [(1, .own 1 0), (3, .str r1), (4, .str r2), (9, .str ((x18)[Int.toNat a0.f_Kind]?.getD [])), (110, vb (bif (a0.f_Kind == 2) then true else (a0.f_Kind == 8)))]) (L' := [(1, 32, (E_ref45_Step a0))]) (by kernel_rfl) ?_
        refine To.thenN ?_
        refine Wp.cond (b := (bif (a0.f_Kind == 2) then true else (a0.f_Kind == 8))) (by kernel_rfl) (fun hb => ?_) (fun hb => ?_)
        · replace h := if_t hb h
          refine Wp.seq ?_
          refine rg [2] [] (K' := [(2, .str ((x18)[Int.toNat a0.f_Kind]?.getD []))]) (L' := []) (by kernel_rfl) ?_
          refine To.thenN ?_
          refine Wp.ret ?_
          refine To.thenR ?_
          refine To.keep (kk := [2]) (kl := []) (K' := [(2, .str ((x18)[Int.toNat a0.f_Kind]?.getD []))]) (L' := []) (by kernel_rfl) (by kernel_rfl) ?_
          cases h
          exact To.done hΓ (by kernel_rfl)
        · replace h := if_f hb h
          refine Wp.skip (To.thenN (Wp.seq (Wp.seq ?_)))
          refine rg [3, 4, 9, 119] [] (K' := [(3, .str r1), (4, .str r2), (9, .str ((x18)[Int.toNat a0.f_Kind]?.getD [])), (119, vb (bif (a0.f_Kind == 4) then true else (a0.f_Kind == 7)))]) (L' := []) (by kernel_rfl) ?_
          refine To.thenN ?_
          refine Wp.cond (b := (bif (a0.f_Kind == 4) then true else (a0.f_Kind == 7))) (by kernel_rfl) (fun hb => ?_) (fun hb => ?_)
          · replace h := if_t hb h
            refine Wp.seq ?_
            obtain ⟨hc19, h⟩ := chk_of h
            obtain ⟨hc20, h⟩ := chk_of h
            obtain ⟨hc21, h⟩ := chk_of h
            obtain ⟨hc22, h⟩ := chk_of h
            refine Wp.region hΓ [] [] [] [2] [] (K' := [(2, .str ((((((x18)[Int.toNat a0.f_Kind]?.getD []) ++ [32]) ++ r1) ++ [32]) ++ r2))]) (L' := []) (ob := [(decide (((List.length ((x18)[Int.toNat a0.f_Kind]?.getD []) + List.length ([32] : List UInt8) : Nat) : Int) ≤ 9223372036854775807)) = true, (decide (((List.length (((x18)[Int.toNat a0.f_Kind]?.getD []) ++ [32]) + List.length r1 : Nat) : Int) ≤ 9223372036854775807)) = true, (decide (((List.length ((((x18)[Int.toNat a0.f_Kind]?.getD []) ++ [32]) ++ r1) + List.length ([32] : List UInt8) : Nat) : Int) ≤ 9223372036854775807)) = true, (decide (((List.length (((((x18)[Int.toNat a0.f_Kind]?.getD []) ++ [32]) ++ r1) ++ [32]) + List.length r2 : Nat) : Int) ≤ 9223372036854775807)) = true]) (by kernel_rfl) (AllP.cons hc19 (AllP.cons hc20 (AllP.cons hc21 (AllP.cons hc22 AllP.nil)))) ?_
            refine To.thenN ?_
            refine Wp.ret ?_
            refine To.thenR ?_
            refine To.keep (kk := [2]) (kl := []) (K' := [(2, .str ((((((x18)[Int.toNat a0.f_Kind]?.getD []) ++ [32]) ++ r1) ++ [32]) ++ r2))]) (L' := []) (by kernel_rfl) (by kernel_rfl) ?_
            cases h
            exact To.done hΓ (by kernel_rfl)
          · replace h := if_f hb h
            refine Wp.skip (To.thenN (Wp.seq ?_))
            obtain ⟨hc23, h⟩ := chk_of h
            obtain ⟨hc24, h⟩ := chk_of h
            refine Wp.region hΓ [] [] [] [2] [] (K' := [(2, .str ((((x18)[Int.toNat a0.f_Kind]?.getD []) ++ [32]) ++ r1))]) (L' := []) (ob := [(decide (((List.length ((x18)[Int.toNat a0.f_Kind]?.getD []) + List.length ([32] : List UInt8) : Nat) : Int) ≤ 9223372036854775807)) = true, (decide (((List.length (((x18)[Int.toNat a0.f_Kind]?.getD []) ++ [32]) + List.length r1 : Nat) : Int) ≤ 9223372036854775807)) = true]) (by kernel_rfl) (AllP.cons hc23 (AllP.cons hc24 AllP.nil)) ?_
            refine To.thenN ?_
            refine Wp.ret ?_
            refine To.keep (kk := [2]) (kl := []) (K' := [(2, .str ((((x18)[Int.toNat a0.f_Kind]?.getD []) ++ [32]) ++ r1))]) (L' := []) (by kernel_rfl) (by kernel_rfl) ?_
            cases h
            exact To.done hΓ (by kernel_rfl)
def ref45_Split_j2 (n : Nat) (v0 : List UInt8) (v3 : List (List UInt8)) (v4 : Int) (v5 : Int) : Option ((List (List UInt8)) × Int) :=
  if (decide (0 ≤ v5 ∧ v5 < (List.length v0 : Int))) = true then (if ((((v0)[Int.toNat v5]?.getD 0).toNat : Int) == 32) = true then (if (decide (0 ≤ v5 ∧ v5 ≤ (List.length v0 : Int))) = true then (if (decide (0 ≤ v4 ∧ v4 ≤ v5)) = true then (if (decide ((List.length v3 + List.length ([(List.take (Int.toNat v5 - Int.toNat v4) (List.drop (Int.toNat v4) v0))] : List (List UInt8))) * (16 + 1) ≤ limit)) = true then (some ((v3 ++ ([(List.take (Int.toNat v5 - Int.toNat v4) (List.drop (Int.toNat v4) v0))] : List (List UInt8))), (IntKind.wrap .i64 (v5 + 1)))) else none) else none) else none)
  else (some (v3, v4))) else none
theorem ok_ref45_Split_j2 (n : Nat) (v0 : List UInt8) (v3 : List (List UInt8)) (v4 : Int) (v5 : Int) (o : (List (List UInt8)) × Int) (h : ref45_Split_j2 n v0 v3 v4 v5 = some o) {F0 : Fz} {w0 : Pt Tryd.prog} {Q : Exit → Act → World → Prop} (hQ : To 32 F0 w0 [(0, .str v0), (3, .row 1003), (4, vi o.2), (5, vi v5)] [(1003, 9, [.rowc false (α := List UInt8) [] E_string o.1])] .normal Q) : Wp Tryd.prog 32 F0 w0 [(0, .str v0), (3, .row 1003), (4, vi v4), (5, vi v5)] [(1003, 9, [.rowc false (α := List UInt8) [] E_string v3])] (cA (cB (cI (cI (cB (cA (cB (cB (cB (cF Tryd.f34)))))))))) Q := by
  unfold ref45_Split_j2 at h
  refine Wp.block (Wp.seq ?_)
  obtain ⟨hc4, h⟩ := chk_of h
  refine Wp.region hΓ [] [] [] [0, 3, 4, 5, 16] [1003] (K' := [(0, .str v0), (3, .row 1003), (4, vi v4), (5, vi v5), (16, vb ((((v0)[Int.toNat v5]?.getD 0).toNat : Int) == 32))]) (L' := [(1003, 9, [.rowc false (α := List UInt8) [] E_string v3])]) (ob := [(decide (0 ≤ v5 ∧ v5 < (List.length v0 : Int))) = true]) (by kernel_rfl) (AllP.cons hc4 AllP.nil) ?_
  refine To.thenN ?_
  refine Wp.cond (b := ((((v0)[Int.toNat v5]?.getD 0).toNat : Int) == 32)) (by kernel_rfl) (fun hb => ?_) (fun hb => ?_)
  · replace h := if_t hb h
    refine Wp.seq ?_
    obtain ⟨hc1, h⟩ := chk_of h
    obtain ⟨hc2, h⟩ := chk_of h
    obtain ⟨hc3, h⟩ := chk_of h
    refine Wp.region hΓ [] [(5, ls [(List.take (Int.toNat v5 - Int.toNat v4) (List.drop (Int.toNat v4) v0))]), (6, ls (v3 ++ ([(List.take (Int.toNat v5 - Int.toNat v4) (List.drop (Int.toNat v4) v0))] : List (List UInt8))))] [] [0, 3, 5] [23] (K' := [(0, .str v0), (3, .row 23), (5, vi v5)]) (L' := [(23, 9, [.rowc false (α := List UInt8) [] E_string (v3 ++ ([(List.take (Int.toNat v5 - Int.toNat v4) (List.drop (Int.toNat v4) v0))] : List (List UInt8)))])]) (ob := [(decide (0 ≤ v5 ∧ v5 ≤ (List.length v0 : Int))) = true, (decide (0 ≤ v4 ∧ v4 ≤ v5)) = true, (MkOb 1 [.str (List.take (Int.toNat v5 - Int.toNat v4) (List.drop (Int.toNat v4) v0))] 1 (ls [(List.take (Int.toNat v5 - Int.toNat v4) (List.drop (Int.toNat v4) v0))]) ∧ GoodR (ls [(List.take (Int.toNat v5 - Int.toNat v4) (List.drop (Int.toNat v4) v0))])), (decide ((List.length v3 + List.length ([(List.take (Int.toNat v5 - Int.toNat v4) (List.drop (Int.toNat v4) v0))] : List (List UInt8))) * (16 + 1) ≤ limit)) = true, (AppOb [] E_string v3 (List.flatMap E_string ([(List.take (Int.toNat v5 - Int.toNat v4) (List.drop (Int.toNat v4) v0))] : List (List UInt8))) (List.length ([(List.take (Int.toNat v5 - Int.toNat v4) (List.drop (Int.toNat v4) v0))] : List (List UInt8))) (ls (v3 ++ ([(List.take (Int.toNat v5 - Int.toNat v4) (List.drop (Int.toNat v4) v0))] : List (List UInt8)))) ∧ GoodR (ls (v3 ++ ([(List.take (Int.toNat v5 - Int.toNat v4) (List.drop (Int.toNat v4) v0))] : List (List UInt8)))))]) (by kernel_rfl) (AllP.cons hc1 (AllP.cons hc2 (AllP.cons (mkOb (by kernel_rfl) rfl (by kernel_rfl) (good_E_string _)) (AllP.cons hc3 (AllP.cons (appOb rfl rfl (good_E_string _)) AllP.nil))))) ?_
    refine To.thenN ?_
    refine rg [0, 3, 4, 5] [23] (K' := [(0, .str v0), (3, .row 23), (4, vi (IntKind.wrap .i64 (v5 + 1))), (5, vi v5)]) (L' := [(23, 9, [.rowc false (α := List UInt8) [] E_string (v3 ++ ([(List.take (Int.toNat v5 - Int.toNat v4) (List.drop (Int.toNat v4) v0))] : List (List UInt8)))])]) (by kernel_rfl) ?_
    refine To.blockN ?_
    refine To.keep (kk := [0, 3, 4, 5]) (kl := [23]) (K' := [(0, .str v0), (3, .row 23), (4, vi (IntKind.wrap .i64 (v5 + 1))), (5, vi v5)]) (L' := [(23, 9, [.rowc false (α := List UInt8) [] E_string (v3 ++ ([(List.take (Int.toNat v5 - Int.toNat v4) (List.drop (Int.toNat v4) v0))] : List (List UInt8)))])]) (by kernel_rfl) (by kernel_rfl) ?_
    refine To.pre (St.rename 23 1003 (by decide) (K' := [(0, .str v0), (3, .row 1003), (4, vi (IntKind.wrap .i64 (v5 + 1))), (5, vi v5)]) (L' := [(1003, 9, [.rowc false (α := List UInt8) [] E_string (v3 ++ ([(List.take (Int.toNat v5 - Int.toNat v4) (List.drop (Int.toNat v4) v0))] : List (List UInt8)))])]) (by kernel_rfl) (by kernel_rfl) (by kernel_rfl)) ?_
    refine To.keep (kk := [0, 3, 4, 5]) (kl := [1003]) (K' := [(0, .str v0), (3, .row 1003), (4, vi (IntKind.wrap .i64 (v5 + 1))), (5, vi v5)]) (L' := [(1003, 9, [.rowc false (α := List UInt8) [] E_string (v3 ++ ([(List.take (Int.toNat v5 - Int.toNat v4) (List.drop (Int.toNat v4) v0))] : List (List UInt8)))])]) (by kernel_rfl) (by kernel_rfl) ?_
    cases h
    exact hQ
  · replace h := if_f hb h
    refine Wp.skip ?_
    refine To.blockN ?_
    refine To.keep (kk := [0, 3, 4, 5]) (kl := [1003]) (K' := [(0, .str v0), (3, .row 1003), (4, vi v4), (5, vi v5)]) (L' := [(1003, 9, [.rowc false (α := List UInt8) [] E_string v3])]) (by kernel_rfl) (by kernel_rfl) ?_
    cases h
    exact hQ
def ref45_Split_l1 (n : Nat) (v0 : List UInt8) : Nat → (List (List UInt8)) → Int → Int → Option ((List (List UInt8)) × Int)
  | 0, _, _, _ => none
  | k + 1, v3, v4, v5 => if (decide (v5 < (List.length v0 : Int))) = true then ((ref45_Split_j2 n v0 v3 v4 v5).bind fun o1 =>
  ref45_Split_l1 n v0 k o1.1 o1.2 (IntKind.wrap .i64 (v5 + 1)))
  else (some (v3, v4))
theorem ok_ref45_Split_l1 (n : Nat) (v0 : List UInt8) {F0 : Fz} {w0 : Pt Tryd.prog} {Q : Exit → Act → World → Prop} (k : Nat) : ∀ (v3 : List (List UInt8)) (v4 : Int) (v5 : Int) (o : (List (List UInt8)) × Int), ref45_Split_l1 n v0 k v3 v4 v5 = some o → To 32 F0 w0 [(0, .str v0), (3, .row 1003), (4, vi o.2)] [(1003, 9, [.rowc false (α := List UInt8) [] E_string o.1])] (.exit 0) Q → WL Tryd.prog 32 F0 w0 [(0, .str v0), (3, .row 1003), (4, vi v4), (5, vi v5)] [(1003, 9, [.rowc false (α := List UInt8) [] E_string v3])] (cI (cI (cB (cA (cB (cB (cB (cF Tryd.f34)))))))) Q := by
  induction k with
  | zero => intro v3 v4 v5 o h; cases h
  | succ k ih =>
    intro v3 v4 v5 o h hQ
    rw [ref45_Split_l1] at h
    refine WL.round ?_
    refine Wp.seq (Wp.seq ?_)
    refine rg [0, 3, 4, 5, 10] [1003] (K' := [(0, .str v0), (3, .row 1003), (4, vi v4), (5, vi v5), (10, vb (decide (v5 < (List.length v0 : Int))))]) (L' := [(1003, 9, [.rowc false (α := List UInt8) [] E_string v3])]) (by kernel_rfl) ?_
    refine To.thenN ?_
    refine Wp.cond (b := (decide (v5 < (List.length v0 : Int)))) (by kernel_rfl) (fun hb => ?_) (fun hb => ?_)
    · replace h := if_t hb h
      refine Wp.skip (To.thenN (Wp.seq ?_))
      obtain ⟨o1, ho1, h⟩ := bind_of h
      refine Wp.keep (kk := [0, 3, 4, 5]) (kl := [1003]) (K' := [(0, .str v0), (3, .row 1003), (4, vi v4), (5, vi v5)]) (L' := [(1003, 9, [.rowc false (α := List UInt8) [] E_string v3])]) (by kernel_rfl) (by kernel_rfl) ?_
      refine ok_ref45_Split_j2 n v0 v3 v4 v5 o1 ho1 ?_
      refine To.thenN ?_
      refine rg [0, 3, 4, 5] [1003] (K' := [(0, .str v0), (3, .row 1003), (4, vi o1.2), (5, vi (IntKind.wrap .i64 (v5 + 1)))]) (L' := [(1003, 9, [.rowc false (α := List UInt8) [] E_string o1.1])]) (by kernel_rfl) ?_
      refine To.keep (kk := [0, 3, 4, 5]) (kl := [1003]) (K' := [(0, .str v0), (3, .row 1003), (4, vi o1.2), (5, vi (IntKind.wrap .i64 (v5 + 1)))]) (L' := [(1003, 9, [.rowc false (α := List UInt8) [] E_string o1.1])]) (by kernel_rfl) (by kernel_rfl) ?_
      refine To.again ?_
      exact ih o1.1 o1.2 (IntKind.wrap .i64 (v5 + 1)) _ h hQ
    · replace h := if_f hb h
      refine Wp.exit ?_
      refine To.thenX ?_
      refine To.thenX ?_
      refine To.keep (kk := [0, 3, 4]) (kl := [1003]) (K' := [(0, .str v0), (3, .row 1003), (4, vi v4)]) (L' := [(1003, 9, [.rowc false (α := List UInt8) [] E_string v3])]) (by kernel_rfl) (by kernel_rfl) ?_
      cases h
      exact hQ
def ref45_Split (n : Nat) (a0 : List UInt8) : Option ((List (List UInt8))) :=
  (ref45_Split_l1 n a0 n ([] : List (List UInt8)) 0 0).bind fun o1 =>
  if (decide (0 ≤ o1.2 ∧ o1.2 ≤ (List.length a0 : Int))) = true then (if (decide ((List.length o1.1 + List.length ([(List.drop (Int.toNat o1.2) a0)] : List (List UInt8))) * (16 + 1) ≤ limit)) = true then (some (o1.1 ++ ([(List.drop (Int.toNat o1.2) a0)] : List (List UInt8)))) else none) else none
theorem ok_ref45_Split (n : Nat) (a0 : List UInt8) (r : (List (List UInt8))) (h : ref45_Split n a0 = some r) : CallsX Tryd.prog 34 [.str a0] (ls r) := by
  unfold ref45_Split at h
  refine callsX_of (fn := Tryd.f34) (by kernel_rfl) rfl (by kernel_rfl) (Nat.le_of_ble_eq_true (by kernel_rfl)) fun F0 w0 _ => ?_
  refine Wp.keep (kk := [0]) (kl := []) (K' := [(0, .str a0)]) (L' := []) (by kernel_rfl) (by kernel_rfl) ?_
  refine Wp.seq ?_
  refine rg [0] [] (K' := [(0, .str a0)]) (L' := []) (by kernel_rfl) ?_
  refine To.thenN (Wp.seq ?_)
  refine Wp.region hΓ [] [(0, ls [])] [] [0, 3] [6] (K' := [(0, .str a0), (3, .row 6)]) (L' := [(6, 9, [.rowc false (α := List UInt8) [] E_string []])]) (ob := [(MkOb 1 [] 0 (ls []) ∧ GoodR (ls []))]) (by kernel_rfl) (AllP.cons (mkOb (by kernel_rfl) rfl (by kernel_rfl) (good_E_string _)) AllP.nil) ?_
  refine To.thenN (Wp.seq ?_)
  refine rg [0, 3, 4] [6] (K' := [(0, .str a0), (3, .row 6), (4, vi 0)]) (L' := [(6, 9, [.rowc false (α := List UInt8) [] E_string []])]) (by kernel_rfl) ?_
  refine To.thenN (Wp.seq (Wp.seq ?_))
  refine rg [0, 3, 4, 5] [6] (K' := [(0, .str a0), (3, .row 6), (4, vi 0), (5, vi 0)]) (L' := [(6, 9, [.rowc false (α := List UInt8) [] E_string []])]) (by kernel_rfl) ?_
  refine To.thenN (Wp.block ?_)
  obtain ⟨o1, ho1, h⟩ := bind_of h
  refine Wp.keep (kk := [0, 3, 4, 5]) (kl := [6]) (K' := [(0, .str a0), (3, .row 6), (4, vi 0), (5, vi 0)]) (L' := [(6, 9, [.rowc false (α := List UInt8) [] E_string []])]) (by kernel_rfl) (by kernel_rfl) ?_
  refine Wp.pre (St.rename 6 1003 (by decide) (K' := [(0, .str a0), (3, .row 1003), (4, vi 0), (5, vi 0)]) (L' := [(1003, 9, [.rowc false (α := List UInt8) [] E_string []])]) (by kernel_rfl) (by kernel_rfl) (by kernel_rfl)) ?_
  refine Wp.keep (kk := [0, 3, 4, 5]) (kl := [1003]) (K' := [(0, .str a0), (3, .row 1003), (4, vi 0), (5, vi 0)]) (L' := [(1003, 9, [.rowc false (α := List UInt8) [] E_string []])]) (by kernel_rfl) (by kernel_rfl) ?_
  refine Wp.loopL ?_
  refine ok_ref45_Split_l1 n a0 n ([] : List (List UInt8)) 0 0 o1 ho1 ?_
  refine To.blockX ?_
  refine To.thenN (Wp.seq ?_)
  obtain ⟨hc2, h⟩ := chk_of h
  obtain ⟨hc3, h⟩ := chk_of h
  refine Wp.region hΓ [] [(4, ls [(List.drop (Int.toNat o1.2) a0)]), (5, ls (o1.1 ++ ([(List.drop (Int.toNat o1.2) a0)] : List (List UInt8))))] [] [2] [31] (K' := [(2, .row 31)]) (L' := [(31, 9, [.rowc false (α := List UInt8) [] E_string (o1.1 ++ ([(List.drop (Int.toNat o1.2) a0)] : List (List UInt8)))])]) (ob := [(decide (0 ≤ o1.2 ∧ o1.2 ≤ (List.length a0 : Int))) = true, (MkOb 1 [.str (List.drop (Int.toNat o1.2) a0)] 1 (ls [(List.drop (Int.toNat o1.2) a0)]) ∧ GoodR (ls [(List.drop (Int.toNat o1.2) a0)])), (decide ((List.length o1.1 + List.length ([(List.drop (Int.toNat o1.2) a0)] : List (List UInt8))) * (16 + 1) ≤ limit)) = true, (AppOb [] E_string o1.1 (List.flatMap E_string ([(List.drop (Int.toNat o1.2) a0)] : List (List UInt8))) (List.length ([(List.drop (Int.toNat o1.2) a0)] : List (List UInt8))) (ls (o1.1 ++ ([(List.drop (Int.toNat o1.2) a0)] : List (List UInt8)))) ∧ GoodR (ls (o1.1 ++ ([(List.drop (Int.toNat o1.2) a0)] : List (List UInt8)))))]) (by kernel_rfl) (AllP.cons hc2 (AllP.cons (mkOb (by kernel_rfl) rfl (by kernel_rfl) (good_E_string _)) (AllP.cons hc3 (AllP.cons (appOb rfl rfl (good_E_string _)) AllP.nil)))) ?_
  refine To.thenN ?_
  refine Wp.ret ?_
  refine To.keep (kk := [2]) (kl := [31]) (K' := [(2, .row 31)]) (L' := [(31, 9, [.rowc false (α := List UInt8) [] E_string (o1.1 ++ ([(List.drop (Int.toNat o1.2) a0)] : List (List UInt8)))])]) (by kernel_rfl) (by kernel_rfl) ?_
  refine To.pre (St.settle (ks := [31]) (kk := [2]) (kl := [31]) (K' := [(2, .row 31)]) (L' := [(31, 9, [.rowc true (α := List UInt8) [] E_string (o1.1 ++ ([(List.drop (Int.toNat o1.2) a0)] : List (List UInt8)))])]) (by kernel_rfl)) ?_
  refine To.pre (St.sealK [2] (K' := [(2, ls (o1.1 ++ ([(List.drop (Int.toNat o1.2) a0)] : List (List UInt8))))]) (by kernel_rfl)) ?_
  refine To.keep (kk := [2]) (kl := []) (K' := [(2, ls (o1.1 ++ ([(List.drop (Int.toNat o1.2) a0)] : List (List UInt8))))]) (L' := []) (by kernel_rfl) (by kernel_rfl) ?_
  cases h
  exact To.done hΓ (by kernel_rfl)
def ref45_name_l1 (n : Nat) (v0 : List UInt8) : Nat → Int → Option (Sum (Unit) (Bool))
  | 0, _ => none
  | k + 1, v3 => if (decide (v3 < (List.length v0 : Int))) = true then (if (decide (0 ≤ v3 ∧ v3 < (List.length v0 : Int))) = true then (if ((!((decide ((((v0)[Int.toNat v3]?.getD 0).toNat : Int) < 33)) == false) || decide (0 ≤ v3 ∧ v3 < (List.length v0 : Int)))) = true then (lett ((bif (decide ((((v0)[Int.toNat v3]?.getD 0).toNat : Int) < 33)) then true else (decide ((((v0)[Int.toNat v3]?.getD 0).toNat : Int) > 126))) : Bool) fun x1 =>
  if x1 = true then (some (.inr false))
  else (ref45_name_l1 n v0 k (IntKind.wrap .i64 (v3 + 1)))) else none) else none)
  else (some (.inl ()))
theorem ok_ref45_name_l1 (n : Nat) (v0 : List UInt8) {F0 : Fz} {w0 : Pt Tryd.prog} {Q : Exit → Act → World → Prop} (k : Nat) : ∀ (v3 : Int) (o : Sum (Unit) (Bool)), ref45_name_l1 n v0 k v3 = some o → (Sum.elim (fun s => To 28 F0 w0 [] [] (.exit 0) Q) (fun s => To 28 F0 w0 [(2, vb s)] [] .ret Q)) o → WL Tryd.prog 28 F0 w0 [(0, .str v0), (3, vi v3)] [] (cI (cI (cB (cA (cB (cB (cF Tryd.f57))))))) Q := by
  induction k with
  | zero => intro v3 o h; cases h
  | succ k ih =>
    intro v3 o h hQ
    rw [ref45_name_l1] at h
    refine WL.round ?_
    refine Wp.seq (Wp.seq ?_)
    refine rg [0, 3, 15] [] (K' := [(0, .str v0), (3, vi v3), (15, vb (decide (v3 < (List.length v0 : Int))))]) (L' := []) (by kernel_rfl) ?_
    refine To.thenN ?_
    refine Wp.cond (b := (decide (v3 < (List.length v0 : Int)))) (by kernel_rfl) (fun hb => ?_) (fun hb => ?_)
    · replace h := if_t hb h
      refine Wp.skip (To.thenN (Wp.seq (Wp.block (Wp.seq ?_))))
      obtain ⟨hc2, h⟩ := chk_of h
      obtain ⟨hc3, h⟩ := chk_of h
      obtain ⟨x1, hx1, h⟩ := lett_of h
      refine Wp.region hΓ [] [] [] [0, 3, 27] [] (K' := [(0, .str v0), (3, vi v3), (27, vb (bif (decide ((((v0)[Int.toNat v3]?.getD 0).toNat : Int) < 33)) then true else (decide ((((v0)[Int.toNat v3]?.getD 0).toNat : Int) > 126))))]) (L' := []) (ob := [(decide (0 ≤ v3 ∧ v3 < (List.length v0 : Int))) = true, (!((decide ((((v0)[Int.toNat v3]?.getD 0).toNat : Int) < 33)) == false) || decide (0 ≤ v3 ∧ v3 < (List.length v0 : Int))) = true]) (by kernel_rfl) (AllP.cons hc2 (AllP.cons hc3 AllP.nil)) ?_
      refine To.eq (K' := [(0, .str v0), (3, vi v3), (27, vb x1)]) (L' := []) (by cases hx1; rfl) (by cases hx1; rfl) ?_
      refine To.thenN ?_
      refine Wp.cond (b := x1) (by kernel_rfl) (fun hb => ?_) (fun hb => ?_)
      · replace h := if_t hb h
        refine Wp.seq ?_
        refine rg [2] [] (K' := [(2, vb false)]) (L' := []) (by kernel_rfl) ?_
        refine To.thenN ?_
        refine Wp.ret ?_
        refine To.blockR ?_
        refine To.thenR ?_
        refine To.thenR ?_
        refine To.keep (kk := [2]) (kl := []) (K' := [(2, vb false)]) (L' := []) (by kernel_rfl) (by kernel_rfl) ?_
        cases h
        exact hQ
      · replace h := if_f hb h
        refine Wp.skip ?_
        refine To.blockN ?_
        refine To.thenN ?_
        refine rg [0, 3] [] (K' := [(0, .str v0), (3, vi (IntKind.wrap .i64 (v3 + 1)))]) (L' := []) (by kernel_rfl) ?_
        refine To.keep (kk := [0, 3]) (kl := []) (K' := [(0, .str v0), (3, vi (IntKind.wrap .i64 (v3 + 1)))]) (L' := []) (by kernel_rfl) (by kernel_rfl) ?_
        refine To.again ?_
        exact ih (IntKind.wrap .i64 (v3 + 1)) _ h hQ
    · replace h := if_f hb h
      refine Wp.exit ?_
      refine To.thenX ?_
      refine To.thenX ?_
      refine To.keep (kk := []) (kl := []) (K' := []) (L' := []) (by kernel_rfl) (by kernel_rfl) ?_
      cases h
      exact hQ
def ref45_name (n : Nat) (a0 : List UInt8) : Option (Bool) :=
  if (bif (decide ((List.length a0 : Int) < 1)) then true else (decide ((List.length a0 : Int) > 64))) = true then some false
  else ((ref45_name_l1 n a0 n 0).bind fun o1 =>
  (Sum.elim (fun o1 => some true) (fun o1 => some o1)) o1)
end Go.Proofs.YtjjlpomfnfipbaaDoor.M
