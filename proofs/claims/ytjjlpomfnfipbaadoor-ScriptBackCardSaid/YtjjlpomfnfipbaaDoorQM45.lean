/-
  Part of the proof of ScriptBack: M45.
-/
import Derived.Test.YtjjlpomfnfipbaaDoorQM45d
set_option linter.all false
namespace Go.Proofs.YtjjlpomfnfipbaaDoor.M
open Go.RowKit Go.Proofs.YtjjlpomfnfipbaaDoor.RX
set_option maxRecDepth 100000
theorem ok_law45_ScriptBack_l1 (n : Nat) (v1 : List (S_ref45_Step)) {F0 : Fz} {w0 : Pt Tryd.prog} {Q : Exit → Act → World → Prop} (k : Nat) : ∀ (v7 : List (S_ref45_Step)) (v8 : Int) (o : Sum ((List (S_ref45_Step))) (Bool)), law45_ScriptBack_l1 n v1 k v7 v8 = some o → (Sum.elim (fun s => To 113 F0 w0 [(7, .row 1007)] [(1007, 36, [.rowc false (α := S_ref45_Step) Z_ref45_Step E_script_Step s])] (.exit 0) Q) (fun s => To 113 F0 w0 [(4, .val (.bool s))] [] .ret Q)) o → WL Tryd.prog 113 F0 w0 [(1, .recs (α := S_ref45_Step) Z_ref45_Step E_ref45_Step v1), (7, .row 1007), (8, .val (.int .i64 v8))] [(1007, 36, [.rowc false (α := S_ref45_Step) Z_ref45_Step E_script_Step v7])] (cI (cI (cB (cA (cB (cB (cB (cB (cF Tryd.f5))))))))) Q := by
  induction k with
  | zero => intro v7 v8 o h; cases h
  | succ k ih =>
    intro v7 v8 o h hQ
    rw [law45_ScriptBack_l1] at h
    refine WL.round ?_
    refine Wp.seq ?_
    refine Wp.seq ?_
    refine Wp.region hΓ [] [] [] [1, 7, 8, 41] [1007] (K' := [(1, .recs (α := S_ref45_Step) Z_ref45_Step E_ref45_Step v1), (7, .row 1007), (8, .val (.int .i64 v8)), (41, .val (.bool (decide (v8 < (List.length v1 : Int)))))]) (L' := [(1007, 36, [.rowc false (α := S_ref45_Step) Z_ref45_Step E_script_Step v7])]) (ob := []) (by kernel_rfl) AllP.nil ?_
    refine To.thenN ?_
    refine Wp.cond (b := (decide (v8 < (List.length v1 : Int)))) (by kernel_rfl) (fun hb => ?_) (fun hb => ?_)
    · replace h := if_t hb h
      refine Wp.skip ?_
      refine To.thenN ?_
      refine Wp.seq ?_
      obtain ⟨o4, ho4, h⟩ := bind_of h
      refine Wp.keep (kk := [1, 7, 8]) (kl := [1007]) (K' := [(1, .recs (α := S_ref45_Step) Z_ref45_Step E_ref45_Step v1), (7, .row 1007), (8, .val (.int .i64 v8))]) (L' := [(1007, 36, [.rowc false (α := S_ref45_Step) Z_ref45_Step E_script_Step v7])]) (by kernel_rfl) (by kernel_rfl) ?_
      refine ok_law45_ScriptBack_j2 n v1 v7 v8 o4 ho4 ?_
      rcases o4 with o4 | o4
      · replace h := sum_l h
        refine To.thenN ?_
        refine Wp.region hΓ [] [] [] [1, 7, 8] [1007] (K' := [(1, .recs (α := S_ref45_Step) Z_ref45_Step E_ref45_Step v1), (7, .row 1007), (8, .val (.int .i64 (IntKind.wrap .i64 (v8 + 1))))]) (L' := [(1007, 36, [.rowc false (α := S_ref45_Step) Z_ref45_Step E_script_Step o4])]) (ob := []) (by kernel_rfl) AllP.nil ?_
        refine To.keep (kk := [1, 7, 8]) (kl := [1007]) (K' := [(1, .recs (α := S_ref45_Step) Z_ref45_Step E_ref45_Step v1), (7, .row 1007), (8, .val (.int .i64 (IntKind.wrap .i64 (v8 + 1))))]) (L' := [(1007, 36, [.rowc false (α := S_ref45_Step) Z_ref45_Step E_script_Step o4])]) (by kernel_rfl) (by kernel_rfl) ?_
        refine To.again ?_
        exact ih o4 (IntKind.wrap .i64 (v8 + 1)) _ h hQ
      · replace h := sum_r h
        refine To.thenR ?_
        refine To.thenR ?_
        refine To.keep (kk := [4]) (kl := []) (K' := [(4, .val (.bool o4))]) (L' := []) (by kernel_rfl) (by kernel_rfl) ?_
        cases h
        exact hQ
    · replace h := if_f hb h
      refine Wp.exit ?_
      refine To.thenX ?_
      refine To.thenX ?_
      refine To.keep (kk := [7]) (kl := [1007]) (K' := [(7, .row 1007)]) (L' := [(1007, 36, [.rowc false (α := S_ref45_Step) Z_ref45_Step E_script_Step v7])]) (by kernel_rfl) (by kernel_rfl) ?_
      cases h
      exact hQ
def law45_ScriptBack (n : Nat) (a0 : List UInt8) (a1 : List (S_ref45_Step)) : Option (Bool) :=
  if (bif (decide ((List.length a0 : Int) > 3000)) then true else (decide ((List.length a1 : Int) > 40))) = true then ((law45_awake n).bind fun r1 =>
  some r1)
  else ((script_Line n a0).bind fun r2 =>
  ((if ((r2.2 == 0) == true) = true then script_Text n r2.1 else some [])).bind fun r3 =>
  if (bif (r2.2 == 0) then (!(r3 == a0)) else false) = true then some false
  else ((law45_ScriptBack_l1 n a1 n ([] : List (S_ref45_Step)) 0).bind fun o4 =>
  (Sum.elim (fun o4 => (script_Show n o4).bind fun r5 =>
  (script_Read n r5).bind fun r6 =>
  if (decide ((List.length r5 : Int) > 8192)) = true then (((if ((r6.2.2 == 9) == true) = true then law45_awake n else some false)).bind fun r7 =>
  some (bif (r6.2.2 == 9) then r7 else false))
  else (((if ((bif (r6.2.2 == 0) then (r6.2.1 == 0) else false) == true) = true then law45_steps n r6.1 else some [])).bind fun r8 =>
  ((if ((bif (r6.2.2 == 0) then (r6.2.1 == 0) else false) == true) = true then law45_steps n o4 else some [])).bind fun r9 =>
  ((if ((bif (r6.2.2 == 0) then (r6.2.1 == 0) else false) == true) = true then law45_same n r8 r9 else some false)).bind fun r10 =>
  ((if ((bif (bif (r6.2.2 == 0) then (r6.2.1 == 0) else false) then r10 else false) == true) = true then law45_awake n else some false)).bind fun r11 =>
  some (bif (bif (bif (r6.2.2 == 0) then (r6.2.1 == 0) else false) then r10 else false) then r11 else false))) (fun o4 => some o4)) o4))
theorem ok_law45_ScriptBack (n : Nat) (a0 : List UInt8) (a1 : List (S_ref45_Step)) (r : Bool) (h : law45_ScriptBack n a0 a1 = some r) : CallsX Tryd.prog 5 [.str a0, .recs (α := S_ref45_Step) Z_ref45_Step E_ref45_Step a1] (.val (.bool r)) := by
  unfold law45_ScriptBack at h
  refine callsX_of (fn := Tryd.f5) (by kernel_rfl) rfl (by kernel_rfl) (Nat.le_of_ble_eq_true (by kernel_rfl)) fun F0 w0 _ => ?_
  refine Wp.keep (kk := [0, 1]) (kl := []) (K' := [(0, .str a0), (1, .recs (α := S_ref45_Step) Z_ref45_Step E_ref45_Step a1)]) (L' := []) (by kernel_rfl) (by kernel_rfl) ?_
  refine Wp.seq ?_
  refine Wp.region hΓ [] [] [] [0, 1] [] (K' := [(0, .str a0), (1, .recs (α := S_ref45_Step) Z_ref45_Step E_ref45_Step a1)]) (L' := []) (ob := []) (by kernel_rfl) AllP.nil ?_
  refine To.thenN ?_
  refine Wp.seq ?_
  refine Wp.seq ?_
  refine Wp.region hΓ [] [] [] [0, 1, 23] [] (K' := [(0, .str a0), (1, .recs (α := S_ref45_Step) Z_ref45_Step E_ref45_Step a1), (23, .val (.bool (bif (decide ((List.length a0 : Int) > 3000)) then true else (decide ((List.length a1 : Int) > 40)))))]) (L' := []) (ob := []) (by kernel_rfl) AllP.nil ?_
  refine To.thenN ?_
  refine Wp.cond (b := (bif (decide ((List.length a0 : Int) > 3000)) then true else (decide ((List.length a1 : Int) > 40)))) (by kernel_rfl) (fun hb => ?_) (fun hb => ?_)
  · replace h := if_t hb h
    refine Wp.seq ?_
    obtain ⟨r1, hr1, h⟩ := bind_of h
    refine Wp.region hΓ [] [(0, .val (.bool r1))] [] [4] [] (K' := [(4, .val (.bool r1))]) (L' := []) (ob := [(true = true → CX Tryd.prog 7 [] (.val (.bool r1)))]) (by kernel_rfl) (AllP.cons (fun _ => cx (ok_law45_awake n  _ hr1)) AllP.nil) ?_
    refine To.thenN ?_
    refine Wp.ret ?_
    refine To.thenR ?_
    refine To.keep (kk := [4]) (kl := []) (K' := [(4, .val (.bool r1))]) (L' := []) (by kernel_rfl) (by kernel_rfl) ?_
    cases h
    exact To.done hΓ (by kernel_rfl)
  · replace h := if_f hb h
    refine Wp.skip ?_
    refine To.thenN ?_
    refine Wp.seq ?_
    refine Wp.seq ?_
    obtain ⟨r2, hr2, h⟩ := bind_of h
    refine Wp.region hΓ [] [(1, .tup [.agg [.val (.int .i64 r2.1.f_Kind), .val (.int .i64 r2.1.f_N), .val (.int .i64 r2.1.f_M), .val (.int .i64 r2.1.f_Command.f_Kind), .recs (α := List UInt8) [] E_string r2.1.f_Command.f_Services, .val (.int .i64 r2.1.f_Command.f_Count), .val (.bool r2.1.f_Command.f_Orphans), .val (.bool r2.1.f_Command.f_Volumes), .val (.int .i64 r2.1.f_Command.f_Timeout), .val (.int .i64 r2.1.f_Command.f_Retries), .val (.int .i64 r2.1.f_Call.f_Kind), .str r2.1.f_Call.f_Name, .val (.int .i64 r2.1.f_Call.f_Id), .str r2.1.f_Call.f_Spec.f_Name, .str r2.1.f_Call.f_Spec.f_Project, .str r2.1.f_Call.f_Spec.f_Service, .val (.int .i64 r2.1.f_Call.f_Spec.f_Number), .str r2.1.f_Call.f_Spec.f_Hash, .recs (α := List UInt8) [] E_string r2.1.f_Call.f_Spec.f_Nets, .recs (α := List UInt8) [] E_string r2.1.f_Call.f_Spec.f_Vols, .str r2.1.f_Call.f_Spec.f_Health.f_Test, .val (.int .i64 r2.1.f_Call.f_Spec.f_Health.f_Every), .val (.int .i64 r2.1.f_Call.f_Spec.f_Health.f_Start), .val (.int .i64 r2.1.f_Call.f_Spec.f_Health.f_Retries), .val (.int .i64 r2.1.f_Call.f_Spec.f_Restart), .val (.int .i64 r2.1.f_Call.f_Spec.f_Tries)], .val (.int .i64 r2.2)])] [] [0, 1, 5, 6] [5] (K' := [(0, .str a0), (1, .recs (α := S_ref45_Step) Z_ref45_Step E_ref45_Step a1), (5, .own 5 0), (6, .val (.int .i64 r2.2))]) (L' := [(5, 36, (E_script_Step r2.1))]) (ob := [(true = true → CX Tryd.prog 13 [.str a0] (.tup [.agg [.val (.int .i64 r2.1.f_Kind), .val (.int .i64 r2.1.f_N), .val (.int .i64 r2.1.f_M), .val (.int .i64 r2.1.f_Command.f_Kind), .recs (α := List UInt8) [] E_string r2.1.f_Command.f_Services, .val (.int .i64 r2.1.f_Command.f_Count), .val (.bool r2.1.f_Command.f_Orphans), .val (.bool r2.1.f_Command.f_Volumes), .val (.int .i64 r2.1.f_Command.f_Timeout), .val (.int .i64 r2.1.f_Command.f_Retries), .val (.int .i64 r2.1.f_Call.f_Kind), .str r2.1.f_Call.f_Name, .val (.int .i64 r2.1.f_Call.f_Id), .str r2.1.f_Call.f_Spec.f_Name, .str r2.1.f_Call.f_Spec.f_Project, .str r2.1.f_Call.f_Spec.f_Service, .val (.int .i64 r2.1.f_Call.f_Spec.f_Number), .str r2.1.f_Call.f_Spec.f_Hash, .recs (α := List UInt8) [] E_string r2.1.f_Call.f_Spec.f_Nets, .recs (α := List UInt8) [] E_string r2.1.f_Call.f_Spec.f_Vols, .str r2.1.f_Call.f_Spec.f_Health.f_Test, .val (.int .i64 r2.1.f_Call.f_Spec.f_Health.f_Every), .val (.int .i64 r2.1.f_Call.f_Spec.f_Health.f_Start), .val (.int .i64 r2.1.f_Call.f_Spec.f_Health.f_Retries), .val (.int .i64 r2.1.f_Call.f_Spec.f_Restart), .val (.int .i64 r2.1.f_Call.f_Spec.f_Tries)], .val (.int .i64 r2.2)]))]) (by kernel_rfl) (AllP.cons (fun _ => cx (ok_script_Line n a0 _ hr2)) AllP.nil) ?_
    refine To.thenN ?_
    refine Wp.seq ?_
    obtain ⟨r3, hr3, h⟩ := bind_of h
    refine Wp.region hΓ [] [(4, .str r3)] [] [1, 37] [] (K' := [(1, .recs (α := S_ref45_Step) Z_ref45_Step E_ref45_Step a1), (37, .val (.bool (bif (r2.2 == 0) then (!(r3 == a0)) else false)))]) (L' := []) (ob := [(((r2.2 == 0) == true) = true → CX Tryd.prog 8 [.agg [.val (.int .i64 r2.1.f_Kind), .val (.int .i64 r2.1.f_N), .val (.int .i64 r2.1.f_M), .val (.int .i64 r2.1.f_Command.f_Kind), .recs (α := List UInt8) [] E_string r2.1.f_Command.f_Services, .val (.int .i64 r2.1.f_Command.f_Count), .val (.bool r2.1.f_Command.f_Orphans), .val (.bool r2.1.f_Command.f_Volumes), .val (.int .i64 r2.1.f_Command.f_Timeout), .val (.int .i64 r2.1.f_Command.f_Retries), .val (.int .i64 r2.1.f_Call.f_Kind), .str r2.1.f_Call.f_Name, .val (.int .i64 r2.1.f_Call.f_Id), .str r2.1.f_Call.f_Spec.f_Name, .str r2.1.f_Call.f_Spec.f_Project, .str r2.1.f_Call.f_Spec.f_Service, .val (.int .i64 r2.1.f_Call.f_Spec.f_Number), .str r2.1.f_Call.f_Spec.f_Hash, .recs (α := List UInt8) [] E_string r2.1.f_Call.f_Spec.f_Nets, .recs (α := List UInt8) [] E_string r2.1.f_Call.f_Spec.f_Vols, .str r2.1.f_Call.f_Spec.f_Health.f_Test, .val (.int .i64 r2.1.f_Call.f_Spec.f_Health.f_Every), .val (.int .i64 r2.1.f_Call.f_Spec.f_Health.f_Start), .val (.int .i64 r2.1.f_Call.f_Spec.f_Health.f_Retries), .val (.int .i64 r2.1.f_Call.f_Spec.f_Restart), .val (.int .i64 r2.1.f_Call.f_Spec.f_Tries)]] (.str r3))]) (by kernel_rfl) (AllP.cons (fun hg => cx (ok_script_Text n r2.1 _ (if_t hg hr3))) AllP.nil) ?_
    refine To.thenN ?_
    refine Wp.cond (b := (bif (r2.2 == 0) then (!(r3 == a0)) else false)) (by kernel_rfl) (fun hb => ?_) (fun hb => ?_)
    · replace h := if_t hb h
      refine Wp.seq ?_
      refine Wp.region hΓ [] [] [] [4] [] (K' := [(4, .val (.bool false))]) (L' := []) (ob := []) (by kernel_rfl) AllP.nil ?_
      refine To.thenN ?_
      refine Wp.ret ?_
      refine To.thenR ?_
      refine To.keep (kk := [4]) (kl := []) (K' := [(4, .val (.bool false))]) (L' := []) (by kernel_rfl) (by kernel_rfl) ?_
      cases h
      exact To.done hΓ (by kernel_rfl)
    · replace h := if_f hb h
      refine Wp.skip ?_
      refine To.thenN ?_
      refine Wp.seq ?_
      refine Wp.region hΓ [] [] [] [1, 7] [] (K' := [(1, .recs (α := S_ref45_Step) Z_ref45_Step E_ref45_Step a1), (7, .val (.slice none 0 0))]) (L' := []) (ob := []) (by kernel_rfl) AllP.nil ?_
      refine To.thenN ?_
      refine Wp.seq ?_
      refine Wp.seq ?_
      refine Wp.region hΓ [] [] [] [1, 7, 8] [] (K' := [(1, .recs (α := S_ref45_Step) Z_ref45_Step E_ref45_Step a1), (7, .val (.slice none 0 0)), (8, .val (.int .i64 0))]) (L' := []) (ob := []) (by kernel_rfl) AllP.nil ?_
      refine To.thenN ?_
      refine Wp.block ?_
      obtain ⟨o4, ho4, h⟩ := bind_of h
      refine Wp.keep (kk := [1, 7, 8]) (kl := []) (K' := [(1, .recs (α := S_ref45_Step) Z_ref45_Step E_ref45_Step a1), (7, .val (.slice none 0 0)), (8, .val (.int .i64 0))]) (L' := []) (by kernel_rfl) (by kernel_rfl) ?_
      refine Wp.pre (St.vacant (t := 7) (k := 1007) (e := 36) (K' := [(1, .recs (α := S_ref45_Step) Z_ref45_Step E_ref45_Step a1), (7, .row 1007), (8, .val (.int .i64 0))]) (good_E_script_Step _) (by decide) (by kernel_rfl) (by kernel_rfl)) ?_
      refine Wp.keep (kk := [1, 7, 8]) (kl := [1007]) (K' := [(1, .recs (α := S_ref45_Step) Z_ref45_Step E_ref45_Step a1), (7, .row 1007), (8, .val (.int .i64 0))]) (L' := [(1007, 36, [.rowc false (α := S_ref45_Step) Z_ref45_Step E_script_Step []])]) (by kernel_rfl) (by kernel_rfl) ?_
      refine Wp.loopL ?_
      refine ok_law45_ScriptBack_l1 n a1 n ([] : List (S_ref45_Step)) 0 o4 ho4 ?_
      rcases o4 with o4 | o4
      · replace h := sum_l h
        refine To.blockX ?_
        refine To.thenN ?_
        refine Wp.seq ?_
        obtain ⟨r5, hr5, h⟩ := bind_of h
        refine Wp.region hΓ [(1, [1007])] [(1, .str r5)] [] [7, 12] [1007] (K' := [(7, .row 1007), (12, .str r5)]) (L' := [(1007, 36, [.rowc true (α := S_ref45_Step) Z_ref45_Step E_script_Step o4])]) (ob := [(true = true → CX Tryd.prog 12 [.recs (α := S_ref45_Step) Z_ref45_Step E_script_Step o4] (.str r5))]) (by kernel_rfl) (AllP.cons (fun _ => cx (ok_script_Show n o4 _ hr5)) AllP.nil) ?_
        refine To.thenN ?_
        refine Wp.seq ?_
        obtain ⟨r6, hr6, h⟩ := bind_of h
        refine Wp.region hΓ [] [(1, .tup [.recs (α := S_ref45_Step) Z_ref45_Step E_script_Step r6.1, .val (.int .i64 r6.2.1), .val (.int .i64 r6.2.2)])] [] [7, 12, 13, 14, 15] [1007] (K' := [(7, .row 1007), (12, .str r5), (13, .recs (α := S_ref45_Step) Z_ref45_Step E_script_Step r6.1), (14, .val (.int .i64 r6.2.1)), (15, .val (.int .i64 r6.2.2))]) (L' := [(1007, 36, [.rowc true (α := S_ref45_Step) Z_ref45_Step E_script_Step o4])]) (ob := [(true = true → CX Tryd.prog 15 [.str r5] (.tup [.recs (α := S_ref45_Step) Z_ref45_Step E_script_Step r6.1, .val (.int .i64 r6.2.1), .val (.int .i64 r6.2.2)]))]) (by kernel_rfl) (AllP.cons (fun _ => cx (ok_script_Read n r5 _ hr6)) AllP.nil) ?_
        refine To.thenN ?_
        refine Wp.seq ?_
        refine Wp.seq ?_
        refine Wp.region hΓ [] [] [] [7, 13, 14, 15, 91] [1007] (K' := [(7, .row 1007), (13, .recs (α := S_ref45_Step) Z_ref45_Step E_script_Step r6.1), (14, .val (.int .i64 r6.2.1)), (15, .val (.int .i64 r6.2.2)), (91, .val (.bool (decide ((List.length r5 : Int) > 8192))))]) (L' := [(1007, 36, [.rowc true (α := S_ref45_Step) Z_ref45_Step E_script_Step o4])]) (ob := []) (by kernel_rfl) AllP.nil ?_
        refine To.thenN ?_
        refine Wp.cond (b := (decide ((List.length r5 : Int) > 8192))) (by kernel_rfl) (fun hb => ?_) (fun hb => ?_)
        · replace h := if_t hb h
          refine Wp.seq ?_
          obtain ⟨r7, hr7, h⟩ := bind_of h
          refine Wp.region hΓ [] [(3, .val (.bool r7))] [] [4] [] (K' := [(4, .val (.bool (bif (r6.2.2 == 9) then r7 else false)))]) (L' := []) (ob := [(((r6.2.2 == 9) == true) = true → CX Tryd.prog 7 [] (.val (.bool r7)))]) (by kernel_rfl) (AllP.cons (fun hg => cx (ok_law45_awake n  _ (if_t hg hr7))) AllP.nil) ?_
          refine To.thenN ?_
          refine Wp.ret ?_
          refine To.thenR ?_
          refine To.keep (kk := [4]) (kl := []) (K' := [(4, .val (.bool (bif (r6.2.2 == 9) then r7 else false)))]) (L' := []) (by kernel_rfl) (by kernel_rfl) ?_
          cases h
          exact To.done hΓ (by kernel_rfl)
        · replace h := if_f hb h
          refine Wp.skip ?_
          refine To.thenN ?_
          refine Wp.seq ?_
          obtain ⟨r8, hr8, h⟩ := bind_of h
          obtain ⟨r9, hr9, h⟩ := bind_of h
          obtain ⟨r10, hr10, h⟩ := bind_of h
          obtain ⟨r11, hr11, h⟩ := bind_of h
          refine Wp.region hΓ [] [(8, .recs (α := S_ref45_Step) Z_ref45_Step E_ref45_Step r8), (10, .recs (α := S_ref45_Step) Z_ref45_Step E_ref45_Step r9), (11, .val (.bool r10)), (14, .val (.bool r11))] [] [4] [] (K' := [(4, .val (.bool (bif (bif (bif (r6.2.2 == 0) then (r6.2.1 == 0) else false) then r10 else false) then r11 else false)))]) (L' := []) (ob := [(((bif (r6.2.2 == 0) then (r6.2.1 == 0) else false) == true) = true → CX Tryd.prog 18 [.recs (α := S_ref45_Step) Z_ref45_Step E_script_Step r6.1] (.recs (α := S_ref45_Step) Z_ref45_Step E_ref45_Step r8)), (((bif (r6.2.2 == 0) then (r6.2.1 == 0) else false) == true) = true → CX Tryd.prog 18 [.recs (α := S_ref45_Step) Z_ref45_Step E_script_Step o4] (.recs (α := S_ref45_Step) Z_ref45_Step E_ref45_Step r9)), (((bif (r6.2.2 == 0) then (r6.2.1 == 0) else false) == true) = true → CX Tryd.prog 17 [.recs (α := S_ref45_Step) Z_ref45_Step E_ref45_Step r8, .recs (α := S_ref45_Step) Z_ref45_Step E_ref45_Step r9] (.val (.bool r10))), (((bif (bif (r6.2.2 == 0) then (r6.2.1 == 0) else false) then r10 else false) == true) = true → CX Tryd.prog 7 [] (.val (.bool r11)))]) (by kernel_rfl) (AllP.cons (fun hg => cx (ok_law45_steps n r6.1 _ (if_t hg hr8))) (AllP.cons (fun hg => cx (ok_law45_steps n o4 _ (if_t hg hr9))) (AllP.cons (fun hg => cx (ok_law45_same n r8 r9 _ (if_t hg hr10))) (AllP.cons (fun hg => cx (ok_law45_awake n  _ (if_t hg hr11))) AllP.nil)))) ?_
          refine To.thenN ?_
          refine Wp.ret ?_
          refine To.keep (kk := [4]) (kl := []) (K' := [(4, .val (.bool (bif (bif (bif (r6.2.2 == 0) then (r6.2.1 == 0) else false) then r10 else false) then r11 else false)))]) (L' := []) (by kernel_rfl) (by kernel_rfl) ?_
          cases h
          exact To.done hΓ (by kernel_rfl)
      · replace h := sum_r h
        refine To.blockR ?_
        refine To.thenR ?_
        refine To.keep (kk := [4]) (kl := []) (K' := [(4, .val (.bool o4))]) (L' := []) (by kernel_rfl) (by kernel_rfl) ?_
        cases h
        exact To.done hΓ (by kernel_rfl)
theorem opens_i64 : Opens Tryd.prog 3 (fun n : Int => IntKind.min .i64 ≤ n ∧ n ≤ IntKind.max .i64) (fun n => [.val (.int .i64 n)]) := opens_int (by kernel_rfl)
theorem opens_string : Opens Tryd.prog 9 (fun l : List UInt8 => l.length ≤ maxLen) (fun l => [.str l]) := opens_str (by kernel_rfl)
def W_Lstring (l : List (List UInt8)) : Prop := l.length ≤ maxLen ∧ ∀ x ∈ l, (List.length x ≤ maxLen)
theorem opens_Lstring : Opens Tryd.prog 22 W_Lstring (fun l => [.recs (α := List UInt8) [] E_string l]) := opens_slice (α := List UInt8) (cells := E_string) [] (by kernel_rfl) (by kernel_rfl) (of_decide_eq_true (by kernel_rfl)) opens_string
theorem opens_bool : Opens Tryd.prog 4 (fun _ : Bool => True) (fun b => [.val (.bool b)]) := RX.opens_bool (by kernel_rfl)
def W_api_Command (x : S_api_Command) : Prop := (IntKind.min .i64 ≤ x.f_Kind ∧ x.f_Kind ≤ IntKind.max .i64) ∧ (W_Lstring x.f_Services) ∧ (IntKind.min .i64 ≤ x.f_Count ∧ x.f_Count ≤ IntKind.max .i64) ∧ True ∧ True ∧ (IntKind.min .i64 ≤ x.f_Timeout ∧ x.f_Timeout ≤ IntKind.max .i64) ∧ (IntKind.min .i64 ≤ x.f_Retries ∧ x.f_Retries ≤ IntKind.max .i64)
theorem opens_api_Command : Opens Tryd.prog 24 W_api_Command (fun x => [.val (.int .i64 x.f_Kind), .recs (α := List UInt8) [] E_string x.f_Services, .val (.int .i64 x.f_Count), .val (.bool x.f_Orphans), .val (.bool x.f_Volumes), .val (.int .i64 x.f_Timeout), .val (.int .i64 x.f_Retries)]) := by
  intro H enc W fuel cs d ps h
  obtain ⟨hl, hf⟩ := field_of Tryd.underlying24 h
  have hl : cs.length = 7 := hl.trans (by kernel_rfl)
  obtain ⟨x0, w0, r0⟩ := hf 0 _ rfl opens_i64
  have r0 := repAt (a' := 0) (b' := 1) r0 (by kernel_rfl) (by kernel_rfl)
  obtain ⟨x1, w1, r1⟩ := hf 1 _ rfl opens_Lstring
  have r1 := repAt (a' := 1) (b' := 1) r1 (by kernel_rfl) (by kernel_rfl)
  obtain ⟨x2, w2, r2⟩ := hf 2 _ rfl opens_i64
  have r2 := repAt (a' := 2) (b' := 1) r2 (by kernel_rfl) (by kernel_rfl)
  obtain ⟨x3, w3, r3⟩ := hf 3 _ rfl opens_bool
  have r3 := repAt (a' := 3) (b' := 1) r3 (by kernel_rfl) (by kernel_rfl)
  obtain ⟨x4, w4, r4⟩ := hf 4 _ rfl opens_bool
  have r4 := repAt (a' := 4) (b' := 1) r4 (by kernel_rfl) (by kernel_rfl)
  obtain ⟨x5, w5, r5⟩ := hf 5 _ rfl opens_i64
  have r5 := repAt (a' := 5) (b' := 1) r5 (by kernel_rfl) (by kernel_rfl)
  obtain ⟨x6, w6, r6⟩ := hf 6 _ rfl opens_i64
  have r6 := repAt (a' := 6) (b' := 1) r6 (by kernel_rfl) (by kernel_rfl)
  refine ⟨⟨x0, x1, x2, x3, x4, x5, x6⟩, ⟨w0, w1, w2, w3, w4, w5, w6⟩, ?_⟩
  refine parts_all (l := [([.val (.int .i64 x0)], 1), ([.recs (α := List UInt8) [] E_string x1], 1), ([.val (.int .i64 x2)], 1), ([.val (.bool x3)], 1), ([.val (.bool x4)], 1), ([.val (.int .i64 x5)], 1), ([.val (.int .i64 x6)], 1)]) ⟨r0, r1, r2, r3, r4, r5, r6, Nat.le_of_eq hl⟩ rfl
def W_api_Check (x : S_api_Check) : Prop := (List.length x.f_Test ≤ maxLen) ∧ (IntKind.min .i64 ≤ x.f_Every ∧ x.f_Every ≤ IntKind.max .i64) ∧ (IntKind.min .i64 ≤ x.f_Start ∧ x.f_Start ≤ IntKind.max .i64) ∧ (IntKind.min .i64 ≤ x.f_Retries ∧ x.f_Retries ≤ IntKind.max .i64)
theorem opens_api_Check : Opens Tryd.prog 26 W_api_Check (fun x => [.str x.f_Test, .val (.int .i64 x.f_Every), .val (.int .i64 x.f_Start), .val (.int .i64 x.f_Retries)]) := by
  intro H enc W fuel cs d ps h
  obtain ⟨hl, hf⟩ := field_of Tryd.underlying26 h
  have hl : cs.length = 4 := hl.trans (by kernel_rfl)
  obtain ⟨x0, w0, r0⟩ := hf 0 _ rfl opens_string
  have r0 := repAt (a' := 0) (b' := 1) r0 (by kernel_rfl) (by kernel_rfl)
  obtain ⟨x1, w1, r1⟩ := hf 1 _ rfl opens_i64
  have r1 := repAt (a' := 1) (b' := 1) r1 (by kernel_rfl) (by kernel_rfl)
  obtain ⟨x2, w2, r2⟩ := hf 2 _ rfl opens_i64
  have r2 := repAt (a' := 2) (b' := 1) r2 (by kernel_rfl) (by kernel_rfl)
  obtain ⟨x3, w3, r3⟩ := hf 3 _ rfl opens_i64
  have r3 := repAt (a' := 3) (b' := 1) r3 (by kernel_rfl) (by kernel_rfl)
  refine ⟨⟨x0, x1, x2, x3⟩, ⟨w0, w1, w2, w3⟩, ?_⟩
  refine parts_all (l := [([.str x0], 1), ([.val (.int .i64 x1)], 1), ([.val (.int .i64 x2)], 1), ([.val (.int .i64 x3)], 1)]) ⟨r0, r1, r2, r3, Nat.le_of_eq hl⟩ rfl
def W_api_Spec (x : S_api_Spec) : Prop := (List.length x.f_Name ≤ maxLen) ∧ (List.length x.f_Project ≤ maxLen) ∧ (List.length x.f_Service ≤ maxLen) ∧ (IntKind.min .i64 ≤ x.f_Number ∧ x.f_Number ≤ IntKind.max .i64) ∧ (List.length x.f_Hash ≤ maxLen) ∧ (W_Lstring x.f_Nets) ∧ (W_Lstring x.f_Vols) ∧ (W_api_Check x.f_Health) ∧ (IntKind.min .i64 ≤ x.f_Restart ∧ x.f_Restart ≤ IntKind.max .i64) ∧ (IntKind.min .i64 ≤ x.f_Tries ∧ x.f_Tries ≤ IntKind.max .i64)
theorem opens_api_Spec : Opens Tryd.prog 28 W_api_Spec (fun x => [.str x.f_Name, .str x.f_Project, .str x.f_Service, .val (.int .i64 x.f_Number), .str x.f_Hash, .recs (α := List UInt8) [] E_string x.f_Nets, .recs (α := List UInt8) [] E_string x.f_Vols, .str x.f_Health.f_Test, .val (.int .i64 x.f_Health.f_Every), .val (.int .i64 x.f_Health.f_Start), .val (.int .i64 x.f_Health.f_Retries), .val (.int .i64 x.f_Restart), .val (.int .i64 x.f_Tries)]) := by
  intro H enc W fuel cs d ps h
  obtain ⟨hl, hf⟩ := field_of Tryd.underlying28 h
  have hl : cs.length = 13 := hl.trans (by kernel_rfl)
  obtain ⟨x0, w0, r0⟩ := hf 0 _ rfl opens_string
  have r0 := repAt (a' := 0) (b' := 1) r0 (by kernel_rfl) (by kernel_rfl)
  obtain ⟨x1, w1, r1⟩ := hf 1 _ rfl opens_string
  have r1 := repAt (a' := 1) (b' := 1) r1 (by kernel_rfl) (by kernel_rfl)
  obtain ⟨x2, w2, r2⟩ := hf 2 _ rfl opens_string
  have r2 := repAt (a' := 2) (b' := 1) r2 (by kernel_rfl) (by kernel_rfl)
  obtain ⟨x3, w3, r3⟩ := hf 3 _ rfl opens_i64
  have r3 := repAt (a' := 3) (b' := 1) r3 (by kernel_rfl) (by kernel_rfl)
  obtain ⟨x4, w4, r4⟩ := hf 4 _ rfl opens_string
  have r4 := repAt (a' := 4) (b' := 1) r4 (by kernel_rfl) (by kernel_rfl)
  obtain ⟨x5, w5, r5⟩ := hf 5 _ rfl opens_Lstring
  have r5 := repAt (a' := 5) (b' := 1) r5 (by kernel_rfl) (by kernel_rfl)
  obtain ⟨x6, w6, r6⟩ := hf 6 _ rfl opens_Lstring
  have r6 := repAt (a' := 6) (b' := 1) r6 (by kernel_rfl) (by kernel_rfl)
  obtain ⟨x7, w7, r7⟩ := hf 7 _ rfl opens_api_Check
  have r7 := repAt (a' := 7) (b' := 4) r7 (by kernel_rfl) (by kernel_rfl)
  obtain ⟨x8, w8, r8⟩ := hf 8 _ rfl opens_i64
  have r8 := repAt (a' := 11) (b' := 1) r8 (by kernel_rfl) (by kernel_rfl)
  obtain ⟨x9, w9, r9⟩ := hf 9 _ rfl opens_i64
  have r9 := repAt (a' := 12) (b' := 1) r9 (by kernel_rfl) (by kernel_rfl)
  refine ⟨⟨x0, x1, x2, x3, x4, x5, x6, x7, x8, x9⟩, ⟨w0, w1, w2, w3, w4, w5, w6, w7, w8, w9⟩, ?_⟩
  refine parts_all (l := [([.str x0], 1), ([.str x1], 1), ([.str x2], 1), ([.val (.int .i64 x3)], 1), ([.str x4], 1), ([.recs (α := List UInt8) [] E_string x5], 1), ([.recs (α := List UInt8) [] E_string x6], 1), ([.str x7.f_Test, .val (.int .i64 x7.f_Every), .val (.int .i64 x7.f_Start), .val (.int .i64 x7.f_Retries)], 4), ([.val (.int .i64 x8)], 1), ([.val (.int .i64 x9)], 1)]) ⟨r0, r1, r2, r3, r4, r5, r6, r7, r8, r9, Nat.le_of_eq hl⟩ rfl
def W_api_Call (x : S_api_Call) : Prop := (IntKind.min .i64 ≤ x.f_Kind ∧ x.f_Kind ≤ IntKind.max .i64) ∧ (List.length x.f_Name ≤ maxLen) ∧ (IntKind.min .i64 ≤ x.f_Id ∧ x.f_Id ≤ IntKind.max .i64) ∧ (W_api_Spec x.f_Spec)
theorem opens_api_Call : Opens Tryd.prog 30 W_api_Call (fun x => [.val (.int .i64 x.f_Kind), .str x.f_Name, .val (.int .i64 x.f_Id), .str x.f_Spec.f_Name, .str x.f_Spec.f_Project, .str x.f_Spec.f_Service, .val (.int .i64 x.f_Spec.f_Number), .str x.f_Spec.f_Hash, .recs (α := List UInt8) [] E_string x.f_Spec.f_Nets, .recs (α := List UInt8) [] E_string x.f_Spec.f_Vols, .str x.f_Spec.f_Health.f_Test, .val (.int .i64 x.f_Spec.f_Health.f_Every), .val (.int .i64 x.f_Spec.f_Health.f_Start), .val (.int .i64 x.f_Spec.f_Health.f_Retries), .val (.int .i64 x.f_Spec.f_Restart), .val (.int .i64 x.f_Spec.f_Tries)]) := by
  intro H enc W fuel cs d ps h
  obtain ⟨hl, hf⟩ := field_of Tryd.underlying30 h
  have hl : cs.length = 16 := hl.trans (by kernel_rfl)
  obtain ⟨x0, w0, r0⟩ := hf 0 _ rfl opens_i64
  have r0 := repAt (a' := 0) (b' := 1) r0 (by kernel_rfl) (by kernel_rfl)
  obtain ⟨x1, w1, r1⟩ := hf 1 _ rfl opens_string
  have r1 := repAt (a' := 1) (b' := 1) r1 (by kernel_rfl) (by kernel_rfl)
  obtain ⟨x2, w2, r2⟩ := hf 2 _ rfl opens_i64
  have r2 := repAt (a' := 2) (b' := 1) r2 (by kernel_rfl) (by kernel_rfl)
  obtain ⟨x3, w3, r3⟩ := hf 3 _ rfl opens_api_Spec
  have r3 := repAt (a' := 3) (b' := 13) r3 (by kernel_rfl) (by kernel_rfl)
  refine ⟨⟨x0, x1, x2, x3⟩, ⟨w0, w1, w2, w3⟩, ?_⟩
  refine parts_all (l := [([.val (.int .i64 x0)], 1), ([.str x1], 1), ([.val (.int .i64 x2)], 1), ([.str x3.f_Name, .str x3.f_Project, .str x3.f_Service, .val (.int .i64 x3.f_Number), .str x3.f_Hash, .recs (α := List UInt8) [] E_string x3.f_Nets, .recs (α := List UInt8) [] E_string x3.f_Vols, .str x3.f_Health.f_Test, .val (.int .i64 x3.f_Health.f_Every), .val (.int .i64 x3.f_Health.f_Start), .val (.int .i64 x3.f_Health.f_Retries), .val (.int .i64 x3.f_Restart), .val (.int .i64 x3.f_Tries)], 13)]) ⟨r0, r1, r2, r3, Nat.le_of_eq hl⟩ rfl
def W_ref45_Step (x : S_ref45_Step) : Prop := (IntKind.min .i64 ≤ x.f_Kind ∧ x.f_Kind ≤ IntKind.max .i64) ∧ (IntKind.min .i64 ≤ x.f_N ∧ x.f_N ≤ IntKind.max .i64) ∧ (IntKind.min .i64 ≤ x.f_M ∧ x.f_M ≤ IntKind.max .i64) ∧ (W_api_Command x.f_Command) ∧ (W_api_Call x.f_Call)
theorem opens_ref45_Step : Opens Tryd.prog 32 W_ref45_Step (fun x => [.val (.int .i64 x.f_Kind), .val (.int .i64 x.f_N), .val (.int .i64 x.f_M), .val (.int .i64 x.f_Command.f_Kind), .recs (α := List UInt8) [] E_string x.f_Command.f_Services, .val (.int .i64 x.f_Command.f_Count), .val (.bool x.f_Command.f_Orphans), .val (.bool x.f_Command.f_Volumes), .val (.int .i64 x.f_Command.f_Timeout), .val (.int .i64 x.f_Command.f_Retries), .val (.int .i64 x.f_Call.f_Kind), .str x.f_Call.f_Name, .val (.int .i64 x.f_Call.f_Id), .str x.f_Call.f_Spec.f_Name, .str x.f_Call.f_Spec.f_Project, .str x.f_Call.f_Spec.f_Service, .val (.int .i64 x.f_Call.f_Spec.f_Number), .str x.f_Call.f_Spec.f_Hash, .recs (α := List UInt8) [] E_string x.f_Call.f_Spec.f_Nets, .recs (α := List UInt8) [] E_string x.f_Call.f_Spec.f_Vols, .str x.f_Call.f_Spec.f_Health.f_Test, .val (.int .i64 x.f_Call.f_Spec.f_Health.f_Every), .val (.int .i64 x.f_Call.f_Spec.f_Health.f_Start), .val (.int .i64 x.f_Call.f_Spec.f_Health.f_Retries), .val (.int .i64 x.f_Call.f_Spec.f_Restart), .val (.int .i64 x.f_Call.f_Spec.f_Tries)]) := by
  intro H enc W fuel cs d ps h
  obtain ⟨hl, hf⟩ := field_of Tryd.underlying32 h
  have hl : cs.length = 26 := hl.trans (by kernel_rfl)
  obtain ⟨x0, w0, r0⟩ := hf 0 _ rfl opens_i64
  have r0 := repAt (a' := 0) (b' := 1) r0 (by kernel_rfl) (by kernel_rfl)
  obtain ⟨x1, w1, r1⟩ := hf 1 _ rfl opens_i64
  have r1 := repAt (a' := 1) (b' := 1) r1 (by kernel_rfl) (by kernel_rfl)
  obtain ⟨x2, w2, r2⟩ := hf 2 _ rfl opens_i64
  have r2 := repAt (a' := 2) (b' := 1) r2 (by kernel_rfl) (by kernel_rfl)
  obtain ⟨x3, w3, r3⟩ := hf 3 _ rfl opens_api_Command
  have r3 := repAt (a' := 3) (b' := 7) r3 (by kernel_rfl) (by kernel_rfl)
  obtain ⟨x4, w4, r4⟩ := hf 4 _ rfl opens_api_Call
  have r4 := repAt (a' := 10) (b' := 16) r4 (by kernel_rfl) (by kernel_rfl)
  refine ⟨⟨x0, x1, x2, x3, x4⟩, ⟨w0, w1, w2, w3, w4⟩, ?_⟩
  refine parts_all (l := [([.val (.int .i64 x0)], 1), ([.val (.int .i64 x1)], 1), ([.val (.int .i64 x2)], 1), ([.val (.int .i64 x3.f_Kind), .recs (α := List UInt8) [] E_string x3.f_Services, .val (.int .i64 x3.f_Count), .val (.bool x3.f_Orphans), .val (.bool x3.f_Volumes), .val (.int .i64 x3.f_Timeout), .val (.int .i64 x3.f_Retries)], 7), ([.val (.int .i64 x4.f_Kind), .str x4.f_Name, .val (.int .i64 x4.f_Id), .str x4.f_Spec.f_Name, .str x4.f_Spec.f_Project, .str x4.f_Spec.f_Service, .val (.int .i64 x4.f_Spec.f_Number), .str x4.f_Spec.f_Hash, .recs (α := List UInt8) [] E_string x4.f_Spec.f_Nets, .recs (α := List UInt8) [] E_string x4.f_Spec.f_Vols, .str x4.f_Spec.f_Health.f_Test, .val (.int .i64 x4.f_Spec.f_Health.f_Every), .val (.int .i64 x4.f_Spec.f_Health.f_Start), .val (.int .i64 x4.f_Spec.f_Health.f_Retries), .val (.int .i64 x4.f_Spec.f_Restart), .val (.int .i64 x4.f_Spec.f_Tries)], 16)]) ⟨r0, r1, r2, r3, r4, Nat.le_of_eq hl⟩ rfl
def W_Lref45_Step (l : List (S_ref45_Step)) : Prop := l.length ≤ maxLen ∧ ∀ x ∈ l, (W_ref45_Step x)
theorem opens_Lref45_Step : Opens Tryd.prog 49 W_Lref45_Step (fun l => [.recs (α := S_ref45_Step) Z_ref45_Step E_ref45_Step l]) := opens_slice (α := S_ref45_Step) (cells := E_ref45_Step) Z_ref45_Step (by kernel_rfl) (by kernel_rfl) (of_decide_eq_true (by kernel_rfl)) opens_ref45_Step
end Go.Proofs.YtjjlpomfnfipbaaDoor.M
