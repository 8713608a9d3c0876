/-
  Part of the proof of ScriptBack: M45d.
-/
import Derived.Test.YtjjlpomfnfipbaaDoorQM45c
set_option linter.all false
namespace Go.Proofs.YtjjlpomfnfipbaaDoor.M
open Go.RowKit Go.Proofs.YtjjlpomfnfipbaaDoor.RX
set_option maxRecDepth 100000
def ref02_Same_l1 (n : Nat) (v0 : List (List UInt8)) (v1 : List (List UInt8)) : Nat → Int → Option (Sum (Unit) (Bool))
  | 0, _ => none
  | k + 1, v5 => if (decide (v5 < (List.length v0 : Int))) = true then (if (decide (0 ≤ v5 ∧ v5 < (List.length v0 : Int))) = true then (if (decide (0 ≤ v5 ∧ v5 < (List.length v1 : Int))) = true then (if (!(((v0)[Int.toNat v5]?.getD []) == ((v1)[Int.toNat v5]?.getD []))) = true then (some (.inr false))
  else (ref02_Same_l1 n v0 v1 k (IntKind.wrap .i64 (v5 + 1)))) else none) else none)
  else (some (.inl ()))
theorem ok_ref02_Same_l1 (n : Nat) (v0 : List (List UInt8)) (v1 : List (List UInt8)) {F0 : Fz} {w0 : Pt Tryd.prog} {Q : Exit → Act → World → Prop} (k : Nat) : ∀ (v5 : Int) (o : Sum (Unit) (Bool)), ref02_Same_l1 n v0 v1 k v5 = some o → (Sum.elim (fun s => To 26 F0 w0 [] [] (.exit 0) Q) (fun s => To 26 F0 w0 [(4, .val (.bool s))] [] .ret Q)) o → WL Tryd.prog 26 F0 w0 [(0, .recs (α := List UInt8) [] E_string v0), (1, .recs (α := List UInt8) [] E_string v1), (5, .val (.int .i64 v5))] [] (cI (cI (cB (cA (cB (cB (cF Tryd.f24))))))) Q := by
  induction k with
  | zero => intro v5 o h; cases h
  | succ k ih =>
    intro v5 o h hQ
    rw [ref02_Same_l1] at h
    refine WL.round ?_
    refine Wp.seq ?_
    refine Wp.seq ?_
    refine Wp.region hΓ [] [] [] [0, 1, 5, 14] [] (K' := [(0, .recs (α := List UInt8) [] E_string v0), (1, .recs (α := List UInt8) [] E_string v1), (5, .val (.int .i64 v5)), (14, .val (.bool (decide (v5 < (List.length v0 : Int)))))]) (L' := []) (ob := []) (by kernel_rfl) AllP.nil ?_
    refine To.thenN ?_
    refine Wp.cond (b := (decide (v5 < (List.length v0 : Int)))) (by kernel_rfl) (fun hb => ?_) (fun hb => ?_)
    · replace h := if_t hb h
      refine Wp.skip ?_
      refine To.thenN ?_
      refine Wp.seq ?_
      refine Wp.block ?_
      refine Wp.seq ?_
      obtain ⟨hc1, h⟩ := chk_of h
      obtain ⟨hc2, h⟩ := chk_of h
      refine Wp.regionD hm hΓ [] [0, 1, 5, 25] [] (K' := [(0, .recs (α := List UInt8) [] E_string v0), (1, .recs (α := List UInt8) [] E_string v1), (5, .val (.int .i64 v5)), (25, .val (.bool (!(((v0)[Int.toNat v5]?.getD []) == ((v1)[Int.toNat v5]?.getD [])))))]) (L' := []) (ob := [(decide (0 ≤ v5 ∧ v5 < (List.length v0 : Int))) = true, (decide (0 ≤ v5 ∧ v5 < (List.length v1 : Int))) = true]) (by kernel_rfl) (AllP.cons hc1 (AllP.cons hc2 AllP.nil)) ?_
      refine To.thenN ?_
      refine Wp.cond (b := (!(((v0)[Int.toNat v5]?.getD []) == ((v1)[Int.toNat v5]?.getD [])))) (by kernel_rfl) (fun hb => ?_) (fun hb => ?_)
      · replace h := if_t hb h
        refine Wp.seq ?_
        refine Wp.region hΓ [] [] [] [4] [] (K' := [(4, .val (.bool false))]) (L' := []) (ob := []) (by kernel_rfl) AllP.nil ?_
        refine To.thenN ?_
        refine Wp.ret ?_
        refine To.blockR ?_
        refine To.thenR ?_
        refine To.thenR ?_
        refine To.keep (kk := [4]) (kl := []) (K' := [(4, .val (.bool false))]) (L' := []) (by kernel_rfl) (by kernel_rfl) ?_
        cases h
        exact hQ
      · replace h := if_f hb h
        refine Wp.skip ?_
        refine To.blockN ?_
        refine To.thenN ?_
        refine Wp.region hΓ [] [] [] [0, 1, 5] [] (K' := [(0, .recs (α := List UInt8) [] E_string v0), (1, .recs (α := List UInt8) [] E_string v1), (5, .val (.int .i64 (IntKind.wrap .i64 (v5 + 1))))]) (L' := []) (ob := []) (by kernel_rfl) AllP.nil ?_
        refine To.keep (kk := [0, 1, 5]) (kl := []) (K' := [(0, .recs (α := List UInt8) [] E_string v0), (1, .recs (α := List UInt8) [] E_string v1), (5, .val (.int .i64 (IntKind.wrap .i64 (v5 + 1))))]) (L' := []) (by kernel_rfl) (by kernel_rfl) ?_
        refine To.again ?_
        exact ih (IntKind.wrap .i64 (v5 + 1)) _ h hQ
    · replace h := if_f hb h
      refine Wp.exit ?_
      refine To.thenX ?_
      refine To.thenX ?_
      refine To.keep (kk := []) (kl := []) (K' := []) (L' := []) (by kernel_rfl) (by kernel_rfl) ?_
      cases h
      exact hQ
def ref02_Same (n : Nat) (a0 : List (List UInt8)) (a1 : List (List UInt8)) : Option (Bool) :=
  if ((List.length a0 : Int) != (List.length a1 : Int)) = true then some false
  else ((ref02_Same_l1 n a0 a1 n 0).bind fun o1 =>
  (Sum.elim (fun o1 => some true) (fun o1 => some o1)) o1)
theorem ok_ref02_Same (n : Nat) (a0 : List (List UInt8)) (a1 : List (List UInt8)) (r : Bool) (h : ref02_Same n a0 a1 = some r) : CallsX Tryd.prog 24 [.recs (α := List UInt8) [] E_string a0, .recs (α := List UInt8) [] E_string a1] (.val (.bool r)) := by
  unfold ref02_Same at h
  refine callsX_of (fn := Tryd.f24) (by kernel_rfl) rfl (by kernel_rfl) (Nat.le_of_ble_eq_true (by kernel_rfl)) fun F0 w0 _ => ?_
  refine Wp.keep (kk := [0, 1]) (kl := []) (K' := [(0, .recs (α := List UInt8) [] E_string a0), (1, .recs (α := List UInt8) [] E_string a1)]) (L' := []) (by kernel_rfl) (by kernel_rfl) ?_
  refine Wp.seq ?_
  refine Wp.region hΓ [] [] [] [0, 1] [] (K' := [(0, .recs (α := List UInt8) [] E_string a0), (1, .recs (α := List UInt8) [] E_string a1)]) (L' := []) (ob := []) (by kernel_rfl) AllP.nil ?_
  refine To.thenN ?_
  refine Wp.seq ?_
  refine Wp.seq ?_
  refine Wp.region hΓ [] [] [] [0, 1, 10] [] (K' := [(0, .recs (α := List UInt8) [] E_string a0), (1, .recs (α := List UInt8) [] E_string a1), (10, .val (.bool ((List.length a0 : Int) != (List.length a1 : Int))))]) (L' := []) (ob := []) (by kernel_rfl) AllP.nil ?_
  refine To.thenN ?_
  refine Wp.cond (b := ((List.length a0 : Int) != (List.length a1 : Int))) (by kernel_rfl) (fun hb => ?_) (fun hb => ?_)
  · replace h := if_t hb h
    refine Wp.seq ?_
    refine Wp.region hΓ [] [] [] [4] [] (K' := [(4, .val (.bool false))]) (L' := []) (ob := []) (by kernel_rfl) AllP.nil ?_
    refine To.thenN ?_
    refine Wp.ret ?_
    refine To.thenR ?_
    refine To.keep (kk := [4]) (kl := []) (K' := [(4, .val (.bool false))]) (L' := []) (by kernel_rfl) (by kernel_rfl) ?_
    cases h
    exact To.done hΓ (by kernel_rfl)
  · replace h := if_f hb h
    refine Wp.skip ?_
    refine To.thenN ?_
    refine Wp.seq ?_
    refine Wp.seq ?_
    refine Wp.region hΓ [] [] [] [0, 1, 5] [] (K' := [(0, .recs (α := List UInt8) [] E_string a0), (1, .recs (α := List UInt8) [] E_string a1), (5, .val (.int .i64 0))]) (L' := []) (ob := []) (by kernel_rfl) AllP.nil ?_
    refine To.thenN ?_
    refine Wp.block ?_
    obtain ⟨o1, ho1, h⟩ := bind_of h
    refine Wp.keep (kk := [0, 1, 5]) (kl := []) (K' := [(0, .recs (α := List UInt8) [] E_string a0), (1, .recs (α := List UInt8) [] E_string a1), (5, .val (.int .i64 0))]) (L' := []) (by kernel_rfl) (by kernel_rfl) ?_
    refine Wp.loopL ?_
    refine ok_ref02_Same_l1 n a0 a1 n 0 o1 ho1 ?_
    rcases o1 with o1 | o1
    · replace h := sum_l h
      refine To.blockX ?_
      refine To.thenN ?_
      refine Wp.seq ?_
      refine Wp.region hΓ [] [] [] [4] [] (K' := [(4, .val (.bool true))]) (L' := []) (ob := []) (by kernel_rfl) AllP.nil ?_
      refine To.thenN ?_
      refine Wp.ret ?_
      refine To.keep (kk := [4]) (kl := []) (K' := [(4, .val (.bool true))]) (L' := []) (by kernel_rfl) (by kernel_rfl) ?_
      cases h
      exact To.done hΓ (by kernel_rfl)
    · replace h := sum_r h
      refine To.blockR ?_
      refine To.thenR ?_
      refine To.keep (kk := [4]) (kl := []) (K' := [(4, .val (.bool o1))]) (L' := []) (by kernel_rfl) (by kernel_rfl) ?_
      cases h
      exact To.done hΓ (by kernel_rfl)
def ref27_Alike (n : Nat) (a0 : S_api_Spec) (a1 : S_api_Spec) : Option (Bool) :=
  (ref02_Same n a0.f_Nets a1.f_Nets).bind fun r1 =>
  ((if ((!r1) == false) = true then ref02_Same n a0.f_Vols a1.f_Vols else some false)).bind fun r2 =>
  if (bif (!r1) then true else (!r2)) = true then some false
  else (lett ((bif (bif (bif (bif (bif (bif (bif (a0.f_Name == a1.f_Name) then (a0.f_Project == a1.f_Project) else false) then (a0.f_Service == a1.f_Service) else false) then (a0.f_Number == a1.f_Number) else false) then (a0.f_Hash == a1.f_Hash) else false) then ((a0.f_Health.f_Test == a1.f_Health.f_Test) && ((a0.f_Health.f_Every == a1.f_Health.f_Every) && ((a0.f_Health.f_Start == a1.f_Health.f_Start) && (a0.f_Health.f_Retries == a1.f_Health.f_Retries)))) else false) then (a0.f_Restart == a1.f_Restart) else false) then (a0.f_Tries == a1.f_Tries) else false) : Bool) fun x3 =>
  some x3)
theorem ok_ref27_Alike (n : Nat) (a0 : S_api_Spec) (a1 : S_api_Spec) (r : Bool) (h : ref27_Alike n a0 a1 = some r) : CallsX Tryd.prog 48 [.agg [.str a0.f_Name, .str a0.f_Project, .str a0.f_Service, .val (.int .i64 a0.f_Number), .str a0.f_Hash, .recs (α := List UInt8) [] E_string a0.f_Nets, .recs (α := List UInt8) [] E_string a0.f_Vols, .str a0.f_Health.f_Test, .val (.int .i64 a0.f_Health.f_Every), .val (.int .i64 a0.f_Health.f_Start), .val (.int .i64 a0.f_Health.f_Retries), .val (.int .i64 a0.f_Restart), .val (.int .i64 a0.f_Tries)], .agg [.str a1.f_Name, .str a1.f_Project, .str a1.f_Service, .val (.int .i64 a1.f_Number), .str a1.f_Hash, .recs (α := List UInt8) [] E_string a1.f_Nets, .recs (α := List UInt8) [] E_string a1.f_Vols, .str a1.f_Health.f_Test, .val (.int .i64 a1.f_Health.f_Every), .val (.int .i64 a1.f_Health.f_Start), .val (.int .i64 a1.f_Health.f_Retries), .val (.int .i64 a1.f_Restart), .val (.int .i64 a1.f_Tries)]] (.val (.bool r)) := by
  unfold ref27_Alike at h
  refine callsX_of (fn := Tryd.f48) (by kernel_rfl) rfl (by kernel_rfl) (Nat.le_of_ble_eq_true (by kernel_rfl)) fun F0 w0 _ => ?_
  refine Wp.keep (kk := [0, 1]) (kl := []) (K' := [(0, .agg (E_api_Spec a0)), (1, .agg (E_api_Spec a1))]) (L' := []) (by kernel_rfl) (by kernel_rfl) ?_
  refine Wp.seq ?_
  refine Wp.region hΓ [] [] [] [2, 3] [2, 3] (K' := [(2, .own 2 0), (3, .own 3 0)]) (L' := [(2, 28, (E_api_Spec a0)), (3, 28, (E_api_Spec a1))]) (ob := []) (by kernel_rfl) AllP.nil ?_
  refine To.thenN ?_
  refine Wp.seq ?_
  refine Wp.seq ?_
  obtain ⟨r1, hr1, h⟩ := bind_of h
  obtain ⟨r2, hr2, h⟩ := bind_of h
  refine Wp.region hΓ [] [(4, .val (.bool r1)), (11, .val (.bool r2))] [] [2, 3, 18] [2, 3] (K' := [(2, .own 2 0), (3, .own 3 0), (18, .val (.bool (bif (!r1) then true else (!r2))))]) (L' := [(2, 28, (E_api_Spec a0)), (3, 28, (E_api_Spec a1))]) (ob := [(true = true → CX Tryd.prog 24 [.recs (α := List UInt8) [] E_string a0.f_Nets, .recs (α := List UInt8) [] E_string a1.f_Nets] (.val (.bool r1))), (((!r1) == false) = true → CX Tryd.prog 24 [.recs (α := List UInt8) [] E_string a0.f_Vols, .recs (α := List UInt8) [] E_string a1.f_Vols] (.val (.bool r2)))]) (by kernel_rfl) (AllP.cons (fun _ => cx (ok_ref02_Same n a0.f_Nets a1.f_Nets _ hr1)) (AllP.cons (fun hg => cx (ok_ref02_Same n a0.f_Vols a1.f_Vols _ (if_t hg hr2))) AllP.nil)) ?_
  refine To.thenN ?_
  refine Wp.cond (b := (bif (!r1) then true else (!r2))) (by kernel_rfl) (fun hb => ?_) (fun hb => ?_)
  · replace h := if_t hb h
    refine Wp.seq ?_
    refine Wp.region hΓ [] [] [] [4] [] (K' := [(4, .val (.bool false))]) (L' := []) (ob := []) (by kernel_rfl) AllP.nil ?_
    refine To.thenN ?_
    refine Wp.ret ?_
    refine To.thenR ?_
    refine To.keep (kk := [4]) (kl := []) (K' := [(4, .val (.bool false))]) (L' := []) (by kernel_rfl) (by kernel_rfl) ?_
    cases h
    exact To.done hΓ (by kernel_rfl)
  · replace h := if_f hb h
    refine Wp.skip ?_
    refine To.thenN ?_
    refine Wp.seq ?_
    obtain ⟨x3, hx3, h⟩ := lett_of h
    refine Wp.region hΓ [] [] [] [4] [] (K' := [(4, .val (.bool (bif (bif (bif (bif (bif (bif (bif (a0.f_Name == a1.f_Name) then (a0.f_Project == a1.f_Project) else false) then (a0.f_Service == a1.f_Service) else false) then (a0.f_Number == a1.f_Number) else false) then (a0.f_Hash == a1.f_Hash) else false) then ((a0.f_Health.f_Test == a1.f_Health.f_Test) && ((a0.f_Health.f_Every == a1.f_Health.f_Every) && ((a0.f_Health.f_Start == a1.f_Health.f_Start) && (a0.f_Health.f_Retries == a1.f_Health.f_Retries)))) else false) then (a0.f_Restart == a1.f_Restart) else false) then (a0.f_Tries == a1.f_Tries) else false)))]) (L' := []) (ob := []) (by kernel_rfl) AllP.nil ?_
    refine To.eq (K' := [(4, .val (.bool x3))]) (L' := []) (by cases hx3; rfl) (by cases hx3; rfl) ?_
    refine To.thenN ?_
    refine Wp.ret ?_
    refine To.keep (kk := [4]) (kl := []) (K' := [(4, .val (.bool x3))]) (L' := []) (by kernel_rfl) (by kernel_rfl) ?_
    cases h
    exact To.done hΓ (by kernel_rfl)
def ref40_SameCall (n : Nat) (a0 : S_api_Call) (a1 : S_api_Call) : Option (Bool) :=
  ((if ((bif (bif (a0.f_Kind == a1.f_Kind) then (a0.f_Name == a1.f_Name) else false) then (a0.f_Id == a1.f_Id) else false) == true) = true then ref27_Alike n a0.f_Spec a1.f_Spec else some false)).bind fun r1 =>
  lett ((bif (bif (bif (a0.f_Kind == a1.f_Kind) then (a0.f_Name == a1.f_Name) else false) then (a0.f_Id == a1.f_Id) else false) then r1 else false) : Bool) fun x2 =>
  some x2
theorem ok_ref40_SameCall (n : Nat) (a0 : S_api_Call) (a1 : S_api_Call) (r : Bool) (h : ref40_SameCall n a0 a1 = some r) : CallsX Tryd.prog 23 [.agg [.val (.int .i64 a0.f_Kind), .str a0.f_Name, .val (.int .i64 a0.f_Id), .str a0.f_Spec.f_Name, .str a0.f_Spec.f_Project, .str a0.f_Spec.f_Service, .val (.int .i64 a0.f_Spec.f_Number), .str a0.f_Spec.f_Hash, .recs (α := List UInt8) [] E_string a0.f_Spec.f_Nets, .recs (α := List UInt8) [] E_string a0.f_Spec.f_Vols, .str a0.f_Spec.f_Health.f_Test, .val (.int .i64 a0.f_Spec.f_Health.f_Every), .val (.int .i64 a0.f_Spec.f_Health.f_Start), .val (.int .i64 a0.f_Spec.f_Health.f_Retries), .val (.int .i64 a0.f_Spec.f_Restart), .val (.int .i64 a0.f_Spec.f_Tries)], .agg [.val (.int .i64 a1.f_Kind), .str a1.f_Name, .val (.int .i64 a1.f_Id), .str a1.f_Spec.f_Name, .str a1.f_Spec.f_Project, .str a1.f_Spec.f_Service, .val (.int .i64 a1.f_Spec.f_Number), .str a1.f_Spec.f_Hash, .recs (α := List UInt8) [] E_string a1.f_Spec.f_Nets, .recs (α := List UInt8) [] E_string a1.f_Spec.f_Vols, .str a1.f_Spec.f_Health.f_Test, .val (.int .i64 a1.f_Spec.f_Health.f_Every), .val (.int .i64 a1.f_Spec.f_Health.f_Start), .val (.int .i64 a1.f_Spec.f_Health.f_Retries), .val (.int .i64 a1.f_Spec.f_Restart), .val (.int .i64 a1.f_Spec.f_Tries)]] (.val (.bool r)) := by
  unfold ref40_SameCall at h
  refine callsX_of (fn := Tryd.f23) (by kernel_rfl) rfl (by kernel_rfl) (Nat.le_of_ble_eq_true (by kernel_rfl)) fun F0 w0 _ => ?_
  refine Wp.keep (kk := [0, 1]) (kl := []) (K' := [(0, .agg (E_api_Call a0)), (1, .agg (E_api_Call a1))]) (L' := []) (by kernel_rfl) (by kernel_rfl) ?_
  refine Wp.seq ?_
  refine Wp.region hΓ [] [] [] [2, 3] [2, 3] (K' := [(2, .own 2 0), (3, .own 3 0)]) (L' := [(2, 30, (E_api_Call a0)), (3, 30, (E_api_Call a1))]) (ob := []) (by kernel_rfl) AllP.nil ?_
  refine To.thenN ?_
  refine Wp.seq ?_
  obtain ⟨r1, hr1, h⟩ := bind_of h
  obtain ⟨x2, hx2, h⟩ := lett_of h
  refine Wp.region hΓ [] [(24, .val (.bool r1))] [] [4] [] (K' := [(4, .val (.bool (bif (bif (bif (a0.f_Kind == a1.f_Kind) then (a0.f_Name == a1.f_Name) else false) then (a0.f_Id == a1.f_Id) else false) then r1 else false)))]) (L' := []) (ob := [(((bif (bif (a0.f_Kind == a1.f_Kind) then (a0.f_Name == a1.f_Name) else false) then (a0.f_Id == a1.f_Id) else false) == true) = true → CX Tryd.prog 48 [.agg [.str a0.f_Spec.f_Name, .str a0.f_Spec.f_Project, .str a0.f_Spec.f_Service, .val (.int .i64 a0.f_Spec.f_Number), .str a0.f_Spec.f_Hash, .recs (α := List UInt8) [] E_string a0.f_Spec.f_Nets, .recs (α := List UInt8) [] E_string a0.f_Spec.f_Vols, .str a0.f_Spec.f_Health.f_Test, .val (.int .i64 a0.f_Spec.f_Health.f_Every), .val (.int .i64 a0.f_Spec.f_Health.f_Start), .val (.int .i64 a0.f_Spec.f_Health.f_Retries), .val (.int .i64 a0.f_Spec.f_Restart), .val (.int .i64 a0.f_Spec.f_Tries)], .agg [.str a1.f_Spec.f_Name, .str a1.f_Spec.f_Project, .str a1.f_Spec.f_Service, .val (.int .i64 a1.f_Spec.f_Number), .str a1.f_Spec.f_Hash, .recs (α := List UInt8) [] E_string a1.f_Spec.f_Nets, .recs (α := List UInt8) [] E_string a1.f_Spec.f_Vols, .str a1.f_Spec.f_Health.f_Test, .val (.int .i64 a1.f_Spec.f_Health.f_Every), .val (.int .i64 a1.f_Spec.f_Health.f_Start), .val (.int .i64 a1.f_Spec.f_Health.f_Retries), .val (.int .i64 a1.f_Spec.f_Restart), .val (.int .i64 a1.f_Spec.f_Tries)]] (.val (.bool r1)))]) (by kernel_rfl) (AllP.cons (fun hg => cx (ok_ref27_Alike n a0.f_Spec a1.f_Spec _ (if_t hg hr1))) AllP.nil) ?_
  refine To.eq (K' := [(4, .val (.bool x2))]) (L' := []) (by cases hx2; rfl) (by cases hx2; rfl) ?_
  refine To.thenN ?_
  refine Wp.ret ?_
  refine To.keep (kk := [4]) (kl := []) (K' := [(4, .val (.bool x2))]) (L' := []) (by kernel_rfl) (by kernel_rfl) ?_
  cases h
  exact To.done hΓ (by kernel_rfl)
def ref45_Same (n : Nat) (a0 : S_ref45_Step) (a1 : S_ref45_Step) : Option (Bool) :=
  ((if ((bif (bif (a0.f_Kind != a1.f_Kind) then true else (a0.f_N != a1.f_N)) then true else (a0.f_M != a1.f_M)) == false) = true then ref40_SameCall n a0.f_Call a1.f_Call else some false)).bind fun r1 =>
  lett ((bif (bif (bif (a0.f_Kind != a1.f_Kind) then true else (a0.f_N != a1.f_N)) then true else (a0.f_M != a1.f_M)) then true else (!r1)) : Bool) fun x2 =>
  if x2 = true then some false
  else (((if ((a0.f_Command.f_Kind == a1.f_Command.f_Kind) == true) = true then ref02_Same n a0.f_Command.f_Services a1.f_Command.f_Services else some false)).bind fun r3 =>
  lett ((bif (bif (bif (bif (bif (bif (a0.f_Command.f_Kind == a1.f_Command.f_Kind) then r3 else false) then (a0.f_Command.f_Count == a1.f_Command.f_Count) else false) then (a0.f_Command.f_Orphans == a1.f_Command.f_Orphans) else false) then (a0.f_Command.f_Volumes == a1.f_Command.f_Volumes) else false) then (a0.f_Command.f_Timeout == a1.f_Command.f_Timeout) else false) then (a0.f_Command.f_Retries == a1.f_Command.f_Retries) else false) : Bool) fun x4 =>
  some x4)
theorem ok_ref45_Same (n : Nat) (a0 : S_ref45_Step) (a1 : S_ref45_Step) (r : Bool) (h : ref45_Same n a0 a1 = some r) : CallsX Tryd.prog 11 [.agg [.val (.int .i64 a0.f_Kind), .val (.int .i64 a0.f_N), .val (.int .i64 a0.f_M), .val (.int .i64 a0.f_Command.f_Kind), .recs (α := List UInt8) [] E_string a0.f_Command.f_Services, .val (.int .i64 a0.f_Command.f_Count), .val (.bool a0.f_Command.f_Orphans), .val (.bool a0.f_Command.f_Volumes), .val (.int .i64 a0.f_Command.f_Timeout), .val (.int .i64 a0.f_Command.f_Retries), .val (.int .i64 a0.f_Call.f_Kind), .str a0.f_Call.f_Name, .val (.int .i64 a0.f_Call.f_Id), .str a0.f_Call.f_Spec.f_Name, .str a0.f_Call.f_Spec.f_Project, .str a0.f_Call.f_Spec.f_Service, .val (.int .i64 a0.f_Call.f_Spec.f_Number), .str a0.f_Call.f_Spec.f_Hash, .recs (α := List UInt8) [] E_string a0.f_Call.f_Spec.f_Nets, .recs (α := List UInt8) [] E_string a0.f_Call.f_Spec.f_Vols, .str a0.f_Call.f_Spec.f_Health.f_Test, .val (.int .i64 a0.f_Call.f_Spec.f_Health.f_Every), .val (.int .i64 a0.f_Call.f_Spec.f_Health.f_Start), .val (.int .i64 a0.f_Call.f_Spec.f_Health.f_Retries), .val (.int .i64 a0.f_Call.f_Spec.f_Restart), .val (.int .i64 a0.f_Call.f_Spec.f_Tries)], .agg [.val (.int .i64 a1.f_Kind), .val (.int .i64 a1.f_N), .val (.int .i64 a1.f_M), .val (.int .i64 a1.f_Command.f_Kind), .recs (α := List UInt8) [] E_string a1.f_Command.f_Services, .val (.int .i64 a1.f_Command.f_Count), .val (.bool a1.f_Command.f_Orphans), .val (.bool a1.f_Command.f_Volumes), .val (.int .i64 a1.f_Command.f_Timeout), .val (.int .i64 a1.f_Command.f_Retries), .val (.int .i64 a1.f_Call.f_Kind), .str a1.f_Call.f_Name, .val (.int .i64 a1.f_Call.f_Id), .str a1.f_Call.f_Spec.f_Name, .str a1.f_Call.f_Spec.f_Project, .str a1.f_Call.f_Spec.f_Service, .val (.int .i64 a1.f_Call.f_Spec.f_Number), .str a1.f_Call.f_Spec.f_Hash, .recs (α := List UInt8) [] E_string a1.f_Call.f_Spec.f_Nets, .recs (α := List UInt8) [] E_string a1.f_Call.f_Spec.f_Vols, .str a1.f_Call.f_Spec.f_Health.f_Test, .val (.int .i64 a1.f_Call.f_Spec.f_Health.f_Every), .val (.int .i64 a1.f_Call.f_Spec.f_Health.f_Start), .val (.int .i64 a1.f_Call.f_Spec.f_Health.f_Retries), .val (.int .i64 a1.f_Call.f_Spec.f_Restart), .val (.int .i64 a1.f_Call.f_Spec.f_Tries)]] (.val (.bool r)) := by
  unfold ref45_Same at h
  refine callsX_of (fn := Tryd.f11) (by kernel_rfl) rfl (by kernel_rfl) (Nat.le_of_ble_eq_true (by kernel_rfl)) fun F0 w0 _ => ?_
  refine Wp.keep (kk := [0, 1]) (kl := []) (K' := [(0, .agg (E_ref45_Step a0)), (1, .agg (E_ref45_Step a1))]) (L' := []) (by kernel_rfl) (by kernel_rfl) ?_
  refine Wp.seq ?_
  refine Wp.region hΓ [] [] [] [2, 3] [2, 3] (K' := [(2, .own 2 0), (3, .own 3 0)]) (L' := [(2, 32, (E_ref45_Step a0)), (3, 32, (E_ref45_Step a1))]) (ob := []) (by kernel_rfl) AllP.nil ?_
  refine To.thenN ?_
  refine Wp.seq ?_
  refine Wp.regionD hm hΓ [] [2, 3, 5, 6] [2, 3, 5, 6] (K' := [(2, .own 2 0), (3, .own 3 0), (5, .own 5 0), (6, .own 6 0)]) (L' := [(2, 32, (E_ref45_Step a0)), (3, 32, (E_ref45_Step a1)), (5, 24, (E_api_Command a0.f_Command)), (6, 24, (E_api_Command a1.f_Command))]) (ob := []) (by kernel_rfl) AllP.nil ?_
  refine To.thenN ?_
  refine Wp.seq ?_
  refine Wp.seq ?_
  obtain ⟨r1, hr1, h⟩ := bind_of h
  obtain ⟨x2, hx2, h⟩ := lett_of h
  refine Wp.region hΓ [] [(24, .val (.bool r1))] [] [5, 6, 37] [5, 6] (K' := [(5, .own 5 0), (6, .own 6 0), (37, .val (.bool (bif (bif (bif (a0.f_Kind != a1.f_Kind) then true else (a0.f_N != a1.f_N)) then true else (a0.f_M != a1.f_M)) then true else (!r1))))]) (L' := [(5, 24, (E_api_Command a0.f_Command)), (6, 24, (E_api_Command a1.f_Command))]) (ob := [(((bif (bif (a0.f_Kind != a1.f_Kind) then true else (a0.f_N != a1.f_N)) then true else (a0.f_M != a1.f_M)) == false) = true → CX Tryd.prog 23 [.agg [.val (.int .i64 a0.f_Call.f_Kind), .str a0.f_Call.f_Name, .val (.int .i64 a0.f_Call.f_Id), .str a0.f_Call.f_Spec.f_Name, .str a0.f_Call.f_Spec.f_Project, .str a0.f_Call.f_Spec.f_Service, .val (.int .i64 a0.f_Call.f_Spec.f_Number), .str a0.f_Call.f_Spec.f_Hash, .recs (α := List UInt8) [] E_string a0.f_Call.f_Spec.f_Nets, .recs (α := List UInt8) [] E_string a0.f_Call.f_Spec.f_Vols, .str a0.f_Call.f_Spec.f_Health.f_Test, .val (.int .i64 a0.f_Call.f_Spec.f_Health.f_Every), .val (.int .i64 a0.f_Call.f_Spec.f_Health.f_Start), .val (.int .i64 a0.f_Call.f_Spec.f_Health.f_Retries), .val (.int .i64 a0.f_Call.f_Spec.f_Restart), .val (.int .i64 a0.f_Call.f_Spec.f_Tries)], .agg [.val (.int .i64 a1.f_Call.f_Kind), .str a1.f_Call.f_Name, .val (.int .i64 a1.f_Call.f_Id), .str a1.f_Call.f_Spec.f_Name, .str a1.f_Call.f_Spec.f_Project, .str a1.f_Call.f_Spec.f_Service, .val (.int .i64 a1.f_Call.f_Spec.f_Number), .str a1.f_Call.f_Spec.f_Hash, .recs (α := List UInt8) [] E_string a1.f_Call.f_Spec.f_Nets, .recs (α := List UInt8) [] E_string a1.f_Call.f_Spec.f_Vols, .str a1.f_Call.f_Spec.f_Health.f_Test, .val (.int .i64 a1.f_Call.f_Spec.f_Health.f_Every), .val (.int .i64 a1.f_Call.f_Spec.f_Health.f_Start), .val (.int .i64 a1.f_Call.f_Spec.f_Health.f_Retries), .val (.int .i64 a1.f_Call.f_Spec.f_Restart), .val (.int .i64 a1.f_Call.f_Spec.f_Tries)]] (.val (.bool r1)))]) (by kernel_rfl) (AllP.cons (fun hg => cx (ok_ref40_SameCall n a0.f_Call a1.f_Call _ (if_t hg hr1))) AllP.nil) ?_
  refine To.eq (K' := [(5, .own 5 0), (6, .own 6 0), (37, .val (.bool x2))]) (L' := [(5, 24, (E_api_Command a0.f_Command)), (6, 24, (E_api_Command a1.f_Command))]) (by cases hx2; rfl) (by cases hx2; rfl) ?_
  refine To.thenN ?_
  refine Wp.cond (b := x2) (by kernel_rfl) (fun hb => ?_) (fun hb => ?_)
  · replace h := if_t hb h
    refine Wp.seq ?_
    refine Wp.region hΓ [] [] [] [4] [] (K' := [(4, .val (.bool false))]) (L' := []) (ob := []) (by kernel_rfl) AllP.nil ?_
    refine To.thenN ?_
    refine Wp.ret ?_
    refine To.thenR ?_
    refine To.keep (kk := [4]) (kl := []) (K' := [(4, .val (.bool false))]) (L' := []) (by kernel_rfl) (by kernel_rfl) ?_
    cases h
    exact To.done hΓ (by kernel_rfl)
  · replace h := if_f hb h
    refine Wp.skip ?_
    refine To.thenN ?_
    refine Wp.seq ?_
    obtain ⟨r3, hr3, h⟩ := bind_of h
    obtain ⟨x4, hx4, h⟩ := lett_of h
    refine Wp.region hΓ [] [(10, .val (.bool r3))] [] [4] [] (K' := [(4, .val (.bool (bif (bif (bif (bif (bif (bif (a0.f_Command.f_Kind == a1.f_Command.f_Kind) then r3 else false) then (a0.f_Command.f_Count == a1.f_Command.f_Count) else false) then (a0.f_Command.f_Orphans == a1.f_Command.f_Orphans) else false) then (a0.f_Command.f_Volumes == a1.f_Command.f_Volumes) else false) then (a0.f_Command.f_Timeout == a1.f_Command.f_Timeout) else false) then (a0.f_Command.f_Retries == a1.f_Command.f_Retries) else false)))]) (L' := []) (ob := [(((a0.f_Command.f_Kind == a1.f_Command.f_Kind) == true) = true → CX Tryd.prog 24 [.recs (α := List UInt8) [] E_string a0.f_Command.f_Services, .recs (α := List UInt8) [] E_string a1.f_Command.f_Services] (.val (.bool r3)))]) (by kernel_rfl) (AllP.cons (fun hg => cx (ok_ref02_Same n a0.f_Command.f_Services a1.f_Command.f_Services _ (if_t hg hr3))) AllP.nil) ?_
    refine To.eq (K' := [(4, .val (.bool x4))]) (L' := []) (by cases hx4; rfl) (by cases hx4; rfl) ?_
    refine To.thenN ?_
    refine Wp.ret ?_
    refine To.keep (kk := [4]) (kl := []) (K' := [(4, .val (.bool x4))]) (L' := []) (by kernel_rfl) (by kernel_rfl) ?_
    cases h
    exact To.done hΓ (by kernel_rfl)
abbrev Z_api_Command : S_api_Command := (S_api_Command.mk 0 [] 0 false false 0 0)
abbrev Z_api_Spec : S_api_Spec := (S_api_Spec.mk [] [] [] 0 [] [] [] (S_api_Check.mk [] 0 0 0) 0 0)
abbrev Z_ref45_Step : S_ref45_Step := (S_ref45_Step.mk 0 0 0 Z_api_Command (S_api_Call.mk 0 [] 0 Z_api_Spec))
def script_Show_l1 (n : Nat) (v6 : List (S_ref45_Step)) (v7 : Int) : Nat → Int → (List UInt8) → Option ((List UInt8))
  | 0, _, _ => none
  | k + 1, v8, b3 => if (decide (v8 < v7)) = true then (if (decide (0 ≤ v8 ∧ v8 < (List.length v6 : Int))) = true then ((script_Text n ((v6)[Int.toNat v8]?.getD Z_ref45_Step)).bind fun r1 =>
  if (decide ((List.length b3 + List.length r1) * (1 + 1) ≤ limit)) = true then (if (decide ((List.length (b3 ++ r1) + 1) * (1 + 1) ≤ limit)) = true then (script_Show_l1 n v6 v7 k (IntKind.wrap .i64 (v8 + 1)) ((b3 ++ r1) ++ [10])) else none) else none) else none)
  else some b3
theorem ok_script_Show_l1 (n : Nat) (v6 : List (S_ref45_Step)) (v7 : Int) {F0 : Fz} {w0 : Pt Tryd.prog} {Q : Exit → Act → World → Prop} (k : Nat) : ∀ (v8 : Int) (b3 : List UInt8) (o : (List UInt8)), script_Show_l1 n v6 v7 k v8 b3 = some o → To 18 F0 w0 [(3, .own 3 0)] [(3, 62, [.opt 3, .srow 4181]), (4181, 5, [.rowc false (α := UInt8) 0 e8 o])] (.exit 0) Q → WL Tryd.prog 18 F0 w0 [(3, .own 3 0), (6, .recs (α := S_ref45_Step) Z_ref45_Step E_script_Step v6), (7, .val (.int .i64 v7)), (8, .val (.int .i64 v8))] [(3, 62, [.opt 3, .srow 4181]), (4181, 5, [.rowc false (α := UInt8) 0 e8 b3])] (cI (cI (cB (cA (cB (cB (cF Tryd.f12))))))) Q := by
  induction k with
  | zero => intro v8 b3 o h; cases h
  | succ k ih =>
    intro v8 b3 o h hQ
    rw [script_Show_l1] at h
    refine WL.round ?_
    refine Wp.seq ?_
    refine Wp.region hΓ [] [] [] [3, 6, 7, 8, 9] [3, 4181] (K' := [(3, .own 3 0), (6, .recs (α := S_ref45_Step) Z_ref45_Step E_script_Step v6), (7, .val (.int .i64 v7)), (8, .val (.int .i64 v8)), (9, .val (.bool (decide (v8 < v7))))]) (L' := [(3, 62, [.opt 3, .srow 4181]), (4181, 5, [.rowc false (α := UInt8) 0 e8 b3])]) (ob := []) (by kernel_rfl) AllP.nil ?_
    refine To.thenN ?_
    refine Wp.seq ?_
    refine Wp.cond (b := (decide (v8 < v7))) (by kernel_rfl) (fun hb => ?_) (fun hb => ?_)
    · replace h := if_t hb h
      refine Wp.skip ?_
      refine To.thenN ?_
      refine Wp.seq ?_
      refine Wp.block ?_
      refine Wp.seq ?_
      obtain ⟨hc4, h⟩ := chk_of h
      refine Wp.region hΓ [] [] [] [3, 5, 6, 7, 8] [3, 5, 4181] (K' := [(3, .own 3 0), (5, .own 5 0), (6, .recs (α := S_ref45_Step) Z_ref45_Step E_script_Step v6), (7, .val (.int .i64 v7)), (8, .val (.int .i64 v8))]) (L' := [(3, 62, [.opt 3, .srow 4181]), (5, 36, (E_script_Step ((v6)[Int.toNat v8]?.getD Z_ref45_Step))), (4181, 5, [.rowc false (α := UInt8) 0 e8 b3])]) (ob := [(decide (0 ≤ v8 ∧ v8 < (List.length v6 : Int))) = true]) (by kernel_rfl) (AllP.cons hc4 AllP.nil) ?_
      refine To.thenN ?_
      refine Wp.seq ?_
      obtain ⟨r1, hr1, h⟩ := bind_of h
      obtain ⟨u2, h⟩ := chk_of h
      refine Wp.region hΓ [] [(1, .str r1)] [(2, ⟨[(1000000, 3), (1000001, 4181)], [(1000000, 3), (1, 4181)], [.own 1000000 0, .str r1], [(1000000, 62, [.opt 1000000, .srow 1000001]), (1000001, 5, [.rowc false (α := UInt8) 0 e8 b3])], .tup [.val (.int .i64 (List.length r1 : Int)), .val (.nilIface)], [(1000000, 62, [.opt 1000000, .srow 1]), (1, 5, [.rowc false (α := UInt8) 0 e8 (b3 ++ r1)])]⟩)] [3, 6, 7, 8] [3, 4181] (K' := [(3, .own 3 0), (6, .recs (α := S_ref45_Step) Z_ref45_Step E_script_Step v6), (7, .val (.int .i64 v7)), (8, .val (.int .i64 v8))]) (L' := [(3, 62, [.opt 3, .srow 4181]), (4181, 5, [.rowc false (α := UInt8) 0 e8 (b3 ++ r1)])]) (ob := [(true = true → CX Tryd.prog 8 [.agg [.val (.int .i64 (((v6)[Int.toNat v8]?.getD Z_ref45_Step).f_Kind)), .val (.int .i64 (((v6)[Int.toNat v8]?.getD Z_ref45_Step).f_N)), .val (.int .i64 (((v6)[Int.toNat v8]?.getD Z_ref45_Step).f_M)), .val (.int .i64 (((v6)[Int.toNat v8]?.getD Z_ref45_Step).f_Command.f_Kind)), .recs (α := List UInt8) [] E_string (((v6)[Int.toNat v8]?.getD Z_ref45_Step).f_Command.f_Services), .val (.int .i64 (((v6)[Int.toNat v8]?.getD Z_ref45_Step).f_Command.f_Count)), .val (.bool (((v6)[Int.toNat v8]?.getD Z_ref45_Step).f_Command.f_Orphans)), .val (.bool (((v6)[Int.toNat v8]?.getD Z_ref45_Step).f_Command.f_Volumes)), .val (.int .i64 (((v6)[Int.toNat v8]?.getD Z_ref45_Step).f_Command.f_Timeout)), .val (.int .i64 (((v6)[Int.toNat v8]?.getD Z_ref45_Step).f_Command.f_Retries)), .val (.int .i64 (((v6)[Int.toNat v8]?.getD Z_ref45_Step).f_Call.f_Kind)), .str (((v6)[Int.toNat v8]?.getD Z_ref45_Step).f_Call.f_Name), .val (.int .i64 (((v6)[Int.toNat v8]?.getD Z_ref45_Step).f_Call.f_Id)), .str (((v6)[Int.toNat v8]?.getD Z_ref45_Step).f_Call.f_Spec.f_Name), .str (((v6)[Int.toNat v8]?.getD Z_ref45_Step).f_Call.f_Spec.f_Project), .str (((v6)[Int.toNat v8]?.getD Z_ref45_Step).f_Call.f_Spec.f_Service), .val (.int .i64 (((v6)[Int.toNat v8]?.getD Z_ref45_Step).f_Call.f_Spec.f_Number)), .str (((v6)[Int.toNat v8]?.getD Z_ref45_Step).f_Call.f_Spec.f_Hash), .recs (α := List UInt8) [] E_string (((v6)[Int.toNat v8]?.getD Z_ref45_Step).f_Call.f_Spec.f_Nets), .recs (α := List UInt8) [] E_string (((v6)[Int.toNat v8]?.getD Z_ref45_Step).f_Call.f_Spec.f_Vols), .str (((v6)[Int.toNat v8]?.getD Z_ref45_Step).f_Call.f_Spec.f_Health.f_Test), .val (.int .i64 (((v6)[Int.toNat v8]?.getD Z_ref45_Step).f_Call.f_Spec.f_Health.f_Every)), .val (.int .i64 (((v6)[Int.toNat v8]?.getD Z_ref45_Step).f_Call.f_Spec.f_Health.f_Start)), .val (.int .i64 (((v6)[Int.toNat v8]?.getD Z_ref45_Step).f_Call.f_Spec.f_Health.f_Retries)), .val (.int .i64 (((v6)[Int.toNat v8]?.getD Z_ref45_Step).f_Call.f_Spec.f_Restart)), .val (.int .i64 (((v6)[Int.toNat v8]?.getD Z_ref45_Step).f_Call.f_Spec.f_Tries))]] (.str r1)), CbOb (CallsB Tryd.prog) 25 [.own 3 0, .str r1] [some (62, [.opt 3, .srow 4181]), some (5, [.rowc false (α := UInt8) 0 e8 b3])] ⟨[(1000000, 3), (1000001, 4181)], [(1000000, 3), (1, 4181)], [.own 1000000 0, .str r1], [(1000000, 62, [.opt 1000000, .srow 1000001]), (1000001, 5, [.rowc false (α := UInt8) 0 e8 b3])], .tup [.val (.int .i64 (List.length r1 : Int)), .val (.nilIface)], [(1000000, 62, [.opt 1000000, .srow 1]), (1, 5, [.rowc false (α := UInt8) 0 e8 (b3 ++ r1)])]⟩]) (by kernel_rfl) (AllP.cons (fun _ => cx (ok_script_Text n ((v6)[Int.toNat v8]?.getD Z_ref45_Step) _ hr1)) (AllP.cons (⟨writeString (l := b3) (s := r1) u2, by kernel_rfl, by kernel_rfl⟩) AllP.nil)) ?_
      refine To.thenN ?_
      obtain ⟨u3, h⟩ := chk_of h
      refine Wp.region hΓ [] [] [(0, ⟨[(1000000, 3), (1000001, 4181)], [(1000000, 3), (1, 4181)], [.own 1000000 0, .val (.int .u8 10)], [(1000000, 62, [.opt 1000000, .srow 1000001]), (1000001, 5, [.rowc false (α := UInt8) 0 e8 (b3 ++ r1)])], .val (.nilIface), [(1000000, 62, [.opt 1000000, .srow 1]), (1, 5, [.rowc false (α := UInt8) 0 e8 ((b3 ++ r1) ++ [10])])]⟩)] [3, 6, 7, 8] [3, 4181] (K' := [(3, .own 3 0), (6, .recs (α := S_ref45_Step) Z_ref45_Step E_script_Step v6), (7, .val (.int .i64 v7)), (8, .val (.int .i64 v8))]) (L' := [(3, 62, [.opt 3, .srow 4181]), (4181, 5, [.rowc false (α := UInt8) 0 e8 ((b3 ++ r1) ++ [10])])]) (ob := [CbOb (CallsB Tryd.prog) 26 [.own 3 0, .val (.int .u8 10)] [some (62, [.opt 3, .srow 4181]), some (5, [.rowc false (α := UInt8) 0 e8 (b3 ++ r1)])] ⟨[(1000000, 3), (1000001, 4181)], [(1000000, 3), (1, 4181)], [.own 1000000 0, .val (.int .u8 10)], [(1000000, 62, [.opt 1000000, .srow 1000001]), (1000001, 5, [.rowc false (α := UInt8) 0 e8 (b3 ++ r1)])], .val (.nilIface), [(1000000, 62, [.opt 1000000, .srow 1]), (1, 5, [.rowc false (α := UInt8) 0 e8 ((b3 ++ r1) ++ [10])])]⟩]) (by kernel_rfl) (AllP.cons (⟨writeByteI (l := (b3 ++ r1)) (x := 10) rfl u3, by kernel_rfl, by kernel_rfl⟩) AllP.nil) ?_
      refine To.blockN ?_
      refine To.thenN ?_
      refine Wp.region hΓ [] [] [] [3, 6, 7, 8] [3, 4181] (K' := [(3, .own 3 0), (6, .recs (α := S_ref45_Step) Z_ref45_Step E_script_Step v6), (7, .val (.int .i64 v7)), (8, .val (.int .i64 (IntKind.wrap .i64 (v8 + 1))))]) (L' := [(3, 62, [.opt 3, .srow 4181]), (4181, 5, [.rowc false (α := UInt8) 0 e8 ((b3 ++ r1) ++ [10])])]) (ob := []) (by kernel_rfl) AllP.nil ?_
      refine To.keep (kk := [3, 6, 7, 8]) (kl := [3, 4181]) (K' := [(3, .own 3 0), (6, .recs (α := S_ref45_Step) Z_ref45_Step E_script_Step v6), (7, .val (.int .i64 v7)), (8, .val (.int .i64 (IntKind.wrap .i64 (v8 + 1))))]) (L' := [(3, 62, [.opt 3, .srow 4181]), (4181, 5, [.rowc false (α := UInt8) 0 e8 ((b3 ++ r1) ++ [10])])]) (by kernel_rfl) (by kernel_rfl) ?_
      refine To.again ?_
      exact ih (IntKind.wrap .i64 (v8 + 1)) ((b3 ++ r1) ++ [10]) _ h hQ
    · replace h := if_f hb h
      refine Wp.exit ?_
      refine To.thenX ?_
      refine To.thenX ?_
      refine To.keep (kk := [3]) (kl := [3, 4181]) (K' := [(3, .own 3 0)]) (L' := [(3, 62, [.opt 3, .srow 4181]), (4181, 5, [.rowc false (α := UInt8) 0 e8 b3])]) (by kernel_rfl) (by kernel_rfl) ?_
      cases h
      exact hQ
def script_Show (n : Nat) (a0 : List (S_ref45_Step)) : Option ((List UInt8)) :=
  (script_Show_l1 n a0 (List.length a0 : Int) n 0 ([] : List (UInt8))).bind fun o1 =>
  some o1
theorem ok_script_Show (n : Nat) (a0 : List (S_ref45_Step)) (r : (List UInt8)) (h : script_Show n a0 = some r) : CallsX Tryd.prog 12 [.recs (α := S_ref45_Step) Z_ref45_Step E_script_Step a0] (.str r) := by
  unfold script_Show at h
  refine callsX_of (fn := Tryd.f12) (by kernel_rfl) rfl (by kernel_rfl) (Nat.le_of_ble_eq_true (by kernel_rfl)) fun F0 w0 _ => ?_
  refine Wp.keep (kk := [0]) (kl := []) (K' := [(0, .recs (α := S_ref45_Step) Z_ref45_Step E_script_Step a0)]) (L' := []) (by kernel_rfl) (by kernel_rfl) ?_
  refine Wp.seq ?_
  refine Wp.region hΓ [] [] [] [0] [] (K' := [(0, .recs (α := S_ref45_Step) Z_ref45_Step E_script_Step a0)]) (L' := []) (ob := []) (by kernel_rfl) AllP.nil ?_
  refine To.thenN ?_
  refine Wp.seq ?_
  refine Wp.region hΓ [] [] [] [0, 3] [3] (K' := [(0, .recs (α := S_ref45_Step) Z_ref45_Step E_script_Step a0), (3, .own 3 0)]) (L' := [(3, 62, [.val (.pointer none), .val (.slice none 0 0)])]) (ob := []) (by kernel_rfl) AllP.nil ?_
  refine To.pre (St.builderB 3 4181 5 (by decide) (by kernel_rfl) (L' := [(3, 62, [.opt 3, .srow 4181])]) (by kernel_rfl)) ?_
  refine To.thenN ?_
  refine Wp.seq ?_
  refine Wp.seq ?_
  refine Wp.region hΓ [] [] [] [3, 6, 7, 8] [3, 4181] (K' := [(3, .own 3 0), (6, .recs (α := S_ref45_Step) Z_ref45_Step E_script_Step a0), (7, .val (.int .i64 (List.length a0 : Int))), (8, .val (.int .i64 0))]) (L' := [(3, 62, [.opt 3, .srow 4181]), (4181, 5, [.rowc false (α := UInt8) 0 e8 []])]) (ob := []) (by kernel_rfl) AllP.nil ?_
  refine To.thenN ?_
  refine Wp.block ?_
  obtain ⟨o1, ho1, h⟩ := bind_of h
  refine Wp.keep (kk := [3, 6, 7, 8]) (kl := [3, 4181]) (K' := [(3, .own 3 0), (6, .recs (α := S_ref45_Step) Z_ref45_Step E_script_Step a0), (7, .val (.int .i64 (List.length a0 : Int))), (8, .val (.int .i64 0))]) (L' := [(3, 62, [.opt 3, .srow 4181]), (4181, 5, [.rowc false (α := UInt8) 0 e8 []])]) (by kernel_rfl) (by kernel_rfl) ?_
  refine Wp.loopL ?_
  refine ok_script_Show_l1 n a0 (List.length a0 : Int) n 0 ([] : List (UInt8)) o1 ho1 ?_
  refine To.blockX ?_
  refine To.thenN ?_
  refine Wp.seq ?_
  refine Wp.region hΓ [] [] [(0, ⟨[(1000000, 3), (1000001, 4181)], [(1000000, 3)], [.own 1000000 0], [(1000000, 62, [.opt 1000000, .srow 1000001]), (1000001, 5, [.rowc false (α := UInt8) 0 e8 o1])], .str o1, [(1000000, 62, [.opt 1000000, .hole])]⟩)] [2] [] (K' := [(2, .str o1)]) (L' := []) (ob := [CbOb (CallsB Tryd.prog) 27 [.own 3 0] [some (62, [.opt 3, .srow 4181]), some (5, [.rowc false (α := UInt8) 0 e8 o1])] ⟨[(1000000, 3), (1000001, 4181)], [(1000000, 3)], [.own 1000000 0], [(1000000, 62, [.opt 1000000, .srow 1000001]), (1000001, 5, [.rowc false (α := UInt8) 0 e8 o1])], .str o1, [(1000000, 62, [.opt 1000000, .hole])]⟩]) (by kernel_rfl) (AllP.cons (⟨bstring (l := o1), by kernel_rfl, by kernel_rfl⟩) AllP.nil) ?_
  refine To.thenN ?_
  refine Wp.ret ?_
  refine To.keep (kk := [2]) (kl := []) (K' := [(2, .str o1)]) (L' := []) (by kernel_rfl) (by kernel_rfl) ?_
  cases h
  exact To.done hΓ (by kernel_rfl)
theorem good_E_script_Step (l : List (S_ref45_Step)) : GoodR (.recs Z_ref45_Step E_script_Step l) := ⟨Nat.le_of_ble_eq_true (by kernel_rfl), fun _ => ⟨rfl, rfl⟩⟩
def script_Read_j2 (n : Nat) (v0 : List UInt8) (v5 : List (S_ref45_Step)) (v6 : Int) : Option (Sum ((List UInt8) × (List (S_ref45_Step))) (Int × Int)) :=
  if (decide (List.length v0 < 4294967281)) = true then (if ((!((((Lib.cut v0 ([10] : List UInt8)).1) == []) == false) || decide (0 ≤ (0 : Int) ∧ (0 : Int) < (List.length ((Lib.cut v0 ([10] : List UInt8)).1) : Int)))) = true then (lett ((bif (((Lib.cut v0 ([10] : List UInt8)).1) == []) then true else ((((((Lib.cut v0 ([10] : List UInt8)).1))[Int.toNat 0]?.getD 0).toNat : Int) == 35)) : Bool) fun x2 =>
  if x2 = true then (some (.inl ((Lib.cut v0 ([10] : List UInt8)).2.1, v5)))
  else ((script_Line n ((Lib.cut v0 ([10] : List UInt8)).1)).bind fun r3 =>
  if (r3.2 != 0) = true then (some (.inr (v6, r3.2)))
  else (if (decide ((List.length v5 + List.length ([r3.1] : List (S_ref45_Step))) * (296 + 1) ≤ limit)) = true then (some (.inl ((Lib.cut v0 ([10] : List UInt8)).2.1, (v5 ++ ([r3.1] : List (S_ref45_Step)))))) else none))) else none) else none
theorem ok_script_Read_j2 (n : Nat) (v0 : List UInt8) (v5 : List (S_ref45_Step)) (v6 : Int) (o : Sum ((List UInt8) × (List (S_ref45_Step))) (Int × Int)) (h : script_Read_j2 n v0 v5 v6 = some o) {F0 : Fz} {w0 : Pt Tryd.prog} {Q : Exit → Act → World → Prop} (hQ : (Sum.elim (fun s => To 50 F0 w0 [(0, .str s.1), (5, .row 1005), (6, .val (.int .i64 v6))] [(1005, 36, [.rowc false (α := S_ref45_Step) Z_ref45_Step E_script_Step s.2])] .normal Q) (fun s => To 50 F0 w0 [(2, .val (.slice none 0 0)), (3, .val (.int .i64 s.1)), (4, .val (.int .i64 s.2))] [] .ret Q)) o) : Wp Tryd.prog 50 F0 w0 [(0, .str v0), (5, .row 1005), (6, .val (.int .i64 v6))] [(1005, 36, [.rowc false (α := S_ref45_Step) Z_ref45_Step E_script_Step v5])] (cA (cB (cI (cI (cB (cA (cB (cB (cB (cF Tryd.f15)))))))))) Q := by
  unfold script_Read_j2 at h
  refine Wp.block ?_
  refine Wp.seq ?_
  obtain ⟨u1, h⟩ := chk_of h
  refine Wp.region hΓ [] [(1, .tup [.str ((Lib.cut v0 ([10] : List UInt8)).1), .str ((Lib.cut v0 ([10] : List UInt8)).2.1), .val (.bool ((Lib.cut v0 ([10] : List UInt8)).2.2))])] [] [5, 6, 7, 8] [1005] (K' := [(5, .row 1005), (6, .val (.int .i64 v6)), (7, .str ((Lib.cut v0 ([10] : List UInt8)).1)), (8, .str ((Lib.cut v0 ([10] : List UInt8)).2.1))]) (L' := [(1005, 36, [.rowc false (α := S_ref45_Step) Z_ref45_Step E_script_Step v5])]) (ob := [(true = true → CX Tryd.prog 39 [.str v0, .str [10]] (.tup [.str ((Lib.cut v0 ([10] : List UInt8)).1), .str ((Lib.cut v0 ([10] : List UInt8)).2.1), .val (.bool ((Lib.cut v0 ([10] : List UInt8)).2.2))]))]) (by kernel_rfl) (AllP.cons (fun _ => cx (Sh.cut39 u1)) AllP.nil) ?_
  refine To.thenN ?_
  refine Wp.seq ?_
  refine Wp.region hΓ [] [] [] [0, 5, 6, 7] [1005] (K' := [(0, .str ((Lib.cut v0 ([10] : List UInt8)).2.1)), (5, .row 1005), (6, .val (.int .i64 v6)), (7, .str ((Lib.cut v0 ([10] : List UInt8)).1))]) (L' := [(1005, 36, [.rowc false (α := S_ref45_Step) Z_ref45_Step E_script_Step v5])]) (ob := []) (by kernel_rfl) AllP.nil ?_
  refine To.thenN ?_
  refine Wp.seq ?_
  refine Wp.seq ?_
  obtain ⟨hc5, h⟩ := chk_of h
  obtain ⟨x2, hx2, h⟩ := lett_of h
  refine Wp.region hΓ [] [] [] [0, 5, 6, 7, 32] [1005] (K' := [(0, .str ((Lib.cut v0 ([10] : List UInt8)).2.1)), (5, .row 1005), (6, .val (.int .i64 v6)), (7, .str ((Lib.cut v0 ([10] : List UInt8)).1)), (32, .val (.bool (bif (((Lib.cut v0 ([10] : List UInt8)).1) == []) then true else ((((((Lib.cut v0 ([10] : List UInt8)).1))[Int.toNat 0]?.getD 0).toNat : Int) == 35))))]) (L' := [(1005, 36, [.rowc false (α := S_ref45_Step) Z_ref45_Step E_script_Step v5])]) (ob := [(!((((Lib.cut v0 ([10] : List UInt8)).1) == []) == false) || decide (0 ≤ (0 : Int) ∧ (0 : Int) < (List.length ((Lib.cut v0 ([10] : List UInt8)).1) : Int))) = true]) (by kernel_rfl) (AllP.cons hc5 AllP.nil) ?_
  refine To.eq (K' := [(0, .str ((Lib.cut v0 ([10] : List UInt8)).2.1)), (5, .row 1005), (6, .val (.int .i64 v6)), (7, .str ((Lib.cut v0 ([10] : List UInt8)).1)), (32, .val (.bool x2))]) (L' := [(1005, 36, [.rowc false (α := S_ref45_Step) Z_ref45_Step E_script_Step v5])]) (by cases hx2; rfl) (by cases hx2; rfl) ?_
  refine To.thenN ?_
  refine Wp.cond (b := x2) (by kernel_rfl) (fun hb => ?_) (fun hb => ?_)
  · replace h := if_t hb h
    refine Wp.exit ?_
    refine To.thenX ?_
    refine To.blockX ?_
    refine To.keep (kk := [0, 5, 6]) (kl := [1005]) (K' := [(0, .str ((Lib.cut v0 ([10] : List UInt8)).2.1)), (5, .row 1005), (6, .val (.int .i64 v6))]) (L' := [(1005, 36, [.rowc false (α := S_ref45_Step) Z_ref45_Step E_script_Step v5])]) (by kernel_rfl) (by kernel_rfl) ?_
    cases h
    exact hQ
  · replace h := if_f hb h
    refine Wp.skip ?_
    refine To.thenN ?_
    refine Wp.seq ?_
    obtain ⟨r3, hr3, h⟩ := bind_of h
    refine Wp.region hΓ [] [(1, .tup [.agg [.val (.int .i64 r3.1.f_Kind), .val (.int .i64 r3.1.f_N), .val (.int .i64 r3.1.f_M), .val (.int .i64 r3.1.f_Command.f_Kind), .recs (α := List UInt8) [] E_string r3.1.f_Command.f_Services, .val (.int .i64 r3.1.f_Command.f_Count), .val (.bool r3.1.f_Command.f_Orphans), .val (.bool r3.1.f_Command.f_Volumes), .val (.int .i64 r3.1.f_Command.f_Timeout), .val (.int .i64 r3.1.f_Command.f_Retries), .val (.int .i64 r3.1.f_Call.f_Kind), .str r3.1.f_Call.f_Name, .val (.int .i64 r3.1.f_Call.f_Id), .str r3.1.f_Call.f_Spec.f_Name, .str r3.1.f_Call.f_Spec.f_Project, .str r3.1.f_Call.f_Spec.f_Service, .val (.int .i64 r3.1.f_Call.f_Spec.f_Number), .str r3.1.f_Call.f_Spec.f_Hash, .recs (α := List UInt8) [] E_string r3.1.f_Call.f_Spec.f_Nets, .recs (α := List UInt8) [] E_string r3.1.f_Call.f_Spec.f_Vols, .str r3.1.f_Call.f_Spec.f_Health.f_Test, .val (.int .i64 r3.1.f_Call.f_Spec.f_Health.f_Every), .val (.int .i64 r3.1.f_Call.f_Spec.f_Health.f_Start), .val (.int .i64 r3.1.f_Call.f_Spec.f_Health.f_Retries), .val (.int .i64 r3.1.f_Call.f_Spec.f_Restart), .val (.int .i64 r3.1.f_Call.f_Spec.f_Tries)], .val (.int .i64 r3.2)])] [] [0, 5, 6, 10, 11] [10, 1005] (K' := [(0, .str ((Lib.cut v0 ([10] : List UInt8)).2.1)), (5, .row 1005), (6, .val (.int .i64 v6)), (10, .own 10 0), (11, .val (.int .i64 r3.2))]) (L' := [(10, 36, (E_script_Step r3.1)), (1005, 36, [.rowc false (α := S_ref45_Step) Z_ref45_Step E_script_Step v5])]) (ob := [(true = true → CX Tryd.prog 13 [.str ((Lib.cut v0 ([10] : List UInt8)).1)] (.tup [.agg [.val (.int .i64 r3.1.f_Kind), .val (.int .i64 r3.1.f_N), .val (.int .i64 r3.1.f_M), .val (.int .i64 r3.1.f_Command.f_Kind), .recs (α := List UInt8) [] E_string r3.1.f_Command.f_Services, .val (.int .i64 r3.1.f_Command.f_Count), .val (.bool r3.1.f_Command.f_Orphans), .val (.bool r3.1.f_Command.f_Volumes), .val (.int .i64 r3.1.f_Command.f_Timeout), .val (.int .i64 r3.1.f_Command.f_Retries), .val (.int .i64 r3.1.f_Call.f_Kind), .str r3.1.f_Call.f_Name, .val (.int .i64 r3.1.f_Call.f_Id), .str r3.1.f_Call.f_Spec.f_Name, .str r3.1.f_Call.f_Spec.f_Project, .str r3.1.f_Call.f_Spec.f_Service, .val (.int .i64 r3.1.f_Call.f_Spec.f_Number), .str r3.1.f_Call.f_Spec.f_Hash, .recs (α := List UInt8) [] E_string r3.1.f_Call.f_Spec.f_Nets, .recs (α := List UInt8) [] E_string r3.1.f_Call.f_Spec.f_Vols, .str r3.1.f_Call.f_Spec.f_Health.f_Test, .val (.int .i64 r3.1.f_Call.f_Spec.f_Health.f_Every), .val (.int .i64 r3.1.f_Call.f_Spec.f_Health.f_Start), .val (.int .i64 r3.1.f_Call.f_Spec.f_Health.f_Retries), .val (.int .i64 r3.1.f_Call.f_Spec.f_Restart), .val (.int .i64 r3.1.f_Call.f_Spec.f_Tries)], .val (.int .i64 r3.2)]))]) (by kernel_rfl) (AllP.cons (fun _ => cx (ok_script_Line n ((Lib.cut v0 ([10] : List UInt8)).1) _ hr3)) AllP.nil) ?_
    refine To.thenN ?_
    refine Wp.seq ?_
    refine Wp.seq ?_
    refine Wp.region hΓ [] [] [] [0, 5, 6, 10, 11, 39] [10, 1005] (K' := [(0, .str ((Lib.cut v0 ([10] : List UInt8)).2.1)), (5, .row 1005), (6, .val (.int .i64 v6)), (10, .own 10 0), (11, .val (.int .i64 r3.2)), (39, .val (.bool (r3.2 != 0)))]) (L' := [(10, 36, (E_script_Step r3.1)), (1005, 36, [.rowc false (α := S_ref45_Step) Z_ref45_Step E_script_Step v5])]) (ob := []) (by kernel_rfl) AllP.nil ?_
    refine To.thenN ?_
    refine Wp.cond (b := (r3.2 != 0)) (by kernel_rfl) (fun hb => ?_) (fun hb => ?_)
    · replace h := if_t hb h
      refine Wp.seq ?_
      refine Wp.region hΓ [] [] [] [2, 3, 4] [] (K' := [(2, .val (.slice none 0 0)), (3, .val (.int .i64 v6)), (4, .val (.int .i64 r3.2))]) (L' := []) (ob := []) (by kernel_rfl) AllP.nil ?_
      refine To.thenN ?_
      refine Wp.ret ?_
      refine To.thenR ?_
      refine To.blockR ?_
      refine To.keep (kk := [2, 3, 4]) (kl := []) (K' := [(2, .val (.slice none 0 0)), (3, .val (.int .i64 v6)), (4, .val (.int .i64 r3.2))]) (L' := []) (by kernel_rfl) (by kernel_rfl) ?_
      cases h
      exact hQ
    · replace h := if_f hb h
      refine Wp.skip ?_
      refine To.thenN ?_
      obtain ⟨hc4, h⟩ := chk_of h
      refine Wp.region hΓ [] [(2, .recs (α := S_ref45_Step) Z_ref45_Step E_script_Step [r3.1]), (3, .recs (α := S_ref45_Step) Z_ref45_Step E_script_Step (v5 ++ ([r3.1] : List (S_ref45_Step))))] [] [0, 5, 6] [45] (K' := [(0, .str ((Lib.cut v0 ([10] : List UInt8)).2.1)), (5, .row 45), (6, .val (.int .i64 v6))]) (L' := [(45, 36, [.rowc false (α := S_ref45_Step) Z_ref45_Step E_script_Step (v5 ++ ([r3.1] : List (S_ref45_Step)))])]) (ob := [(MkOb 26 [.val (.int .i64 r3.1.f_Kind), .val (.int .i64 r3.1.f_N), .val (.int .i64 r3.1.f_M), .val (.int .i64 r3.1.f_Command.f_Kind), .recs (α := List UInt8) [] E_string r3.1.f_Command.f_Services, .val (.int .i64 r3.1.f_Command.f_Count), .val (.bool r3.1.f_Command.f_Orphans), .val (.bool r3.1.f_Command.f_Volumes), .val (.int .i64 r3.1.f_Command.f_Timeout), .val (.int .i64 r3.1.f_Command.f_Retries), .val (.int .i64 r3.1.f_Call.f_Kind), .str r3.1.f_Call.f_Name, .val (.int .i64 r3.1.f_Call.f_Id), .str r3.1.f_Call.f_Spec.f_Name, .str r3.1.f_Call.f_Spec.f_Project, .str r3.1.f_Call.f_Spec.f_Service, .val (.int .i64 r3.1.f_Call.f_Spec.f_Number), .str r3.1.f_Call.f_Spec.f_Hash, .recs (α := List UInt8) [] E_string r3.1.f_Call.f_Spec.f_Nets, .recs (α := List UInt8) [] E_string r3.1.f_Call.f_Spec.f_Vols, .str r3.1.f_Call.f_Spec.f_Health.f_Test, .val (.int .i64 r3.1.f_Call.f_Spec.f_Health.f_Every), .val (.int .i64 r3.1.f_Call.f_Spec.f_Health.f_Start), .val (.int .i64 r3.1.f_Call.f_Spec.f_Health.f_Retries), .val (.int .i64 r3.1.f_Call.f_Spec.f_Restart), .val (.int .i64 r3.1.f_Call.f_Spec.f_Tries)] 1 (.recs (α := S_ref45_Step) Z_ref45_Step E_script_Step [r3.1]) ∧ GoodR (.recs (α := S_ref45_Step) Z_ref45_Step E_script_Step [r3.1])), (decide ((List.length v5 + List.length ([r3.1] : List (S_ref45_Step))) * (296 + 1) ≤ limit)) = true, (AppOb Z_ref45_Step E_script_Step v5 (List.flatMap E_script_Step ([r3.1] : List (S_ref45_Step))) (List.length ([r3.1] : List (S_ref45_Step))) (.recs (α := S_ref45_Step) Z_ref45_Step E_script_Step (v5 ++ ([r3.1] : List (S_ref45_Step)))) ∧ GoodR (.recs (α := S_ref45_Step) Z_ref45_Step E_script_Step (v5 ++ ([r3.1] : List (S_ref45_Step)))))]) (by kernel_rfl) (AllP.cons (mkOb (by kernel_rfl) rfl (by kernel_rfl) (good_E_script_Step _)) (AllP.cons hc4 (AllP.cons (appOb rfl rfl (good_E_script_Step _)) AllP.nil))) ?_
      refine To.blockN ?_
      refine To.keep (kk := [0, 5, 6]) (kl := [45]) (K' := [(0, .str ((Lib.cut v0 ([10] : List UInt8)).2.1)), (5, .row 45), (6, .val (.int .i64 v6))]) (L' := [(45, 36, [.rowc false (α := S_ref45_Step) Z_ref45_Step E_script_Step (v5 ++ ([r3.1] : List (S_ref45_Step)))])]) (by kernel_rfl) (by kernel_rfl) ?_
      refine To.pre (St.rename 45 1005 (by decide) (K' := [(0, .str ((Lib.cut v0 ([10] : List UInt8)).2.1)), (5, .row 1005), (6, .val (.int .i64 v6))]) (L' := [(1005, 36, [.rowc false (α := S_ref45_Step) Z_ref45_Step E_script_Step (v5 ++ ([r3.1] : List (S_ref45_Step)))])]) (by kernel_rfl) (by kernel_rfl) (by kernel_rfl)) ?_
      refine To.keep (kk := [0, 5, 6]) (kl := [1005]) (K' := [(0, .str ((Lib.cut v0 ([10] : List UInt8)).2.1)), (5, .row 1005), (6, .val (.int .i64 v6))]) (L' := [(1005, 36, [.rowc false (α := S_ref45_Step) Z_ref45_Step E_script_Step (v5 ++ ([r3.1] : List (S_ref45_Step)))])]) (by kernel_rfl) (by kernel_rfl) ?_
      cases h
      exact hQ
def script_Read_l1 (n : Nat) : Nat → (List UInt8) → (List (S_ref45_Step)) → Int → Option (Sum ((List (S_ref45_Step))) (Int × Int))
  | 0, _, _, _ => none
  | k + 1, v0, v5, v6 => if (!(v0 == [])) = true then ((script_Read_j2 n v0 v5 v6).bind fun o1 =>
  (Sum.elim (fun o1 => script_Read_l1 n k o1.1 o1.2 (IntKind.wrap .i64 (v6 + 1))) (fun o1 => some (.inr (o1.1, o1.2)))) o1)
  else (some (.inl v5))
theorem ok_script_Read_l1 (n : Nat) {F0 : Fz} {w0 : Pt Tryd.prog} {Q : Exit → Act → World → Prop} (k : Nat) : ∀ (v0 : List UInt8) (v5 : List (S_ref45_Step)) (v6 : Int) (o : Sum ((List (S_ref45_Step))) (Int × Int)), script_Read_l1 n k v0 v5 v6 = some o → (Sum.elim (fun s => To 50 F0 w0 [(5, .row 1005)] [(1005, 36, [.rowc false (α := S_ref45_Step) Z_ref45_Step E_script_Step s])] (.exit 0) Q) (fun s => To 50 F0 w0 [(2, .val (.slice none 0 0)), (3, .val (.int .i64 s.1)), (4, .val (.int .i64 s.2))] [] .ret Q)) o → WL Tryd.prog 50 F0 w0 [(0, .str v0), (5, .row 1005), (6, .val (.int .i64 v6))] [(1005, 36, [.rowc false (α := S_ref45_Step) Z_ref45_Step E_script_Step v5])] (cI (cI (cB (cA (cB (cB (cB (cF Tryd.f15)))))))) Q := by
  induction k with
  | zero => intro v0 v5 v6 o h; cases h
  | succ k ih =>
    intro v0 v5 v6 o h hQ
    rw [script_Read_l1] at h
    refine WL.round ?_
    refine Wp.seq ?_
    refine Wp.seq ?_
    refine Wp.region hΓ [] [] [] [0, 5, 6, 16] [1005] (K' := [(0, .str v0), (5, .row 1005), (6, .val (.int .i64 v6)), (16, .val (.bool (!(v0 == []))))]) (L' := [(1005, 36, [.rowc false (α := S_ref45_Step) Z_ref45_Step E_script_Step v5])]) (ob := []) (by kernel_rfl) AllP.nil ?_
    refine To.thenN ?_
    refine Wp.cond (b := (!(v0 == []))) (by kernel_rfl) (fun hb => ?_) (fun hb => ?_)
    · replace h := if_t hb h
      refine Wp.skip ?_
      refine To.thenN ?_
      refine Wp.seq ?_
      obtain ⟨o1, ho1, h⟩ := bind_of h
      refine Wp.keep (kk := [0, 5, 6]) (kl := [1005]) (K' := [(0, .str v0), (5, .row 1005), (6, .val (.int .i64 v6))]) (L' := [(1005, 36, [.rowc false (α := S_ref45_Step) Z_ref45_Step E_script_Step v5])]) (by kernel_rfl) (by kernel_rfl) ?_
      refine ok_script_Read_j2 n v0 v5 v6 o1 ho1 ?_
      rcases o1 with o1 | o1
      · replace h := sum_l h
        refine To.thenN ?_
        refine Wp.region hΓ [] [] [] [0, 5, 6] [1005] (K' := [(0, .str o1.1), (5, .row 1005), (6, .val (.int .i64 (IntKind.wrap .i64 (v6 + 1))))]) (L' := [(1005, 36, [.rowc false (α := S_ref45_Step) Z_ref45_Step E_script_Step o1.2])]) (ob := []) (by kernel_rfl) AllP.nil ?_
        refine To.keep (kk := [0, 5, 6]) (kl := [1005]) (K' := [(0, .str o1.1), (5, .row 1005), (6, .val (.int .i64 (IntKind.wrap .i64 (v6 + 1))))]) (L' := [(1005, 36, [.rowc false (α := S_ref45_Step) Z_ref45_Step E_script_Step o1.2])]) (by kernel_rfl) (by kernel_rfl) ?_
        refine To.again ?_
        exact ih o1.1 o1.2 (IntKind.wrap .i64 (v6 + 1)) _ h hQ
      · replace h := sum_r h
        refine To.thenR ?_
        refine To.thenR ?_
        refine To.keep (kk := [2, 3, 4]) (kl := []) (K' := [(2, .val (.slice none 0 0)), (3, .val (.int .i64 o1.1)), (4, .val (.int .i64 o1.2))]) (L' := []) (by kernel_rfl) (by kernel_rfl) ?_
        cases h
        exact hQ
    · replace h := if_f hb h
      refine Wp.exit ?_
      refine To.thenX ?_
      refine To.thenX ?_
      refine To.keep (kk := [5]) (kl := [1005]) (K' := [(5, .row 1005)]) (L' := [(1005, 36, [.rowc false (α := S_ref45_Step) Z_ref45_Step E_script_Step v5])]) (by kernel_rfl) (by kernel_rfl) ?_
      cases h
      exact hQ
def script_Read (n : Nat) (a0 : List UInt8) : Option ((List (S_ref45_Step)) × Int × Int) :=
  if (decide ((List.length a0 : Int) > 8192)) = true then (some ([], 0, 9))
  else ((script_Read_l1 n n a0 ([] : List (S_ref45_Step)) 1).bind fun o1 =>
  (Sum.elim (fun o1 => if (decide ((List.length o1 : Int) > 400)) = true then (some ([], 0, 9))
  else (some (o1, 0, 0))) (fun o1 => some ([], o1.1, o1.2))) o1)
theorem ok_script_Read (n : Nat) (a0 : List UInt8) (r : (List (S_ref45_Step)) × Int × Int) (h : script_Read n a0 = some r) : CallsX Tryd.prog 15 [.str a0] (.tup [.recs (α := S_ref45_Step) Z_ref45_Step E_script_Step r.1, .val (.int .i64 r.2.1), .val (.int .i64 r.2.2)]) := by
  unfold script_Read at h
  refine callsX_of (fn := Tryd.f15) (by kernel_rfl) rfl (by kernel_rfl) (Nat.le_of_ble_eq_true (by kernel_rfl)) fun F0 w0 _ => ?_
  refine Wp.keep (kk := [0]) (kl := []) (K' := [(0, .str a0)]) (L' := []) (by kernel_rfl) (by kernel_rfl) ?_
  refine Wp.seq ?_
  refine Wp.region hΓ [] [] [] [0] [] (K' := [(0, .str a0)]) (L' := []) (ob := []) (by kernel_rfl) AllP.nil ?_
  refine To.thenN ?_
  refine Wp.seq ?_
  refine Wp.seq ?_
  refine Wp.region hΓ [] [] [] [0, 14] [] (K' := [(0, .str a0), (14, .val (.bool (decide ((List.length a0 : Int) > 8192))))]) (L' := []) (ob := []) (by kernel_rfl) AllP.nil ?_
  refine To.thenN ?_
  refine Wp.cond (b := (decide ((List.length a0 : Int) > 8192))) (by kernel_rfl) (fun hb => ?_) (fun hb => ?_)
  · replace h := if_t hb h
    refine Wp.seq ?_
    refine Wp.region hΓ [] [] [] [2, 3, 4] [] (K' := [(2, .val (.slice none 0 0)), (3, .val (.int .i64 0)), (4, .val (.int .i64 9))]) (L' := []) (ob := []) (by kernel_rfl) AllP.nil ?_
    refine To.thenN ?_
    refine Wp.ret ?_
    refine To.thenR ?_
    refine To.keep (kk := [2, 3, 4]) (kl := []) (K' := [(2, .val (.slice none 0 0)), (3, .val (.int .i64 0)), (4, .val (.int .i64 9))]) (L' := []) (by kernel_rfl) (by kernel_rfl) ?_
    refine To.weak (K' := [(2, .recs (α := S_ref45_Step) Z_ref45_Step E_script_Step []), (3, .val (.int .i64 0)), (4, .val (.int .i64 9))]) (L' := []) (.cons (.zero _ _) (.cons (.refl _) (.cons (.refl _) .nil))) .nil ?_
    cases h
    exact To.done hΓ (by kernel_rfl)
  · replace h := if_f hb h
    refine Wp.skip ?_
    refine To.thenN ?_
    refine Wp.seq ?_
    refine Wp.region hΓ [] [] [] [0, 5] [] (K' := [(0, .str a0), (5, .val (.slice none 0 0))]) (L' := []) (ob := []) (by kernel_rfl) AllP.nil ?_
    refine To.thenN ?_
    refine Wp.seq ?_
    refine Wp.seq ?_
    refine Wp.region hΓ [] [] [] [0, 5, 6] [] (K' := [(0, .str a0), (5, .val (.slice none 0 0)), (6, .val (.int .i64 1))]) (L' := []) (ob := []) (by kernel_rfl) AllP.nil ?_
    refine To.thenN ?_
    refine Wp.block ?_
    obtain ⟨o1, ho1, h⟩ := bind_of h
    refine Wp.keep (kk := [0, 5, 6]) (kl := []) (K' := [(0, .str a0), (5, .val (.slice none 0 0)), (6, .val (.int .i64 1))]) (L' := []) (by kernel_rfl) (by kernel_rfl) ?_
    refine Wp.pre (St.vacant (t := 5) (k := 1005) (e := 36) (K' := [(0, .str a0), (5, .row 1005), (6, .val (.int .i64 1))]) (good_E_script_Step _) (by decide) (by kernel_rfl) (by kernel_rfl)) ?_
    refine Wp.keep (kk := [0, 5, 6]) (kl := [1005]) (K' := [(0, .str a0), (5, .row 1005), (6, .val (.int .i64 1))]) (L' := [(1005, 36, [.rowc false (α := S_ref45_Step) Z_ref45_Step E_script_Step []])]) (by kernel_rfl) (by kernel_rfl) ?_
    refine Wp.loopL ?_
    refine ok_script_Read_l1 n n a0 ([] : List (S_ref45_Step)) 1 o1 ho1 ?_
    rcases o1 with o1 | o1
    · replace h := sum_l h
      refine To.blockX ?_
      refine To.thenN ?_
      refine Wp.seq ?_
      refine Wp.seq ?_
      refine Wp.region hΓ [] [] [] [5, 48] [1005] (K' := [(5, .row 1005), (48, .val (.bool (decide ((List.length o1 : Int) > 400))))]) (L' := [(1005, 36, [.rowc false (α := S_ref45_Step) Z_ref45_Step E_script_Step o1])]) (ob := []) (by kernel_rfl) AllP.nil ?_
      refine To.thenN ?_
      refine Wp.cond (b := (decide ((List.length o1 : Int) > 400))) (by kernel_rfl) (fun hb => ?_) (fun hb => ?_)
      · replace h := if_t hb h
        refine Wp.seq ?_
        refine Wp.region hΓ [] [] [] [2, 3, 4] [] (K' := [(2, .val (.slice none 0 0)), (3, .val (.int .i64 0)), (4, .val (.int .i64 9))]) (L' := []) (ob := []) (by kernel_rfl) AllP.nil ?_
        refine To.thenN ?_
        refine Wp.ret ?_
        refine To.thenR ?_
        refine To.keep (kk := [2, 3, 4]) (kl := []) (K' := [(2, .val (.slice none 0 0)), (3, .val (.int .i64 0)), (4, .val (.int .i64 9))]) (L' := []) (by kernel_rfl) (by kernel_rfl) ?_
        refine To.weak (K' := [(2, .recs (α := S_ref45_Step) Z_ref45_Step E_script_Step []), (3, .val (.int .i64 0)), (4, .val (.int .i64 9))]) (L' := []) (.cons (.zero _ _) (.cons (.refl _) (.cons (.refl _) .nil))) .nil ?_
        cases h
        exact To.done hΓ (by kernel_rfl)
      · replace h := if_f hb h
        refine Wp.skip ?_
        refine To.thenN ?_
        refine Wp.seq ?_
        refine Wp.region hΓ [] [] [] [2, 3, 4] [1005] (K' := [(2, .row 1005), (3, .val (.int .i64 0)), (4, .val (.int .i64 0))]) (L' := [(1005, 36, [.rowc false (α := S_ref45_Step) Z_ref45_Step E_script_Step o1])]) (ob := []) (by kernel_rfl) AllP.nil ?_
        refine To.thenN ?_
        refine Wp.ret ?_
        refine To.keep (kk := [2, 3, 4]) (kl := [1005]) (K' := [(2, .row 1005), (3, .val (.int .i64 0)), (4, .val (.int .i64 0))]) (L' := [(1005, 36, [.rowc false (α := S_ref45_Step) Z_ref45_Step E_script_Step o1])]) (by kernel_rfl) (by kernel_rfl) ?_
        refine To.pre (St.settle (ks := [1005]) (kk := [2, 3, 4]) (kl := [1005]) (K' := [(2, .row 1005), (3, .val (.int .i64 0)), (4, .val (.int .i64 0))]) (L' := [(1005, 36, [.rowc true (α := S_ref45_Step) Z_ref45_Step E_script_Step o1])]) (by kernel_rfl)) ?_
        refine To.pre (St.sealK [2] (K' := [(2, .recs (α := S_ref45_Step) Z_ref45_Step E_script_Step o1), (3, .val (.int .i64 0)), (4, .val (.int .i64 0))]) (by kernel_rfl)) ?_
        refine To.keep (kk := [2, 3, 4]) (kl := []) (K' := [(2, .recs (α := S_ref45_Step) Z_ref45_Step E_script_Step o1), (3, .val (.int .i64 0)), (4, .val (.int .i64 0))]) (L' := []) (by kernel_rfl) (by kernel_rfl) ?_
        cases h
        exact To.done hΓ (by kernel_rfl)
    · replace h := sum_r h
      refine To.blockR ?_
      refine To.thenR ?_
      refine To.keep (kk := [2, 3, 4]) (kl := []) (K' := [(2, .val (.slice none 0 0)), (3, .val (.int .i64 o1.1)), (4, .val (.int .i64 o1.2))]) (L' := []) (by kernel_rfl) (by kernel_rfl) ?_
      refine To.weak (K' := [(2, .recs (α := S_ref45_Step) Z_ref45_Step E_script_Step []), (3, .val (.int .i64 o1.1)), (4, .val (.int .i64 o1.2))]) (L' := []) (.cons (.zero _ _) (.cons (.refl _) (.cons (.refl _) .nil))) .nil ?_
      cases h
      exact To.done hΓ (by kernel_rfl)
theorem good_E_ref45_Step (l : List (S_ref45_Step)) : GoodR (.recs Z_ref45_Step E_ref45_Step l) := ⟨Nat.le_of_ble_eq_true (by kernel_rfl), fun _ => ⟨rfl, rfl⟩⟩
def law45_steps_l1 (n : Nat) (v0 : List (S_ref45_Step)) : Nat → (List (S_ref45_Step)) → Int → Option ((List (S_ref45_Step)))
  | 0, _, _ => none
  | k + 1, v3, v4 => if (decide (v4 < (List.length v0 : Int))) = true then (if (decide (0 ≤ v4 ∧ v4 < (List.length v0 : Int))) = true then (if (decide ((List.length v3 + List.length ([((v0)[Int.toNat v4]?.getD Z_ref45_Step)] : List (S_ref45_Step))) * (296 + 1) ≤ limit)) = true then (law45_steps_l1 n v0 k (v3 ++ ([((v0)[Int.toNat v4]?.getD Z_ref45_Step)] : List (S_ref45_Step))) (IntKind.wrap .i64 (v4 + 1))) else none) else none)
  else some v3
theorem ok_law45_steps_l1 (n : Nat) (v0 : List (S_ref45_Step)) {F0 : Fz} {w0 : Pt Tryd.prog} {Q : Exit → Act → World → Prop} (k : Nat) : ∀ (v3 : List (S_ref45_Step)) (v4 : Int) (o : (List (S_ref45_Step))), law45_steps_l1 n v0 k v3 v4 = some o → To 19 F0 w0 [(3, .row 1003)] [(1003, 32, [.rowc false (α := S_ref45_Step) Z_ref45_Step E_ref45_Step o])] (.exit 0) Q → WL Tryd.prog 19 F0 w0 [(0, .recs (α := S_ref45_Step) Z_ref45_Step E_script_Step v0), (3, .row 1003), (4, .val (.int .i64 v4))] [(1003, 32, [.rowc false (α := S_ref45_Step) Z_ref45_Step E_ref45_Step v3])] (cI (cI (cB (cA (cB (cB (cF Tryd.f18))))))) Q := by
  induction k with
  | zero => intro v3 v4 o h; cases h
  | succ k ih =>
    intro v3 v4 o h hQ
    rw [law45_steps_l1] at h
    refine WL.round ?_
    refine Wp.seq ?_
    refine Wp.seq ?_
    refine Wp.region hΓ [] [] [] [0, 3, 4, 8] [1003] (K' := [(0, .recs (α := S_ref45_Step) Z_ref45_Step E_script_Step v0), (3, .row 1003), (4, .val (.int .i64 v4)), (8, .val (.bool (decide (v4 < (List.length v0 : Int)))))]) (L' := [(1003, 32, [.rowc false (α := S_ref45_Step) Z_ref45_Step E_ref45_Step v3])]) (ob := []) (by kernel_rfl) AllP.nil ?_
    refine To.thenN ?_
    refine Wp.cond (b := (decide (v4 < (List.length v0 : Int)))) (by kernel_rfl) (fun hb => ?_) (fun hb => ?_)
    · replace h := if_t hb h
      refine Wp.skip ?_
      refine To.thenN ?_
      refine Wp.seq ?_
      refine Wp.block ?_
      obtain ⟨hc1, h⟩ := chk_of h
      obtain ⟨hc2, h⟩ := chk_of h
      refine Wp.region hΓ [] [(5, .recs (α := S_ref45_Step) Z_ref45_Step E_ref45_Step ([((v0)[Int.toNat v4]?.getD Z_ref45_Step)])), (6, .recs (α := S_ref45_Step) Z_ref45_Step E_ref45_Step (v3 ++ ([((v0)[Int.toNat v4]?.getD Z_ref45_Step)] : List (S_ref45_Step))))] [] [0, 3, 4] [17] (K' := [(0, .recs (α := S_ref45_Step) Z_ref45_Step E_script_Step v0), (3, .row 17), (4, .val (.int .i64 v4))]) (L' := [(17, 32, [.rowc false (α := S_ref45_Step) Z_ref45_Step E_ref45_Step (v3 ++ ([((v0)[Int.toNat v4]?.getD Z_ref45_Step)] : List (S_ref45_Step)))])]) (ob := [(decide (0 ≤ v4 ∧ v4 < (List.length v0 : Int))) = true, (MkOb 26 [.val (.int .i64 (((v0)[Int.toNat v4]?.getD Z_ref45_Step).f_Kind)), .val (.int .i64 (((v0)[Int.toNat v4]?.getD Z_ref45_Step).f_N)), .val (.int .i64 (((v0)[Int.toNat v4]?.getD Z_ref45_Step).f_M)), .val (.int .i64 (((v0)[Int.toNat v4]?.getD Z_ref45_Step).f_Command.f_Kind)), .recs (α := List UInt8) [] E_string (((v0)[Int.toNat v4]?.getD Z_ref45_Step).f_Command.f_Services), .val (.int .i64 (((v0)[Int.toNat v4]?.getD Z_ref45_Step).f_Command.f_Count)), .val (.bool (((v0)[Int.toNat v4]?.getD Z_ref45_Step).f_Command.f_Orphans)), .val (.bool (((v0)[Int.toNat v4]?.getD Z_ref45_Step).f_Command.f_Volumes)), .val (.int .i64 (((v0)[Int.toNat v4]?.getD Z_ref45_Step).f_Command.f_Timeout)), .val (.int .i64 (((v0)[Int.toNat v4]?.getD Z_ref45_Step).f_Command.f_Retries)), .val (.int .i64 (((v0)[Int.toNat v4]?.getD Z_ref45_Step).f_Call.f_Kind)), .str (((v0)[Int.toNat v4]?.getD Z_ref45_Step).f_Call.f_Name), .val (.int .i64 (((v0)[Int.toNat v4]?.getD Z_ref45_Step).f_Call.f_Id)), .str (((v0)[Int.toNat v4]?.getD Z_ref45_Step).f_Call.f_Spec.f_Name), .str (((v0)[Int.toNat v4]?.getD Z_ref45_Step).f_Call.f_Spec.f_Project), .str (((v0)[Int.toNat v4]?.getD Z_ref45_Step).f_Call.f_Spec.f_Service), .val (.int .i64 (((v0)[Int.toNat v4]?.getD Z_ref45_Step).f_Call.f_Spec.f_Number)), .str (((v0)[Int.toNat v4]?.getD Z_ref45_Step).f_Call.f_Spec.f_Hash), .recs (α := List UInt8) [] E_string (((v0)[Int.toNat v4]?.getD Z_ref45_Step).f_Call.f_Spec.f_Nets), .recs (α := List UInt8) [] E_string (((v0)[Int.toNat v4]?.getD Z_ref45_Step).f_Call.f_Spec.f_Vols), .str (((v0)[Int.toNat v4]?.getD Z_ref45_Step).f_Call.f_Spec.f_Health.f_Test), .val (.int .i64 (((v0)[Int.toNat v4]?.getD Z_ref45_Step).f_Call.f_Spec.f_Health.f_Every)), .val (.int .i64 (((v0)[Int.toNat v4]?.getD Z_ref45_Step).f_Call.f_Spec.f_Health.f_Start)), .val (.int .i64 (((v0)[Int.toNat v4]?.getD Z_ref45_Step).f_Call.f_Spec.f_Health.f_Retries)), .val (.int .i64 (((v0)[Int.toNat v4]?.getD Z_ref45_Step).f_Call.f_Spec.f_Restart)), .val (.int .i64 (((v0)[Int.toNat v4]?.getD Z_ref45_Step).f_Call.f_Spec.f_Tries))] 1 (.recs (α := S_ref45_Step) Z_ref45_Step E_ref45_Step ([((v0)[Int.toNat v4]?.getD Z_ref45_Step)])) ∧ GoodR (.recs (α := S_ref45_Step) Z_ref45_Step E_ref45_Step ([((v0)[Int.toNat v4]?.getD Z_ref45_Step)]))), (decide ((List.length v3 + List.length ([((v0)[Int.toNat v4]?.getD Z_ref45_Step)] : List (S_ref45_Step))) * (296 + 1) ≤ limit)) = true, (AppOb Z_ref45_Step E_ref45_Step v3 (List.flatMap E_ref45_Step ([((v0)[Int.toNat v4]?.getD Z_ref45_Step)] : List (S_ref45_Step))) (List.length ([((v0)[Int.toNat v4]?.getD Z_ref45_Step)] : List (S_ref45_Step))) (.recs (α := S_ref45_Step) Z_ref45_Step E_ref45_Step (v3 ++ ([((v0)[Int.toNat v4]?.getD Z_ref45_Step)] : List (S_ref45_Step)))) ∧ GoodR (.recs (α := S_ref45_Step) Z_ref45_Step E_ref45_Step (v3 ++ ([((v0)[Int.toNat v4]?.getD Z_ref45_Step)] : List (S_ref45_Step)))))]) (by kernel_rfl) (AllP.cons hc1 (AllP.cons (mkOb (by kernel_rfl) rfl (by kernel_rfl) (good_E_ref45_Step _)) (AllP.cons hc2 (AllP.cons (appOb rfl rfl (good_E_ref45_Step _)) AllP.nil)))) ?_
      refine To.blockN ?_
      refine To.thenN ?_
      refine Wp.region hΓ [] [] [] [0, 3, 4] [17] (K' := [(0, .recs (α := S_ref45_Step) Z_ref45_Step E_script_Step v0), (3, .row 17), (4, .val (.int .i64 (IntKind.wrap .i64 (v4 + 1))))]) (L' := [(17, 32, [.rowc false (α := S_ref45_Step) Z_ref45_Step E_ref45_Step (v3 ++ ([((v0)[Int.toNat v4]?.getD Z_ref45_Step)] : List (S_ref45_Step)))])]) (ob := []) (by kernel_rfl) AllP.nil ?_
      refine To.keep (kk := [0, 3, 4]) (kl := [17]) (K' := [(0, .recs (α := S_ref45_Step) Z_ref45_Step E_script_Step v0), (3, .row 17), (4, .val (.int .i64 (IntKind.wrap .i64 (v4 + 1))))]) (L' := [(17, 32, [.rowc false (α := S_ref45_Step) Z_ref45_Step E_ref45_Step (v3 ++ ([((v0)[Int.toNat v4]?.getD Z_ref45_Step)] : List (S_ref45_Step)))])]) (by kernel_rfl) (by kernel_rfl) ?_
      refine To.pre (St.rename 17 1003 (by decide) (K' := [(0, .recs (α := S_ref45_Step) Z_ref45_Step E_script_Step v0), (3, .row 1003), (4, .val (.int .i64 (IntKind.wrap .i64 (v4 + 1))))]) (L' := [(1003, 32, [.rowc false (α := S_ref45_Step) Z_ref45_Step E_ref45_Step (v3 ++ ([((v0)[Int.toNat v4]?.getD Z_ref45_Step)] : List (S_ref45_Step)))])]) (by kernel_rfl) (by kernel_rfl) (by kernel_rfl)) ?_
      refine To.keep (kk := [0, 3, 4]) (kl := [1003]) (K' := [(0, .recs (α := S_ref45_Step) Z_ref45_Step E_script_Step v0), (3, .row 1003), (4, .val (.int .i64 (IntKind.wrap .i64 (v4 + 1))))]) (L' := [(1003, 32, [.rowc false (α := S_ref45_Step) Z_ref45_Step E_ref45_Step (v3 ++ ([((v0)[Int.toNat v4]?.getD Z_ref45_Step)] : List (S_ref45_Step)))])]) (by kernel_rfl) (by kernel_rfl) ?_
      refine To.again ?_
      exact ih (v3 ++ ([((v0)[Int.toNat v4]?.getD Z_ref45_Step)] : List (S_ref45_Step))) (IntKind.wrap .i64 (v4 + 1)) _ h hQ
    · replace h := if_f hb h
      refine Wp.exit ?_
      refine To.thenX ?_
      refine To.thenX ?_
      refine To.keep (kk := [3]) (kl := [1003]) (K' := [(3, .row 1003)]) (L' := [(1003, 32, [.rowc false (α := S_ref45_Step) Z_ref45_Step E_ref45_Step v3])]) (by kernel_rfl) (by kernel_rfl) ?_
      cases h
      exact hQ
def law45_steps (n : Nat) (a0 : List (S_ref45_Step)) : Option ((List (S_ref45_Step))) :=
  (law45_steps_l1 n a0 n ([] : List (S_ref45_Step)) 0).bind fun o1 =>
  some o1
theorem ok_law45_steps (n : Nat) (a0 : List (S_ref45_Step)) (r : (List (S_ref45_Step))) (h : law45_steps n a0 = some r) : CallsX Tryd.prog 18 [.recs (α := S_ref45_Step) Z_ref45_Step E_script_Step a0] (.recs (α := S_ref45_Step) Z_ref45_Step E_ref45_Step r) := by
  unfold law45_steps at h
  refine callsX_of (fn := Tryd.f18) (by kernel_rfl) rfl (by kernel_rfl) (Nat.le_of_ble_eq_true (by kernel_rfl)) fun F0 w0 _ => ?_
  refine Wp.keep (kk := [0]) (kl := []) (K' := [(0, .recs (α := S_ref45_Step) Z_ref45_Step E_script_Step a0)]) (L' := []) (by kernel_rfl) (by kernel_rfl) ?_
  refine Wp.seq ?_
  refine Wp.region hΓ [] [] [] [0] [] (K' := [(0, .recs (α := S_ref45_Step) Z_ref45_Step E_script_Step a0)]) (L' := []) (ob := []) (by kernel_rfl) AllP.nil ?_
  refine To.thenN ?_
  refine Wp.seq ?_
  refine Wp.region hΓ [] [] [] [0, 3] [] (K' := [(0, .recs (α := S_ref45_Step) Z_ref45_Step E_script_Step a0), (3, .val (.slice none 0 0))]) (L' := []) (ob := []) (by kernel_rfl) AllP.nil ?_
  refine To.thenN ?_
  refine Wp.seq ?_
  refine Wp.seq ?_
  refine Wp.region hΓ [] [] [] [0, 3, 4] [] (K' := [(0, .recs (α := S_ref45_Step) Z_ref45_Step E_script_Step a0), (3, .val (.slice none 0 0)), (4, .val (.int .i64 0))]) (L' := []) (ob := []) (by kernel_rfl) AllP.nil ?_
  refine To.thenN ?_
  refine Wp.block ?_
  obtain ⟨o1, ho1, h⟩ := bind_of h
  refine Wp.keep (kk := [0, 3, 4]) (kl := []) (K' := [(0, .recs (α := S_ref45_Step) Z_ref45_Step E_script_Step a0), (3, .val (.slice none 0 0)), (4, .val (.int .i64 0))]) (L' := []) (by kernel_rfl) (by kernel_rfl) ?_
  refine Wp.pre (St.vacant (t := 3) (k := 1003) (e := 32) (K' := [(0, .recs (α := S_ref45_Step) Z_ref45_Step E_script_Step a0), (3, .row 1003), (4, .val (.int .i64 0))]) (good_E_ref45_Step _) (by decide) (by kernel_rfl) (by kernel_rfl)) ?_
  refine Wp.keep (kk := [0, 3, 4]) (kl := [1003]) (K' := [(0, .recs (α := S_ref45_Step) Z_ref45_Step E_script_Step a0), (3, .row 1003), (4, .val (.int .i64 0))]) (L' := [(1003, 32, [.rowc false (α := S_ref45_Step) Z_ref45_Step E_ref45_Step []])]) (by kernel_rfl) (by kernel_rfl) ?_
  refine Wp.loopL ?_
  refine ok_law45_steps_l1 n a0 n ([] : List (S_ref45_Step)) 0 o1 ho1 ?_
  refine To.blockX ?_
  refine To.thenN ?_
  refine Wp.seq ?_
  refine Wp.region hΓ [] [] [] [2] [1003] (K' := [(2, .row 1003)]) (L' := [(1003, 32, [.rowc false (α := S_ref45_Step) Z_ref45_Step E_ref45_Step o1])]) (ob := []) (by kernel_rfl) AllP.nil ?_
  refine To.thenN ?_
  refine Wp.ret ?_
  refine To.keep (kk := [2]) (kl := [1003]) (K' := [(2, .row 1003)]) (L' := [(1003, 32, [.rowc false (α := S_ref45_Step) Z_ref45_Step E_ref45_Step o1])]) (by kernel_rfl) (by kernel_rfl) ?_
  refine To.pre (St.settle (ks := [1003]) (kk := [2]) (kl := [1003]) (K' := [(2, .row 1003)]) (L' := [(1003, 32, [.rowc true (α := S_ref45_Step) Z_ref45_Step E_ref45_Step o1])]) (by kernel_rfl)) ?_
  refine To.pre (St.sealK [2] (K' := [(2, .recs (α := S_ref45_Step) Z_ref45_Step E_ref45_Step o1)]) (by kernel_rfl)) ?_
  refine To.keep (kk := [2]) (kl := []) (K' := [(2, .recs (α := S_ref45_Step) Z_ref45_Step E_ref45_Step o1)]) (L' := []) (by kernel_rfl) (by kernel_rfl) ?_
  cases h
  exact To.done hΓ (by kernel_rfl)
def law45_same_l1 (n : Nat) (v0 : List (S_ref45_Step)) (v1 : List (S_ref45_Step)) : Nat → Int → Option (Sum (Unit) (Bool))
  | 0, _ => none
  | k + 1, v5 => if (decide (v5 < (List.length v0 : Int))) = true then (if (decide (0 ≤ v5 ∧ v5 < (List.length v0 : Int))) = true then (if (decide (0 ≤ v5 ∧ v5 < (List.length v1 : Int))) = true then ((ref45_Same n ((v0)[Int.toNat v5]?.getD Z_ref45_Step) ((v1)[Int.toNat v5]?.getD Z_ref45_Step)).bind fun r1 =>
  if (!r1) = true then (some (.inr false))
  else (law45_same_l1 n v0 v1 k (IntKind.wrap .i64 (v5 + 1)))) else none) else none)
  else (some (.inl ()))
theorem ok_law45_same_l1 (n : Nat) (v0 : List (S_ref45_Step)) (v1 : List (S_ref45_Step)) {F0 : Fz} {w0 : Pt Tryd.prog} {Q : Exit → Act → World → Prop} (k : Nat) : ∀ (v5 : Int) (o : Sum (Unit) (Bool)), law45_same_l1 n v0 v1 k v5 = some o → (Sum.elim (fun s => To 27 F0 w0 [] [] (.exit 0) Q) (fun s => To 27 F0 w0 [(4, .val (.bool s))] [] .ret Q)) o → WL Tryd.prog 27 F0 w0 [(0, .recs (α := S_ref45_Step) Z_ref45_Step E_ref45_Step v0), (1, .recs (α := S_ref45_Step) Z_ref45_Step E_ref45_Step v1), (5, .val (.int .i64 v5))] [] (cI (cI (cB (cA (cB (cB (cF Tryd.f17))))))) Q := by
  induction k with
  | zero => intro v5 o h; cases h
  | succ k ih =>
    intro v5 o h hQ
    rw [law45_same_l1] at h
    refine WL.round ?_
    refine Wp.seq ?_
    refine Wp.seq ?_
    refine Wp.region hΓ [] [] [] [0, 1, 5, 14] [] (K' := [(0, .recs (α := S_ref45_Step) Z_ref45_Step E_ref45_Step v0), (1, .recs (α := S_ref45_Step) Z_ref45_Step E_ref45_Step v1), (5, .val (.int .i64 v5)), (14, .val (.bool (decide (v5 < (List.length v0 : Int)))))]) (L' := []) (ob := []) (by kernel_rfl) AllP.nil ?_
    refine To.thenN ?_
    refine Wp.cond (b := (decide (v5 < (List.length v0 : Int)))) (by kernel_rfl) (fun hb => ?_) (fun hb => ?_)
    · replace h := if_t hb h
      refine Wp.skip ?_
      refine To.thenN ?_
      refine Wp.seq ?_
      refine Wp.block ?_
      refine Wp.seq ?_
      obtain ⟨hc2, h⟩ := chk_of h
      obtain ⟨hc3, h⟩ := chk_of h
      obtain ⟨r1, hr1, h⟩ := bind_of h
      refine Wp.regionD hm hΓ [(8, .val (.bool r1))] [0, 1, 5, 26] [] (K' := [(0, .recs (α := S_ref45_Step) Z_ref45_Step E_ref45_Step v0), (1, .recs (α := S_ref45_Step) Z_ref45_Step E_ref45_Step v1), (5, .val (.int .i64 v5)), (26, .val (.bool (!r1)))]) (L' := []) (ob := [(decide (0 ≤ v5 ∧ v5 < (List.length v0 : Int))) = true, (decide (0 ≤ v5 ∧ v5 < (List.length v1 : Int))) = true, (true = true → CX Tryd.prog 11 [.agg [.val (.int .i64 (((v0)[Int.toNat v5]?.getD Z_ref45_Step).f_Kind)), .val (.int .i64 (((v0)[Int.toNat v5]?.getD Z_ref45_Step).f_N)), .val (.int .i64 (((v0)[Int.toNat v5]?.getD Z_ref45_Step).f_M)), .val (.int .i64 (((v0)[Int.toNat v5]?.getD Z_ref45_Step).f_Command.f_Kind)), .recs (α := List UInt8) [] E_string (((v0)[Int.toNat v5]?.getD Z_ref45_Step).f_Command.f_Services), .val (.int .i64 (((v0)[Int.toNat v5]?.getD Z_ref45_Step).f_Command.f_Count)), .val (.bool (((v0)[Int.toNat v5]?.getD Z_ref45_Step).f_Command.f_Orphans)), .val (.bool (((v0)[Int.toNat v5]?.getD Z_ref45_Step).f_Command.f_Volumes)), .val (.int .i64 (((v0)[Int.toNat v5]?.getD Z_ref45_Step).f_Command.f_Timeout)), .val (.int .i64 (((v0)[Int.toNat v5]?.getD Z_ref45_Step).f_Command.f_Retries)), .val (.int .i64 (((v0)[Int.toNat v5]?.getD Z_ref45_Step).f_Call.f_Kind)), .str (((v0)[Int.toNat v5]?.getD Z_ref45_Step).f_Call.f_Name), .val (.int .i64 (((v0)[Int.toNat v5]?.getD Z_ref45_Step).f_Call.f_Id)), .str (((v0)[Int.toNat v5]?.getD Z_ref45_Step).f_Call.f_Spec.f_Name), .str (((v0)[Int.toNat v5]?.getD Z_ref45_Step).f_Call.f_Spec.f_Project), .str (((v0)[Int.toNat v5]?.getD Z_ref45_Step).f_Call.f_Spec.f_Service), .val (.int .i64 (((v0)[Int.toNat v5]?.getD Z_ref45_Step).f_Call.f_Spec.f_Number)), .str (((v0)[Int.toNat v5]?.getD Z_ref45_Step).f_Call.f_Spec.f_Hash), .recs (α := List UInt8) [] E_string (((v0)[Int.toNat v5]?.getD Z_ref45_Step).f_Call.f_Spec.f_Nets), .recs (α := List UInt8) [] E_string (((v0)[Int.toNat v5]?.getD Z_ref45_Step).f_Call.f_Spec.f_Vols), .str (((v0)[Int.toNat v5]?.getD Z_ref45_Step).f_Call.f_Spec.f_Health.f_Test), .val (.int .i64 (((v0)[Int.toNat v5]?.getD Z_ref45_Step).f_Call.f_Spec.f_Health.f_Every)), .val (.int .i64 (((v0)[Int.toNat v5]?.getD Z_ref45_Step).f_Call.f_Spec.f_Health.f_Start)), .val (.int .i64 (((v0)[Int.toNat v5]?.getD Z_ref45_Step).f_Call.f_Spec.f_Health.f_Retries)), .val (.int .i64 (((v0)[Int.toNat v5]?.getD Z_ref45_Step).f_Call.f_Spec.f_Restart)), .val (.int .i64 (((v0)[Int.toNat v5]?.getD Z_ref45_Step).f_Call.f_Spec.f_Tries))], .agg [.val (.int .i64 (((v1)[Int.toNat v5]?.getD Z_ref45_Step).f_Kind)), .val (.int .i64 (((v1)[Int.toNat v5]?.getD Z_ref45_Step).f_N)), .val (.int .i64 (((v1)[Int.toNat v5]?.getD Z_ref45_Step).f_M)), .val (.int .i64 (((v1)[Int.toNat v5]?.getD Z_ref45_Step).f_Command.f_Kind)), .recs (α := List UInt8) [] E_string (((v1)[Int.toNat v5]?.getD Z_ref45_Step).f_Command.f_Services), .val (.int .i64 (((v1)[Int.toNat v5]?.getD Z_ref45_Step).f_Command.f_Count)), .val (.bool (((v1)[Int.toNat v5]?.getD Z_ref45_Step).f_Command.f_Orphans)), .val (.bool (((v1)[Int.toNat v5]?.getD Z_ref45_Step).f_Command.f_Volumes)), .val (.int .i64 (((v1)[Int.toNat v5]?.getD Z_ref45_Step).f_Command.f_Timeout)), .val (.int .i64 (((v1)[Int.toNat v5]?.getD Z_ref45_Step).f_Command.f_Retries)), .val (.int .i64 (((v1)[Int.toNat v5]?.getD Z_ref45_Step).f_Call.f_Kind)), .str (((v1)[Int.toNat v5]?.getD Z_ref45_Step).f_Call.f_Name), .val (.int .i64 (((v1)[Int.toNat v5]?.getD Z_ref45_Step).f_Call.f_Id)), .str (((v1)[Int.toNat v5]?.getD Z_ref45_Step).f_Call.f_Spec.f_Name), .str (((v1)[Int.toNat v5]?.getD Z_ref45_Step).f_Call.f_Spec.f_Project), .str (((v1)[Int.toNat v5]?.getD Z_ref45_Step).f_Call.f_Spec.f_Service), .val (.int .i64 (((v1)[Int.toNat v5]?.getD Z_ref45_Step).f_Call.f_Spec.f_Number)), .str (((v1)[Int.toNat v5]?.getD Z_ref45_Step).f_Call.f_Spec.f_Hash), .recs (α := List UInt8) [] E_string (((v1)[Int.toNat v5]?.getD Z_ref45_Step).f_Call.f_Spec.f_Nets), .recs (α := List UInt8) [] E_string (((v1)[Int.toNat v5]?.getD Z_ref45_Step).f_Call.f_Spec.f_Vols), .str (((v1)[Int.toNat v5]?.getD Z_ref45_Step).f_Call.f_Spec.f_Health.f_Test), .val (.int .i64 (((v1)[Int.toNat v5]?.getD Z_ref45_Step).f_Call.f_Spec.f_Health.f_Every)), .val (.int .i64 (((v1)[Int.toNat v5]?.getD Z_ref45_Step).f_Call.f_Spec.f_Health.f_Start)), .val (.int .i64 (((v1)[Int.toNat v5]?.getD Z_ref45_Step).f_Call.f_Spec.f_Health.f_Retries)), .val (.int .i64 (((v1)[Int.toNat v5]?.getD Z_ref45_Step).f_Call.f_Spec.f_Restart)), .val (.int .i64 (((v1)[Int.toNat v5]?.getD Z_ref45_Step).f_Call.f_Spec.f_Tries))]] (.val (.bool r1)))]) (by kernel_rfl) (AllP.cons hc2 (AllP.cons hc3 (AllP.cons (fun _ => cx (ok_ref45_Same n ((v0)[Int.toNat v5]?.getD Z_ref45_Step) ((v1)[Int.toNat v5]?.getD Z_ref45_Step) _ hr1)) AllP.nil))) ?_
      refine To.thenN ?_
      refine Wp.cond (b := (!r1)) (by kernel_rfl) (fun hb => ?_) (fun hb => ?_)
      · replace h := if_t hb h
        refine Wp.seq ?_
        refine Wp.region hΓ [] [] [] [4] [] (K' := [(4, .val (.bool false))]) (L' := []) (ob := []) (by kernel_rfl) AllP.nil ?_
        refine To.thenN ?_
        refine Wp.ret ?_
        refine To.blockR ?_
        refine To.thenR ?_
        refine To.thenR ?_
        refine To.keep (kk := [4]) (kl := []) (K' := [(4, .val (.bool false))]) (L' := []) (by kernel_rfl) (by kernel_rfl) ?_
        cases h
        exact hQ
      · replace h := if_f hb h
        refine Wp.skip ?_
        refine To.blockN ?_
        refine To.thenN ?_
        refine Wp.region hΓ [] [] [] [0, 1, 5] [] (K' := [(0, .recs (α := S_ref45_Step) Z_ref45_Step E_ref45_Step v0), (1, .recs (α := S_ref45_Step) Z_ref45_Step E_ref45_Step v1), (5, .val (.int .i64 (IntKind.wrap .i64 (v5 + 1))))]) (L' := []) (ob := []) (by kernel_rfl) AllP.nil ?_
        refine To.keep (kk := [0, 1, 5]) (kl := []) (K' := [(0, .recs (α := S_ref45_Step) Z_ref45_Step E_ref45_Step v0), (1, .recs (α := S_ref45_Step) Z_ref45_Step E_ref45_Step v1), (5, .val (.int .i64 (IntKind.wrap .i64 (v5 + 1))))]) (L' := []) (by kernel_rfl) (by kernel_rfl) ?_
        refine To.again ?_
        exact ih (IntKind.wrap .i64 (v5 + 1)) _ h hQ
    · replace h := if_f hb h
      refine Wp.exit ?_
      refine To.thenX ?_
      refine To.thenX ?_
      refine To.keep (kk := []) (kl := []) (K' := []) (L' := []) (by kernel_rfl) (by kernel_rfl) ?_
      cases h
      exact hQ
def law45_same (n : Nat) (a0 : List (S_ref45_Step)) (a1 : List (S_ref45_Step)) : Option (Bool) :=
  if ((List.length a0 : Int) != (List.length a1 : Int)) = true then some false
  else ((law45_same_l1 n a0 a1 n 0).bind fun o1 =>
  (Sum.elim (fun o1 => some true) (fun o1 => some o1)) o1)
theorem ok_law45_same (n : Nat) (a0 : List (S_ref45_Step)) (a1 : List (S_ref45_Step)) (r : Bool) (h : law45_same n a0 a1 = some r) : CallsX Tryd.prog 17 [.recs (α := S_ref45_Step) Z_ref45_Step E_ref45_Step a0, .recs (α := S_ref45_Step) Z_ref45_Step E_ref45_Step a1] (.val (.bool r)) := by
  unfold law45_same at h
  refine callsX_of (fn := Tryd.f17) (by kernel_rfl) rfl (by kernel_rfl) (Nat.le_of_ble_eq_true (by kernel_rfl)) fun F0 w0 _ => ?_
  refine Wp.keep (kk := [0, 1]) (kl := []) (K' := [(0, .recs (α := S_ref45_Step) Z_ref45_Step E_ref45_Step a0), (1, .recs (α := S_ref45_Step) Z_ref45_Step E_ref45_Step a1)]) (L' := []) (by kernel_rfl) (by kernel_rfl) ?_
  refine Wp.seq ?_
  refine Wp.region hΓ [] [] [] [0, 1] [] (K' := [(0, .recs (α := S_ref45_Step) Z_ref45_Step E_ref45_Step a0), (1, .recs (α := S_ref45_Step) Z_ref45_Step E_ref45_Step a1)]) (L' := []) (ob := []) (by kernel_rfl) AllP.nil ?_
  refine To.thenN ?_
  refine Wp.seq ?_
  refine Wp.seq ?_
  refine Wp.region hΓ [] [] [] [0, 1, 10] [] (K' := [(0, .recs (α := S_ref45_Step) Z_ref45_Step E_ref45_Step a0), (1, .recs (α := S_ref45_Step) Z_ref45_Step E_ref45_Step a1), (10, .val (.bool ((List.length a0 : Int) != (List.length a1 : Int))))]) (L' := []) (ob := []) (by kernel_rfl) AllP.nil ?_
  refine To.thenN ?_
  refine Wp.cond (b := ((List.length a0 : Int) != (List.length a1 : Int))) (by kernel_rfl) (fun hb => ?_) (fun hb => ?_)
  · replace h := if_t hb h
    refine Wp.seq ?_
    refine Wp.region hΓ [] [] [] [4] [] (K' := [(4, .val (.bool false))]) (L' := []) (ob := []) (by kernel_rfl) AllP.nil ?_
    refine To.thenN ?_
    refine Wp.ret ?_
    refine To.thenR ?_
    refine To.keep (kk := [4]) (kl := []) (K' := [(4, .val (.bool false))]) (L' := []) (by kernel_rfl) (by kernel_rfl) ?_
    cases h
    exact To.done hΓ (by kernel_rfl)
  · replace h := if_f hb h
    refine Wp.skip ?_
    refine To.thenN ?_
    refine Wp.seq ?_
    refine Wp.seq ?_
    refine Wp.region hΓ [] [] [] [0, 1, 5] [] (K' := [(0, .recs (α := S_ref45_Step) Z_ref45_Step E_ref45_Step a0), (1, .recs (α := S_ref45_Step) Z_ref45_Step E_ref45_Step a1), (5, .val (.int .i64 0))]) (L' := []) (ob := []) (by kernel_rfl) AllP.nil ?_
    refine To.thenN ?_
    refine Wp.block ?_
    obtain ⟨o1, ho1, h⟩ := bind_of h
    refine Wp.keep (kk := [0, 1, 5]) (kl := []) (K' := [(0, .recs (α := S_ref45_Step) Z_ref45_Step E_ref45_Step a0), (1, .recs (α := S_ref45_Step) Z_ref45_Step E_ref45_Step a1), (5, .val (.int .i64 0))]) (L' := []) (by kernel_rfl) (by kernel_rfl) ?_
    refine Wp.loopL ?_
    refine ok_law45_same_l1 n a0 a1 n 0 o1 ho1 ?_
    rcases o1 with o1 | o1
    · replace h := sum_l h
      refine To.blockX ?_
      refine To.thenN ?_
      refine Wp.seq ?_
      refine Wp.region hΓ [] [] [] [4] [] (K' := [(4, .val (.bool true))]) (L' := []) (ob := []) (by kernel_rfl) AllP.nil ?_
      refine To.thenN ?_
      refine Wp.ret ?_
      refine To.keep (kk := [4]) (kl := []) (K' := [(4, .val (.bool true))]) (L' := []) (by kernel_rfl) (by kernel_rfl) ?_
      cases h
      exact To.done hΓ (by kernel_rfl)
    · replace h := sum_r h
      refine To.blockR ?_
      refine To.thenR ?_
      refine To.keep (kk := [4]) (kl := []) (K' := [(4, .val (.bool o1))]) (L' := []) (by kernel_rfl) (by kernel_rfl) ?_
      cases h
      exact To.done hΓ (by kernel_rfl)
def law45_ScriptBack_j2 (n : Nat) (v1 : List (S_ref45_Step)) (v7 : List (S_ref45_Step)) (v8 : Int) : Option (Sum ((List (S_ref45_Step))) (Bool)) :=
  if (decide (0 ≤ v8 ∧ v8 < (List.length v1 : Int))) = true then ((law45_Few n ((v1)[Int.toNat v8]?.getD Z_ref45_Step)).bind fun r4 =>
  if (!r4) = true then ((law45_awake n).bind fun r5 =>
  some (.inr r5))
  else (if (decide (0 ≤ v8 ∧ v8 < (List.length v1 : Int))) = true then ((script_Text n ((v1)[Int.toNat v8]?.getD Z_ref45_Step)).bind fun r6 =>
  if (!(r6 == [])) = true then ((script_Line n r6).bind fun r7 =>
  if ((!((r7.2 != 0) == false) || decide (0 ≤ v8 ∧ v8 < (List.length v1 : Int)))) = true then (((if ((r7.2 != 0) == false) = true then script_Same n r7.1 ((v1)[Int.toNat v8]?.getD Z_ref45_Step) else some false)).bind fun r8 =>
  if (bif (r7.2 != 0) then true else (!r8)) = true then (some (.inr false))
  else (if (decide (0 ≤ v8 ∧ v8 < (List.length v1 : Int))) = true then (if (decide ((List.length v7 + List.length ([((v1)[Int.toNat v8]?.getD Z_ref45_Step)] : List (S_ref45_Step))) * (296 + 1) ≤ limit)) = true then (some (.inl (v7 ++ ([((v1)[Int.toNat v8]?.getD Z_ref45_Step)] : List (S_ref45_Step))))) else none) else none)) else none)
  else (some (.inl v7))) else none)) else none
theorem ok_law45_ScriptBack_j2 (n : Nat) (v1 : List (S_ref45_Step)) (v7 : List (S_ref45_Step)) (v8 : Int) (o : Sum ((List (S_ref45_Step))) (Bool)) (h : law45_ScriptBack_j2 n v1 v7 v8 = some o) {F0 : Fz} {w0 : Pt Tryd.prog} {Q : Exit → Act → World → Prop} (hQ : (Sum.elim (fun s => To 113 F0 w0 [(1, .recs (α := S_ref45_Step) Z_ref45_Step E_ref45_Step v1), (7, .row 1007), (8, .val (.int .i64 v8))] [(1007, 36, [.rowc false (α := S_ref45_Step) Z_ref45_Step E_script_Step s])] .normal Q) (fun s => To 113 F0 w0 [(4, .val (.bool s))] [] .ret Q)) o) : Wp Tryd.prog 113 F0 w0 [(1, .recs (α := S_ref45_Step) Z_ref45_Step E_ref45_Step v1), (7, .row 1007), (8, .val (.int .i64 v8))] [(1007, 36, [.rowc false (α := S_ref45_Step) Z_ref45_Step E_script_Step v7])] (cA (cB (cI (cI (cB (cA (cB (cB (cB (cB (cF Tryd.f5))))))))))) Q := by
  unfold law45_ScriptBack_j2 at h
  refine Wp.block ?_
  refine Wp.seq ?_
  refine Wp.seq ?_
  obtain ⟨hc13, h⟩ := chk_of h
  obtain ⟨r4, hr4, h⟩ := bind_of h
  refine Wp.region hΓ [] [(4, .val (.bool r4))] [] [1, 7, 8, 49] [1007] (K' := [(1, .recs (α := S_ref45_Step) Z_ref45_Step E_ref45_Step v1), (7, .row 1007), (8, .val (.int .i64 v8)), (49, .val (.bool (!r4)))]) (L' := [(1007, 36, [.rowc false (α := S_ref45_Step) Z_ref45_Step E_script_Step v7])]) (ob := [(decide (0 ≤ v8 ∧ v8 < (List.length v1 : Int))) = true, (true = true → CX Tryd.prog 6 [.agg [.val (.int .i64 (((v1)[Int.toNat v8]?.getD Z_ref45_Step).f_Kind)), .val (.int .i64 (((v1)[Int.toNat v8]?.getD Z_ref45_Step).f_N)), .val (.int .i64 (((v1)[Int.toNat v8]?.getD Z_ref45_Step).f_M)), .val (.int .i64 (((v1)[Int.toNat v8]?.getD Z_ref45_Step).f_Command.f_Kind)), .recs (α := List UInt8) [] E_string (((v1)[Int.toNat v8]?.getD Z_ref45_Step).f_Command.f_Services), .val (.int .i64 (((v1)[Int.toNat v8]?.getD Z_ref45_Step).f_Command.f_Count)), .val (.bool (((v1)[Int.toNat v8]?.getD Z_ref45_Step).f_Command.f_Orphans)), .val (.bool (((v1)[Int.toNat v8]?.getD Z_ref45_Step).f_Command.f_Volumes)), .val (.int .i64 (((v1)[Int.toNat v8]?.getD Z_ref45_Step).f_Command.f_Timeout)), .val (.int .i64 (((v1)[Int.toNat v8]?.getD Z_ref45_Step).f_Command.f_Retries)), .val (.int .i64 (((v1)[Int.toNat v8]?.getD Z_ref45_Step).f_Call.f_Kind)), .str (((v1)[Int.toNat v8]?.getD Z_ref45_Step).f_Call.f_Name), .val (.int .i64 (((v1)[Int.toNat v8]?.getD Z_ref45_Step).f_Call.f_Id)), .str (((v1)[Int.toNat v8]?.getD Z_ref45_Step).f_Call.f_Spec.f_Name), .str (((v1)[Int.toNat v8]?.getD Z_ref45_Step).f_Call.f_Spec.f_Project), .str (((v1)[Int.toNat v8]?.getD Z_ref45_Step).f_Call.f_Spec.f_Service), .val (.int .i64 (((v1)[Int.toNat v8]?.getD Z_ref45_Step).f_Call.f_Spec.f_Number)), .str (((v1)[Int.toNat v8]?.getD Z_ref45_Step).f_Call.f_Spec.f_Hash), .recs (α := List UInt8) [] E_string (((v1)[Int.toNat v8]?.getD Z_ref45_Step).f_Call.f_Spec.f_Nets), .recs (α := List UInt8) [] E_string (((v1)[Int.toNat v8]?.getD Z_ref45_Step).f_Call.f_Spec.f_Vols), .str (((v1)[Int.toNat v8]?.getD Z_ref45_Step).f_Call.f_Spec.f_Health.f_Test), .val (.int .i64 (((v1)[Int.toNat v8]?.getD Z_ref45_Step).f_Call.f_Spec.f_Health.f_Every)), .val (.int .i64 (((v1)[Int.toNat v8]?.getD Z_ref45_Step).f_Call.f_Spec.f_Health.f_Start)), .val (.int .i64 (((v1)[Int.toNat v8]?.getD Z_ref45_Step).f_Call.f_Spec.f_Health.f_Retries)), .val (.int .i64 (((v1)[Int.toNat v8]?.getD Z_ref45_Step).f_Call.f_Spec.f_Restart)), .val (.int .i64 (((v1)[Int.toNat v8]?.getD Z_ref45_Step).f_Call.f_Spec.f_Tries))]] (.val (.bool r4)))]) (by kernel_rfl) (AllP.cons hc13 (AllP.cons (fun _ => cx (ok_law45_Few n ((v1)[Int.toNat v8]?.getD Z_ref45_Step) _ hr4)) AllP.nil)) ?_
  refine To.thenN ?_
  refine Wp.cond (b := (!r4)) (by kernel_rfl) (fun hb => ?_) (fun hb => ?_)
  · replace h := if_t hb h
    refine Wp.seq ?_
    obtain ⟨r5, hr5, h⟩ := bind_of h
    refine Wp.region hΓ [] [(0, .val (.bool r5))] [] [4] [] (K' := [(4, .val (.bool r5))]) (L' := []) (ob := [(true = true → CX Tryd.prog 7 [] (.val (.bool r5)))]) (by kernel_rfl) (AllP.cons (fun _ => cx (ok_law45_awake n  _ hr5)) AllP.nil) ?_
    refine To.thenN ?_
    refine Wp.ret ?_
    refine To.thenR ?_
    refine To.blockR ?_
    refine To.keep (kk := [4]) (kl := []) (K' := [(4, .val (.bool r5))]) (L' := []) (by kernel_rfl) (by kernel_rfl) ?_
    cases h
    exact hQ
  · replace h := if_f hb h
    refine Wp.skip ?_
    refine To.thenN ?_
    refine Wp.seq ?_
    obtain ⟨hc12, h⟩ := chk_of h
    obtain ⟨r6, hr6, h⟩ := bind_of h
    refine Wp.region hΓ [] [(4, .str r6)] [] [1, 7, 8, 9] [1007] (K' := [(1, .recs (α := S_ref45_Step) Z_ref45_Step E_ref45_Step v1), (7, .row 1007), (8, .val (.int .i64 v8)), (9, .str r6)]) (L' := [(1007, 36, [.rowc false (α := S_ref45_Step) Z_ref45_Step E_script_Step v7])]) (ob := [(decide (0 ≤ v8 ∧ v8 < (List.length v1 : Int))) = true, (true = true → CX Tryd.prog 8 [.agg [.val (.int .i64 (((v1)[Int.toNat v8]?.getD Z_ref45_Step).f_Kind)), .val (.int .i64 (((v1)[Int.toNat v8]?.getD Z_ref45_Step).f_N)), .val (.int .i64 (((v1)[Int.toNat v8]?.getD Z_ref45_Step).f_M)), .val (.int .i64 (((v1)[Int.toNat v8]?.getD Z_ref45_Step).f_Command.f_Kind)), .recs (α := List UInt8) [] E_string (((v1)[Int.toNat v8]?.getD Z_ref45_Step).f_Command.f_Services), .val (.int .i64 (((v1)[Int.toNat v8]?.getD Z_ref45_Step).f_Command.f_Count)), .val (.bool (((v1)[Int.toNat v8]?.getD Z_ref45_Step).f_Command.f_Orphans)), .val (.bool (((v1)[Int.toNat v8]?.getD Z_ref45_Step).f_Command.f_Volumes)), .val (.int .i64 (((v1)[Int.toNat v8]?.getD Z_ref45_Step).f_Command.f_Timeout)), .val (.int .i64 (((v1)[Int.toNat v8]?.getD Z_ref45_Step).f_Command.f_Retries)), .val (.int .i64 (((v1)[Int.toNat v8]?.getD Z_ref45_Step).f_Call.f_Kind)), .str (((v1)[Int.toNat v8]?.getD Z_ref45_Step).f_Call.f_Name), .val (.int .i64 (((v1)[Int.toNat v8]?.getD Z_ref45_Step).f_Call.f_Id)), .str (((v1)[Int.toNat v8]?.getD Z_ref45_Step).f_Call.f_Spec.f_Name), .str (((v1)[Int.toNat v8]?.getD Z_ref45_Step).f_Call.f_Spec.f_Project), .str (((v1)[Int.toNat v8]?.getD Z_ref45_Step).f_Call.f_Spec.f_Service), .val (.int .i64 (((v1)[Int.toNat v8]?.getD Z_ref45_Step).f_Call.f_Spec.f_Number)), .str (((v1)[Int.toNat v8]?.getD Z_ref45_Step).f_Call.f_Spec.f_Hash), .recs (α := List UInt8) [] E_string (((v1)[Int.toNat v8]?.getD Z_ref45_Step).f_Call.f_Spec.f_Nets), .recs (α := List UInt8) [] E_string (((v1)[Int.toNat v8]?.getD Z_ref45_Step).f_Call.f_Spec.f_Vols), .str (((v1)[Int.toNat v8]?.getD Z_ref45_Step).f_Call.f_Spec.f_Health.f_Test), .val (.int .i64 (((v1)[Int.toNat v8]?.getD Z_ref45_Step).f_Call.f_Spec.f_Health.f_Every)), .val (.int .i64 (((v1)[Int.toNat v8]?.getD Z_ref45_Step).f_Call.f_Spec.f_Health.f_Start)), .val (.int .i64 (((v1)[Int.toNat v8]?.getD Z_ref45_Step).f_Call.f_Spec.f_Health.f_Retries)), .val (.int .i64 (((v1)[Int.toNat v8]?.getD Z_ref45_Step).f_Call.f_Spec.f_Restart)), .val (.int .i64 (((v1)[Int.toNat v8]?.getD Z_ref45_Step).f_Call.f_Spec.f_Tries))]] (.str r6))]) (by kernel_rfl) (AllP.cons hc12 (AllP.cons (fun _ => cx (ok_script_Text n ((v1)[Int.toNat v8]?.getD Z_ref45_Step) _ hr6)) AllP.nil)) ?_
    refine To.thenN ?_
    refine Wp.seq ?_
    refine Wp.region hΓ [] [] [] [1, 7, 8, 9, 57] [1007] (K' := [(1, .recs (α := S_ref45_Step) Z_ref45_Step E_ref45_Step v1), (7, .row 1007), (8, .val (.int .i64 v8)), (9, .str r6), (57, .val (.bool (!(r6 == []))))]) (L' := [(1007, 36, [.rowc false (α := S_ref45_Step) Z_ref45_Step E_script_Step v7])]) (ob := []) (by kernel_rfl) AllP.nil ?_
    refine To.thenN ?_
    refine Wp.cond (b := (!(r6 == []))) (by kernel_rfl) (fun hb => ?_) (fun hb => ?_)
    · replace h := if_t hb h
      refine Wp.seq ?_
      obtain ⟨r7, hr7, h⟩ := bind_of h
      refine Wp.region hΓ [] [(1, .tup [.agg [.val (.int .i64 r7.1.f_Kind), .val (.int .i64 r7.1.f_N), .val (.int .i64 r7.1.f_M), .val (.int .i64 r7.1.f_Command.f_Kind), .recs (α := List UInt8) [] E_string r7.1.f_Command.f_Services, .val (.int .i64 r7.1.f_Command.f_Count), .val (.bool r7.1.f_Command.f_Orphans), .val (.bool r7.1.f_Command.f_Volumes), .val (.int .i64 r7.1.f_Command.f_Timeout), .val (.int .i64 r7.1.f_Command.f_Retries), .val (.int .i64 r7.1.f_Call.f_Kind), .str r7.1.f_Call.f_Name, .val (.int .i64 r7.1.f_Call.f_Id), .str r7.1.f_Call.f_Spec.f_Name, .str r7.1.f_Call.f_Spec.f_Project, .str r7.1.f_Call.f_Spec.f_Service, .val (.int .i64 r7.1.f_Call.f_Spec.f_Number), .str r7.1.f_Call.f_Spec.f_Hash, .recs (α := List UInt8) [] E_string r7.1.f_Call.f_Spec.f_Nets, .recs (α := List UInt8) [] E_string r7.1.f_Call.f_Spec.f_Vols, .str r7.1.f_Call.f_Spec.f_Health.f_Test, .val (.int .i64 r7.1.f_Call.f_Spec.f_Health.f_Every), .val (.int .i64 r7.1.f_Call.f_Spec.f_Health.f_Start), .val (.int .i64 r7.1.f_Call.f_Spec.f_Health.f_Retries), .val (.int .i64 r7.1.f_Call.f_Spec.f_Restart), .val (.int .i64 r7.1.f_Call.f_Spec.f_Tries)], .val (.int .i64 r7.2)])] [] [1, 7, 8, 10, 11] [10, 1007] (K' := [(1, .recs (α := S_ref45_Step) Z_ref45_Step E_ref45_Step v1), (7, .row 1007), (8, .val (.int .i64 v8)), (10, .own 10 0), (11, .val (.int .i64 r7.2))]) (L' := [(10, 36, (E_script_Step r7.1)), (1007, 36, [.rowc false (α := S_ref45_Step) Z_ref45_Step E_script_Step v7])]) (ob := [(true = true → CX Tryd.prog 13 [.str r6] (.tup [.agg [.val (.int .i64 r7.1.f_Kind), .val (.int .i64 r7.1.f_N), .val (.int .i64 r7.1.f_M), .val (.int .i64 r7.1.f_Command.f_Kind), .recs (α := List UInt8) [] E_string r7.1.f_Command.f_Services, .val (.int .i64 r7.1.f_Command.f_Count), .val (.bool r7.1.f_Command.f_Orphans), .val (.bool r7.1.f_Command.f_Volumes), .val (.int .i64 r7.1.f_Command.f_Timeout), .val (.int .i64 r7.1.f_Command.f_Retries), .val (.int .i64 r7.1.f_Call.f_Kind), .str r7.1.f_Call.f_Name, .val (.int .i64 r7.1.f_Call.f_Id), .str r7.1.f_Call.f_Spec.f_Name, .str r7.1.f_Call.f_Spec.f_Project, .str r7.1.f_Call.f_Spec.f_Service, .val (.int .i64 r7.1.f_Call.f_Spec.f_Number), .str r7.1.f_Call.f_Spec.f_Hash, .recs (α := List UInt8) [] E_string r7.1.f_Call.f_Spec.f_Nets, .recs (α := List UInt8) [] E_string r7.1.f_Call.f_Spec.f_Vols, .str r7.1.f_Call.f_Spec.f_Health.f_Test, .val (.int .i64 r7.1.f_Call.f_Spec.f_Health.f_Every), .val (.int .i64 r7.1.f_Call.f_Spec.f_Health.f_Start), .val (.int .i64 r7.1.f_Call.f_Spec.f_Health.f_Retries), .val (.int .i64 r7.1.f_Call.f_Spec.f_Restart), .val (.int .i64 r7.1.f_Call.f_Spec.f_Tries)], .val (.int .i64 r7.2)]))]) (by kernel_rfl) (AllP.cons (fun _ => cx (ok_script_Line n r6 _ hr7)) AllP.nil) ?_
      refine To.thenN ?_
      refine Wp.seq ?_
      refine Wp.seq ?_
      obtain ⟨hc11, h⟩ := chk_of h
      obtain ⟨r8, hr8, h⟩ := bind_of h
      refine Wp.regionD hm hΓ [(8, .val (.bool r8))] [1, 7, 8, 73] [1007] (K' := [(1, .recs (α := S_ref45_Step) Z_ref45_Step E_ref45_Step v1), (7, .row 1007), (8, .val (.int .i64 v8)), (73, .val (.bool (bif (r7.2 != 0) then true else (!r8))))]) (L' := [(1007, 36, [.rowc false (α := S_ref45_Step) Z_ref45_Step E_script_Step v7])]) (ob := [(!((r7.2 != 0) == false) || decide (0 ≤ v8 ∧ v8 < (List.length v1 : Int))) = true, (((r7.2 != 0) == false) = true → CX Tryd.prog 10 [.agg [.val (.int .i64 r7.1.f_Kind), .val (.int .i64 r7.1.f_N), .val (.int .i64 r7.1.f_M), .val (.int .i64 r7.1.f_Command.f_Kind), .recs (α := List UInt8) [] E_string r7.1.f_Command.f_Services, .val (.int .i64 r7.1.f_Command.f_Count), .val (.bool r7.1.f_Command.f_Orphans), .val (.bool r7.1.f_Command.f_Volumes), .val (.int .i64 r7.1.f_Command.f_Timeout), .val (.int .i64 r7.1.f_Command.f_Retries), .val (.int .i64 r7.1.f_Call.f_Kind), .str r7.1.f_Call.f_Name, .val (.int .i64 r7.1.f_Call.f_Id), .str r7.1.f_Call.f_Spec.f_Name, .str r7.1.f_Call.f_Spec.f_Project, .str r7.1.f_Call.f_Spec.f_Service, .val (.int .i64 r7.1.f_Call.f_Spec.f_Number), .str r7.1.f_Call.f_Spec.f_Hash, .recs (α := List UInt8) [] E_string r7.1.f_Call.f_Spec.f_Nets, .recs (α := List UInt8) [] E_string r7.1.f_Call.f_Spec.f_Vols, .str r7.1.f_Call.f_Spec.f_Health.f_Test, .val (.int .i64 r7.1.f_Call.f_Spec.f_Health.f_Every), .val (.int .i64 r7.1.f_Call.f_Spec.f_Health.f_Start), .val (.int .i64 r7.1.f_Call.f_Spec.f_Health.f_Retries), .val (.int .i64 r7.1.f_Call.f_Spec.f_Restart), .val (.int .i64 r7.1.f_Call.f_Spec.f_Tries)], .agg [.val (.int .i64 (((v1)[Int.toNat v8]?.getD Z_ref45_Step).f_Kind)), .val (.int .i64 (((v1)[Int.toNat v8]?.getD Z_ref45_Step).f_N)), .val (.int .i64 (((v1)[Int.toNat v8]?.getD Z_ref45_Step).f_M)), .val (.int .i64 (((v1)[Int.toNat v8]?.getD Z_ref45_Step).f_Command.f_Kind)), .recs (α := List UInt8) [] E_string (((v1)[Int.toNat v8]?.getD Z_ref45_Step).f_Command.f_Services), .val (.int .i64 (((v1)[Int.toNat v8]?.getD Z_ref45_Step).f_Command.f_Count)), .val (.bool (((v1)[Int.toNat v8]?.getD Z_ref45_Step).f_Command.f_Orphans)), .val (.bool (((v1)[Int.toNat v8]?.getD Z_ref45_Step).f_Command.f_Volumes)), .val (.int .i64 (((v1)[Int.toNat v8]?.getD Z_ref45_Step).f_Command.f_Timeout)), .val (.int .i64 (((v1)[Int.toNat v8]?.getD Z_ref45_Step).f_Command.f_Retries)), .val (.int .i64 (((v1)[Int.toNat v8]?.getD Z_ref45_Step).f_Call.f_Kind)), .str (((v1)[Int.toNat v8]?.getD Z_ref45_Step).f_Call.f_Name), .val (.int .i64 (((v1)[Int.toNat v8]?.getD Z_ref45_Step).f_Call.f_Id)), .str (((v1)[Int.toNat v8]?.getD Z_ref45_Step).f_Call.f_Spec.f_Name), .str (((v1)[Int.toNat v8]?.getD Z_ref45_Step).f_Call.f_Spec.f_Project), .str (((v1)[Int.toNat v8]?.getD Z_ref45_Step).f_Call.f_Spec.f_Service), .val (.int .i64 (((v1)[Int.toNat v8]?.getD Z_ref45_Step).f_Call.f_Spec.f_Number)), .str (((v1)[Int.toNat v8]?.getD Z_ref45_Step).f_Call.f_Spec.f_Hash), .recs (α := List UInt8) [] E_string (((v1)[Int.toNat v8]?.getD Z_ref45_Step).f_Call.f_Spec.f_Nets), .recs (α := List UInt8) [] E_string (((v1)[Int.toNat v8]?.getD Z_ref45_Step).f_Call.f_Spec.f_Vols), .str (((v1)[Int.toNat v8]?.getD Z_ref45_Step).f_Call.f_Spec.f_Health.f_Test), .val (.int .i64 (((v1)[Int.toNat v8]?.getD Z_ref45_Step).f_Call.f_Spec.f_Health.f_Every)), .val (.int .i64 (((v1)[Int.toNat v8]?.getD Z_ref45_Step).f_Call.f_Spec.f_Health.f_Start)), .val (.int .i64 (((v1)[Int.toNat v8]?.getD Z_ref45_Step).f_Call.f_Spec.f_Health.f_Retries)), .val (.int .i64 (((v1)[Int.toNat v8]?.getD Z_ref45_Step).f_Call.f_Spec.f_Restart)), .val (.int .i64 (((v1)[Int.toNat v8]?.getD Z_ref45_Step).f_Call.f_Spec.f_Tries))]] (.val (.bool r8)))]) (by kernel_rfl) (AllP.cons hc11 (AllP.cons (fun hg => cx (ok_script_Same n r7.1 ((v1)[Int.toNat v8]?.getD Z_ref45_Step) _ (if_t hg hr8))) AllP.nil)) ?_
      refine To.thenN ?_
      refine Wp.cond (b := (bif (r7.2 != 0) then true else (!r8))) (by kernel_rfl) (fun hb => ?_) (fun hb => ?_)
      · replace h := if_t hb h
        refine Wp.seq ?_
        refine Wp.region hΓ [] [] [] [4] [] (K' := [(4, .val (.bool false))]) (L' := []) (ob := []) (by kernel_rfl) AllP.nil ?_
        refine To.thenN ?_
        refine Wp.ret ?_
        refine To.thenR ?_
        refine To.blockR ?_
        refine To.keep (kk := [4]) (kl := []) (K' := [(4, .val (.bool false))]) (L' := []) (by kernel_rfl) (by kernel_rfl) ?_
        cases h
        exact hQ
      · replace h := if_f hb h
        refine Wp.skip ?_
        refine To.thenN ?_
        obtain ⟨hc9, h⟩ := chk_of h
        obtain ⟨hc10, h⟩ := chk_of h
        refine Wp.region hΓ [] [(5, .recs (α := S_ref45_Step) Z_ref45_Step E_script_Step ([((v1)[Int.toNat v8]?.getD Z_ref45_Step)])), (6, .recs (α := S_ref45_Step) Z_ref45_Step E_script_Step (v7 ++ ([((v1)[Int.toNat v8]?.getD Z_ref45_Step)] : List (S_ref45_Step))))] [] [1, 7, 8] [80] (K' := [(1, .recs (α := S_ref45_Step) Z_ref45_Step E_ref45_Step v1), (7, .row 80), (8, .val (.int .i64 v8))]) (L' := [(80, 36, [.rowc false (α := S_ref45_Step) Z_ref45_Step E_script_Step (v7 ++ ([((v1)[Int.toNat v8]?.getD Z_ref45_Step)] : List (S_ref45_Step)))])]) (ob := [(decide (0 ≤ v8 ∧ v8 < (List.length v1 : Int))) = true, (MkOb 26 [.val (.int .i64 (((v1)[Int.toNat v8]?.getD Z_ref45_Step).f_Kind)), .val (.int .i64 (((v1)[Int.toNat v8]?.getD Z_ref45_Step).f_N)), .val (.int .i64 (((v1)[Int.toNat v8]?.getD Z_ref45_Step).f_M)), .val (.int .i64 (((v1)[Int.toNat v8]?.getD Z_ref45_Step).f_Command.f_Kind)), .recs (α := List UInt8) [] E_string (((v1)[Int.toNat v8]?.getD Z_ref45_Step).f_Command.f_Services), .val (.int .i64 (((v1)[Int.toNat v8]?.getD Z_ref45_Step).f_Command.f_Count)), .val (.bool (((v1)[Int.toNat v8]?.getD Z_ref45_Step).f_Command.f_Orphans)), .val (.bool (((v1)[Int.toNat v8]?.getD Z_ref45_Step).f_Command.f_Volumes)), .val (.int .i64 (((v1)[Int.toNat v8]?.getD Z_ref45_Step).f_Command.f_Timeout)), .val (.int .i64 (((v1)[Int.toNat v8]?.getD Z_ref45_Step).f_Command.f_Retries)), .val (.int .i64 (((v1)[Int.toNat v8]?.getD Z_ref45_Step).f_Call.f_Kind)), .str (((v1)[Int.toNat v8]?.getD Z_ref45_Step).f_Call.f_Name), .val (.int .i64 (((v1)[Int.toNat v8]?.getD Z_ref45_Step).f_Call.f_Id)), .str (((v1)[Int.toNat v8]?.getD Z_ref45_Step).f_Call.f_Spec.f_Name), .str (((v1)[Int.toNat v8]?.getD Z_ref45_Step).f_Call.f_Spec.f_Project), .str (((v1)[Int.toNat v8]?.getD Z_ref45_Step).f_Call.f_Spec.f_Service), .val (.int .i64 (((v1)[Int.toNat v8]?.getD Z_ref45_Step).f_Call.f_Spec.f_Number)), .str (((v1)[Int.toNat v8]?.getD Z_ref45_Step).f_Call.f_Spec.f_Hash), .recs (α := List UInt8) [] E_string (((v1)[Int.toNat v8]?.getD Z_ref45_Step).f_Call.f_Spec.f_Nets), .recs (α := List UInt8) [] E_string (((v1)[Int.toNat v8]?.getD Z_ref45_Step).f_Call.f_Spec.f_Vols), .str (((v1)[Int.toNat v8]?.getD Z_ref45_Step).f_Call.f_Spec.f_Health.f_Test), .val (.int .i64 (((v1)[Int.toNat v8]?.getD Z_ref45_Step).f_Call.f_Spec.f_Health.f_Every)), .val (.int .i64 (((v1)[Int.toNat v8]?.getD Z_ref45_Step).f_Call.f_Spec.f_Health.f_Start)), .val (.int .i64 (((v1)[Int.toNat v8]?.getD Z_ref45_Step).f_Call.f_Spec.f_Health.f_Retries)), .val (.int .i64 (((v1)[Int.toNat v8]?.getD Z_ref45_Step).f_Call.f_Spec.f_Restart)), .val (.int .i64 (((v1)[Int.toNat v8]?.getD Z_ref45_Step).f_Call.f_Spec.f_Tries))] 1 (.recs (α := S_ref45_Step) Z_ref45_Step E_script_Step ([((v1)[Int.toNat v8]?.getD Z_ref45_Step)])) ∧ GoodR (.recs (α := S_ref45_Step) Z_ref45_Step E_script_Step ([((v1)[Int.toNat v8]?.getD Z_ref45_Step)]))), (decide ((List.length v7 + List.length ([((v1)[Int.toNat v8]?.getD Z_ref45_Step)] : List (S_ref45_Step))) * (296 + 1) ≤ limit)) = true, (AppOb Z_ref45_Step E_script_Step v7 (List.flatMap E_script_Step ([((v1)[Int.toNat v8]?.getD Z_ref45_Step)] : List (S_ref45_Step))) (List.length ([((v1)[Int.toNat v8]?.getD Z_ref45_Step)] : List (S_ref45_Step))) (.recs (α := S_ref45_Step) Z_ref45_Step E_script_Step (v7 ++ ([((v1)[Int.toNat v8]?.getD Z_ref45_Step)] : List (S_ref45_Step)))) ∧ GoodR (.recs (α := S_ref45_Step) Z_ref45_Step E_script_Step (v7 ++ ([((v1)[Int.toNat v8]?.getD Z_ref45_Step)] : List (S_ref45_Step)))))]) (by kernel_rfl) (AllP.cons hc9 (AllP.cons (mkOb (by kernel_rfl) rfl (by kernel_rfl) (good_E_script_Step _)) (AllP.cons hc10 (AllP.cons (appOb rfl rfl (good_E_script_Step _)) AllP.nil)))) ?_
        refine To.blockN ?_
        refine To.keep (kk := [1, 7, 8]) (kl := [80]) (K' := [(1, .recs (α := S_ref45_Step) Z_ref45_Step E_ref45_Step v1), (7, .row 80), (8, .val (.int .i64 v8))]) (L' := [(80, 36, [.rowc false (α := S_ref45_Step) Z_ref45_Step E_script_Step (v7 ++ ([((v1)[Int.toNat v8]?.getD Z_ref45_Step)] : List (S_ref45_Step)))])]) (by kernel_rfl) (by kernel_rfl) ?_
        refine To.pre (St.rename 80 1007 (by decide) (K' := [(1, .recs (α := S_ref45_Step) Z_ref45_Step E_ref45_Step v1), (7, .row 1007), (8, .val (.int .i64 v8))]) (L' := [(1007, 36, [.rowc false (α := S_ref45_Step) Z_ref45_Step E_script_Step (v7 ++ ([((v1)[Int.toNat v8]?.getD Z_ref45_Step)] : List (S_ref45_Step)))])]) (by kernel_rfl) (by kernel_rfl) (by kernel_rfl)) ?_
        refine To.keep (kk := [1, 7, 8]) (kl := [1007]) (K' := [(1, .recs (α := S_ref45_Step) Z_ref45_Step E_ref45_Step v1), (7, .row 1007), (8, .val (.int .i64 v8))]) (L' := [(1007, 36, [.rowc false (α := S_ref45_Step) Z_ref45_Step E_script_Step (v7 ++ ([((v1)[Int.toNat v8]?.getD Z_ref45_Step)] : List (S_ref45_Step)))])]) (by kernel_rfl) (by kernel_rfl) ?_
        cases h
        exact hQ
    · replace h := if_f hb h
      refine Wp.skip ?_
      refine To.blockN ?_
      refine To.keep (kk := [1, 7, 8]) (kl := [1007]) (K' := [(1, .recs (α := S_ref45_Step) Z_ref45_Step E_ref45_Step v1), (7, .row 1007), (8, .val (.int .i64 v8))]) (L' := [(1007, 36, [.rowc false (α := S_ref45_Step) Z_ref45_Step E_script_Step v7])]) (by kernel_rfl) (by kernel_rfl) ?_
      cases h
      exact hQ
def law45_ScriptBack_l1 (n : Nat) (v1 : List (S_ref45_Step)) : Nat → (List (S_ref45_Step)) → Int → Option (Sum ((List (S_ref45_Step))) (Bool))
  | 0, _, _ => none
  | k + 1, v7, v8 => if (decide (v8 < (List.length v1 : Int))) = true then ((law45_ScriptBack_j2 n v1 v7 v8).bind fun o4 =>
  (Sum.elim (fun o4 => law45_ScriptBack_l1 n v1 k o4 (IntKind.wrap .i64 (v8 + 1))) (fun o4 => some (.inr o4))) o4)
  else (some (.inl v7))
end Go.Proofs.YtjjlpomfnfipbaaDoor.M
