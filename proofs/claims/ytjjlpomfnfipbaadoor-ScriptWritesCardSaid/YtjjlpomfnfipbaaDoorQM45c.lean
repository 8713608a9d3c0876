import Derived.Test.YtjjlpomfnfipbaaDoorQM45b
set_option linter.all false
namespace Go.Proofs.YtjjlpomfnfipbaaDoor.M
open Go.RowKit Go.Proofs.YtjjlpomfnfipbaaDoor.RX
set_option maxRecDepth 100000
theorem ok_ref45_name (n : Nat) (a0 : List UInt8) (r : Bool) (h : ref45_name n a0 = some r) : CallsX Tryd.prog 57 [.str a0] (vb r) := by
  unfold ref45_name at h
  refine callsX_of (fn := Tryd.f57) (by kernel_rfl) rfl (by kernel_rfl) (Nat.le_of_ble_eq_true (by kernel_rfl)) fun F0 w0 _ => ?_
  refine Wp.keep (kk := [0]) (kl := []) (K' := [(0, .str a0)]) (L' := []) (by kernel_rfl) (by kernel_rfl) ?_
  refine Wp.seq ?_
  refine rg [0] [] (K' := [(0, .str a0)]) (L' := []) (by kernel_rfl) ?_
  refine To.thenN (Wp.seq (Wp.seq ?_))
  refine rg [0, 11] [] (K' := [(0, .str a0), (11, vb (bif (decide ((List.length a0 : Int) < 1)) then true else (decide ((List.length a0 : Int) > 64))))]) (L' := []) (by kernel_rfl) ?_
  refine To.thenN ?_
  refine Wp.cond (b := (bif (decide ((List.length a0 : Int) < 1)) then true else (decide ((List.length a0 : Int) > 64)))) (by kernel_rfl) (fun hb => ?_) (fun hb => ?_)
  · replace h := if_t hb h
    refine Wp.seq ?_
    refine rg [2] [] (K' := [(2, vb false)]) (L' := []) (by kernel_rfl) ?_
    refine To.thenN ?_
    refine Wp.ret ?_
    refine To.thenR ?_
    refine To.keep (kk := [2]) (kl := []) (K' := [(2, vb false)]) (L' := []) (by kernel_rfl) (by kernel_rfl) ?_
    cases h
    exact To.done hΓ (by kernel_rfl)
  · replace h := if_f hb h
    refine Wp.skip (To.thenN (Wp.seq (Wp.seq ?_)))
    refine rg [0, 3] [] (K' := [(0, .str a0), (3, vi 0)]) (L' := []) (by kernel_rfl) ?_
    refine To.thenN (Wp.block ?_)
    obtain ⟨o1, ho1, h⟩ := bind_of h
    refine Wp.keep (kk := [0, 3]) (kl := []) (K' := [(0, .str a0), (3, vi 0)]) (L' := []) (by kernel_rfl) (by kernel_rfl) ?_
    refine Wp.loopL ?_
    refine ok_ref45_name_l1 n a0 n 0 o1 ho1 ?_
    rcases o1 with o1 | o1
    · replace h := sum_l h
      refine To.blockX ?_
      refine To.thenN (Wp.seq ?_)
      refine rg [2] [] (K' := [(2, vb true)]) (L' := []) (by kernel_rfl) ?_
      refine To.thenN ?_
      refine Wp.ret ?_
      refine To.keep (kk := [2]) (kl := []) (K' := [(2, vb true)]) (L' := []) (by kernel_rfl) (by kernel_rfl) ?_
      cases h
      exact To.done hΓ (by kernel_rfl)
    · replace h := sum_r h
      refine To.blockR ?_
      refine To.thenR ?_
      refine To.keep (kk := [2]) (kl := []) (K' := [(2, vb o1)]) (L' := []) (by kernel_rfl) (by kernel_rfl) ?_
      cases h
      exact To.done hΓ (by kernel_rfl)
def ref02_Kind (a0 : Int) : Int :=
  if (bif (decide (a0 ≥ 97)) then (decide (a0 ≤ 122)) else false) = true then 1
  else (if (bif (decide (a0 ≥ 65)) then (decide (a0 ≤ 90)) else false) = true then 2
  else (if (bif (decide (a0 ≥ 48)) then (decide (a0 ≤ 57)) else false) = true then 3
  else (if (a0 == 95) = true then 4
  else (if (a0 == 45) = true then 5
  else (if (a0 == 46) = true then 6
  else 0)))))
theorem ok_ref02_Kind (a0 : Int) (r : Int) (h : ref02_Kind a0 = r) : CallsX Tryd.prog 78 [.val (.int .u8 a0)] (vi r) := by
  unfold ref02_Kind at h
  refine callsX_of (fn := Tryd.f78) (by kernel_rfl) rfl (by kernel_rfl) (Nat.le_of_ble_eq_true (by kernel_rfl)) fun F0 w0 _ => ?_
  refine Wp.keep (kk := [0]) (kl := []) (K' := [(0, .val (.int .u8 a0))]) (L' := []) (by kernel_rfl) (by kernel_rfl) ?_
  refine Wp.seq ?_
  refine rg [0] [] (K' := [(0, .val (.int .u8 a0))]) (L' := []) (by kernel_rfl) ?_
  refine To.thenN (Wp.seq (Wp.seq ?_))
  refine rg [0, 8] [] (K' := [(0, .val (.int .u8 a0)), (8, vb (bif (decide (a0 ≥ 97)) then (decide (a0 ≤ 122)) else false))]) (L' := []) (by kernel_rfl) ?_
  refine To.thenN ?_
  refine Wp.cond (b := (bif (decide (a0 ≥ 97)) then (decide (a0 ≤ 122)) else false)) (by kernel_rfl) (fun hb => ?_) (fun hb => ?_)
  · replace h := if_t hb h
    refine Wp.seq ?_
    refine rg [2] [] (K' := [(2, vi 1)]) (L' := []) (by kernel_rfl) ?_
    refine To.thenN ?_
    refine Wp.ret ?_
    refine To.thenR ?_
    refine To.keep (kk := [2]) (kl := []) (K' := [(2, vi 1)]) (L' := []) (by kernel_rfl) (by kernel_rfl) ?_
    cases h
    exact To.done hΓ (by kernel_rfl)
  · replace h := if_f hb h
    refine Wp.skip (To.thenN (Wp.seq (Wp.seq ?_)))
    refine rg [0, 14] [] (K' := [(0, .val (.int .u8 a0)), (14, vb (bif (decide (a0 ≥ 65)) then (decide (a0 ≤ 90)) else false))]) (L' := []) (by kernel_rfl) ?_
    refine To.thenN ?_
    refine Wp.cond (b := (bif (decide (a0 ≥ 65)) then (decide (a0 ≤ 90)) else false)) (by kernel_rfl) (fun hb => ?_) (fun hb => ?_)
    · replace h := if_t hb h
      refine Wp.seq ?_
      refine rg [2] [] (K' := [(2, vi 2)]) (L' := []) (by kernel_rfl) ?_
      refine To.thenN ?_
      refine Wp.ret ?_
      refine To.thenR ?_
      refine To.keep (kk := [2]) (kl := []) (K' := [(2, vi 2)]) (L' := []) (by kernel_rfl) (by kernel_rfl) ?_
      cases h
      exact To.done hΓ (by kernel_rfl)
    · replace h := if_f hb h
      refine Wp.skip (To.thenN (Wp.seq (Wp.seq ?_)))
      refine rg [0, 20] [] (K' := [(0, .val (.int .u8 a0)), (20, vb (bif (decide (a0 ≥ 48)) then (decide (a0 ≤ 57)) else false))]) (L' := []) (by kernel_rfl) ?_
      refine To.thenN ?_
      refine Wp.cond (b := (bif (decide (a0 ≥ 48)) then (decide (a0 ≤ 57)) else false)) (by kernel_rfl) (fun hb => ?_) (fun hb => ?_)
      · replace h := if_t hb h
        refine Wp.seq ?_
        refine rg [2] [] (K' := [(2, vi 3)]) (L' := []) (by kernel_rfl) ?_
        refine To.thenN ?_
        refine Wp.ret ?_
        refine To.thenR ?_
        refine To.keep (kk := [2]) (kl := []) (K' := [(2, vi 3)]) (L' := []) (by kernel_rfl) (by kernel_rfl) ?_
        cases h
        exact To.done hΓ (by kernel_rfl)
      · replace h := if_f hb h
        refine Wp.skip (To.thenN (Wp.seq (Wp.seq ?_)))
        refine rg [0, 22] [] (K' := [(0, .val (.int .u8 a0)), (22, vb (a0 == 95))]) (L' := []) (by kernel_rfl) ?_
        refine To.thenN ?_
        refine Wp.cond (b := (a0 == 95)) (by kernel_rfl) (fun hb => ?_) (fun hb => ?_)
        · replace h := if_t hb h
          refine Wp.seq ?_
          refine rg [2] [] (K' := [(2, vi 4)]) (L' := []) (by kernel_rfl) ?_
          refine To.thenN ?_
          refine Wp.ret ?_
          refine To.thenR ?_
          refine To.keep (kk := [2]) (kl := []) (K' := [(2, vi 4)]) (L' := []) (by kernel_rfl) (by kernel_rfl) ?_
          cases h
          exact To.done hΓ (by kernel_rfl)
        · replace h := if_f hb h
          refine Wp.skip (To.thenN (Wp.seq (Wp.seq ?_)))
          refine rg [0, 24] [] (K' := [(0, .val (.int .u8 a0)), (24, vb (a0 == 45))]) (L' := []) (by kernel_rfl) ?_
          refine To.thenN ?_
          refine Wp.cond (b := (a0 == 45)) (by kernel_rfl) (fun hb => ?_) (fun hb => ?_)
          · replace h := if_t hb h
            refine Wp.seq ?_
            refine rg [2] [] (K' := [(2, vi 5)]) (L' := []) (by kernel_rfl) ?_
            refine To.thenN ?_
            refine Wp.ret ?_
            refine To.thenR ?_
            refine To.keep (kk := [2]) (kl := []) (K' := [(2, vi 5)]) (L' := []) (by kernel_rfl) (by kernel_rfl) ?_
            cases h
            exact To.done hΓ (by kernel_rfl)
          · replace h := if_f hb h
            refine Wp.skip (To.thenN (Wp.seq (Wp.seq ?_)))
            refine rg [26] [] (K' := [(26, vb (a0 == 46))]) (L' := []) (by kernel_rfl) ?_
            refine To.thenN ?_
            refine Wp.cond (b := (a0 == 46)) (by kernel_rfl) (fun hb => ?_) (fun hb => ?_)
            · replace h := if_t hb h
              refine Wp.seq ?_
              refine rg [2] [] (K' := [(2, vi 6)]) (L' := []) (by kernel_rfl) ?_
              refine To.thenN ?_
              refine Wp.ret ?_
              refine To.thenR ?_
              refine To.keep (kk := [2]) (kl := []) (K' := [(2, vi 6)]) (L' := []) (by kernel_rfl) (by kernel_rfl) ?_
              cases h
              exact To.done hΓ (by kernel_rfl)
            · replace h := if_f hb h
              refine Wp.skip (To.thenN (Wp.seq ?_))
              refine rg [2] [] (K' := [(2, vi 0)]) (L' := []) (by kernel_rfl) ?_
              refine To.thenN ?_
              refine Wp.ret ?_
              refine To.keep (kk := [2]) (kl := []) (K' := [(2, vi 0)]) (L' := []) (by kernel_rfl) (by kernel_rfl) ?_
              cases h
              exact To.done hΓ (by kernel_rfl)
def ref02_Project_l1 (n : Nat) (v0 : List UInt8) : Nat → Int → Option (Sum (Unit) (Bool))
  | 0, _ => none
  | k + 1, v3 => if (decide (v3 < (List.length v0 : Int))) = true then (if (decide (0 ≤ v3 ∧ v3 < (List.length v0 : Int))) = true then (lett ((bif (bif (bif ((ref02_Kind (((v0)[Int.toNat v3]?.getD 0).toNat : Int)) == 0) then true else ((ref02_Kind (((v0)[Int.toNat v3]?.getD 0).toNat : Int)) == 2)) then true else ((ref02_Kind (((v0)[Int.toNat v3]?.getD 0).toNat : Int)) == 6)) then true else (bif (v3 == 0) then (decide ((ref02_Kind (((v0)[Int.toNat v3]?.getD 0).toNat : Int)) > 3)) else false)) : Bool) fun x1 =>
  if x1 = true then (some (.inr false))
  else (ref02_Project_l1 n v0 k (IntKind.wrap .i64 (v3 + 1)))) else none)
  else (some (.inl ()))
theorem ok_ref02_Project_l1 (n : Nat) (v0 : List UInt8) {F0 : Fz} {w0 : Pt Tryd.prog} {Q : Exit → Act → World → Prop} (k : Nat) : ∀ (v3 : Int) (o : Sum (Unit) (Bool)), ref02_Project_l1 n v0 k v3 = some o → (Sum.elim (fun s => To 41 F0 w0 [] [] (.exit 0) Q) (fun s => To 41 F0 w0 [(2, vb s)] [] .ret Q)) o → WL Tryd.prog 41 F0 w0 [(0, .str v0), (3, vi v3)] [] (cI (cI (cB (cA (cB (cB (cF Tryd.f58))))))) Q := by
  induction k with
  | zero => intro v3 o h; cases h
  | succ k ih =>
    intro v3 o h hQ
    rw [ref02_Project_l1] at h
    refine WL.round ?_
    refine Wp.seq (Wp.seq ?_)
    refine rg [0, 3, 16] [] (K' := [(0, .str v0), (3, vi v3), (16, vb (decide (v3 < (List.length v0 : Int))))]) (L' := []) (by kernel_rfl) ?_
    refine To.thenN ?_
    refine Wp.cond (b := (decide (v3 < (List.length v0 : Int)))) (by kernel_rfl) (fun hb => ?_) (fun hb => ?_)
    · replace h := if_t hb h
      refine Wp.skip (To.thenN (Wp.seq (Wp.block (Wp.seq ?_))))
      obtain ⟨hc2, h⟩ := chk_of h
      refine Wp.region hΓ [] [(3, vi (ref02_Kind (((v0)[Int.toNat v3]?.getD 0).toNat : Int)))] [] [0, 3, 4] [] (K' := [(0, .str v0), (3, vi v3), (4, vi (ref02_Kind (((v0)[Int.toNat v3]?.getD 0).toNat : Int)))]) (L' := []) (ob := [(decide (0 ≤ v3 ∧ v3 < (List.length v0 : Int))) = true, (true = true → CX Tryd.prog 78 [.val (.int .u8 (((v0)[Int.toNat v3]?.getD 0).toNat : Int))] (vi (ref02_Kind (((v0)[Int.toNat v3]?.getD 0).toNat : Int))))]) (by kernel_rfl) (AllP.cons hc2 (AllP.cons (fun _ => cx (ok_ref02_Kind (((v0)[Int.toNat v3]?.getD 0).toNat : Int) _ rfl)) AllP.nil)) ?_
      refine To.thenN (Wp.seq ?_)
      obtain ⟨x1, hx1, h⟩ := lett_of h
      refine rg [0, 3, 40] [] (K' := [(0, .str v0), (3, vi v3), (40, vb (bif (bif (bif ((ref02_Kind (((v0)[Int.toNat v3]?.getD 0).toNat : Int)) == 0) then true else ((ref02_Kind (((v0)[Int.toNat v3]?.getD 0).toNat : Int)) == 2)) then true else ((ref02_Kind (((v0)[Int.toNat v3]?.getD 0).toNat : Int)) == 6)) then true else (bif (v3 == 0) then (decide ((ref02_Kind (((v0)[Int.toNat v3]?.getD 0).toNat : Int)) > 3)) else false)))]) (L' := []) (by kernel_rfl) ?_
      refine To.eq (K' := [(0, .str v0), (3, vi v3), (40, vb x1)]) (L' := []) (by cases hx1; rfl) (by cases hx1; rfl) ?_
      refine To.thenN ?_
      refine Wp.cond (b := x1) (by kernel_rfl) (fun hb => ?_) (fun hb => ?_)
      · replace h := if_t hb h
        refine Wp.seq ?_
        refine rg [2] [] (K' := [(2, vb false)]) (L' := []) (by kernel_rfl) ?_
        refine To.thenN ?_
        refine Wp.ret ?_
        refine To.blockR ?_
        refine To.thenR ?_
        refine To.thenR ?_
        refine To.keep (kk := [2]) (kl := []) (K' := [(2, vb false)]) (L' := []) (by kernel_rfl) (by kernel_rfl) ?_
        cases h
        exact hQ
      · replace h := if_f hb h
        refine Wp.skip ?_
        refine To.blockN ?_
        refine To.thenN ?_
        refine rg [0, 3] [] (K' := [(0, .str v0), (3, vi (IntKind.wrap .i64 (v3 + 1)))]) (L' := []) (by kernel_rfl) ?_
        refine To.keep (kk := [0, 3]) (kl := []) (K' := [(0, .str v0), (3, vi (IntKind.wrap .i64 (v3 + 1)))]) (L' := []) (by kernel_rfl) (by kernel_rfl) ?_
        refine To.again ?_
        exact ih (IntKind.wrap .i64 (v3 + 1)) _ h hQ
    · replace h := if_f hb h
      refine Wp.exit ?_
      refine To.thenX ?_
      refine To.thenX ?_
      refine To.keep (kk := []) (kl := []) (K' := []) (L' := []) (by kernel_rfl) (by kernel_rfl) ?_
      cases h
      exact hQ
def ref02_Project (n : Nat) (a0 : List UInt8) : Option (Bool) :=
  if (bif (decide ((List.length a0 : Int) < 1)) then true else (decide ((List.length a0 : Int) > 24))) = true then some false
  else ((ref02_Project_l1 n a0 n 0).bind fun o1 =>
  (Sum.elim (fun o1 => some true) (fun o1 => some o1)) o1)
theorem ok_ref02_Project (n : Nat) (a0 : List UInt8) (r : Bool) (h : ref02_Project n a0 = some r) : CallsX Tryd.prog 58 [.str a0] (vb r) := by
  unfold ref02_Project at h
  refine callsX_of (fn := Tryd.f58) (by kernel_rfl) rfl (by kernel_rfl) (Nat.le_of_ble_eq_true (by kernel_rfl)) fun F0 w0 _ => ?_
  refine Wp.keep (kk := [0]) (kl := []) (K' := [(0, .str a0)]) (L' := []) (by kernel_rfl) (by kernel_rfl) ?_
  refine Wp.seq ?_
  refine rg [0] [] (K' := [(0, .str a0)]) (L' := []) (by kernel_rfl) ?_
  refine To.thenN (Wp.seq (Wp.seq ?_))
  refine rg [0, 12] [] (K' := [(0, .str a0), (12, vb (bif (decide ((List.length a0 : Int) < 1)) then true else (decide ((List.length a0 : Int) > 24))))]) (L' := []) (by kernel_rfl) ?_
  refine To.thenN ?_
  refine Wp.cond (b := (bif (decide ((List.length a0 : Int) < 1)) then true else (decide ((List.length a0 : Int) > 24)))) (by kernel_rfl) (fun hb => ?_) (fun hb => ?_)
  · replace h := if_t hb h
    refine Wp.seq ?_
    refine rg [2] [] (K' := [(2, vb false)]) (L' := []) (by kernel_rfl) ?_
    refine To.thenN ?_
    refine Wp.ret ?_
    refine To.thenR ?_
    refine To.keep (kk := [2]) (kl := []) (K' := [(2, vb false)]) (L' := []) (by kernel_rfl) (by kernel_rfl) ?_
    cases h
    exact To.done hΓ (by kernel_rfl)
  · replace h := if_f hb h
    refine Wp.skip (To.thenN (Wp.seq (Wp.seq ?_)))
    refine rg [0, 3] [] (K' := [(0, .str a0), (3, vi 0)]) (L' := []) (by kernel_rfl) ?_
    refine To.thenN (Wp.block ?_)
    obtain ⟨o1, ho1, h⟩ := bind_of h
    refine Wp.keep (kk := [0, 3]) (kl := []) (K' := [(0, .str a0), (3, vi 0)]) (L' := []) (by kernel_rfl) (by kernel_rfl) ?_
    refine Wp.loopL ?_
    refine ok_ref02_Project_l1 n a0 n 0 o1 ho1 ?_
    rcases o1 with o1 | o1
    · replace h := sum_l h
      refine To.blockX ?_
      refine To.thenN (Wp.seq ?_)
      refine rg [2] [] (K' := [(2, vb true)]) (L' := []) (by kernel_rfl) ?_
      refine To.thenN ?_
      refine Wp.ret ?_
      refine To.keep (kk := [2]) (kl := []) (K' := [(2, vb true)]) (L' := []) (by kernel_rfl) (by kernel_rfl) ?_
      cases h
      exact To.done hΓ (by kernel_rfl)
    · replace h := sum_r h
      refine To.blockR ?_
      refine To.thenR ?_
      refine To.keep (kk := [2]) (kl := []) (K' := [(2, vb o1)]) (L' := []) (by kernel_rfl) (by kernel_rfl) ?_
      cases h
      exact To.done hΓ (by kernel_rfl)
def ref01_Whole_l1 (n : Nat) (v0 : List UInt8) : Nat → Int → Option (Sum (Unit) (Bool))
  | 0, _ => none
  | k + 1, v3 => if (decide (v3 < (List.length v0 : Int))) = true then (if (decide (0 ≤ v3 ∧ v3 < (List.length v0 : Int))) = true then (if ((!((decide ((((v0)[Int.toNat v3]?.getD 0).toNat : Int) < 48)) == false) || decide (0 ≤ v3 ∧ v3 < (List.length v0 : Int)))) = true then (lett ((bif (decide ((((v0)[Int.toNat v3]?.getD 0).toNat : Int) < 48)) then true else (decide ((((v0)[Int.toNat v3]?.getD 0).toNat : Int) > 57))) : Bool) fun x2 =>
  if x2 = true then (some (.inr false))
  else (ref01_Whole_l1 n v0 k (IntKind.wrap .i64 (v3 + 1)))) else none) else none)
  else (some (.inl ()))
theorem ok_ref01_Whole_l1 (n : Nat) (v0 : List UInt8) {F0 : Fz} {w0 : Pt Tryd.prog} {Q : Exit → Act → World → Prop} (k : Nat) : ∀ (v3 : Int) (o : Sum (Unit) (Bool)), ref01_Whole_l1 n v0 k v3 = some o → (Sum.elim (fun s => To 33 F0 w0 [] [] (.exit 0) Q) (fun s => To 33 F0 w0 [(2, vb s)] [] .ret Q)) o → WL Tryd.prog 33 F0 w0 [(0, .str v0), (3, vi v3)] [] (cI (cI (cB (cA (cB (cB (cF Tryd.f79))))))) Q := by
  induction k with
  | zero => intro v3 o h; cases h
  | succ k ih =>
    intro v3 o h hQ
    rw [ref01_Whole_l1] at h
    refine WL.round ?_
    refine Wp.seq (Wp.seq ?_)
    refine rg [0, 3, 20] [] (K' := [(0, .str v0), (3, vi v3), (20, vb (decide (v3 < (List.length v0 : Int))))]) (L' := []) (by kernel_rfl) ?_
    refine To.thenN ?_
    refine Wp.cond (b := (decide (v3 < (List.length v0 : Int)))) (by kernel_rfl) (fun hb => ?_) (fun hb => ?_)
    · replace h := if_t hb h
      refine Wp.skip (To.thenN (Wp.seq (Wp.block (Wp.seq ?_))))
      obtain ⟨hc3, h⟩ := chk_of h
      obtain ⟨hc4, h⟩ := chk_of h
      obtain ⟨x2, hx2, h⟩ := lett_of h
      refine Wp.region hΓ [] [] [] [0, 3, 32] [] (K' := [(0, .str v0), (3, vi v3), (32, vb (bif (decide ((((v0)[Int.toNat v3]?.getD 0).toNat : Int) < 48)) then true else (decide ((((v0)[Int.toNat v3]?.getD 0).toNat : Int) > 57))))]) (L' := []) (ob := [(decide (0 ≤ v3 ∧ v3 < (List.length v0 : Int))) = true, (!((decide ((((v0)[Int.toNat v3]?.getD 0).toNat : Int) < 48)) == false) || decide (0 ≤ v3 ∧ v3 < (List.length v0 : Int))) = true]) (by kernel_rfl) (AllP.cons hc3 (AllP.cons hc4 AllP.nil)) ?_
      refine To.eq (K' := [(0, .str v0), (3, vi v3), (32, vb x2)]) (L' := []) (by cases hx2; rfl) (by cases hx2; rfl) ?_
      refine To.thenN ?_
      refine Wp.cond (b := x2) (by kernel_rfl) (fun hb => ?_) (fun hb => ?_)
      · replace h := if_t hb h
        refine Wp.seq ?_
        refine rg [2] [] (K' := [(2, vb false)]) (L' := []) (by kernel_rfl) ?_
        refine To.thenN ?_
        refine Wp.ret ?_
        refine To.blockR ?_
        refine To.thenR ?_
        refine To.thenR ?_
        refine To.keep (kk := [2]) (kl := []) (K' := [(2, vb false)]) (L' := []) (by kernel_rfl) (by kernel_rfl) ?_
        cases h
        exact hQ
      · replace h := if_f hb h
        refine Wp.skip ?_
        refine To.blockN ?_
        refine To.thenN ?_
        refine rg [0, 3] [] (K' := [(0, .str v0), (3, vi (IntKind.wrap .i64 (v3 + 1)))]) (L' := []) (by kernel_rfl) ?_
        refine To.keep (kk := [0, 3]) (kl := []) (K' := [(0, .str v0), (3, vi (IntKind.wrap .i64 (v3 + 1)))]) (L' := []) (by kernel_rfl) (by kernel_rfl) ?_
        refine To.again ?_
        exact ih (IntKind.wrap .i64 (v3 + 1)) _ h hQ
    · replace h := if_f hb h
      refine Wp.exit ?_
      refine To.thenX ?_
      refine To.thenX ?_
      refine To.keep (kk := []) (kl := []) (K' := []) (L' := []) (by kernel_rfl) (by kernel_rfl) ?_
      cases h
      exact hQ
def ref01_Whole (n : Nat) (a0 : List UInt8) : Option (Bool) :=
  if ((!(((decide ((List.length a0 : Int) > 1)) == true) && (((List.length a0 : Int) == 0) == false)) || decide (0 ≤ (0 : Int) ∧ (0 : Int) < (List.length a0 : Int)))) = true then (lett ((bif ((List.length a0 : Int) == 0) then true else (bif (decide ((List.length a0 : Int) > 1)) then ((((a0)[Int.toNat 0]?.getD 0).toNat : Int) == 48) else false)) : Bool) fun x1 =>
  if x1 = true then some false
  else ((ref01_Whole_l1 n a0 n 0).bind fun o2 =>
  (Sum.elim (fun o2 => some true) (fun o2 => some o2)) o2)) else none
theorem ok_ref01_Whole (n : Nat) (a0 : List UInt8) (r : Bool) (h : ref01_Whole n a0 = some r) : CallsX Tryd.prog 79 [.str a0] (vb r) := by
  unfold ref01_Whole at h
  refine callsX_of (fn := Tryd.f79) (by kernel_rfl) rfl (by kernel_rfl) (Nat.le_of_ble_eq_true (by kernel_rfl)) fun F0 w0 _ => ?_
  refine Wp.keep (kk := [0]) (kl := []) (K' := [(0, .str a0)]) (L' := []) (by kernel_rfl) (by kernel_rfl) ?_
  refine Wp.seq ?_
  refine rg [0] [] (K' := [(0, .str a0)]) (L' := []) (by kernel_rfl) ?_
  refine To.thenN (Wp.seq (Wp.seq ?_))
  obtain ⟨hc3, h⟩ := chk_of h
  obtain ⟨x1, hx1, h⟩ := lett_of h
  refine Wp.region hΓ [] [] [] [0, 16] [] (K' := [(0, .str a0), (16, vb (bif ((List.length a0 : Int) == 0) then true else (bif (decide ((List.length a0 : Int) > 1)) then ((((a0)[Int.toNat 0]?.getD 0).toNat : Int) == 48) else false)))]) (L' := []) (ob := [(!(((decide ((List.length a0 : Int) > 1)) == true) && (((List.length a0 : Int) == 0) == false)) || decide (0 ≤ (0 : Int) ∧ (0 : Int) < (List.length a0 : Int))) = true]) (by kernel_rfl) (AllP.cons hc3 AllP.nil) ?_
  refine To.eq (K' := [(0, .str a0), (16, vb x1)]) (L' := []) (by cases hx1; rfl) (by cases hx1; rfl) ?_
  refine To.thenN ?_
  refine Wp.cond (b := x1) (by kernel_rfl) (fun hb => ?_) (fun hb => ?_)
  · replace h := if_t hb h
    refine Wp.seq ?_
    refine rg [2] [] (K' := [(2, vb false)]) (L' := []) (by kernel_rfl) ?_
    refine To.thenN ?_
    refine Wp.ret ?_
    refine To.thenR ?_
    refine To.keep (kk := [2]) (kl := []) (K' := [(2, vb false)]) (L' := []) (by kernel_rfl) (by kernel_rfl) ?_
    cases h
    exact To.done hΓ (by kernel_rfl)
  · replace h := if_f hb h
    refine Wp.skip (To.thenN (Wp.seq (Wp.seq ?_)))
    refine rg [0, 3] [] (K' := [(0, .str a0), (3, vi 0)]) (L' := []) (by kernel_rfl) ?_
    refine To.thenN (Wp.block ?_)
    obtain ⟨o2, ho2, h⟩ := bind_of h
    refine Wp.keep (kk := [0, 3]) (kl := []) (K' := [(0, .str a0), (3, vi 0)]) (L' := []) (by kernel_rfl) (by kernel_rfl) ?_
    refine Wp.loopL ?_
    refine ok_ref01_Whole_l1 n a0 n 0 o2 ho2 ?_
    rcases o2 with o2 | o2
    · replace h := sum_l h
      refine To.blockX ?_
      refine To.thenN (Wp.seq ?_)
      refine rg [2] [] (K' := [(2, vb true)]) (L' := []) (by kernel_rfl) ?_
      refine To.thenN ?_
      refine Wp.ret ?_
      refine To.keep (kk := [2]) (kl := []) (K' := [(2, vb true)]) (L' := []) (by kernel_rfl) (by kernel_rfl) ?_
      cases h
      exact To.done hΓ (by kernel_rfl)
    · replace h := sum_r h
      refine To.blockR ?_
      refine To.thenR ?_
      refine To.keep (kk := [2]) (kl := []) (K' := [(2, vb o2)]) (L' := []) (by kernel_rfl) (by kernel_rfl) ?_
      cases h
      exact To.done hΓ (by kernel_rfl)
def ref01_Count_l1 (n : Nat) (v0 : List UInt8) (v1 : Int) : Nat → Int → Int → Option (Int)
  | 0, _, _ => none
  | k + 1, v6, v7 => if (decide (v7 < (List.length v0 : Int))) = true then (if (decide (0 ≤ v7 ∧ v7 < (List.length v0 : Int))) = true then (lett ((IntKind.wrap .u64 ((IntKind.wrap .u64 ((IntKind.wrap .u64 (v6 * 10)) + (IntKind.wrap .u64 ((((v0)[Int.toNat v7]?.getD 0).toNat : Int))))) - 48)) : Int) fun x2 =>
  ref01_Count_l1 n v0 v1 k x2 (IntKind.wrap .i64 (v7 + 1))) else none)
  else some v6
theorem ok_ref01_Count_l1 (n : Nat) (v0 : List UInt8) (v1 : Int) {F0 : Fz} {w0 : Pt Tryd.prog} {Q : Exit → Act → World → Prop} (k : Nat) : ∀ (v6 : Int) (v7 : Int) (o : Int), ref01_Count_l1 n v0 v1 k v6 v7 = some o → To 36 F0 w0 [(1, vi v1), (6, .val (.int .u64 o))] [] (.exit 0) Q → WL Tryd.prog 36 F0 w0 [(0, .str v0), (1, vi v1), (6, .val (.int .u64 v6)), (7, vi v7)] [] (cI (cI (cB (cA (cB (cB (cB (cB (cB (cF Tryd.f60)))))))))) Q := by
  induction k with
  | zero => intro v6 v7 o h; cases h
  | succ k ih =>
    intro v6 v7 o h hQ
    rw [ref01_Count_l1] at h
    refine WL.round ?_
    refine Wp.seq (Wp.seq ?_)
    refine rg [0, 1, 6, 7, 19] [] (K' := [(0, .str v0), (1, vi v1), (6, .val (.int .u64 v6)), (7, vi v7), (19, vb (decide (v7 < (List.length v0 : Int))))]) (L' := []) (by kernel_rfl) ?_
    refine To.thenN ?_
    refine Wp.cond (b := (decide (v7 < (List.length v0 : Int)))) (by kernel_rfl) (fun hb => ?_) (fun hb => ?_)
    · replace h := if_t hb h
      refine Wp.skip (To.thenN (Wp.seq (Wp.block ?_)))
      obtain ⟨hc3, h⟩ := chk_of h
      obtain ⟨x2, hx2, h⟩ := lett_of h
      refine Wp.region hΓ [] [] [] [0, 1, 6, 7] [] (K' := [(0, .str v0), (1, vi v1), (6, .val (.int .u64 (IntKind.wrap .u64 ((IntKind.wrap .u64 ((IntKind.wrap .u64 (v6 * 10)) + (IntKind.wrap .u64 ((((v0)[Int.toNat v7]?.getD 0).toNat : Int))))) - 48)))), (7, vi v7)]) (L' := []) (ob := [(decide (0 ≤ v7 ∧ v7 < (List.length v0 : Int))) = true]) (by kernel_rfl) (AllP.cons hc3 AllP.nil) ?_
      refine To.eq (K' := [(0, .str v0), (1, vi v1), (6, .val (.int .u64 x2)), (7, vi v7)]) (L' := []) (by cases hx2; rfl) (by cases hx2; rfl) ?_
      refine To.blockN ?_
      refine To.thenN ?_
      refine rg [0, 1, 6, 7] [] (K' := [(0, .str v0), (1, vi v1), (6, .val (.int .u64 x2)), (7, vi (IntKind.wrap .i64 (v7 + 1)))]) (L' := []) (by kernel_rfl) ?_
      refine To.keep (kk := [0, 1, 6, 7]) (kl := []) (K' := [(0, .str v0), (1, vi v1), (6, .val (.int .u64 x2)), (7, vi (IntKind.wrap .i64 (v7 + 1)))]) (L' := []) (by kernel_rfl) (by kernel_rfl) ?_
      refine To.again ?_
      exact ih x2 (IntKind.wrap .i64 (v7 + 1)) _ h hQ
    · replace h := if_f hb h
      refine Wp.exit ?_
      refine To.thenX ?_
      refine To.thenX ?_
      refine To.keep (kk := [1, 6]) (kl := []) (K' := [(1, vi v1), (6, .val (.int .u64 v6))]) (L' := []) (by kernel_rfl) (by kernel_rfl) ?_
      cases h
      exact hQ
def ref01_Count (n : Nat) (a0 : List UInt8) (a1 : Int) : Option (Int × Int) :=
  if (decide (a1 < 0)) = true then (some (0, 2))
  else ((ref01_Whole n a0).bind fun r1 =>
  if (!r1) = true then (some (0, 3))
  else (if (decide ((List.length a0 : Int) > 19)) = true then (some (0, 9))
  else ((ref01_Count_l1 n a0 a1 n 0 0).bind fun o2 =>
  if (decide (o2 > (IntKind.wrap .u64 (a1)))) = true then (some (0, 9))
  else (some ((IntKind.wrap .i64 (o2)), 0)))))
theorem ok_ref01_Count (n : Nat) (a0 : List UInt8) (a1 : Int) (r : Int × Int) (h : ref01_Count n a0 a1 = some r) : CallsX Tryd.prog 60 [.str a0, vi a1] (.tup [vi r.1, vi r.2]) := by
  unfold ref01_Count at h
  refine callsX_of (fn := Tryd.f60) (by kernel_rfl) rfl (by kernel_rfl) (Nat.le_of_ble_eq_true (by kernel_rfl)) fun F0 w0 _ => ?_
  refine Wp.keep (kk := [0, 1]) (kl := []) (K' := [(0, .str a0), (1, vi a1)]) (L' := []) (by kernel_rfl) (by kernel_rfl) ?_
  refine Wp.seq ?_
  refine rg [0, 1] [] (K' := [(0, .str a0), (1, vi a1)]) (L' := []) (by kernel_rfl) ?_
  refine To.thenN (Wp.seq (Wp.seq ?_))
  refine rg [0, 1, 9] [] (K' := [(0, .str a0), (1, vi a1), (9, vb (decide (a1 < 0)))]) (L' := []) (by kernel_rfl) ?_
  refine To.thenN ?_
  refine Wp.cond (b := (decide (a1 < 0))) (by kernel_rfl) (fun hb => ?_) (fun hb => ?_)
  · replace h := if_t hb h
    refine Wp.seq ?_
    refine rg [4, 5] [] (K' := [(4, vi 0), (5, vi 2)]) (L' := []) (by kernel_rfl) ?_
    refine To.thenN ?_
    refine Wp.ret ?_
    refine To.thenR ?_
    refine To.keep (kk := [4, 5]) (kl := []) (K' := [(4, vi 0), (5, vi 2)]) (L' := []) (by kernel_rfl) (by kernel_rfl) ?_
    cases h
    exact To.done hΓ (by kernel_rfl)
  · replace h := if_f hb h
    refine Wp.skip (To.thenN (Wp.seq (Wp.seq ?_)))
    obtain ⟨r1, hr1, h⟩ := bind_of h
    refine Wp.region hΓ [] [(1, vb r1)] [] [0, 1, 12] [] (K' := [(0, .str a0), (1, vi a1), (12, vb (!r1))]) (L' := []) (ob := [(true = true → CX Tryd.prog 79 [.str a0] (vb r1))]) (by kernel_rfl) (AllP.cons (fun _ => cx (ok_ref01_Whole n a0 _ hr1)) AllP.nil) ?_
    refine To.thenN ?_
    refine Wp.cond (b := (!r1)) (by kernel_rfl) (fun hb => ?_) (fun hb => ?_)
    · replace h := if_t hb h
      refine Wp.seq ?_
      refine rg [4, 5] [] (K' := [(4, vi 0), (5, vi 3)]) (L' := []) (by kernel_rfl) ?_
      refine To.thenN ?_
      refine Wp.ret ?_
      refine To.thenR ?_
      refine To.keep (kk := [4, 5]) (kl := []) (K' := [(4, vi 0), (5, vi 3)]) (L' := []) (by kernel_rfl) (by kernel_rfl) ?_
      cases h
      exact To.done hΓ (by kernel_rfl)
    · replace h := if_f hb h
      refine Wp.skip (To.thenN (Wp.seq (Wp.seq ?_)))
      refine rg [0, 1, 15] [] (K' := [(0, .str a0), (1, vi a1), (15, vb (decide ((List.length a0 : Int) > 19)))]) (L' := []) (by kernel_rfl) ?_
      refine To.thenN ?_
      refine Wp.cond (b := (decide ((List.length a0 : Int) > 19))) (by kernel_rfl) (fun hb => ?_) (fun hb => ?_)
      · replace h := if_t hb h
        refine Wp.seq ?_
        refine rg [4, 5] [] (K' := [(4, vi 0), (5, vi 9)]) (L' := []) (by kernel_rfl) ?_
        refine To.thenN ?_
        refine Wp.ret ?_
        refine To.thenR ?_
        refine To.keep (kk := [4, 5]) (kl := []) (K' := [(4, vi 0), (5, vi 9)]) (L' := []) (by kernel_rfl) (by kernel_rfl) ?_
        cases h
        exact To.done hΓ (by kernel_rfl)
      · replace h := if_f hb h
        refine Wp.skip (To.thenN (Wp.seq ?_))
        refine rg [0, 1, 6] [] (K' := [(0, .str a0), (1, vi a1), (6, .val (.int .u64 0))]) (L' := []) (by kernel_rfl) ?_
        refine To.thenN (Wp.seq (Wp.seq ?_))
        refine rg [0, 1, 6, 7] [] (K' := [(0, .str a0), (1, vi a1), (6, .val (.int .u64 0)), (7, vi 0)]) (L' := []) (by kernel_rfl) ?_
        refine To.thenN (Wp.block ?_)
        obtain ⟨o2, ho2, h⟩ := bind_of h
        refine Wp.keep (kk := [0, 1, 6, 7]) (kl := []) (K' := [(0, .str a0), (1, vi a1), (6, .val (.int .u64 0)), (7, vi 0)]) (L' := []) (by kernel_rfl) (by kernel_rfl) ?_
        refine Wp.loopL ?_
        refine ok_ref01_Count_l1 n a0 a1 n 0 0 o2 ho2 ?_
        refine To.blockX ?_
        refine To.thenN (Wp.seq (Wp.seq ?_))
        refine rg [6, 33] [] (K' := [(6, .val (.int .u64 o2)), (33, vb (decide (o2 > (IntKind.wrap .u64 (a1)))))]) (L' := []) (by kernel_rfl) ?_
        refine To.thenN ?_
        refine Wp.cond (b := (decide (o2 > (IntKind.wrap .u64 (a1))))) (by kernel_rfl) (fun hb => ?_) (fun hb => ?_)
        · replace h := if_t hb h
          refine Wp.seq ?_
          refine rg [4, 5] [] (K' := [(4, vi 0), (5, vi 9)]) (L' := []) (by kernel_rfl) ?_
          refine To.thenN ?_
          refine Wp.ret ?_
          refine To.thenR ?_
          refine To.keep (kk := [4, 5]) (kl := []) (K' := [(4, vi 0), (5, vi 9)]) (L' := []) (by kernel_rfl) (by kernel_rfl) ?_
          cases h
          exact To.done hΓ (by kernel_rfl)
        · replace h := if_f hb h
          refine Wp.skip (To.thenN (Wp.seq ?_))
          refine rg [4, 5] [] (K' := [(4, vi (IntKind.wrap .i64 (o2))), (5, vi 0)]) (L' := []) (by kernel_rfl) ?_
          refine To.thenN ?_
          refine Wp.ret ?_
          refine To.keep (kk := [4, 5]) (kl := []) (K' := [(4, vi (IntKind.wrap .i64 (o2))), (5, vi 0)]) (L' := []) (by kernel_rfl) (by kernel_rfl) ?_
          cases h
          exact To.done hΓ (by kernel_rfl)
def ref45_number (n : Nat) (a0 : List UInt8) : Option (Int) :=
  (ref01_Count n a0 1099511627776).bind fun r1 =>
  if (r1.2 != 0) = true then (some (-1))
  else some r1.1
theorem ok_ref45_number (n : Nat) (a0 : List UInt8) (r : Int) (h : ref45_number n a0 = some r) : CallsX Tryd.prog 37 [.str a0] (vi r) := by
  unfold ref45_number at h
  refine callsX_of (fn := Tryd.f37) (by kernel_rfl) rfl (by kernel_rfl) (Nat.le_of_ble_eq_true (by kernel_rfl)) fun F0 w0 _ => ?_
  refine Wp.keep (kk := [0]) (kl := []) (K' := [(0, .str a0)]) (L' := []) (by kernel_rfl) (by kernel_rfl) ?_
  refine Wp.seq ?_
  refine rg [0] [] (K' := [(0, .str a0)]) (L' := []) (by kernel_rfl) ?_
  refine To.thenN (Wp.seq ?_)
  obtain ⟨r1, hr1, h⟩ := bind_of h
  refine Wp.region hΓ [] [(1, .tup [vi r1.1, vi r1.2])] [] [3, 4] [] (K' := [(3, vi r1.1), (4, vi r1.2)]) (L' := []) (ob := [(true = true → CX Tryd.prog 60 [.str a0, vi 1099511627776] (.tup [vi r1.1, vi r1.2]))]) (by kernel_rfl) (AllP.cons (fun _ => cx (ok_ref01_Count n a0 1099511627776 _ hr1)) AllP.nil) ?_
  refine To.thenN (Wp.seq (Wp.seq ?_))
  refine rg [3, 11] [] (K' := [(3, vi r1.1), (11, vb (r1.2 != 0))]) (L' := []) (by kernel_rfl) ?_
  refine To.thenN ?_
  refine Wp.cond (b := (r1.2 != 0)) (by kernel_rfl) (fun hb => ?_) (fun hb => ?_)
  · replace h := if_t hb h
    refine Wp.seq ?_
    refine rg [2] [] (K' := [(2, vi (-1))]) (L' := []) (by kernel_rfl) ?_
    refine To.thenN ?_
    refine Wp.ret ?_
    refine To.thenR ?_
    refine To.keep (kk := [2]) (kl := []) (K' := [(2, vi (-1))]) (L' := []) (by kernel_rfl) (by kernel_rfl) ?_
    cases h
    exact To.done hΓ (by kernel_rfl)
  · replace h := if_f hb h
    refine Wp.skip (To.thenN (Wp.seq ?_))
    refine rg [2] [] (K' := [(2, vi r1.1)]) (L' := []) (by kernel_rfl) ?_
    refine To.thenN ?_
    refine Wp.ret ?_
    refine To.keep (kk := [2]) (kl := []) (K' := [(2, vi r1.1)]) (L' := []) (by kernel_rfl) (by kernel_rfl) ?_
    cases h
    exact To.done hΓ (by kernel_rfl)
def ref45_call_j1 (n : Nat) (v0 : List (List UInt8)) (v4 : Int) (v38 : Bool) (b2 : S_api_Call) : Option (Int) :=
  if v38 = true then some 2
  else some v4
theorem ok_ref45_call_j1 (n : Nat) (v0 : List (List UInt8)) (v4 : Int) (v38 : Bool) (b2 : S_api_Call) (o : Int) (h : ref45_call_j1 n v0 v4 v38 b2 = some o) {F0 : Fz} {w0 : Pt Tryd.prog} {Q : Exit → Act → World → Prop} (hQ : To 101 F0 w0 [(0, ls v0), (2, .own 2 0), (4, vi o)] [(2, 30, (E_api_Call b2))] .normal Q) : Wp Tryd.prog 101 F0 w0 [(0, ls v0), (2, .own 2 0), (4, vi v4), (38, vb v38)] [(2, 30, (E_api_Call b2))] (cB (cA (cB (cT (cB (cA (cB (cF Tryd.f35)))))))) Q := by
  unfold ref45_call_j1 at h
  refine Wp.cond (b := v38) (by kernel_rfl) (fun hb => ?_) (fun hb => ?_)
  · replace h := if_t hb h
    refine rg [0, 2, 4] [2] (K' := [(0, ls v0), (2, .own 2 0), (4, vi 2)]) (L' := [(2, 30, (E_api_Call b2))]) (by kernel_rfl) ?_
    refine To.keep (kk := [0, 2, 4]) (kl := [2]) (K' := [(0, ls v0), (2, .own 2 0), (4, vi 2)]) (L' := [(2, 30, (E_api_Call b2))]) (by kernel_rfl) (by kernel_rfl) ?_
    cases h
    exact hQ
  · replace h := if_f hb h
    refine Wp.skip ?_
    refine To.keep (kk := [0, 2, 4]) (kl := [2]) (K' := [(0, ls v0), (2, .own 2 0), (4, vi v4)]) (L' := [(2, 30, (E_api_Call b2))]) (by kernel_rfl) (by kernel_rfl) ?_
    cases h
    exact hQ
def ref45_call_j2 (n : Nat) (v0 : List (List UInt8)) (v5 : Int) (v65 : Bool) (b2 : S_api_Call) : Option (Int) :=
  if v65 = true then some 4
  else some v5
theorem ok_ref45_call_j2 (n : Nat) (v0 : List (List UInt8)) (v5 : Int) (v65 : Bool) (b2 : S_api_Call) (o : Int) (h : ref45_call_j2 n v0 v5 v65 b2 = some o) {F0 : Fz} {w0 : Pt Tryd.prog} {Q : Exit → Act → World → Prop} (hQ : To 101 F0 w0 [(0, ls v0), (2, .own 2 0), (5, vi o)] [(2, 30, (E_api_Call b2))] .normal Q) : Wp Tryd.prog 101 F0 w0 [(0, ls v0), (2, .own 2 0), (5, vi v5), (65, vb v65)] [(2, 30, (E_api_Call b2))] (cB (cA (cB (cT (cB (cA (cB (cB (cB (cF Tryd.f35)))))))))) Q := by
  unfold ref45_call_j2 at h
  refine Wp.cond (b := v65) (by kernel_rfl) (fun hb => ?_) (fun hb => ?_)
  · replace h := if_t hb h
    refine rg [0, 2, 5] [2] (K' := [(0, ls v0), (2, .own 2 0), (5, vi 4)]) (L' := [(2, 30, (E_api_Call b2))]) (by kernel_rfl) ?_
    refine To.keep (kk := [0, 2, 5]) (kl := [2]) (K' := [(0, ls v0), (2, .own 2 0), (5, vi 4)]) (L' := [(2, 30, (E_api_Call b2))]) (by kernel_rfl) (by kernel_rfl) ?_
    cases h
    exact hQ
  · replace h := if_f hb h
    refine Wp.skip ?_
    refine To.keep (kk := [0, 2, 5]) (kl := [2]) (K' := [(0, ls v0), (2, .own 2 0), (5, vi v5)]) (L' := [(2, 30, (E_api_Call b2))]) (by kernel_rfl) (by kernel_rfl) ?_
    cases h
    exact hQ
def ref45_call_l3 (n : Nat) (v0 : List (List UInt8)) (v6 : List (List UInt8)) : Nat → Int → S_api_Call → Option (Sum (S_api_Call) (Bool × S_api_Call))
  | 0, _, _ => none
  | k + 1, v7, b2 => if (decide (v7 < 3)) = true then (if (decide (0 ≤ (0 : Int) ∧ (0 : Int) < (List.length v0 : Int))) = true then (if (decide (0 ≤ v7 ∧ v7 < (List.length v6 : Int))) = true then (if (((v0)[Int.toNat 0]?.getD []) == ((v6)[Int.toNat v7]?.getD [])) = true then (if (decide (0 ≤ (1 : Int) ∧ (1 : Int) < (List.length v0 : Int))) = true then ((ref45_number n ((v0)[Int.toNat 1]?.getD [])).bind fun r13 =>
  (ref45_number n ((v0)[Int.toNat 1]?.getD [])).bind fun r14 =>
  some (.inr ((decide (r14 ≥ 0)), (S_api_Call.mk (IntKind.wrap .i64 (6 + v7)) [] r13 (S_api_Spec.mk [] [] [] 0 [] [] [] (S_api_Check.mk [] 0 0 0) 0 0))))) else none)
  else (ref45_call_l3 n v0 v6 k (IntKind.wrap .i64 (v7 + 1)) b2)) else none) else none)
  else (some (.inl b2))
theorem ok_ref45_call_l3 (n : Nat) (v0 : List (List UInt8)) (v6 : List (List UInt8)) {F0 : Fz} {w0 : Pt Tryd.prog} {Q : Exit → Act → World → Prop} (k : Nat) : ∀ (v7 : Int) (b2 : S_api_Call) (o : Sum (S_api_Call) (Bool × S_api_Call)), ref45_call_l3 n v0 v6 k v7 b2 = some o → (Sum.elim (fun s => To 101 F0 w0 [(2, .own 2 0)] [(2, 30, [vi s.f_Kind, .str s.f_Name, vi s.f_Id, .str s.f_Spec.f_Name, .str s.f_Spec.f_Project, .str s.f_Spec.f_Service, vi s.f_Spec.f_Number, .str s.f_Spec.f_Hash, ls s.f_Spec.f_Nets, ls s.f_Spec.f_Vols, .str s.f_Spec.f_Health.f_Test, vi s.f_Spec.f_Health.f_Every, vi s.f_Spec.f_Health.f_Start, vi s.f_Spec.f_Health.f_Retries, vi s.f_Spec.f_Restart, vi s.f_Spec.f_Tries])] (.exit 0) Q) (fun s => To 101 F0 w0 [(2, .own 2 0), (3, vb s.1)] [(2, 30, [vi s.2.f_Kind, .str s.2.f_Name, vi s.2.f_Id, .str s.2.f_Spec.f_Name, .str s.2.f_Spec.f_Project, .str s.2.f_Spec.f_Service, vi s.2.f_Spec.f_Number, .str s.2.f_Spec.f_Hash, ls s.2.f_Spec.f_Nets, ls s.2.f_Spec.f_Vols, .str s.2.f_Spec.f_Health.f_Test, vi s.2.f_Spec.f_Health.f_Every, vi s.2.f_Spec.f_Health.f_Start, vi s.2.f_Spec.f_Health.f_Retries, vi s.2.f_Spec.f_Restart, vi s.2.f_Spec.f_Tries])] .ret Q)) o → WL Tryd.prog 101 F0 w0 [(0, ls v0), (2, .own 2 0), (6, .row 1006), (7, vi v7)] [(2, 30, (E_api_Call b2)), (1006, 9, [.rowc false (α := List UInt8) [] E_string v6])] (cI (cI (cB (cA (cB (cB (cB (cB (cB (cF Tryd.f35)))))))))) Q := by
  induction k with
  | zero => intro v7 b2 o h; cases h
  | succ k ih =>
    intro v7 b2 o h hQ
    rw [ref45_call_l3] at h
    refine WL.round ?_
    refine Wp.seq (Wp.seq ?_)
    refine rg [0, 2, 6, 7, 77] [2, 1006] (K' := [(0, ls v0), (2, .own 2 0), (6, .row 1006), (7, vi v7), (77, vb (decide (v7 < 3)))]) (L' := [(2, 30, (E_api_Call b2)), (1006, 9, [.rowc false (α := List UInt8) [] E_string v6])]) (by kernel_rfl) ?_
    refine To.thenN ?_
    refine Wp.cond (b := (decide (v7 < 3))) (by kernel_rfl) (fun hb => ?_) (fun hb => ?_)
    · replace h := if_t hb h
      refine Wp.skip (To.thenN (Wp.seq (Wp.block (Wp.seq ?_))))
      obtain ⟨hc16, h⟩ := chk_of h
      obtain ⟨hc17, h⟩ := chk_of h
      refine Wp.regionD hm hΓ [] [0, 2, 6, 7, 87] [2, 1006] (K' := [(0, ls v0), (2, .own 2 0), (6, .row 1006), (7, vi v7), (87, vb (((v0)[Int.toNat 0]?.getD []) == ((v6)[Int.toNat v7]?.getD [])))]) (L' := [(2, 30, (E_api_Call b2)), (1006, 9, [.rowc false (α := List UInt8) [] E_string v6])]) (ob := [(decide (0 ≤ (0 : Int) ∧ (0 : Int) < (List.length v0 : Int))) = true, (decide (0 ≤ v7 ∧ v7 < (List.length v6 : Int))) = true, (decide (0 ≤ v7 ∧ v7 < (List.length v6 : Int))) = true]) (by kernel_rfl) (AllP.cons hc16 (AllP.cons hc17 (AllP.cons hc17 AllP.nil))) ?_
      refine To.thenN ?_
      refine Wp.cond (b := (((v0)[Int.toNat 0]?.getD []) == ((v6)[Int.toNat v7]?.getD []))) (by kernel_rfl) (fun hb => ?_) (fun hb => ?_)
      · replace h := if_t hb h
        refine Wp.seq ?_
        obtain ⟨hc15, h⟩ := chk_of h
        obtain ⟨r13, hr13, h⟩ := bind_of h
        obtain ⟨r14, hr14, h⟩ := bind_of h
        refine Wp.regionD hm hΓ [(5, vi r13), (10, vi r14)] [2, 3] [2] (K' := [(2, .own 2 0), (3, vb (decide (r14 ≥ 0)))]) (L' := [(2, 30, [vi (IntKind.wrap .i64 (6 + v7)), .str [], vi r13, .str [], .str [], .str [], vi 0, .str [], .val (.slice none 0 0), .val (.slice none 0 0), .str [], vi 0, vi 0, vi 0, vi 0, vi 0])]) (ob := [(decide (0 ≤ (1 : Int) ∧ (1 : Int) < (List.length v0 : Int))) = true, (true = true → CX Tryd.prog 37 [.str ((v0)[Int.toNat 1]?.getD [])] (vi r13)), (decide (0 ≤ (1 : Int) ∧ (1 : Int) < (List.length v0 : Int))) = true, (true = true → CX Tryd.prog 37 [.str ((v0)[Int.toNat 1]?.getD [])] (vi r14))]) (by kernel_rfl) (AllP.cons hc15 (AllP.cons (fun _ => cx (ok_ref45_number n ((v0)[Int.toNat 1]?.getD []) _ hr13)) (AllP.cons hc15 (AllP.cons (fun _ => cx (ok_ref45_number n ((v0)[Int.toNat 1]?.getD []) _ hr14)) AllP.nil)))) ?_
        refine To.thenN ?_
        refine Wp.ret ?_
        refine To.blockR ?_
        refine To.thenR ?_
        refine To.thenR ?_
        refine To.keep (kk := [2, 3]) (kl := [2]) (K' := [(2, .own 2 0), (3, vb (decide (r14 ≥ 0)))]) (L' := [(2, 30, [vi (IntKind.wrap .i64 (6 + v7)), .str [], vi r13, .str [], .str [], .str [], vi 0, .str [], .val (.slice none 0 0), .val (.slice none 0 0), .str [], vi 0, vi 0, vi 0, vi 0, vi 0])]) (by kernel_rfl) (by kernel_rfl) ?_
        refine To.weak (K' := [(2, .own 2 0), (3, vb (decide (r14 ≥ 0)))]) (L' := [(2, 30, [vi (IntKind.wrap .i64 (6 + v7)), .str [], vi r13, .str [], .str [], .str [], vi 0, .str [], ls [], ls [], .str [], vi 0, vi 0, vi 0, vi 0, vi 0])]) (.cons (.refl _) (.cons (.refl _) .nil)) (.cons (.cons (.refl _) (.cons (.refl _) (.cons (.refl _) (.cons (.refl _) (.cons (.refl _) (.cons (.refl _) (.cons (.refl _) (.cons (.refl _) (.cons (.zero _ _) (.cons (.zero _ _) (.cons (.refl _) (.cons (.refl _) (.cons (.refl _) (.cons (.refl _) (.cons (.refl _) (.cons (.refl _) .nil)))))))))))))))) .nil) ?_
        cases h
        exact hQ
      · replace h := if_f hb h
        refine Wp.skip ?_
        refine To.blockN ?_
        refine To.thenN ?_
        refine rg [0, 2, 6, 7] [2, 1006] (K' := [(0, ls v0), (2, .own 2 0), (6, .row 1006), (7, vi (IntKind.wrap .i64 (v7 + 1)))]) (L' := [(2, 30, (E_api_Call b2)), (1006, 9, [.rowc false (α := List UInt8) [] E_string v6])]) (by kernel_rfl) ?_
        refine To.keep (kk := [0, 2, 6, 7]) (kl := [2, 1006]) (K' := [(0, ls v0), (2, .own 2 0), (6, .row 1006), (7, vi (IntKind.wrap .i64 (v7 + 1)))]) (L' := [(2, 30, (E_api_Call b2)), (1006, 9, [.rowc false (α := List UInt8) [] E_string v6])]) (by kernel_rfl) (by kernel_rfl) ?_
        refine To.again ?_
        exact ih (IntKind.wrap .i64 (v7 + 1)) b2 _ h hQ
    · replace h := if_f hb h
      refine Wp.exit ?_
      refine To.thenX ?_
      refine To.thenX ?_
      refine To.keep (kk := [2]) (kl := [2]) (K' := [(2, .own 2 0)]) (L' := [(2, 30, (E_api_Call b2))]) (by kernel_rfl) (by kernel_rfl) ?_
      cases h
      exact hQ
def ref45_call (n : Nat) (a0 : List (List UInt8)) : Option (S_api_Call × Bool) :=
  if ((!(((List.length a0 : Int) == 3) == true) || decide (0 ≤ (0 : Int) ∧ (0 : Int) < (List.length a0 : Int)))) = true then (if ((!(((((a0)[Int.toNat 0]?.getD []) == [109, 97, 107, 101, 45, 110, 101, 116]) == false) && (((List.length a0 : Int) == 3) == true)) || decide (0 ≤ (0 : Int) ∧ (0 : Int) < (List.length a0 : Int)))) = true then (if ((!((bif ((List.length a0 : Int) == 3) then (bif (((a0)[Int.toNat 0]?.getD []) == [109, 97, 107, 101, 45, 110, 101, 116]) then true else (((a0)[Int.toNat 0]?.getD []) == [109, 97, 107, 101, 45, 118, 111, 108])) else false) == true) || decide (0 ≤ (1 : Int) ∧ (1 : Int) < (List.length a0 : Int)))) = true then (((if ((bif ((List.length a0 : Int) == 3) then (bif (((a0)[Int.toNat 0]?.getD []) == [109, 97, 107, 101, 45, 110, 101, 116]) then true else (((a0)[Int.toNat 0]?.getD []) == [109, 97, 107, 101, 45, 118, 111, 108])) else false) == true) = true then ref45_name n ((a0)[Int.toNat 1]?.getD []) else some false)).bind fun r1 =>
  if ((!((bif (bif ((List.length a0 : Int) == 3) then (bif (((a0)[Int.toNat 0]?.getD []) == [109, 97, 107, 101, 45, 110, 101, 116]) then true else (((a0)[Int.toNat 0]?.getD []) == [109, 97, 107, 101, 45, 118, 111, 108])) else false) then r1 else false) == true) || decide (0 ≤ (2 : Int) ∧ (2 : Int) < (List.length a0 : Int)))) = true then (((if ((bif (bif ((List.length a0 : Int) == 3) then (bif (((a0)[Int.toNat 0]?.getD []) == [109, 97, 107, 101, 45, 110, 101, 116]) then true else (((a0)[Int.toNat 0]?.getD []) == [109, 97, 107, 101, 45, 118, 111, 108])) else false) then r1 else false) == true) = true then ref02_Project n ((a0)[Int.toNat 2]?.getD []) else some false)).bind fun r2 =>
  lett ((bif (bif (bif ((List.length a0 : Int) == 3) then (bif (((a0)[Int.toNat 0]?.getD []) == [109, 97, 107, 101, 45, 110, 101, 116]) then true else (((a0)[Int.toNat 0]?.getD []) == [109, 97, 107, 101, 45, 118, 111, 108])) else false) then r1 else false) then r2 else false) : Bool) fun x3 =>
  if x3 = true then (if (decide (0 ≤ (0 : Int) ∧ (0 : Int) < (List.length a0 : Int))) = true then ((ref45_call_j1 n a0 1 (((a0)[Int.toNat 0]?.getD []) == [109, 97, 107, 101, 45, 118, 111, 108]) (S_api_Call.mk 0 [] 0 (S_api_Spec.mk [] [] [] 0 [] [] [] (S_api_Check.mk [] 0 0 0) 0 0))).bind fun o4 =>
  if (decide (0 ≤ (1 : Int) ∧ (1 : Int) < (List.length a0 : Int))) = true then (if (decide (0 ≤ (2 : Int) ∧ (2 : Int) < (List.length a0 : Int))) = true then (some ((S_api_Call.mk o4 ((a0)[Int.toNat 1]?.getD []) 0 (S_api_Spec.mk [] ((a0)[Int.toNat 2]?.getD []) [] 0 [] [] [] (S_api_Check.mk [] 0 0 0) 0 0)), true)) else none) else none) else none)
  else (if ((List.length a0 : Int) != 2) = true then (some ((S_api_Call.mk 0 [] 0 (S_api_Spec.mk [] [] [] 0 [] [] [] (S_api_Check.mk [] 0 0 0) 0 0)), false))
  else (if (decide (0 ≤ (0 : Int) ∧ (0 : Int) < (List.length a0 : Int))) = true then (if ((!((((a0)[Int.toNat 0]?.getD []) == [100, 114, 111, 112, 45, 110, 101, 116]) == false) || decide (0 ≤ (0 : Int) ∧ (0 : Int) < (List.length a0 : Int)))) = true then (lett ((bif (((a0)[Int.toNat 0]?.getD []) == [100, 114, 111, 112, 45, 110, 101, 116]) then true else (((a0)[Int.toNat 0]?.getD []) == [100, 114, 111, 112, 45, 118, 111, 108])) : Bool) fun x8 =>
  if x8 = true then (if (decide (0 ≤ (0 : Int) ∧ (0 : Int) < (List.length a0 : Int))) = true then ((ref45_call_j2 n a0 3 (((a0)[Int.toNat 0]?.getD []) == [100, 114, 111, 112, 45, 118, 111, 108]) (S_api_Call.mk 0 [] 0 (S_api_Spec.mk [] [] [] 0 [] [] [] (S_api_Check.mk [] 0 0 0) 0 0))).bind fun o9 =>
  if (decide (0 ≤ (1 : Int) ∧ (1 : Int) < (List.length a0 : Int))) = true then ((ref45_name n ((a0)[Int.toNat 1]?.getD [])).bind fun r10 =>
  some ((S_api_Call.mk o9 ((a0)[Int.toNat 1]?.getD []) 0 (S_api_Spec.mk [] [] [] 0 [] [] [] (S_api_Check.mk [] 0 0 0) 0 0)), r10)) else none) else none)
  else ((ref45_call_l3 n a0 ([[115, 116, 97, 114, 116], [115, 116, 111, 112], [100, 114, 111, 112]] : List (List UInt8)) n 0 (S_api_Call.mk 0 [] 0 (S_api_Spec.mk [] [] [] 0 [] [] [] (S_api_Check.mk [] 0 0 0) 0 0))).bind fun o13 =>
  (Sum.elim (fun o13 => some ((S_api_Call.mk 0 [] 0 (S_api_Spec.mk [] [] [] 0 [] [] [] (S_api_Check.mk [] 0 0 0) 0 0)), false)) (fun o13 => some (o13.2, o13.1))) o13)) else none) else none))) else none) else none) else none) else none
theorem ok_ref45_call (n : Nat) (a0 : List (List UInt8)) (r : S_api_Call × Bool) (h : ref45_call n a0 = some r) : CallsX Tryd.prog 35 [ls a0] (.tup [.agg [vi r.1.f_Kind, .str r.1.f_Name, vi r.1.f_Id, .str r.1.f_Spec.f_Name, .str r.1.f_Spec.f_Project, .str r.1.f_Spec.f_Service, vi r.1.f_Spec.f_Number, .str r.1.f_Spec.f_Hash, ls r.1.f_Spec.f_Nets, ls r.1.f_Spec.f_Vols, .str r.1.f_Spec.f_Health.f_Test, vi r.1.f_Spec.f_Health.f_Every, vi r.1.f_Spec.f_Health.f_Start, vi r.1.f_Spec.f_Health.f_Retries, vi r.1.f_Spec.f_Restart, vi r.1.f_Spec.f_Tries], vb r.2]) := by
  unfold ref45_call at h
  refine callsX_of (fn := Tryd.f35) (by kernel_rfl) rfl (by kernel_rfl) (Nat.le_of_ble_eq_true (by kernel_rfl)) fun F0 w0 _ => ?_
  refine Wp.keep (kk := [0]) (kl := []) (K' := [(0, ls a0)]) (L' := []) (by kernel_rfl) (by kernel_rfl) ?_
  refine Wp.seq ?_
  refine rg [0, 2] [2] (K' := [(0, ls a0), (2, .own 2 0)]) (L' := [(2, 30, [vi 0, .str [], vi 0, .str [], .str [], .str [], vi 0, .str [], .val (.slice none 0 0), .val (.slice none 0 0), .str [], vi 0, vi 0, vi 0, vi 0, vi 0])]) (by kernel_rfl) ?_
  refine To.thenN (Wp.seq (Wp.seq ?_))
  obtain ⟨hc16, h⟩ := chk_of h
  obtain ⟨hc17, h⟩ := chk_of h
  obtain ⟨hc18, h⟩ := chk_of h
  obtain ⟨r1, hr1, h⟩ := bind_of h
  obtain ⟨hc19, h⟩ := chk_of h
  obtain ⟨r2, hr2, h⟩ := bind_of h
  obtain ⟨x3, hx3, h⟩ := lett_of h
  refine Wp.region hΓ [] [(19, vb r1), (25, vb r2)] [] [0, 2, 34] [2] (K' := [(0, ls a0), (2, .own 2 0), (34, vb (bif (bif (bif ((List.length a0 : Int) == 3) then (bif (((a0)[Int.toNat 0]?.getD []) == [109, 97, 107, 101, 45, 110, 101, 116]) then true else (((a0)[Int.toNat 0]?.getD []) == [109, 97, 107, 101, 45, 118, 111, 108])) else false) then r1 else false) then r2 else false))]) (L' := [(2, 30, [vi 0, .str [], vi 0, .str [], .str [], .str [], vi 0, .str [], .val (.slice none 0 0), .val (.slice none 0 0), .str [], vi 0, vi 0, vi 0, vi 0, vi 0])]) (ob := [(!(((List.length a0 : Int) == 3) == true) || decide (0 ≤ (0 : Int) ∧ (0 : Int) < (List.length a0 : Int))) = true, (!(((((a0)[Int.toNat 0]?.getD []) == [109, 97, 107, 101, 45, 110, 101, 116]) == false) && (((List.length a0 : Int) == 3) == true)) || decide (0 ≤ (0 : Int) ∧ (0 : Int) < (List.length a0 : Int))) = true, (!((bif ((List.length a0 : Int) == 3) then (bif (((a0)[Int.toNat 0]?.getD []) == [109, 97, 107, 101, 45, 110, 101, 116]) then true else (((a0)[Int.toNat 0]?.getD []) == [109, 97, 107, 101, 45, 118, 111, 108])) else false) == true) || decide (0 ≤ (1 : Int) ∧ (1 : Int) < (List.length a0 : Int))) = true, (((bif ((List.length a0 : Int) == 3) then (bif (((a0)[Int.toNat 0]?.getD []) == [109, 97, 107, 101, 45, 110, 101, 116]) then true else (((a0)[Int.toNat 0]?.getD []) == [109, 97, 107, 101, 45, 118, 111, 108])) else false) == true) = true → CX Tryd.prog 57 [.str ((a0)[Int.toNat 1]?.getD [])] (vb r1)), (!((bif (bif ((List.length a0 : Int) == 3) then (bif (((a0)[Int.toNat 0]?.getD []) == [109, 97, 107, 101, 45, 110, 101, 116]) then true else (((a0)[Int.toNat 0]?.getD []) == [109, 97, 107, 101, 45, 118, 111, 108])) else false) then r1 else false) == true) || decide (0 ≤ (2 : Int) ∧ (2 : Int) < (List.length a0 : Int))) = true, (((bif (bif ((List.length a0 : Int) == 3) then (bif (((a0)[Int.toNat 0]?.getD []) == [109, 97, 107, 101, 45, 110, 101, 116]) then true else (((a0)[Int.toNat 0]?.getD []) == [109, 97, 107, 101, 45, 118, 111, 108])) else false) then r1 else false) == true) = true → CX Tryd.prog 58 [.str ((a0)[Int.toNat 2]?.getD [])] (vb r2))]) (by kernel_rfl) (AllP.cons hc16 (AllP.cons hc17 (AllP.cons hc18 (AllP.cons (fun hg => cx (ok_ref45_name n ((a0)[Int.toNat 1]?.getD []) _ (if_t hg hr1))) (AllP.cons hc19 (AllP.cons (fun hg => cx (ok_ref02_Project n ((a0)[Int.toNat 2]?.getD []) _ (if_t hg hr2))) AllP.nil)))))) ?_
  refine To.eq (K' := [(0, ls a0), (2, .own 2 0), (34, vb x3)]) (L' := [(2, 30, [vi 0, .str [], vi 0, .str [], .str [], .str [], vi 0, .str [], .val (.slice none 0 0), .val (.slice none 0 0), .str [], vi 0, vi 0, vi 0, vi 0, vi 0])]) (by cases hx3; rfl) (by cases hx3; rfl) ?_
  refine To.thenN ?_
  refine Wp.cond (b := x3) (by kernel_rfl) (fun hb => ?_) (fun hb => ?_)
  · replace h := if_t hb h
    refine Wp.seq ?_
    refine rg [0, 2, 4] [2] (K' := [(0, ls a0), (2, .own 2 0), (4, vi 1)]) (L' := [(2, 30, [vi 0, .str [], vi 0, .str [], .str [], .str [], vi 0, .str [], .val (.slice none 0 0), .val (.slice none 0 0), .str [], vi 0, vi 0, vi 0, vi 0, vi 0])]) (by kernel_rfl) ?_
    refine To.thenN (Wp.seq (Wp.seq ?_))
    obtain ⟨hc7, h⟩ := chk_of h
    refine Wp.region hΓ [] [] [] [0, 2, 4, 38] [2] (K' := [(0, ls a0), (2, .own 2 0), (4, vi 1), (38, vb (((a0)[Int.toNat 0]?.getD []) == [109, 97, 107, 101, 45, 118, 111, 108]))]) (L' := [(2, 30, [vi 0, .str [], vi 0, .str [], .str [], .str [], vi 0, .str [], .val (.slice none 0 0), .val (.slice none 0 0), .str [], vi 0, vi 0, vi 0, vi 0, vi 0])]) (ob := [(decide (0 ≤ (0 : Int) ∧ (0 : Int) < (List.length a0 : Int))) = true]) (by kernel_rfl) (AllP.cons hc7 AllP.nil) ?_
    refine To.thenN ?_
    obtain ⟨o4, ho4, h⟩ := bind_of h
    refine Wp.keep (kk := [0, 2, 4, 38]) (kl := [2]) (K' := [(0, ls a0), (2, .own 2 0), (4, vi 1), (38, vb (((a0)[Int.toNat 0]?.getD []) == [109, 97, 107, 101, 45, 118, 111, 108]))]) (L' := [(2, 30, [vi 0, .str [], vi 0, .str [], .str [], .str [], vi 0, .str [], .val (.slice none 0 0), .val (.slice none 0 0), .str [], vi 0, vi 0, vi 0, vi 0, vi 0])]) (by kernel_rfl) (by kernel_rfl) ?_
    refine Wp.weak (K' := [(0, ls a0), (2, .own 2 0), (4, vi 1), (38, vb (((a0)[Int.toNat 0]?.getD []) == [109, 97, 107, 101, 45, 118, 111, 108]))]) (L' := [(2, 30, [vi 0, .str [], vi 0, .str [], .str [], .str [], vi 0, .str [], ls [], ls [], .str [], vi 0, vi 0, vi 0, vi 0, vi 0])]) (.cons (.refl _) (.cons (.refl _) (.cons (.refl _) (.cons (.refl _) .nil)))) (.cons (.cons (.refl _) (.cons (.refl _) (.cons (.refl _) (.cons (.refl _) (.cons (.refl _) (.cons (.refl _) (.cons (.refl _) (.cons (.refl _) (.cons (.zero _ _) (.cons (.zero _ _) (.cons (.refl _) (.cons (.refl _) (.cons (.refl _) (.cons (.refl _) (.cons (.refl _) (.cons (.refl _) .nil)))))))))))))))) .nil) ?_
    refine ok_ref45_call_j1 n a0 1 (((a0)[Int.toNat 0]?.getD []) == [109, 97, 107, 101, 45, 118, 111, 108]) (S_api_Call.mk 0 [] 0 (S_api_Spec.mk [] [] [] 0 [] [] [] (S_api_Check.mk [] 0 0 0) 0 0)) o4 ho4 ?_
    refine To.thenN (Wp.seq ?_)
    obtain ⟨hc5, h⟩ := chk_of h
    obtain ⟨hc6, h⟩ := chk_of h
    refine Wp.regionD hm hΓ [] [2, 3] [2] (K' := [(2, .own 2 0), (3, vb true)]) (L' := [(2, 30, [vi o4, .str ((a0)[Int.toNat 1]?.getD []), vi 0, .str [], .str ((a0)[Int.toNat 2]?.getD []), .str [], vi 0, .str [], .val (.slice none 0 0), .val (.slice none 0 0), .str [], vi 0, vi 0, vi 0, vi 0, vi 0])]) (ob := [(decide (0 ≤ (1 : Int) ∧ (1 : Int) < (List.length a0 : Int))) = true, (decide (0 ≤ (2 : Int) ∧ (2 : Int) < (List.length a0 : Int))) = true]) (by kernel_rfl) (AllP.cons hc5 (AllP.cons hc6 AllP.nil)) ?_
    refine To.thenN ?_
    refine Wp.ret ?_
    refine To.thenR ?_
    refine To.keep (kk := [2, 3]) (kl := [2]) (K' := [(2, .own 2 0), (3, vb true)]) (L' := [(2, 30, [vi o4, .str ((a0)[Int.toNat 1]?.getD []), vi 0, .str [], .str ((a0)[Int.toNat 2]?.getD []), .str [], vi 0, .str [], .val (.slice none 0 0), .val (.slice none 0 0), .str [], vi 0, vi 0, vi 0, vi 0, vi 0])]) (by kernel_rfl) (by kernel_rfl) ?_
    refine To.weak (K' := [(2, .own 2 0), (3, vb true)]) (L' := [(2, 30, [vi o4, .str ((a0)[Int.toNat 1]?.getD []), vi 0, .str [], .str ((a0)[Int.toNat 2]?.getD []), .str [], vi 0, .str [], ls [], ls [], .str [], vi 0, vi 0, vi 0, vi 0, vi 0])]) (.cons (.refl _) (.cons (.refl _) .nil)) (.cons (.cons (.refl _) (.cons (.refl _) (.cons (.refl _) (.cons (.refl _) (.cons (.refl _) (.cons (.refl _) (.cons (.refl _) (.cons (.refl _) (.cons (.zero _ _) (.cons (.zero _ _) (.cons (.refl _) (.cons (.refl _) (.cons (.refl _) (.cons (.refl _) (.cons (.refl _) (.cons (.refl _) .nil)))))))))))))))) .nil) ?_
    cases h
    exact To.done hΓ (by kernel_rfl)
  · replace h := if_f hb h
    refine Wp.skip (To.thenN (Wp.seq (Wp.seq ?_)))
    refine rg [0, 2, 50] [2] (K' := [(0, ls a0), (2, .own 2 0), (50, vb ((List.length a0 : Int) != 2))]) (L' := [(2, 30, [vi 0, .str [], vi 0, .str [], .str [], .str [], vi 0, .str [], .val (.slice none 0 0), .val (.slice none 0 0), .str [], vi 0, vi 0, vi 0, vi 0, vi 0])]) (by kernel_rfl) ?_
    refine To.thenN ?_
    refine Wp.cond (b := ((List.length a0 : Int) != 2)) (by kernel_rfl) (fun hb => ?_) (fun hb => ?_)
    · replace h := if_t hb h
      refine Wp.seq ?_
      refine rg [2, 3] [2] (K' := [(2, .own 2 0), (3, vb false)]) (L' := [(2, 30, [vi 0, .str [], vi 0, .str [], .str [], .str [], vi 0, .str [], .val (.slice none 0 0), .val (.slice none 0 0), .str [], vi 0, vi 0, vi 0, vi 0, vi 0])]) (by kernel_rfl) ?_
      refine To.thenN ?_
      refine Wp.ret ?_
      refine To.thenR ?_
      refine To.keep (kk := [2, 3]) (kl := [2]) (K' := [(2, .own 2 0), (3, vb false)]) (L' := [(2, 30, [vi 0, .str [], vi 0, .str [], .str [], .str [], vi 0, .str [], .val (.slice none 0 0), .val (.slice none 0 0), .str [], vi 0, vi 0, vi 0, vi 0, vi 0])]) (by kernel_rfl) (by kernel_rfl) ?_
      refine To.weak (K' := [(2, .own 2 0), (3, vb false)]) (L' := [(2, 30, [vi 0, .str [], vi 0, .str [], .str [], .str [], vi 0, .str [], ls [], ls [], .str [], vi 0, vi 0, vi 0, vi 0, vi 0])]) (.cons (.refl _) (.cons (.refl _) .nil)) (.cons (.cons (.refl _) (.cons (.refl _) (.cons (.refl _) (.cons (.refl _) (.cons (.refl _) (.cons (.refl _) (.cons (.refl _) (.cons (.refl _) (.cons (.zero _ _) (.cons (.zero _ _) (.cons (.refl _) (.cons (.refl _) (.cons (.refl _) (.cons (.refl _) (.cons (.refl _) (.cons (.refl _) .nil)))))))))))))))) .nil) ?_
      cases h
      exact To.done hΓ (by kernel_rfl)
    · replace h := if_f hb h
      refine Wp.skip (To.thenN (Wp.seq (Wp.seq ?_)))
      obtain ⟨hc14, h⟩ := chk_of h
      obtain ⟨hc15, h⟩ := chk_of h
      obtain ⟨x8, hx8, h⟩ := lett_of h
      refine Wp.region hΓ [] [] [] [0, 2, 61] [2] (K' := [(0, ls a0), (2, .own 2 0), (61, vb (bif (((a0)[Int.toNat 0]?.getD []) == [100, 114, 111, 112, 45, 110, 101, 116]) then true else (((a0)[Int.toNat 0]?.getD []) == [100, 114, 111, 112, 45, 118, 111, 108])))]) (L' := [(2, 30, [vi 0, .str [], vi 0, .str [], .str [], .str [], vi 0, .str [], .val (.slice none 0 0), .val (.slice none 0 0), .str [], vi 0, vi 0, vi 0, vi 0, vi 0])]) (ob := [(decide (0 ≤ (0 : Int) ∧ (0 : Int) < (List.length a0 : Int))) = true, (!((((a0)[Int.toNat 0]?.getD []) == [100, 114, 111, 112, 45, 110, 101, 116]) == false) || decide (0 ≤ (0 : Int) ∧ (0 : Int) < (List.length a0 : Int))) = true]) (by kernel_rfl) (AllP.cons hc14 (AllP.cons hc15 AllP.nil)) ?_
      refine To.eq (K' := [(0, ls a0), (2, .own 2 0), (61, vb x8)]) (L' := [(2, 30, [vi 0, .str [], vi 0, .str [], .str [], .str [], vi 0, .str [], .val (.slice none 0 0), .val (.slice none 0 0), .str [], vi 0, vi 0, vi 0, vi 0, vi 0])]) (by cases hx8; rfl) (by cases hx8; rfl) ?_
      refine To.thenN ?_
      refine Wp.cond (b := x8) (by kernel_rfl) (fun hb => ?_) (fun hb => ?_)
      · replace h := if_t hb h
        refine Wp.seq ?_
        refine rg [0, 2, 5] [2] (K' := [(0, ls a0), (2, .own 2 0), (5, vi 3)]) (L' := [(2, 30, [vi 0, .str [], vi 0, .str [], .str [], .str [], vi 0, .str [], .val (.slice none 0 0), .val (.slice none 0 0), .str [], vi 0, vi 0, vi 0, vi 0, vi 0])]) (by kernel_rfl) ?_
        refine To.thenN (Wp.seq (Wp.seq ?_))
        obtain ⟨hc12, h⟩ := chk_of h
        refine Wp.region hΓ [] [] [] [0, 2, 5, 65] [2] (K' := [(0, ls a0), (2, .own 2 0), (5, vi 3), (65, vb (((a0)[Int.toNat 0]?.getD []) == [100, 114, 111, 112, 45, 118, 111, 108]))]) (L' := [(2, 30, [vi 0, .str [], vi 0, .str [], .str [], .str [], vi 0, .str [], .val (.slice none 0 0), .val (.slice none 0 0), .str [], vi 0, vi 0, vi 0, vi 0, vi 0])]) (ob := [(decide (0 ≤ (0 : Int) ∧ (0 : Int) < (List.length a0 : Int))) = true]) (by kernel_rfl) (AllP.cons hc12 AllP.nil) ?_
        refine To.thenN ?_
        obtain ⟨o9, ho9, h⟩ := bind_of h
        refine Wp.keep (kk := [0, 2, 5, 65]) (kl := [2]) (K' := [(0, ls a0), (2, .own 2 0), (5, vi 3), (65, vb (((a0)[Int.toNat 0]?.getD []) == [100, 114, 111, 112, 45, 118, 111, 108]))]) (L' := [(2, 30, [vi 0, .str [], vi 0, .str [], .str [], .str [], vi 0, .str [], .val (.slice none 0 0), .val (.slice none 0 0), .str [], vi 0, vi 0, vi 0, vi 0, vi 0])]) (by kernel_rfl) (by kernel_rfl) ?_
        refine Wp.weak (K' := [(0, ls a0), (2, .own 2 0), (5, vi 3), (65, vb (((a0)[Int.toNat 0]?.getD []) == [100, 114, 111, 112, 45, 118, 111, 108]))]) (L' := [(2, 30, [vi 0, .str [], vi 0, .str [], .str [], .str [], vi 0, .str [], ls [], ls [], .str [], vi 0, vi 0, vi 0, vi 0, vi 0])]) (.cons (.refl _) (.cons (.refl _) (.cons (.refl _) (.cons (.refl _) .nil)))) (.cons (.cons (.refl _) (.cons (.refl _) (.cons (.refl _) (.cons (.refl _) (.cons (.refl _) (.cons (.refl _) (.cons (.refl _) (.cons (.refl _) (.cons (.zero _ _) (.cons (.zero _ _) (.cons (.refl _) (.cons (.refl _) (.cons (.refl _) (.cons (.refl _) (.cons (.refl _) (.cons (.refl _) .nil)))))))))))))))) .nil) ?_
        refine ok_ref45_call_j2 n a0 3 (((a0)[Int.toNat 0]?.getD []) == [100, 114, 111, 112, 45, 118, 111, 108]) (S_api_Call.mk 0 [] 0 (S_api_Spec.mk [] [] [] 0 [] [] [] (S_api_Check.mk [] 0 0 0) 0 0)) o9 ho9 ?_
        refine To.thenN (Wp.seq ?_)
        obtain ⟨hc11, h⟩ := chk_of h
        obtain ⟨r10, hr10, h⟩ := bind_of h
        refine Wp.regionD hm hΓ [(8, vb r10)] [2, 3] [2] (K' := [(2, .own 2 0), (3, vb r10)]) (L' := [(2, 30, [vi o9, .str ((a0)[Int.toNat 1]?.getD []), vi 0, .str [], .str [], .str [], vi 0, .str [], .val (.slice none 0 0), .val (.slice none 0 0), .str [], vi 0, vi 0, vi 0, vi 0, vi 0])]) (ob := [(decide (0 ≤ (1 : Int) ∧ (1 : Int) < (List.length a0 : Int))) = true, (decide (0 ≤ (1 : Int) ∧ (1 : Int) < (List.length a0 : Int))) = true, (true = true → CX Tryd.prog 57 [.str ((a0)[Int.toNat 1]?.getD [])] (vb r10))]) (by kernel_rfl) (AllP.cons hc11 (AllP.cons hc11 (AllP.cons (fun _ => cx (ok_ref45_name n ((a0)[Int.toNat 1]?.getD []) _ hr10)) AllP.nil))) ?_
        refine To.thenN ?_
        refine Wp.ret ?_
        refine To.thenR ?_
        refine To.keep (kk := [2, 3]) (kl := [2]) (K' := [(2, .own 2 0), (3, vb r10)]) (L' := [(2, 30, [vi o9, .str ((a0)[Int.toNat 1]?.getD []), vi 0, .str [], .str [], .str [], vi 0, .str [], .val (.slice none 0 0), .val (.slice none 0 0), .str [], vi 0, vi 0, vi 0, vi 0, vi 0])]) (by kernel_rfl) (by kernel_rfl) ?_
        refine To.weak (K' := [(2, .own 2 0), (3, vb r10)]) (L' := [(2, 30, [vi o9, .str ((a0)[Int.toNat 1]?.getD []), vi 0, .str [], .str [], .str [], vi 0, .str [], ls [], ls [], .str [], vi 0, vi 0, vi 0, vi 0, vi 0])]) (.cons (.refl _) (.cons (.refl _) .nil)) (.cons (.cons (.refl _) (.cons (.refl _) (.cons (.refl _) (.cons (.refl _) (.cons (.refl _) (.cons (.refl _) (.cons (.refl _) (.cons (.refl _) (.cons (.zero _ _) (.cons (.zero _ _) (.cons (.refl _) (.cons (.refl _) (.cons (.refl _) (.cons (.refl _) (.cons (.refl _) (.cons (.refl _) .nil)))))))))))))))) .nil) ?_
        cases h
        exact To.done hΓ (by kernel_rfl)
      · replace h := if_f hb h
        refine Wp.skip (To.thenN (Wp.seq ?_))
        refine Wp.region hΓ [] [(0, ls ([[115, 116, 97, 114, 116], [115, 116, 111, 112], [100, 114, 111, 112]]))] [] [0, 2, 6] [2, 75] (K' := [(0, ls a0), (2, .own 2 0), (6, .row 75)]) (L' := [(2, 30, [vi 0, .str [], vi 0, .str [], .str [], .str [], vi 0, .str [], .val (.slice none 0 0), .val (.slice none 0 0), .str [], vi 0, vi 0, vi 0, vi 0, vi 0]), (75, 9, [.rowc false (α := List UInt8) [] E_string ([[115, 116, 97, 114, 116], [115, 116, 111, 112], [100, 114, 111, 112]])])]) (ob := [(MkOb 1 [.str [115, 116, 97, 114, 116], .str [115, 116, 111, 112], .str [100, 114, 111, 112]] 3 (ls ([[115, 116, 97, 114, 116], [115, 116, 111, 112], [100, 114, 111, 112]])) ∧ GoodR (ls ([[115, 116, 97, 114, 116], [115, 116, 111, 112], [100, 114, 111, 112]])))]) (by kernel_rfl) (AllP.cons (mkOb (by kernel_rfl) rfl (by kernel_rfl) (good_E_string _)) AllP.nil) ?_
        refine To.thenN (Wp.seq (Wp.seq ?_))
        refine rg [0, 2, 6, 7] [2, 75] (K' := [(0, ls a0), (2, .own 2 0), (6, .row 75), (7, vi 0)]) (L' := [(2, 30, [vi 0, .str [], vi 0, .str [], .str [], .str [], vi 0, .str [], .val (.slice none 0 0), .val (.slice none 0 0), .str [], vi 0, vi 0, vi 0, vi 0, vi 0]), (75, 9, [.rowc false (α := List UInt8) [] E_string ([[115, 116, 97, 114, 116], [115, 116, 111, 112], [100, 114, 111, 112]])])]) (by kernel_rfl) ?_
        refine To.thenN (Wp.block ?_)
        obtain ⟨o13, ho13, h⟩ := bind_of h
        refine Wp.keep (kk := [0, 2, 6, 7]) (kl := [2, 75]) (K' := [(0, ls a0), (2, .own 2 0), (6, .row 75), (7, vi 0)]) (L' := [(2, 30, [vi 0, .str [], vi 0, .str [], .str [], .str [], vi 0, .str [], .val (.slice none 0 0), .val (.slice none 0 0), .str [], vi 0, vi 0, vi 0, vi 0, vi 0]), (75, 9, [.rowc false (α := List UInt8) [] E_string ([[115, 116, 97, 114, 116], [115, 116, 111, 112], [100, 114, 111, 112]])])]) (by kernel_rfl) (by kernel_rfl) ?_
        refine Wp.pre (St.rename 75 1006 (by decide) (K' := [(0, ls a0), (2, .own 2 0), (6, .row 1006), (7, vi 0)]) (L' := [(2, 30, [vi 0, .str [], vi 0, .str [], .str [], .str [], vi 0, .str [], .val (.slice none 0 0), .val (.slice none 0 0), .str [], vi 0, vi 0, vi 0, vi 0, vi 0]), (1006, 9, [.rowc false (α := List UInt8) [] E_string ([[115, 116, 97, 114, 116], [115, 116, 111, 112], [100, 114, 111, 112]])])]) (by kernel_rfl) (by kernel_rfl) (by kernel_rfl)) ?_
        refine Wp.keep (kk := [0, 2, 6, 7]) (kl := [2, 1006]) (K' := [(0, ls a0), (2, .own 2 0), (6, .row 1006), (7, vi 0)]) (L' := [(2, 30, [vi 0, .str [], vi 0, .str [], .str [], .str [], vi 0, .str [], .val (.slice none 0 0), .val (.slice none 0 0), .str [], vi 0, vi 0, vi 0, vi 0, vi 0]), (1006, 9, [.rowc false (α := List UInt8) [] E_string ([[115, 116, 97, 114, 116], [115, 116, 111, 112], [100, 114, 111, 112]])])]) (by kernel_rfl) (by kernel_rfl) ?_
        refine Wp.weak (K' := [(0, ls a0), (2, .own 2 0), (6, .row 1006), (7, vi 0)]) (L' := [(2, 30, [vi 0, .str [], vi 0, .str [], .str [], .str [], vi 0, .str [], ls [], ls [], .str [], vi 0, vi 0, vi 0, vi 0, vi 0]), (1006, 9, [.rowc false (α := List UInt8) [] E_string ([[115, 116, 97, 114, 116], [115, 116, 111, 112], [100, 114, 111, 112]])])]) (.cons (.refl _) (.cons (.refl _) (.cons (.refl _) (.cons (.refl _) .nil)))) (.cons (.cons (.refl _) (.cons (.refl _) (.cons (.refl _) (.cons (.refl _) (.cons (.refl _) (.cons (.refl _) (.cons (.refl _) (.cons (.refl _) (.cons (.zero _ _) (.cons (.zero _ _) (.cons (.refl _) (.cons (.refl _) (.cons (.refl _) (.cons (.refl _) (.cons (.refl _) (.cons (.refl _) .nil)))))))))))))))) (.cons (.cons (.refl _) .nil) .nil)) ?_
        refine Wp.loopL ?_
        refine ok_ref45_call_l3 n a0 ([[115, 116, 97, 114, 116], [115, 116, 111, 112], [100, 114, 111, 112]] : List (List UInt8)) n 0 (S_api_Call.mk 0 [] 0 (S_api_Spec.mk [] [] [] 0 [] [] [] (S_api_Check.mk [] 0 0 0) 0 0)) o13 ho13 ?_
        rcases o13 with o13 | o13
        · replace h := sum_l h
          refine To.blockX ?_
          refine To.thenN (Wp.seq ?_)
          refine rg [2, 3] [2] (K' := [(2, .own 2 0), (3, vb false)]) (L' := [(2, 30, [vi 0, .str [], vi 0, .str [], .str [], .str [], vi 0, .str [], .val (.slice none 0 0), .val (.slice none 0 0), .str [], vi 0, vi 0, vi 0, vi 0, vi 0])]) (by kernel_rfl) ?_
          refine To.thenN ?_
          refine Wp.ret ?_
          refine To.keep (kk := [2, 3]) (kl := [2]) (K' := [(2, .own 2 0), (3, vb false)]) (L' := [(2, 30, [vi 0, .str [], vi 0, .str [], .str [], .str [], vi 0, .str [], .val (.slice none 0 0), .val (.slice none 0 0), .str [], vi 0, vi 0, vi 0, vi 0, vi 0])]) (by kernel_rfl) (by kernel_rfl) ?_
          refine To.weak (K' := [(2, .own 2 0), (3, vb false)]) (L' := [(2, 30, [vi 0, .str [], vi 0, .str [], .str [], .str [], vi 0, .str [], ls [], ls [], .str [], vi 0, vi 0, vi 0, vi 0, vi 0])]) (.cons (.refl _) (.cons (.refl _) .nil)) (.cons (.cons (.refl _) (.cons (.refl _) (.cons (.refl _) (.cons (.refl _) (.cons (.refl _) (.cons (.refl _) (.cons (.refl _) (.cons (.refl _) (.cons (.zero _ _) (.cons (.zero _ _) (.cons (.refl _) (.cons (.refl _) (.cons (.refl _) (.cons (.refl _) (.cons (.refl _) (.cons (.refl _) .nil)))))))))))))))) .nil) ?_
          cases h
          exact To.done hΓ (by kernel_rfl)
        · replace h := sum_r h
          refine To.blockR ?_
          refine To.thenR ?_
          refine To.keep (kk := [2, 3]) (kl := [2]) (K' := [(2, .own 2 0), (3, vb o13.1)]) (L' := [(2, 30, (E_api_Call o13.2))]) (by kernel_rfl) (by kernel_rfl) ?_
          cases h
          exact To.done hΓ (by kernel_rfl)
def ref02_Service_l1 (n : Nat) (v0 : List UInt8) : Nat → Int → Option (Sum (Unit) (Bool))
  | 0, _ => none
  | k + 1, v3 => if (decide (v3 < (List.length v0 : Int))) = true then (if (decide (0 ≤ v3 ∧ v3 < (List.length v0 : Int))) = true then (lett ((bif ((ref02_Kind (((v0)[Int.toNat v3]?.getD 0).toNat : Int)) == 0) then true else (bif (v3 == 0) then (decide ((ref02_Kind (((v0)[Int.toNat v3]?.getD 0).toNat : Int)) > 3)) else false)) : Bool) fun x1 =>
  if x1 = true then (some (.inr false))
  else (ref02_Service_l1 n v0 k (IntKind.wrap .i64 (v3 + 1)))) else none)
  else (some (.inl ()))
theorem ok_ref02_Service_l1 (n : Nat) (v0 : List UInt8) {F0 : Fz} {w0 : Pt Tryd.prog} {Q : Exit → Act → World → Prop} (k : Nat) : ∀ (v3 : Int) (o : Sum (Unit) (Bool)), ref02_Service_l1 n v0 k v3 = some o → (Sum.elim (fun s => To 33 F0 w0 [] [] (.exit 0) Q) (fun s => To 33 F0 w0 [(2, vb s)] [] .ret Q)) o → WL Tryd.prog 33 F0 w0 [(0, .str v0), (3, vi v3)] [] (cI (cI (cB (cA (cB (cB (cF Tryd.f61))))))) Q := by
  induction k with
  | zero => intro v3 o h; cases h
  | succ k ih =>
    intro v3 o h hQ
    rw [ref02_Service_l1] at h
    refine WL.round ?_
    refine Wp.seq (Wp.seq ?_)
    refine rg [0, 3, 16] [] (K' := [(0, .str v0), (3, vi v3), (16, vb (decide (v3 < (List.length v0 : Int))))]) (L' := []) (by kernel_rfl) ?_
    refine To.thenN ?_
    refine Wp.cond (b := (decide (v3 < (List.length v0 : Int)))) (by kernel_rfl) (fun hb => ?_) (fun hb => ?_)
    · replace h := if_t hb h
      refine Wp.skip (To.thenN (Wp.seq (Wp.block (Wp.seq ?_))))
      obtain ⟨hc2, h⟩ := chk_of h
      refine Wp.region hΓ [] [(3, vi (ref02_Kind (((v0)[Int.toNat v3]?.getD 0).toNat : Int)))] [] [0, 3, 4] [] (K' := [(0, .str v0), (3, vi v3), (4, vi (ref02_Kind (((v0)[Int.toNat v3]?.getD 0).toNat : Int)))]) (L' := []) (ob := [(decide (0 ≤ v3 ∧ v3 < (List.length v0 : Int))) = true, (true = true → CX Tryd.prog 78 [.val (.int .u8 (((v0)[Int.toNat v3]?.getD 0).toNat : Int))] (vi (ref02_Kind (((v0)[Int.toNat v3]?.getD 0).toNat : Int))))]) (by kernel_rfl) (AllP.cons hc2 (AllP.cons (fun _ => cx (ok_ref02_Kind (((v0)[Int.toNat v3]?.getD 0).toNat : Int) _ rfl)) AllP.nil)) ?_
      refine To.thenN (Wp.seq ?_)
      obtain ⟨x1, hx1, h⟩ := lett_of h
      refine rg [0, 3, 32] [] (K' := [(0, .str v0), (3, vi v3), (32, vb (bif ((ref02_Kind (((v0)[Int.toNat v3]?.getD 0).toNat : Int)) == 0) then true else (bif (v3 == 0) then (decide ((ref02_Kind (((v0)[Int.toNat v3]?.getD 0).toNat : Int)) > 3)) else false)))]) (L' := []) (by kernel_rfl) ?_
      refine To.eq (K' := [(0, .str v0), (3, vi v3), (32, vb x1)]) (L' := []) (by cases hx1; rfl) (by cases hx1; rfl) ?_
      refine To.thenN ?_
      refine Wp.cond (b := x1) (by kernel_rfl) (fun hb => ?_) (fun hb => ?_)
      · replace h := if_t hb h
        refine Wp.seq ?_
        refine rg [2] [] (K' := [(2, vb false)]) (L' := []) (by kernel_rfl) ?_
        refine To.thenN ?_
        refine Wp.ret ?_
        refine To.blockR ?_
        refine To.thenR ?_
        refine To.thenR ?_
        refine To.keep (kk := [2]) (kl := []) (K' := [(2, vb false)]) (L' := []) (by kernel_rfl) (by kernel_rfl) ?_
        cases h
        exact hQ
      · replace h := if_f hb h
        refine Wp.skip ?_
        refine To.blockN ?_
        refine To.thenN ?_
        refine rg [0, 3] [] (K' := [(0, .str v0), (3, vi (IntKind.wrap .i64 (v3 + 1)))]) (L' := []) (by kernel_rfl) ?_
        refine To.keep (kk := [0, 3]) (kl := []) (K' := [(0, .str v0), (3, vi (IntKind.wrap .i64 (v3 + 1)))]) (L' := []) (by kernel_rfl) (by kernel_rfl) ?_
        refine To.again ?_
        exact ih (IntKind.wrap .i64 (v3 + 1)) _ h hQ
    · replace h := if_f hb h
      refine Wp.exit ?_
      refine To.thenX ?_
      refine To.thenX ?_
      refine To.keep (kk := []) (kl := []) (K' := []) (L' := []) (by kernel_rfl) (by kernel_rfl) ?_
      cases h
      exact hQ
def ref02_Service (n : Nat) (a0 : List UInt8) : Option (Bool) :=
  if (bif (decide ((List.length a0 : Int) < 1)) then true else (decide ((List.length a0 : Int) > 24))) = true then some false
  else ((ref02_Service_l1 n a0 n 0).bind fun o1 =>
  (Sum.elim (fun o1 => some true) (fun o1 => some o1)) o1)
theorem ok_ref02_Service (n : Nat) (a0 : List UInt8) (r : Bool) (h : ref02_Service n a0 = some r) : CallsX Tryd.prog 61 [.str a0] (vb r) := by
  unfold ref02_Service at h
  refine callsX_of (fn := Tryd.f61) (by kernel_rfl) rfl (by kernel_rfl) (Nat.le_of_ble_eq_true (by kernel_rfl)) fun F0 w0 _ => ?_
  refine Wp.keep (kk := [0]) (kl := []) (K' := [(0, .str a0)]) (L' := []) (by kernel_rfl) (by kernel_rfl) ?_
  refine Wp.seq ?_
  refine rg [0] [] (K' := [(0, .str a0)]) (L' := []) (by kernel_rfl) ?_
  refine To.thenN (Wp.seq (Wp.seq ?_))
  refine rg [0, 12] [] (K' := [(0, .str a0), (12, vb (bif (decide ((List.length a0 : Int) < 1)) then true else (decide ((List.length a0 : Int) > 24))))]) (L' := []) (by kernel_rfl) ?_
  refine To.thenN ?_
  refine Wp.cond (b := (bif (decide ((List.length a0 : Int) < 1)) then true else (decide ((List.length a0 : Int) > 24)))) (by kernel_rfl) (fun hb => ?_) (fun hb => ?_)
  · replace h := if_t hb h
    refine Wp.seq ?_
    refine rg [2] [] (K' := [(2, vb false)]) (L' := []) (by kernel_rfl) ?_
    refine To.thenN ?_
    refine Wp.ret ?_
    refine To.thenR ?_
    refine To.keep (kk := [2]) (kl := []) (K' := [(2, vb false)]) (L' := []) (by kernel_rfl) (by kernel_rfl) ?_
    cases h
    exact To.done hΓ (by kernel_rfl)
  · replace h := if_f hb h
    refine Wp.skip (To.thenN (Wp.seq (Wp.seq ?_)))
    refine rg [0, 3] [] (K' := [(0, .str a0), (3, vi 0)]) (L' := []) (by kernel_rfl) ?_
    refine To.thenN (Wp.block ?_)
    obtain ⟨o1, ho1, h⟩ := bind_of h
    refine Wp.keep (kk := [0, 3]) (kl := []) (K' := [(0, .str a0), (3, vi 0)]) (L' := []) (by kernel_rfl) (by kernel_rfl) ?_
    refine Wp.loopL ?_
    refine ok_ref02_Service_l1 n a0 n 0 o1 ho1 ?_
    rcases o1 with o1 | o1
    · replace h := sum_l h
      refine To.blockX ?_
      refine To.thenN (Wp.seq ?_)
      refine rg [2] [] (K' := [(2, vb true)]) (L' := []) (by kernel_rfl) ?_
      refine To.thenN ?_
      refine Wp.ret ?_
      refine To.keep (kk := [2]) (kl := []) (K' := [(2, vb true)]) (L' := []) (by kernel_rfl) (by kernel_rfl) ?_
      cases h
      exact To.done hΓ (by kernel_rfl)
    · replace h := sum_r h
      refine To.blockR ?_
      refine To.thenR ?_
      refine To.keep (kk := [2]) (kl := []) (K' := [(2, vb o1)]) (L' := []) (by kernel_rfl) (by kernel_rfl) ?_
      cases h
      exact To.done hΓ (by kernel_rfl)
def ref45_command__n4_18_19_l1 (n : Nat) (b4 : S_ref45_Step) : Nat → (List (List UInt8)) → S_ref45_Step → Option ((List (List UInt8)) × S_ref45_Step)
  | 0, _, _ => none
  | k + 1, v1, b2 => if ((!((decide ((List.length v1 : Int) > 0)) == true) || decide (0 ≤ (0 : Int) ∧ (0 : Int) < (List.length v1 : Int)))) = true then (((if ((decide ((List.length v1 : Int) > 0)) == true) = true then ref02_Service n ((v1)[Int.toNat 0]?.getD []) else some false)).bind fun r1 =>
  if (bif (decide ((List.length v1 : Int) > 0)) then r1 else false) = true then (if (decide (0 ≤ (0 : Int) ∧ (0 : Int) < (List.length v1 : Int))) = true then (if (decide ((List.length b2.f_Command.f_Services + List.length ([((v1)[Int.toNat 0]?.getD [])] : List (List UInt8))) * (16 + 1) ≤ limit)) = true then (if (decide (0 ≤ (1 : Int) ∧ (1 : Int) ≤ (List.length v1 : Int))) = true then (ref45_command__n4_18_19_l1 n b4 k (List.drop (Int.toNat 1) v1) (S_ref45_Step.mk b2.f_Kind b2.f_N b2.f_M (S_api_Command.mk b2.f_Command.f_Kind (b2.f_Command.f_Services ++ ([((v1)[Int.toNat 0]?.getD [])] : List (List UInt8))) b2.f_Command.f_Count b2.f_Command.f_Orphans b2.f_Command.f_Volumes b2.f_Command.f_Timeout b2.f_Command.f_Retries) b2.f_Call)) else none) else none) else none)
  else (some (v1, b2))) else none
theorem ok_ref45_command__n4_18_19_l1 (n : Nat) (b4 : S_ref45_Step) {F0 : Fz} {w0 : Pt Tryd.prog} {Q : Exit → Act → World → Prop} (k : Nat) : ∀ (v1 : List (List UInt8)) (b2 : S_ref45_Step) (o : (List (List UInt8)) × S_ref45_Step), ref45_command__n4_18_19_l1 n b4 k v1 b2 = some o → To 96 F0 w0 [(1, ls o.1), (2, .own 2 0), (4, .own 4 0)] [(2, 32, [vi o.2.f_Kind, vi o.2.f_N, vi o.2.f_M, vi o.2.f_Command.f_Kind, .row 4124, vi o.2.f_Command.f_Count, vb o.2.f_Command.f_Orphans, vb o.2.f_Command.f_Volumes, vi o.2.f_Command.f_Timeout, vi o.2.f_Command.f_Retries, vi o.2.f_Call.f_Kind, .str o.2.f_Call.f_Name, vi o.2.f_Call.f_Id, .str o.2.f_Call.f_Spec.f_Name, .str o.2.f_Call.f_Spec.f_Project, .str o.2.f_Call.f_Spec.f_Service, vi o.2.f_Call.f_Spec.f_Number, .str o.2.f_Call.f_Spec.f_Hash, ls o.2.f_Call.f_Spec.f_Nets, ls o.2.f_Call.f_Spec.f_Vols, .str o.2.f_Call.f_Spec.f_Health.f_Test, vi o.2.f_Call.f_Spec.f_Health.f_Every, vi o.2.f_Call.f_Spec.f_Health.f_Start, vi o.2.f_Call.f_Spec.f_Health.f_Retries, vi o.2.f_Call.f_Spec.f_Restart, vi o.2.f_Call.f_Spec.f_Tries]), (4, 32, (E_ref45_Step b4)), (4124, 9, [.rowc false (α := List UInt8) [] E_string o.2.f_Command.f_Services])] (.exit 0) Q → WL Tryd.prog 96 F0 w0 [(1, ls v1), (2, .own 2 0), (4, .own 4 0)] [(2, 32, (List.set (E_ref45_Step b2) 4 (.row 4124))), (4, 32, (E_ref45_Step b4)), (4124, 9, [.rowc false (α := List UInt8) [] E_string b2.f_Command.f_Services])] (cI (cI (cA (cB (cF Tryd.f38))))) Q := by
  induction k with
  | zero => intro v1 b2 o h; cases h
  | succ k ih =>
    intro v1 b2 o h hQ
    rw [ref45_command__n4_18_19_l1] at h
    refine WL.round ?_
    refine Wp.seq (Wp.seq ?_)
    obtain ⟨hc5, h⟩ := chk_of h
    obtain ⟨r1, hr1, h⟩ := bind_of h
    refine Wp.region hΓ [] [(7, vb r1)] [] [1, 2, 4, 16] [2, 4, 4124] (K' := [(1, ls v1), (2, .own 2 0), (4, .own 4 0), (16, vb (bif (decide ((List.length v1 : Int) > 0)) then r1 else false))]) (L' := [(2, 32, (List.set (E_ref45_Step b2) 4 (.row 4124))), (4, 32, (E_ref45_Step b4)), (4124, 9, [.rowc false (α := List UInt8) [] E_string b2.f_Command.f_Services])]) (ob := [(!((decide ((List.length v1 : Int) > 0)) == true) || decide (0 ≤ (0 : Int) ∧ (0 : Int) < (List.length v1 : Int))) = true, (((decide ((List.length v1 : Int) > 0)) == true) = true → CX Tryd.prog 61 [.str ((v1)[Int.toNat 0]?.getD [])] (vb r1))]) (by kernel_rfl) (AllP.cons hc5 (AllP.cons (fun hg => cx (ok_ref02_Service n ((v1)[Int.toNat 0]?.getD []) _ (if_t hg hr1))) AllP.nil)) ?_
    refine To.thenN ?_
    refine Wp.cond (b := (bif (decide ((List.length v1 : Int) > 0)) then r1 else false)) (by kernel_rfl) (fun hb => ?_) (fun hb => ?_)
    · replace h := if_t hb h
      refine Wp.skip (To.thenN (Wp.block (Wp.seq ?_)))
      obtain ⟨hc3, h⟩ := chk_of h
      obtain ⟨hc4, h⟩ := chk_of h
      refine Wp.regionD hm hΓ [(6, ls ([((v1)[Int.toNat 0]?.getD [])])), (7, .row 24), (1007, ls (b2.f_Command.f_Services ++ ([((v1)[Int.toNat 0]?.getD [])] : List (List UInt8))))] [1, 2, 4] [2, 4, 24] (K' := [(1, ls v1), (2, .own 2 0), (4, .own 4 0)]) (L' := [(2, 32, (List.set (E_ref45_Step b2) 4 (.row 24))), (4, 32, (E_ref45_Step b4)), (24, 9, [.rowc false (α := List UInt8) [] E_string (b2.f_Command.f_Services ++ ([((v1)[Int.toNat 0]?.getD [])] : List (List UInt8)))])]) (ob := [(decide (0 ≤ (0 : Int) ∧ (0 : Int) < (List.length v1 : Int))) = true, (true = true → MkOb 1 [.str ((v1)[Int.toNat 0]?.getD [])] 1 (ls ([((v1)[Int.toNat 0]?.getD [])])) ∧ GoodR (ls ([((v1)[Int.toNat 0]?.getD [])]))), (decide ((List.length b2.f_Command.f_Services + List.length ([((v1)[Int.toNat 0]?.getD [])] : List (List UInt8))) * (16 + 1) ≤ limit)) = true, (AppOb [] E_string b2.f_Command.f_Services (List.flatMap E_string ([((v1)[Int.toNat 0]?.getD [])] : List (List UInt8))) (List.length ([((v1)[Int.toNat 0]?.getD [])] : List (List UInt8))) (ls (b2.f_Command.f_Services ++ ([((v1)[Int.toNat 0]?.getD [])] : List (List UInt8)))) ∧ GoodR (ls (b2.f_Command.f_Services ++ ([((v1)[Int.toNat 0]?.getD [])] : List (List UInt8)))))]) (by kernel_rfl) (AllP.cons hc3 (AllP.cons (fun _ => mkOb (by kernel_rfl) rfl (by kernel_rfl) (good_E_string _)) (AllP.cons hc4 (AllP.cons (appOb rfl rfl (good_E_string _)) AllP.nil)))) ?_
      refine To.thenN ?_
      obtain ⟨hc2, h⟩ := chk_of h
      refine Wp.region hΓ [] [] [] [1, 2, 4] [2, 4, 24] (K' := [(1, ls (List.drop (Int.toNat 1) v1)), (2, .own 2 0), (4, .own 4 0)]) (L' := [(2, 32, (List.set (E_ref45_Step b2) 4 (.row 24))), (4, 32, (E_ref45_Step b4)), (24, 9, [.rowc false (α := List UInt8) [] E_string (b2.f_Command.f_Services ++ ([((v1)[Int.toNat 0]?.getD [])] : List (List UInt8)))])]) (ob := [(decide (0 ≤ (1 : Int) ∧ (1 : Int) ≤ (List.length v1 : Int))) = true]) (by kernel_rfl) (AllP.cons hc2 AllP.nil) ?_
      refine To.blockN ?_
      refine To.keep (kk := [1, 2, 4]) (kl := [2, 4, 24]) (K' := [(1, ls (List.drop (Int.toNat 1) v1)), (2, .own 2 0), (4, .own 4 0)]) (L' := [(2, 32, (List.set (E_ref45_Step b2) 4 (.row 24))), (4, 32, (E_ref45_Step b4)), (24, 9, [.rowc false (α := List UInt8) [] E_string (b2.f_Command.f_Services ++ ([((v1)[Int.toNat 0]?.getD [])] : List (List UInt8)))])]) (by kernel_rfl) (by kernel_rfl) ?_
      refine To.pre (St.rename 24 4124 (by decide) (K' := [(1, ls (List.drop (Int.toNat 1) v1)), (2, .own 2 0), (4, .own 4 0)]) (L' := [(2, 32, (List.set (E_ref45_Step b2) 4 (.row 4124))), (4, 32, (E_ref45_Step b4)), (4124, 9, [.rowc false (α := List UInt8) [] E_string (b2.f_Command.f_Services ++ ([((v1)[Int.toNat 0]?.getD [])] : List (List UInt8)))])]) (by kernel_rfl) (by kernel_rfl) (by kernel_rfl)) ?_
      refine To.keep (kk := [1, 2, 4]) (kl := [2, 4, 4124]) (K' := [(1, ls (List.drop (Int.toNat 1) v1)), (2, .own 2 0), (4, .own 4 0)]) (L' := [(2, 32, (List.set (E_ref45_Step b2) 4 (.row 4124))), (4, 32, (E_ref45_Step b4)), (4124, 9, [.rowc false (α := List UInt8) [] E_string (b2.f_Command.f_Services ++ ([((v1)[Int.toNat 0]?.getD [])] : List (List UInt8)))])]) (by kernel_rfl) (by kernel_rfl) ?_
      refine To.again ?_
      exact ih (List.drop (Int.toNat 1) v1) (S_ref45_Step.mk b2.f_Kind b2.f_N b2.f_M (S_api_Command.mk b2.f_Command.f_Kind (b2.f_Command.f_Services ++ ([((v1)[Int.toNat 0]?.getD [])] : List (List UInt8))) b2.f_Command.f_Count b2.f_Command.f_Orphans b2.f_Command.f_Volumes b2.f_Command.f_Timeout b2.f_Command.f_Retries) b2.f_Call) _ h hQ
    · replace h := if_f hb h
      refine Wp.exit ?_
      refine To.thenX ?_
      refine To.thenX ?_
      refine To.keep (kk := [1, 2, 4]) (kl := [2, 4, 4124]) (K' := [(1, ls v1), (2, .own 2 0), (4, .own 4 0)]) (L' := [(2, 32, (List.set (E_ref45_Step b2) 4 (.row 4124))), (4, 32, (E_ref45_Step b4)), (4124, 9, [.rowc false (α := List UInt8) [] E_string b2.f_Command.f_Services])]) (by kernel_rfl) (by kernel_rfl) ?_
      cases h
      exact hQ
def ref45_command__n4_18_19_j4 (n : Nat) (v1 : List (List UInt8)) (v6 : List (List UInt8)) (v7 : Int) (v69 : Bool) (b2 : S_ref45_Step) (b4 : S_ref45_Step) : Option (S_ref45_Step) :=
  if v69 = true then (if (decide (0 ≤ (0 : Int) ∧ (0 : Int) < (List.length v1 : Int))) = true then ((ref45_number n ((v1)[Int.toNat 0]?.getD [])).bind fun r3 =>
  some (S_ref45_Step.mk b2.f_Kind b2.f_N b2.f_M (S_api_Command.mk b2.f_Command.f_Kind b2.f_Command.f_Services r3 b2.f_Command.f_Orphans b2.f_Command.f_Volumes b2.f_Command.f_Timeout b2.f_Command.f_Retries) b2.f_Call)) else none)
  else (if (v7 == 3) = true then (if (decide (0 ≤ (0 : Int) ∧ (0 : Int) < (List.length v1 : Int))) = true then ((ref45_number n ((v1)[Int.toNat 0]?.getD [])).bind fun r5 =>
  some (S_ref45_Step.mk b2.f_Kind b2.f_N b2.f_M (S_api_Command.mk b2.f_Command.f_Kind b2.f_Command.f_Services b2.f_Command.f_Count b2.f_Command.f_Orphans b2.f_Command.f_Volumes r5 b2.f_Command.f_Retries) b2.f_Call)) else none)
  else (if (decide (0 ≤ (0 : Int) ∧ (0 : Int) < (List.length v1 : Int))) = true then ((ref45_number n ((v1)[Int.toNat 0]?.getD [])).bind fun r7 =>
  some (S_ref45_Step.mk b2.f_Kind b2.f_N b2.f_M (S_api_Command.mk b2.f_Command.f_Kind b2.f_Command.f_Services b2.f_Command.f_Count b2.f_Command.f_Orphans b2.f_Command.f_Volumes b2.f_Command.f_Timeout r7) b2.f_Call)) else none))
theorem ok_ref45_command__n4_18_19_j4 (n : Nat) (v1 : List (List UInt8)) (v6 : List (List UInt8)) (v7 : Int) (v69 : Bool) (b2 : S_ref45_Step) (b4 : S_ref45_Step) (o : S_ref45_Step) (h : ref45_command__n4_18_19_j4 n v1 v6 v7 v69 b2 b4 = some o) {F0 : Fz} {w0 : Pt Tryd.prog} {Q : Exit → Act → World → Prop} (hQ : To 96 F0 w0 [(1, ls v1), (2, .own 2 0), (4, .own 4 0), (6, .row 1006), (7, vi v7)] [(2, 32, [vi o.f_Kind, vi o.f_N, vi o.f_M, vi o.f_Command.f_Kind, .row 4124, vi o.f_Command.f_Count, vb o.f_Command.f_Orphans, vb o.f_Command.f_Volumes, vi o.f_Command.f_Timeout, vi o.f_Command.f_Retries, vi o.f_Call.f_Kind, .str o.f_Call.f_Name, vi o.f_Call.f_Id, .str o.f_Call.f_Spec.f_Name, .str o.f_Call.f_Spec.f_Project, .str o.f_Call.f_Spec.f_Service, vi o.f_Call.f_Spec.f_Number, .str o.f_Call.f_Spec.f_Hash, ls o.f_Call.f_Spec.f_Nets, ls o.f_Call.f_Spec.f_Vols, .str o.f_Call.f_Spec.f_Health.f_Test, vi o.f_Call.f_Spec.f_Health.f_Every, vi o.f_Call.f_Spec.f_Health.f_Start, vi o.f_Call.f_Spec.f_Health.f_Retries, vi o.f_Call.f_Spec.f_Restart, vi o.f_Call.f_Spec.f_Tries]), (4, 32, (E_ref45_Step b4)), (1006, 9, [.rowc false (α := List UInt8) [] E_string v6]), (4124, 9, [.rowc false (α := List UInt8) [] E_string o.f_Command.f_Services])] .normal Q) : Wp Tryd.prog 96 F0 w0 [(1, ls v1), (2, .own 2 0), (4, .own 4 0), (6, .row 1006), (7, vi v7), (69, vb v69)] [(2, 32, (List.set (E_ref45_Step b2) 4 (.row 4124))), (4, 32, (E_ref45_Step b4)), (1006, 9, [.rowc false (α := List UInt8) [] E_string v6]), (4124, 9, [.rowc false (α := List UInt8) [] E_string b2.f_Command.f_Services])] (cB (cA (cB (cB (cB (cB (cB (cI (cA (cB (cI (cI (cB (cA (cB (cB (cB (cF Tryd.f38)))))))))))))))))) Q := by
  unfold ref45_command__n4_18_19_j4 at h
  refine Wp.cond (b := v69) (by kernel_rfl) (fun hb => ?_) (fun hb => ?_)
  · replace h := if_t hb h
    obtain ⟨hc4, h⟩ := chk_of h
    obtain ⟨r3, hr3, h⟩ := bind_of h
    refine Wp.region hΓ [] [(3, vi r3)] [] [1, 2, 4, 6, 7] [2, 4, 1006, 4124] (K' := [(1, ls v1), (2, .own 2 0), (4, .own 4 0), (6, .row 1006), (7, vi v7)]) (L' := [(2, 32, (List.set (List.set (E_ref45_Step b2) 4 (.row 4124)) 5 (vi r3))), (4, 32, (E_ref45_Step b4)), (1006, 9, [.rowc false (α := List UInt8) [] E_string v6]), (4124, 9, [.rowc false (α := List UInt8) [] E_string b2.f_Command.f_Services])]) (ob := [(decide (0 ≤ (0 : Int) ∧ (0 : Int) < (List.length v1 : Int))) = true, (true = true → CX Tryd.prog 37 [.str ((v1)[Int.toNat 0]?.getD [])] (vi r3))]) (by kernel_rfl) (AllP.cons hc4 (AllP.cons (fun _ => cx (ok_ref45_number n ((v1)[Int.toNat 0]?.getD []) _ hr3)) AllP.nil)) ?_
    refine To.keep (kk := [1, 2, 4, 6, 7]) (kl := [2, 4, 1006, 4124]) (K' := [(1, ls v1), (2, .own 2 0), (4, .own 4 0), (6, .row 1006), (7, vi v7)]) (L' := [(2, 32, (List.set (List.set (E_ref45_Step b2) 4 (.row 4124)) 5 (vi r3))), (4, 32, (E_ref45_Step b4)), (1006, 9, [.rowc false (α := List UInt8) [] E_string v6]), (4124, 9, [.rowc false (α := List UInt8) [] E_string b2.f_Command.f_Services])]) (by kernel_rfl) (by kernel_rfl) ?_
    cases h
    exact hQ
  · replace h := if_f hb h
    refine Wp.seq ?_
    refine rg [1, 2, 4, 6, 7, 77] [2, 4, 1006, 4124] (K' := [(1, ls v1), (2, .own 2 0), (4, .own 4 0), (6, .row 1006), (7, vi v7), (77, vb (v7 == 3))]) (L' := [(2, 32, (List.set (E_ref45_Step b2) 4 (.row 4124))), (4, 32, (E_ref45_Step b4)), (1006, 9, [.rowc false (α := List UInt8) [] E_string v6]), (4124, 9, [.rowc false (α := List UInt8) [] E_string b2.f_Command.f_Services])]) (by kernel_rfl) ?_
    refine To.thenN ?_
    refine Wp.cond (b := (v7 == 3)) (by kernel_rfl) (fun hb => ?_) (fun hb => ?_)
    · replace h := if_t hb h
      obtain ⟨hc6, h⟩ := chk_of h
      obtain ⟨r5, hr5, h⟩ := bind_of h
      refine Wp.region hΓ [] [(3, vi r5)] [] [1, 2, 4, 6, 7] [2, 4, 1006, 4124] (K' := [(1, ls v1), (2, .own 2 0), (4, .own 4 0), (6, .row 1006), (7, vi v7)]) (L' := [(2, 32, (List.set (List.set (E_ref45_Step b2) 4 (.row 4124)) 8 (vi r5))), (4, 32, (E_ref45_Step b4)), (1006, 9, [.rowc false (α := List UInt8) [] E_string v6]), (4124, 9, [.rowc false (α := List UInt8) [] E_string b2.f_Command.f_Services])]) (ob := [(decide (0 ≤ (0 : Int) ∧ (0 : Int) < (List.length v1 : Int))) = true, (true = true → CX Tryd.prog 37 [.str ((v1)[Int.toNat 0]?.getD [])] (vi r5))]) (by kernel_rfl) (AllP.cons hc6 (AllP.cons (fun _ => cx (ok_ref45_number n ((v1)[Int.toNat 0]?.getD []) _ hr5)) AllP.nil)) ?_
      refine To.keep (kk := [1, 2, 4, 6, 7]) (kl := [2, 4, 1006, 4124]) (K' := [(1, ls v1), (2, .own 2 0), (4, .own 4 0), (6, .row 1006), (7, vi v7)]) (L' := [(2, 32, (List.set (List.set (E_ref45_Step b2) 4 (.row 4124)) 8 (vi r5))), (4, 32, (E_ref45_Step b4)), (1006, 9, [.rowc false (α := List UInt8) [] E_string v6]), (4124, 9, [.rowc false (α := List UInt8) [] E_string b2.f_Command.f_Services])]) (by kernel_rfl) (by kernel_rfl) ?_
      cases h
      exact hQ
    · replace h := if_f hb h
      obtain ⟨hc8, h⟩ := chk_of h
      obtain ⟨r7, hr7, h⟩ := bind_of h
      refine Wp.region hΓ [] [(3, vi r7)] [] [1, 2, 4, 6, 7] [2, 4, 1006, 4124] (K' := [(1, ls v1), (2, .own 2 0), (4, .own 4 0), (6, .row 1006), (7, vi v7)]) (L' := [(2, 32, (List.set (List.set (E_ref45_Step b2) 4 (.row 4124)) 9 (vi r7))), (4, 32, (E_ref45_Step b4)), (1006, 9, [.rowc false (α := List UInt8) [] E_string v6]), (4124, 9, [.rowc false (α := List UInt8) [] E_string b2.f_Command.f_Services])]) (ob := [(decide (0 ≤ (0 : Int) ∧ (0 : Int) < (List.length v1 : Int))) = true, (true = true → CX Tryd.prog 37 [.str ((v1)[Int.toNat 0]?.getD [])] (vi r7))]) (by kernel_rfl) (AllP.cons hc8 (AllP.cons (fun _ => cx (ok_ref45_number n ((v1)[Int.toNat 0]?.getD []) _ hr7)) AllP.nil)) ?_
      refine To.keep (kk := [1, 2, 4, 6, 7]) (kl := [2, 4, 1006, 4124]) (K' := [(1, ls v1), (2, .own 2 0), (4, .own 4 0), (6, .row 1006), (7, vi v7)]) (L' := [(2, 32, (List.set (List.set (E_ref45_Step b2) 4 (.row 4124)) 9 (vi r7))), (4, 32, (E_ref45_Step b4)), (1006, 9, [.rowc false (α := List UInt8) [] E_string v6]), (4124, 9, [.rowc false (α := List UInt8) [] E_string b2.f_Command.f_Services])]) (by kernel_rfl) (by kernel_rfl) ?_
      cases h
      exact hQ
def ref45_command__n4_18_19_j3 (n : Nat) (v1 : List (List UInt8)) (v6 : List (List UInt8)) (v7 : Int) (b2 : S_ref45_Step) (b4 : S_ref45_Step) : Option (Sum ((List (List UInt8)) × S_ref45_Step × S_ref45_Step) (Bool × S_ref45_Step)) :=
  if ((!(((List.length v1 : Int) == 0) == false) || decide (0 ≤ (0 : Int) ∧ (0 : Int) < (List.length v1 : Int)))) = true then (if ((!(((List.length v1 : Int) == 0) == false) || decide (0 ≤ v7 ∧ v7 < (List.length v6 : Int)))) = true then (if (bif ((List.length v1 : Int) == 0) then true else (!(((v1)[Int.toNat 0]?.getD []) == ((v6)[Int.toNat v7]?.getD [])))) = true then (some (.inl (v1, b2, b4)))
  else (if (decide (0 ≤ (1 : Int) ∧ (1 : Int) ≤ (List.length v1 : Int))) = true then (if (v7 == 1) = true then (some (.inl ((List.drop (Int.toNat 1) v1), (S_ref45_Step.mk b2.f_Kind b2.f_N b2.f_M (S_api_Command.mk b2.f_Command.f_Kind b2.f_Command.f_Services b2.f_Command.f_Count true b2.f_Command.f_Volumes b2.f_Command.f_Timeout b2.f_Command.f_Retries) b2.f_Call), b4)))
  else (if (v7 == 2) = true then (some (.inl ((List.drop (Int.toNat 1) v1), (S_ref45_Step.mk b2.f_Kind b2.f_N b2.f_M (S_api_Command.mk b2.f_Command.f_Kind b2.f_Command.f_Services b2.f_Command.f_Count b2.f_Command.f_Orphans true b2.f_Command.f_Timeout b2.f_Command.f_Retries) b2.f_Call), b4)))
  else (if ((!(((List.length (List.drop (Int.toNat 1) v1) : Int) == 0) == false) || decide (0 ≤ (0 : Int) ∧ (0 : Int) < (List.length (List.drop (Int.toNat 1) v1) : Int)))) = true then (((if (((List.length (List.drop (Int.toNat 1) v1) : Int) == 0) == false) = true then ref45_number n (((List.drop (Int.toNat 1) v1))[Int.toNat 0]?.getD []) else some 0)).bind fun r2 =>
  if (bif ((List.length (List.drop (Int.toNat 1) v1) : Int) == 0) then true else (decide (r2 < 1))) = true then (some (.inr (false, (S_ref45_Step.mk 0 0 0 (S_api_Command.mk 0 [] 0 false false 0 0) (S_api_Call.mk 0 [] 0 (S_api_Spec.mk [] [] [] 0 [] [] [] (S_api_Check.mk [] 0 0 0) 0 0))))))
  else ((ref45_command__n4_18_19_j4 n (List.drop (Int.toNat 1) v1) v6 v7 (v7 == 0) b2 b4).bind fun o3 =>
  if (decide (0 ≤ (1 : Int) ∧ (1 : Int) ≤ (List.length (List.drop (Int.toNat 1) v1) : Int))) = true then (some (.inl ((List.drop (Int.toNat 1) (List.drop (Int.toNat 1) v1)), o3, b4))) else none)) else none))) else none)) else none) else none
theorem ok_ref45_command__n4_18_19_j3 (n : Nat) (v1 : List (List UInt8)) (v6 : List (List UInt8)) (v7 : Int) (b2 : S_ref45_Step) (b4 : S_ref45_Step) (o : Sum ((List (List UInt8)) × S_ref45_Step × S_ref45_Step) (Bool × S_ref45_Step)) (h : ref45_command__n4_18_19_j3 n v1 v6 v7 b2 b4 = some o) {F0 : Fz} {w0 : Pt Tryd.prog} {Q : Exit → Act → World → Prop} (hQ : (Sum.elim (fun s => To 96 F0 w0 [(1, ls s.1), (2, .own 2 0), (4, .own 4 0), (6, .row 1006), (7, vi v7)] [(2, 32, [vi s.2.1.f_Kind, vi s.2.1.f_N, vi s.2.1.f_M, vi s.2.1.f_Command.f_Kind, .row 4124, vi s.2.1.f_Command.f_Count, vb s.2.1.f_Command.f_Orphans, vb s.2.1.f_Command.f_Volumes, vi s.2.1.f_Command.f_Timeout, vi s.2.1.f_Command.f_Retries, vi s.2.1.f_Call.f_Kind, .str s.2.1.f_Call.f_Name, vi s.2.1.f_Call.f_Id, .str s.2.1.f_Call.f_Spec.f_Name, .str s.2.1.f_Call.f_Spec.f_Project, .str s.2.1.f_Call.f_Spec.f_Service, vi s.2.1.f_Call.f_Spec.f_Number, .str s.2.1.f_Call.f_Spec.f_Hash, ls s.2.1.f_Call.f_Spec.f_Nets, ls s.2.1.f_Call.f_Spec.f_Vols, .str s.2.1.f_Call.f_Spec.f_Health.f_Test, vi s.2.1.f_Call.f_Spec.f_Health.f_Every, vi s.2.1.f_Call.f_Spec.f_Health.f_Start, vi s.2.1.f_Call.f_Spec.f_Health.f_Retries, vi s.2.1.f_Call.f_Spec.f_Restart, vi s.2.1.f_Call.f_Spec.f_Tries]), (4, 32, [vi s.2.2.f_Kind, vi s.2.2.f_N, vi s.2.2.f_M, vi s.2.2.f_Command.f_Kind, ls s.2.2.f_Command.f_Services, vi s.2.2.f_Command.f_Count, vb s.2.2.f_Command.f_Orphans, vb s.2.2.f_Command.f_Volumes, vi s.2.2.f_Command.f_Timeout, vi s.2.2.f_Command.f_Retries, vi s.2.2.f_Call.f_Kind, .str s.2.2.f_Call.f_Name, vi s.2.2.f_Call.f_Id, .str s.2.2.f_Call.f_Spec.f_Name, .str s.2.2.f_Call.f_Spec.f_Project, .str s.2.2.f_Call.f_Spec.f_Service, vi s.2.2.f_Call.f_Spec.f_Number, .str s.2.2.f_Call.f_Spec.f_Hash, ls s.2.2.f_Call.f_Spec.f_Nets, ls s.2.2.f_Call.f_Spec.f_Vols, .str s.2.2.f_Call.f_Spec.f_Health.f_Test, vi s.2.2.f_Call.f_Spec.f_Health.f_Every, vi s.2.2.f_Call.f_Spec.f_Health.f_Start, vi s.2.2.f_Call.f_Spec.f_Health.f_Retries, vi s.2.2.f_Call.f_Spec.f_Restart, vi s.2.2.f_Call.f_Spec.f_Tries]), (1006, 9, [.rowc false (α := List UInt8) [] E_string v6]), (4124, 9, [.rowc false (α := List UInt8) [] E_string s.2.1.f_Command.f_Services])] .normal Q) (fun s => To 96 F0 w0 [(4, .own 4 0), (5, vb s.1)] [(4, 32, [vi s.2.f_Kind, vi s.2.f_N, vi s.2.f_M, vi s.2.f_Command.f_Kind, ls s.2.f_Command.f_Services, vi s.2.f_Command.f_Count, vb s.2.f_Command.f_Orphans, vb s.2.f_Command.f_Volumes, vi s.2.f_Command.f_Timeout, vi s.2.f_Command.f_Retries, vi s.2.f_Call.f_Kind, .str s.2.f_Call.f_Name, vi s.2.f_Call.f_Id, .str s.2.f_Call.f_Spec.f_Name, .str s.2.f_Call.f_Spec.f_Project, .str s.2.f_Call.f_Spec.f_Service, vi s.2.f_Call.f_Spec.f_Number, .str s.2.f_Call.f_Spec.f_Hash, ls s.2.f_Call.f_Spec.f_Nets, ls s.2.f_Call.f_Spec.f_Vols, .str s.2.f_Call.f_Spec.f_Health.f_Test, vi s.2.f_Call.f_Spec.f_Health.f_Every, vi s.2.f_Call.f_Spec.f_Health.f_Start, vi s.2.f_Call.f_Spec.f_Health.f_Retries, vi s.2.f_Call.f_Spec.f_Restart, vi s.2.f_Call.f_Spec.f_Tries])] .ret Q)) o) : Wp Tryd.prog 96 F0 w0 [(1, ls v1), (2, .own 2 0), (4, .own 4 0), (6, .row 1006), (7, vi v7)] [(2, 32, (List.set (E_ref45_Step b2) 4 (.row 4124))), (4, 32, (E_ref45_Step b4)), (1006, 9, [.rowc false (α := List UInt8) [] E_string v6]), (4124, 9, [.rowc false (α := List UInt8) [] E_string b2.f_Command.f_Services])] (cA (cB (cI (cI (cB (cA (cB (cB (cB (cF Tryd.f38)))))))))) Q := by
  unfold ref45_command__n4_18_19_j3 at h
  refine Wp.block (Wp.seq (Wp.seq ?_))
  obtain ⟨hc7, h⟩ := chk_of h
  obtain ⟨hc8, h⟩ := chk_of h
  refine Wp.regionD hm hΓ [] [1, 2, 4, 6, 7, 46] [2, 4, 1006, 4124] (K' := [(1, ls v1), (2, .own 2 0), (4, .own 4 0), (6, .row 1006), (7, vi v7), (46, vb (bif ((List.length v1 : Int) == 0) then true else (!(((v1)[Int.toNat 0]?.getD []) == ((v6)[Int.toNat v7]?.getD [])))))]) (L' := [(2, 32, (List.set (E_ref45_Step b2) 4 (.row 4124))), (4, 32, (E_ref45_Step b4)), (1006, 9, [.rowc false (α := List UInt8) [] E_string v6]), (4124, 9, [.rowc false (α := List UInt8) [] E_string b2.f_Command.f_Services])]) (ob := [(!(((List.length v1 : Int) == 0) == false) || decide (0 ≤ (0 : Int) ∧ (0 : Int) < (List.length v1 : Int))) = true, (!(((List.length v1 : Int) == 0) == false) || decide (0 ≤ v7 ∧ v7 < (List.length v6 : Int))) = true, (!(((List.length v1 : Int) == 0) == false) || decide (0 ≤ v7 ∧ v7 < (List.length v6 : Int))) = true]) (by kernel_rfl) (AllP.cons hc7 (AllP.cons hc8 (AllP.cons hc8 AllP.nil))) ?_
  refine To.thenN ?_
  refine Wp.cond (b := (bif ((List.length v1 : Int) == 0) then true else (!(((v1)[Int.toNat 0]?.getD []) == ((v6)[Int.toNat v7]?.getD []))))) (by kernel_rfl) (fun hb => ?_) (fun hb => ?_)
  · replace h := if_t hb h
    refine Wp.exit ?_
    refine To.thenX ?_
    refine To.blockX ?_
    refine To.keep (kk := [1, 2, 4, 6, 7]) (kl := [2, 4, 1006, 4124]) (K' := [(1, ls v1), (2, .own 2 0), (4, .own 4 0), (6, .row 1006), (7, vi v7)]) (L' := [(2, 32, (List.set (E_ref45_Step b2) 4 (.row 4124))), (4, 32, (E_ref45_Step b4)), (1006, 9, [.rowc false (α := List UInt8) [] E_string v6]), (4124, 9, [.rowc false (α := List UInt8) [] E_string b2.f_Command.f_Services])]) (by kernel_rfl) (by kernel_rfl) ?_
    cases h
    exact hQ
  · replace h := if_f hb h
    refine Wp.skip (To.thenN (Wp.seq ?_))
    obtain ⟨hc6, h⟩ := chk_of h
    refine Wp.region hΓ [] [] [] [1, 2, 4, 6, 7] [2, 4, 1006, 4124] (K' := [(1, ls (List.drop (Int.toNat 1) v1)), (2, .own 2 0), (4, .own 4 0), (6, .row 1006), (7, vi v7)]) (L' := [(2, 32, (List.set (E_ref45_Step b2) 4 (.row 4124))), (4, 32, (E_ref45_Step b4)), (1006, 9, [.rowc false (α := List UInt8) [] E_string v6]), (4124, 9, [.rowc false (α := List UInt8) [] E_string b2.f_Command.f_Services])]) (ob := [(decide (0 ≤ (1 : Int) ∧ (1 : Int) ≤ (List.length v1 : Int))) = true]) (by kernel_rfl) (AllP.cons hc6 AllP.nil) ?_
    refine To.thenN (Wp.seq (Wp.seq ?_))
    refine rg [1, 2, 4, 6, 7, 50] [2, 4, 1006, 4124] (K' := [(1, ls (List.drop (Int.toNat 1) v1)), (2, .own 2 0), (4, .own 4 0), (6, .row 1006), (7, vi v7), (50, vb (v7 == 1))]) (L' := [(2, 32, (List.set (E_ref45_Step b2) 4 (.row 4124))), (4, 32, (E_ref45_Step b4)), (1006, 9, [.rowc false (α := List UInt8) [] E_string v6]), (4124, 9, [.rowc false (α := List UInt8) [] E_string b2.f_Command.f_Services])]) (by kernel_rfl) ?_
    refine To.thenN ?_
    refine Wp.cond (b := (v7 == 1)) (by kernel_rfl) (fun hb => ?_) (fun hb => ?_)
    · replace h := if_t hb h
      refine Wp.seq ?_
      refine rg [1, 2, 4, 6, 7] [2, 4, 1006, 4124] (K' := [(1, ls (List.drop (Int.toNat 1) v1)), (2, .own 2 0), (4, .own 4 0), (6, .row 1006), (7, vi v7)]) (L' := [(2, 32, (List.set (List.set (E_ref45_Step b2) 4 (.row 4124)) 6 (vb true))), (4, 32, (E_ref45_Step b4)), (1006, 9, [.rowc false (α := List UInt8) [] E_string v6]), (4124, 9, [.rowc false (α := List UInt8) [] E_string b2.f_Command.f_Services])]) (by kernel_rfl) ?_
      refine To.thenN ?_
      refine Wp.exit ?_
      refine To.thenX ?_
      refine To.blockX ?_
      refine To.keep (kk := [1, 2, 4, 6, 7]) (kl := [2, 4, 1006, 4124]) (K' := [(1, ls (List.drop (Int.toNat 1) v1)), (2, .own 2 0), (4, .own 4 0), (6, .row 1006), (7, vi v7)]) (L' := [(2, 32, (List.set (List.set (E_ref45_Step b2) 4 (.row 4124)) 6 (vb true))), (4, 32, (E_ref45_Step b4)), (1006, 9, [.rowc false (α := List UInt8) [] E_string v6]), (4124, 9, [.rowc false (α := List UInt8) [] E_string b2.f_Command.f_Services])]) (by kernel_rfl) (by kernel_rfl) ?_
      cases h
      exact hQ
    · replace h := if_f hb h
      refine Wp.skip (To.thenN (Wp.seq (Wp.seq ?_)))
      refine rg [1, 2, 4, 6, 7, 54] [2, 4, 1006, 4124] (K' := [(1, ls (List.drop (Int.toNat 1) v1)), (2, .own 2 0), (4, .own 4 0), (6, .row 1006), (7, vi v7), (54, vb (v7 == 2))]) (L' := [(2, 32, (List.set (E_ref45_Step b2) 4 (.row 4124))), (4, 32, (E_ref45_Step b4)), (1006, 9, [.rowc false (α := List UInt8) [] E_string v6]), (4124, 9, [.rowc false (α := List UInt8) [] E_string b2.f_Command.f_Services])]) (by kernel_rfl) ?_
      refine To.thenN ?_
      refine Wp.cond (b := (v7 == 2)) (by kernel_rfl) (fun hb => ?_) (fun hb => ?_)
      · replace h := if_t hb h
        refine Wp.seq ?_
        refine rg [1, 2, 4, 6, 7] [2, 4, 1006, 4124] (K' := [(1, ls (List.drop (Int.toNat 1) v1)), (2, .own 2 0), (4, .own 4 0), (6, .row 1006), (7, vi v7)]) (L' := [(2, 32, (List.set (List.set (E_ref45_Step b2) 4 (.row 4124)) 7 (vb true))), (4, 32, (E_ref45_Step b4)), (1006, 9, [.rowc false (α := List UInt8) [] E_string v6]), (4124, 9, [.rowc false (α := List UInt8) [] E_string b2.f_Command.f_Services])]) (by kernel_rfl) ?_
        refine To.thenN ?_
        refine Wp.exit ?_
        refine To.thenX ?_
        refine To.blockX ?_
        refine To.keep (kk := [1, 2, 4, 6, 7]) (kl := [2, 4, 1006, 4124]) (K' := [(1, ls (List.drop (Int.toNat 1) v1)), (2, .own 2 0), (4, .own 4 0), (6, .row 1006), (7, vi v7)]) (L' := [(2, 32, (List.set (List.set (E_ref45_Step b2) 4 (.row 4124)) 7 (vb true))), (4, 32, (E_ref45_Step b4)), (1006, 9, [.rowc false (α := List UInt8) [] E_string v6]), (4124, 9, [.rowc false (α := List UInt8) [] E_string b2.f_Command.f_Services])]) (by kernel_rfl) (by kernel_rfl) ?_
        cases h
        exact hQ
      · replace h := if_f hb h
        refine Wp.skip (To.thenN (Wp.seq (Wp.seq ?_)))
        obtain ⟨hc5, h⟩ := chk_of h
        obtain ⟨r2, hr2, h⟩ := bind_of h
        refine Wp.region hΓ [] [(7, vi r2)] [] [1, 2, 4, 6, 7, 66] [2, 4, 1006, 4124] (K' := [(1, ls (List.drop (Int.toNat 1) v1)), (2, .own 2 0), (4, .own 4 0), (6, .row 1006), (7, vi v7), (66, vb (bif ((List.length (List.drop (Int.toNat 1) v1) : Int) == 0) then true else (decide (r2 < 1))))]) (L' := [(2, 32, (List.set (E_ref45_Step b2) 4 (.row 4124))), (4, 32, (E_ref45_Step b4)), (1006, 9, [.rowc false (α := List UInt8) [] E_string v6]), (4124, 9, [.rowc false (α := List UInt8) [] E_string b2.f_Command.f_Services])]) (ob := [(!(((List.length (List.drop (Int.toNat 1) v1) : Int) == 0) == false) || decide (0 ≤ (0 : Int) ∧ (0 : Int) < (List.length (List.drop (Int.toNat 1) v1) : Int))) = true, ((((List.length (List.drop (Int.toNat 1) v1) : Int) == 0) == false) = true → CX Tryd.prog 37 [.str (((List.drop (Int.toNat 1) v1))[Int.toNat 0]?.getD [])] (vi r2))]) (by kernel_rfl) (AllP.cons hc5 (AllP.cons (fun hg => cx (ok_ref45_number n (((List.drop (Int.toNat 1) v1))[Int.toNat 0]?.getD []) _ (if_t hg hr2))) AllP.nil)) ?_
        refine To.thenN ?_
        refine Wp.cond (b := (bif ((List.length (List.drop (Int.toNat 1) v1) : Int) == 0) then true else (decide (r2 < 1)))) (by kernel_rfl) (fun hb => ?_) (fun hb => ?_)
        · replace h := if_t hb h
          refine Wp.seq ?_
          refine rg [4, 5] [4] (K' := [(4, .own 4 0), (5, vb false)]) (L' := [(4, 32, [vi 0, vi 0, vi 0, vi 0, .val (.slice none 0 0), vi 0, vb false, vb false, vi 0, vi 0, vi 0, .str [], vi 0, .str [], .str [], .str [], vi 0, .str [], .val (.slice none 0 0), .val (.slice none 0 0), .str [], vi 0, vi 0, vi 0, vi 0, vi 0])]) (by kernel_rfl) ?_
          refine To.thenN ?_
          refine Wp.ret ?_
          refine To.thenR ?_
          refine To.blockR ?_
          refine To.keep (kk := [4, 5]) (kl := [4]) (K' := [(4, .own 4 0), (5, vb false)]) (L' := [(4, 32, [vi 0, vi 0, vi 0, vi 0, .val (.slice none 0 0), vi 0, vb false, vb false, vi 0, vi 0, vi 0, .str [], vi 0, .str [], .str [], .str [], vi 0, .str [], .val (.slice none 0 0), .val (.slice none 0 0), .str [], vi 0, vi 0, vi 0, vi 0, vi 0])]) (by kernel_rfl) (by kernel_rfl) ?_
          refine To.weak (K' := [(4, .own 4 0), (5, vb false)]) (L' := [(4, 32, [vi 0, vi 0, vi 0, vi 0, ls [], vi 0, vb false, vb false, vi 0, vi 0, vi 0, .str [], vi 0, .str [], .str [], .str [], vi 0, .str [], ls [], ls [], .str [], vi 0, vi 0, vi 0, vi 0, vi 0])]) (.cons (.refl _) (.cons (.refl _) .nil)) (.cons (.cons (.refl _) (.cons (.refl _) (.cons (.refl _) (.cons (.refl _) (.cons (.zero _ _) (.cons (.refl _) (.cons (.refl _) (.cons (.refl _) (.cons (.refl _) (.cons (.refl _) (.cons (.refl _) (.cons (.refl _) (.cons (.refl _) (.cons (.refl _) (.cons (.refl _) (.cons (.refl _) (.cons (.refl _) (.cons (.refl _) (.cons (.zero _ _) (.cons (.zero _ _) (.cons (.refl _) (.cons (.refl _) (.cons (.refl _) (.cons (.refl _) (.cons (.refl _) (.cons (.refl _) .nil)))))))))))))))))))))))))) .nil) ?_
          cases h
          exact hQ
        · replace h := if_f hb h
          refine Wp.skip (To.thenN (Wp.seq (Wp.seq ?_)))
          refine rg [1, 2, 4, 6, 7, 69] [2, 4, 1006, 4124] (K' := [(1, ls (List.drop (Int.toNat 1) v1)), (2, .own 2 0), (4, .own 4 0), (6, .row 1006), (7, vi v7), (69, vb (v7 == 0))]) (L' := [(2, 32, (List.set (E_ref45_Step b2) 4 (.row 4124))), (4, 32, (E_ref45_Step b4)), (1006, 9, [.rowc false (α := List UInt8) [] E_string v6]), (4124, 9, [.rowc false (α := List UInt8) [] E_string b2.f_Command.f_Services])]) (by kernel_rfl) ?_
          refine To.thenN ?_
          obtain ⟨o3, ho3, h⟩ := bind_of h
          refine Wp.keep (kk := [1, 2, 4, 6, 7, 69]) (kl := [2, 4, 1006, 4124]) (K' := [(1, ls (List.drop (Int.toNat 1) v1)), (2, .own 2 0), (4, .own 4 0), (6, .row 1006), (7, vi v7), (69, vb (v7 == 0))]) (L' := [(2, 32, (List.set (E_ref45_Step b2) 4 (.row 4124))), (4, 32, (E_ref45_Step b4)), (1006, 9, [.rowc false (α := List UInt8) [] E_string v6]), (4124, 9, [.rowc false (α := List UInt8) [] E_string b2.f_Command.f_Services])]) (by kernel_rfl) (by kernel_rfl) ?_
          refine ok_ref45_command__n4_18_19_j4 n (List.drop (Int.toNat 1) v1) v6 v7 (v7 == 0) b2 b4 o3 ho3 ?_
          refine To.thenN ?_
          obtain ⟨hc4, h⟩ := chk_of h
          refine Wp.region hΓ [] [] [] [1, 2, 4, 6, 7] [2, 4, 1006, 4124] (K' := [(1, ls (List.drop (Int.toNat 1) (List.drop (Int.toNat 1) v1))), (2, .own 2 0), (4, .own 4 0), (6, .row 1006), (7, vi v7)]) (L' := [(2, 32, (List.set (E_ref45_Step o3) 4 (.row 4124))), (4, 32, (E_ref45_Step b4)), (1006, 9, [.rowc false (α := List UInt8) [] E_string v6]), (4124, 9, [.rowc false (α := List UInt8) [] E_string o3.f_Command.f_Services])]) (ob := [(decide (0 ≤ (1 : Int) ∧ (1 : Int) ≤ (List.length (List.drop (Int.toNat 1) v1) : Int))) = true]) (by kernel_rfl) (AllP.cons hc4 AllP.nil) ?_
          refine To.blockN ?_
          refine To.keep (kk := [1, 2, 4, 6, 7]) (kl := [2, 4, 1006, 4124]) (K' := [(1, ls (List.drop (Int.toNat 1) (List.drop (Int.toNat 1) v1))), (2, .own 2 0), (4, .own 4 0), (6, .row 1006), (7, vi v7)]) (L' := [(2, 32, (List.set (E_ref45_Step o3) 4 (.row 4124))), (4, 32, (E_ref45_Step b4)), (1006, 9, [.rowc false (α := List UInt8) [] E_string v6]), (4124, 9, [.rowc false (α := List UInt8) [] E_string o3.f_Command.f_Services])]) (by kernel_rfl) (by kernel_rfl) ?_
          cases h
          exact hQ
def ref45_command__n4_18_19_l2 (n : Nat) (v6 : List (List UInt8)) : Nat → (List (List UInt8)) → Int → S_ref45_Step → S_ref45_Step → Option (Sum ((List (List UInt8)) × S_ref45_Step × S_ref45_Step) (Bool × S_ref45_Step))
  | 0, _, _, _, _ => none
  | k + 1, v1, v7, b2, b4 => if (decide (v7 < 5)) = true then ((ref45_command__n4_18_19_j3 n v1 v6 v7 b2 b4).bind fun o2 =>
  (Sum.elim (fun o2 => ref45_command__n4_18_19_l2 n v6 k o2.1 (IntKind.wrap .i64 (v7 + 1)) o2.2.1 o2.2.2) (fun o2 => some (.inr (o2.1, o2.2)))) o2)
  else (some (.inl (v1, b2, b4)))
theorem ok_ref45_command__n4_18_19_l2 (n : Nat) (v6 : List (List UInt8)) {F0 : Fz} {w0 : Pt Tryd.prog} {Q : Exit → Act → World → Prop} (k : Nat) : ∀ (v1 : List (List UInt8)) (v7 : Int) (b2 : S_ref45_Step) (b4 : S_ref45_Step) (o : Sum ((List (List UInt8)) × S_ref45_Step × S_ref45_Step) (Bool × S_ref45_Step)), ref45_command__n4_18_19_l2 n v6 k v1 v7 b2 b4 = some o → (Sum.elim (fun s => To 96 F0 w0 [(1, ls s.1), (2, .own 2 0), (4, .own 4 0)] [(2, 32, [vi s.2.1.f_Kind, vi s.2.1.f_N, vi s.2.1.f_M, vi s.2.1.f_Command.f_Kind, .row 4124, vi s.2.1.f_Command.f_Count, vb s.2.1.f_Command.f_Orphans, vb s.2.1.f_Command.f_Volumes, vi s.2.1.f_Command.f_Timeout, vi s.2.1.f_Command.f_Retries, vi s.2.1.f_Call.f_Kind, .str s.2.1.f_Call.f_Name, vi s.2.1.f_Call.f_Id, .str s.2.1.f_Call.f_Spec.f_Name, .str s.2.1.f_Call.f_Spec.f_Project, .str s.2.1.f_Call.f_Spec.f_Service, vi s.2.1.f_Call.f_Spec.f_Number, .str s.2.1.f_Call.f_Spec.f_Hash, ls s.2.1.f_Call.f_Spec.f_Nets, ls s.2.1.f_Call.f_Spec.f_Vols, .str s.2.1.f_Call.f_Spec.f_Health.f_Test, vi s.2.1.f_Call.f_Spec.f_Health.f_Every, vi s.2.1.f_Call.f_Spec.f_Health.f_Start, vi s.2.1.f_Call.f_Spec.f_Health.f_Retries, vi s.2.1.f_Call.f_Spec.f_Restart, vi s.2.1.f_Call.f_Spec.f_Tries]), (4, 32, [vi s.2.2.f_Kind, vi s.2.2.f_N, vi s.2.2.f_M, vi s.2.2.f_Command.f_Kind, ls s.2.2.f_Command.f_Services, vi s.2.2.f_Command.f_Count, vb s.2.2.f_Command.f_Orphans, vb s.2.2.f_Command.f_Volumes, vi s.2.2.f_Command.f_Timeout, vi s.2.2.f_Command.f_Retries, vi s.2.2.f_Call.f_Kind, .str s.2.2.f_Call.f_Name, vi s.2.2.f_Call.f_Id, .str s.2.2.f_Call.f_Spec.f_Name, .str s.2.2.f_Call.f_Spec.f_Project, .str s.2.2.f_Call.f_Spec.f_Service, vi s.2.2.f_Call.f_Spec.f_Number, .str s.2.2.f_Call.f_Spec.f_Hash, ls s.2.2.f_Call.f_Spec.f_Nets, ls s.2.2.f_Call.f_Spec.f_Vols, .str s.2.2.f_Call.f_Spec.f_Health.f_Test, vi s.2.2.f_Call.f_Spec.f_Health.f_Every, vi s.2.2.f_Call.f_Spec.f_Health.f_Start, vi s.2.2.f_Call.f_Spec.f_Health.f_Retries, vi s.2.2.f_Call.f_Spec.f_Restart, vi s.2.2.f_Call.f_Spec.f_Tries]), (4124, 9, [.rowc false (α := List UInt8) [] E_string s.2.1.f_Command.f_Services])] (.exit 2) Q) (fun s => To 96 F0 w0 [(4, .own 4 0), (5, vb s.1)] [(4, 32, [vi s.2.f_Kind, vi s.2.f_N, vi s.2.f_M, vi s.2.f_Command.f_Kind, ls s.2.f_Command.f_Services, vi s.2.f_Command.f_Count, vb s.2.f_Command.f_Orphans, vb s.2.f_Command.f_Volumes, vi s.2.f_Command.f_Timeout, vi s.2.f_Command.f_Retries, vi s.2.f_Call.f_Kind, .str s.2.f_Call.f_Name, vi s.2.f_Call.f_Id, .str s.2.f_Call.f_Spec.f_Name, .str s.2.f_Call.f_Spec.f_Project, .str s.2.f_Call.f_Spec.f_Service, vi s.2.f_Call.f_Spec.f_Number, .str s.2.f_Call.f_Spec.f_Hash, ls s.2.f_Call.f_Spec.f_Nets, ls s.2.f_Call.f_Spec.f_Vols, .str s.2.f_Call.f_Spec.f_Health.f_Test, vi s.2.f_Call.f_Spec.f_Health.f_Every, vi s.2.f_Call.f_Spec.f_Health.f_Start, vi s.2.f_Call.f_Spec.f_Health.f_Retries, vi s.2.f_Call.f_Spec.f_Restart, vi s.2.f_Call.f_Spec.f_Tries])] .ret Q)) o → WL Tryd.prog 96 F0 w0 [(1, ls v1), (2, .own 2 0), (4, .own 4 0), (6, .row 1006), (7, vi v7)] [(2, 32, (List.set (E_ref45_Step b2) 4 (.row 4124))), (4, 32, (E_ref45_Step b4)), (1006, 9, [.rowc false (α := List UInt8) [] E_string v6]), (4124, 9, [.rowc false (α := List UInt8) [] E_string b2.f_Command.f_Services])] (cI (cI (cB (cA (cB (cB (cB (cF Tryd.f38)))))))) Q := by
  induction k with
  | zero => intro v1 v7 b2 b4 o h; cases h
  | succ k ih =>
    intro v1 v7 b2 b4 o h hQ
    rw [ref45_command__n4_18_19_l2] at h
    refine WL.round ?_
    refine Wp.seq (Wp.seq ?_)
    refine rg [1, 2, 4, 6, 7, 31] [2, 4, 1006, 4124] (K' := [(1, ls v1), (2, .own 2 0), (4, .own 4 0), (6, .row 1006), (7, vi v7), (31, vb (decide (v7 < 5)))]) (L' := [(2, 32, (List.set (E_ref45_Step b2) 4 (.row 4124))), (4, 32, (E_ref45_Step b4)), (1006, 9, [.rowc false (α := List UInt8) [] E_string v6]), (4124, 9, [.rowc false (α := List UInt8) [] E_string b2.f_Command.f_Services])]) (by kernel_rfl) ?_
    refine To.thenN ?_
    refine Wp.cond (b := (decide (v7 < 5))) (by kernel_rfl) (fun hb => ?_) (fun hb => ?_)
    · replace h := if_t hb h
      refine Wp.skip (To.thenN (Wp.seq ?_))
      obtain ⟨o2, ho2, h⟩ := bind_of h
      refine Wp.keep (kk := [1, 2, 4, 6, 7]) (kl := [2, 4, 1006, 4124]) (K' := [(1, ls v1), (2, .own 2 0), (4, .own 4 0), (6, .row 1006), (7, vi v7)]) (L' := [(2, 32, (List.set (E_ref45_Step b2) 4 (.row 4124))), (4, 32, (E_ref45_Step b4)), (1006, 9, [.rowc false (α := List UInt8) [] E_string v6]), (4124, 9, [.rowc false (α := List UInt8) [] E_string b2.f_Command.f_Services])]) (by kernel_rfl) (by kernel_rfl) ?_
      refine ok_ref45_command__n4_18_19_j3 n v1 v6 v7 b2 b4 o2 ho2 ?_
      rcases o2 with o2 | o2
      · replace h := sum_l h
        refine To.thenN ?_
        refine rg [1, 2, 4, 6, 7] [2, 4, 1006, 4124] (K' := [(1, ls o2.1), (2, .own 2 0), (4, .own 4 0), (6, .row 1006), (7, vi (IntKind.wrap .i64 (v7 + 1)))]) (L' := [(2, 32, (List.set (E_ref45_Step o2.2.1) 4 (.row 4124))), (4, 32, (E_ref45_Step o2.2.2)), (1006, 9, [.rowc false (α := List UInt8) [] E_string v6]), (4124, 9, [.rowc false (α := List UInt8) [] E_string o2.2.1.f_Command.f_Services])]) (by kernel_rfl) ?_
        refine To.keep (kk := [1, 2, 4, 6, 7]) (kl := [2, 4, 1006, 4124]) (K' := [(1, ls o2.1), (2, .own 2 0), (4, .own 4 0), (6, .row 1006), (7, vi (IntKind.wrap .i64 (v7 + 1)))]) (L' := [(2, 32, (List.set (E_ref45_Step o2.2.1) 4 (.row 4124))), (4, 32, (E_ref45_Step o2.2.2)), (1006, 9, [.rowc false (α := List UInt8) [] E_string v6]), (4124, 9, [.rowc false (α := List UInt8) [] E_string o2.2.1.f_Command.f_Services])]) (by kernel_rfl) (by kernel_rfl) ?_
        refine To.again ?_
        exact ih o2.1 (IntKind.wrap .i64 (v7 + 1)) o2.2.1 o2.2.2 _ h hQ
      · replace h := sum_r h
        refine To.thenR ?_
        refine To.thenR ?_
        refine To.keep (kk := [4, 5]) (kl := [4]) (K' := [(4, .own 4 0), (5, vb o2.1)]) (L' := [(4, 32, (E_ref45_Step o2.2))]) (by kernel_rfl) (by kernel_rfl) ?_
        cases h
        exact hQ
    · replace h := if_f hb h
      refine Wp.exit ?_
      refine To.thenX ?_
      refine To.thenX ?_
      refine To.keep (kk := [1, 2, 4]) (kl := [2, 4, 4124]) (K' := [(1, ls v1), (2, .own 2 0), (4, .own 4 0)]) (L' := [(2, 32, (List.set (E_ref45_Step b2) 4 (.row 4124))), (4, 32, (E_ref45_Step b4)), (4124, 9, [.rowc false (α := List UInt8) [] E_string b2.f_Command.f_Services])]) (by kernel_rfl) (by kernel_rfl) ?_
      cases h
      exact hQ
def ref45_command__n4_18_19 (n : Nat) (c0 : S_ref45_Step) (a1 : List (List UInt8)) : Option (S_ref45_Step × Bool) :=
  (ref45_command__n4_18_19_l1 n (S_ref45_Step.mk 0 0 0 (S_api_Command.mk 0 [] 0 false false 0 0) (S_api_Call.mk 0 [] 0 (S_api_Spec.mk [] [] [] 0 [] [] [] (S_api_Check.mk [] 0 0 0) 0 0))) n a1 (S_ref45_Step.mk c0.f_Kind c0.f_N c0.f_M (S_api_Command.mk c0.f_Command.f_Kind [] c0.f_Command.f_Count c0.f_Command.f_Orphans c0.f_Command.f_Volumes c0.f_Command.f_Timeout c0.f_Command.f_Retries) (S_api_Call.mk c0.f_Call.f_Kind c0.f_Call.f_Name c0.f_Call.f_Id (S_api_Spec.mk c0.f_Call.f_Spec.f_Name c0.f_Call.f_Spec.f_Project c0.f_Call.f_Spec.f_Service c0.f_Call.f_Spec.f_Number c0.f_Call.f_Spec.f_Hash [] [] c0.f_Call.f_Spec.f_Health c0.f_Call.f_Spec.f_Restart c0.f_Call.f_Spec.f_Tries)))).bind fun o1 =>
  (ref45_command__n4_18_19_l2 n ([[45, 110], [45, 111], [45, 118], [45, 116], [45, 114]] : List (List UInt8)) n o1.1 0 o1.2 (S_ref45_Step.mk 0 0 0 (S_api_Command.mk 0 [] 0 false false 0 0) (S_api_Call.mk 0 [] 0 (S_api_Spec.mk [] [] [] 0 [] [] [] (S_api_Check.mk [] 0 0 0) 0 0)))).bind fun o2 =>
  (Sum.elim (fun o2 => some (o2.2.1, ((List.length o2.1 : Int) == 0))) (fun o2 => some (o2.2, o2.1))) o2
theorem ok_ref45_command__n4_18_19 (n : Nat) (c0 : S_ref45_Step) (a1 : List (List UInt8)) (r : S_ref45_Step × Bool) (h : ref45_command__n4_18_19 n c0 a1 = some r) : CallsX Tryd.prog 38 [.agg [vi c0.f_Kind, vi c0.f_N, vi c0.f_M, vi c0.f_Command.f_Kind, .val (.slice none 0 0), vi c0.f_Command.f_Count, vb c0.f_Command.f_Orphans, vb c0.f_Command.f_Volumes, vi c0.f_Command.f_Timeout, vi c0.f_Command.f_Retries, vi c0.f_Call.f_Kind, .str c0.f_Call.f_Name, vi c0.f_Call.f_Id, .str c0.f_Call.f_Spec.f_Name, .str c0.f_Call.f_Spec.f_Project, .str c0.f_Call.f_Spec.f_Service, vi c0.f_Call.f_Spec.f_Number, .str c0.f_Call.f_Spec.f_Hash, .val (.slice none 0 0), .val (.slice none 0 0), .str c0.f_Call.f_Spec.f_Health.f_Test, vi c0.f_Call.f_Spec.f_Health.f_Every, vi c0.f_Call.f_Spec.f_Health.f_Start, vi c0.f_Call.f_Spec.f_Health.f_Retries, vi c0.f_Call.f_Spec.f_Restart, vi c0.f_Call.f_Spec.f_Tries], ls a1] (.tup [.agg [vi r.1.f_Kind, vi r.1.f_N, vi r.1.f_M, vi r.1.f_Command.f_Kind, ls r.1.f_Command.f_Services, vi r.1.f_Command.f_Count, vb r.1.f_Command.f_Orphans, vb r.1.f_Command.f_Volumes, vi r.1.f_Command.f_Timeout, vi r.1.f_Command.f_Retries, vi r.1.f_Call.f_Kind, .str r.1.f_Call.f_Name, vi r.1.f_Call.f_Id, .str r.1.f_Call.f_Spec.f_Name, .str r.1.f_Call.f_Spec.f_Project, .str r.1.f_Call.f_Spec.f_Service, vi r.1.f_Call.f_Spec.f_Number, .str r.1.f_Call.f_Spec.f_Hash, ls r.1.f_Call.f_Spec.f_Nets, ls r.1.f_Call.f_Spec.f_Vols, .str r.1.f_Call.f_Spec.f_Health.f_Test, vi r.1.f_Call.f_Spec.f_Health.f_Every, vi r.1.f_Call.f_Spec.f_Health.f_Start, vi r.1.f_Call.f_Spec.f_Health.f_Retries, vi r.1.f_Call.f_Spec.f_Restart, vi r.1.f_Call.f_Spec.f_Tries], vb r.2]) := by
  unfold ref45_command__n4_18_19 at h
  refine callsX_of (fn := Tryd.f38) (by kernel_rfl) rfl (by kernel_rfl) (Nat.le_of_ble_eq_true (by kernel_rfl)) fun F0 w0 _ => ?_
  refine Wp.keep (kk := [0, 1]) (kl := []) (K' := [(0, .agg (List.set (List.set (List.set (E_ref45_Step c0) 4 (.val (.slice none 0 0))) 18 (.val (.slice none 0 0))) 19 (.val (.slice none 0 0)))), (1, ls a1)]) (L' := []) (by kernel_rfl) (by kernel_rfl) ?_
  refine Wp.seq ?_
  refine rg [1, 2, 4] [2, 4] (K' := [(1, ls a1), (2, .own 2 0), (4, .own 4 0)]) (L' := [(2, 32, (List.set (List.set (List.set (E_ref45_Step c0) 4 (.val (.slice none 0 0))) 18 (.val (.slice none 0 0))) 19 (.val (.slice none 0 0)))), (4, 32, [vi 0, vi 0, vi 0, vi 0, .val (.slice none 0 0), vi 0, vb false, vb false, vi 0, vi 0, vi 0, .str [], vi 0, .str [], .str [], .str [], vi 0, .str [], .val (.slice none 0 0), .val (.slice none 0 0), .str [], vi 0, vi 0, vi 0, vi 0, vi 0])]) (by kernel_rfl) ?_
  refine To.thenN (Wp.seq (Wp.block ?_))
  obtain ⟨o1, ho1, h⟩ := bind_of h
  refine Wp.keep (kk := [1, 2, 4]) (kl := [2, 4]) (K' := [(1, ls a1), (2, .own 2 0), (4, .own 4 0)]) (L' := [(2, 32, (List.set (List.set (List.set (E_ref45_Step c0) 4 (.val (.slice none 0 0))) 18 (.val (.slice none 0 0))) 19 (.val (.slice none 0 0)))), (4, 32, [vi 0, vi 0, vi 0, vi 0, .val (.slice none 0 0), vi 0, vb false, vb false, vi 0, vi 0, vi 0, .str [], vi 0, .str [], .str [], .str [], vi 0, .str [], .val (.slice none 0 0), .val (.slice none 0 0), .str [], vi 0, vi 0, vi 0, vi 0, vi 0])]) (by kernel_rfl) (by kernel_rfl) ?_
  refine Wp.pre (St.vacantB 2 4 4124 9 (good_E_string _) (by decide) (by kernel_rfl) (L' := [(2, 32, (List.set (List.set (List.set (E_ref45_Step c0) 4 (.row 4124)) 18 (.val (.slice none 0 0))) 19 (.val (.slice none 0 0)))), (4, 32, [vi 0, vi 0, vi 0, vi 0, .val (.slice none 0 0), vi 0, vb false, vb false, vi 0, vi 0, vi 0, .str [], vi 0, .str [], .str [], .str [], vi 0, .str [], .val (.slice none 0 0), .val (.slice none 0 0), .str [], vi 0, vi 0, vi 0, vi 0, vi 0])]) (by kernel_rfl)) ?_
  refine Wp.keep (kk := [1, 2, 4]) (kl := [2, 4, 4124]) (K' := [(1, ls a1), (2, .own 2 0), (4, .own 4 0)]) (L' := [(2, 32, (List.set (List.set (List.set (E_ref45_Step c0) 4 (.row 4124)) 18 (.val (.slice none 0 0))) 19 (.val (.slice none 0 0)))), (4, 32, [vi 0, vi 0, vi 0, vi 0, .val (.slice none 0 0), vi 0, vb false, vb false, vi 0, vi 0, vi 0, .str [], vi 0, .str [], .str [], .str [], vi 0, .str [], .val (.slice none 0 0), .val (.slice none 0 0), .str [], vi 0, vi 0, vi 0, vi 0, vi 0]), (4124, 9, [.rowc false (α := List UInt8) [] E_string []])]) (by kernel_rfl) (by kernel_rfl) ?_
  refine Wp.weak (K' := [(1, ls a1), (2, .own 2 0), (4, .own 4 0)]) (L' := [(2, 32, (List.set (List.set (List.set (E_ref45_Step c0) 4 (.row 4124)) 18 (ls [])) 19 (ls []))), (4, 32, [vi 0, vi 0, vi 0, vi 0, ls [], vi 0, vb false, vb false, vi 0, vi 0, vi 0, .str [], vi 0, .str [], .str [], .str [], vi 0, .str [], ls [], ls [], .str [], vi 0, vi 0, vi 0, vi 0, vi 0]), (4124, 9, [.rowc false (α := List UInt8) [] E_string []])]) (.cons (.refl _) (.cons (.refl _) (.cons (.refl _) .nil))) (.cons (.cons (.refl _) (.cons (.refl _) (.cons (.refl _) (.cons (.refl _) (.cons (.refl _) (.cons (.refl _) (.cons (.refl _) (.cons (.refl _) (.cons (.refl _) (.cons (.refl _) (.cons (.refl _) (.cons (.refl _) (.cons (.refl _) (.cons (.refl _) (.cons (.refl _) (.cons (.refl _) (.cons (.refl _) (.cons (.refl _) (.cons (.zero _ _) (.cons (.zero _ _) (.cons (.refl _) (.cons (.refl _) (.cons (.refl _) (.cons (.refl _) (.cons (.refl _) (.cons (.refl _) .nil)))))))))))))))))))))))))) (.cons (.cons (.refl _) (.cons (.refl _) (.cons (.refl _) (.cons (.refl _) (.cons (.zero _ _) (.cons (.refl _) (.cons (.refl _) (.cons (.refl _) (.cons (.refl _) (.cons (.refl _) (.cons (.refl _) (.cons (.refl _) (.cons (.refl _) (.cons (.refl _) (.cons (.refl _) (.cons (.refl _) (.cons (.refl _) (.cons (.refl _) (.cons (.zero _ _) (.cons (.zero _ _) (.cons (.refl _) (.cons (.refl _) (.cons (.refl _) (.cons (.refl _) (.cons (.refl _) (.cons (.refl _) .nil)))))))))))))))))))))))))) (.cons (.cons (.refl _) .nil) .nil))) ?_
  refine Wp.loopL ?_
  refine ok_ref45_command__n4_18_19_l1 n (S_ref45_Step.mk 0 0 0 (S_api_Command.mk 0 [] 0 false false 0 0) (S_api_Call.mk 0 [] 0 (S_api_Spec.mk [] [] [] 0 [] [] [] (S_api_Check.mk [] 0 0 0) 0 0))) n a1 (S_ref45_Step.mk c0.f_Kind c0.f_N c0.f_M (S_api_Command.mk c0.f_Command.f_Kind [] c0.f_Command.f_Count c0.f_Command.f_Orphans c0.f_Command.f_Volumes c0.f_Command.f_Timeout c0.f_Command.f_Retries) (S_api_Call.mk c0.f_Call.f_Kind c0.f_Call.f_Name c0.f_Call.f_Id (S_api_Spec.mk c0.f_Call.f_Spec.f_Name c0.f_Call.f_Spec.f_Project c0.f_Call.f_Spec.f_Service c0.f_Call.f_Spec.f_Number c0.f_Call.f_Spec.f_Hash [] [] c0.f_Call.f_Spec.f_Health c0.f_Call.f_Spec.f_Restart c0.f_Call.f_Spec.f_Tries))) o1 ho1 ?_
  refine To.blockX ?_
  refine To.thenN (Wp.seq ?_)
  refine Wp.region hΓ [] [(0, ls ([[45, 110], [45, 111], [45, 118], [45, 116], [45, 114]]))] [] [1, 2, 4, 6] [2, 4, 29, 4124] (K' := [(1, ls o1.1), (2, .own 2 0), (4, .own 4 0), (6, .row 29)]) (L' := [(2, 32, (List.set (E_ref45_Step o1.2) 4 (.row 4124))), (4, 32, [vi 0, vi 0, vi 0, vi 0, ls [], vi 0, vb false, vb false, vi 0, vi 0, vi 0, .str [], vi 0, .str [], .str [], .str [], vi 0, .str [], ls [], ls [], .str [], vi 0, vi 0, vi 0, vi 0, vi 0]), (29, 9, [.rowc false (α := List UInt8) [] E_string ([[45, 110], [45, 111], [45, 118], [45, 116], [45, 114]])]), (4124, 9, [.rowc false (α := List UInt8) [] E_string o1.2.f_Command.f_Services])]) (ob := [(MkOb 1 [.str [45, 110], .str [45, 111], .str [45, 118], .str [45, 116], .str [45, 114]] 5 (ls ([[45, 110], [45, 111], [45, 118], [45, 116], [45, 114]])) ∧ GoodR (ls ([[45, 110], [45, 111], [45, 118], [45, 116], [45, 114]])))]) (by kernel_rfl) (AllP.cons (mkOb (by kernel_rfl) rfl (by kernel_rfl) (good_E_string _)) AllP.nil) ?_
  refine To.thenN (Wp.seq (Wp.seq ?_))
  refine rg [1, 2, 4, 6, 7] [2, 4, 29, 4124] (K' := [(1, ls o1.1), (2, .own 2 0), (4, .own 4 0), (6, .row 29), (7, vi 0)]) (L' := [(2, 32, (List.set (E_ref45_Step o1.2) 4 (.row 4124))), (4, 32, [vi 0, vi 0, vi 0, vi 0, ls [], vi 0, vb false, vb false, vi 0, vi 0, vi 0, .str [], vi 0, .str [], .str [], .str [], vi 0, .str [], ls [], ls [], .str [], vi 0, vi 0, vi 0, vi 0, vi 0]), (29, 9, [.rowc false (α := List UInt8) [] E_string ([[45, 110], [45, 111], [45, 118], [45, 116], [45, 114]])]), (4124, 9, [.rowc false (α := List UInt8) [] E_string o1.2.f_Command.f_Services])]) (by kernel_rfl) ?_
  refine To.thenN (Wp.block ?_)
  obtain ⟨o2, ho2, h⟩ := bind_of h
  refine Wp.keep (kk := [1, 2, 4, 6, 7]) (kl := [2, 4, 29, 4124]) (K' := [(1, ls o1.1), (2, .own 2 0), (4, .own 4 0), (6, .row 29), (7, vi 0)]) (L' := [(2, 32, (List.set (E_ref45_Step o1.2) 4 (.row 4124))), (4, 32, [vi 0, vi 0, vi 0, vi 0, ls [], vi 0, vb false, vb false, vi 0, vi 0, vi 0, .str [], vi 0, .str [], .str [], .str [], vi 0, .str [], ls [], ls [], .str [], vi 0, vi 0, vi 0, vi 0, vi 0]), (29, 9, [.rowc false (α := List UInt8) [] E_string ([[45, 110], [45, 111], [45, 118], [45, 116], [45, 114]])]), (4124, 9, [.rowc false (α := List UInt8) [] E_string o1.2.f_Command.f_Services])]) (by kernel_rfl) (by kernel_rfl) ?_
  refine Wp.pre (St.rename 29 1006 (by decide) (K' := [(1, ls o1.1), (2, .own 2 0), (4, .own 4 0), (6, .row 1006), (7, vi 0)]) (L' := [(2, 32, (List.set (E_ref45_Step o1.2) 4 (.row 4124))), (4, 32, [vi 0, vi 0, vi 0, vi 0, ls [], vi 0, vb false, vb false, vi 0, vi 0, vi 0, .str [], vi 0, .str [], .str [], .str [], vi 0, .str [], ls [], ls [], .str [], vi 0, vi 0, vi 0, vi 0, vi 0]), (1006, 9, [.rowc false (α := List UInt8) [] E_string ([[45, 110], [45, 111], [45, 118], [45, 116], [45, 114]])]), (4124, 9, [.rowc false (α := List UInt8) [] E_string o1.2.f_Command.f_Services])]) (by kernel_rfl) (by kernel_rfl) (by kernel_rfl)) ?_
  refine Wp.keep (kk := [1, 2, 4, 6, 7]) (kl := [2, 4, 1006, 4124]) (K' := [(1, ls o1.1), (2, .own 2 0), (4, .own 4 0), (6, .row 1006), (7, vi 0)]) (L' := [(2, 32, (List.set (E_ref45_Step o1.2) 4 (.row 4124))), (4, 32, [vi 0, vi 0, vi 0, vi 0, ls [], vi 0, vb false, vb false, vi 0, vi 0, vi 0, .str [], vi 0, .str [], .str [], .str [], vi 0, .str [], ls [], ls [], .str [], vi 0, vi 0, vi 0, vi 0, vi 0]), (1006, 9, [.rowc false (α := List UInt8) [] E_string ([[45, 110], [45, 111], [45, 118], [45, 116], [45, 114]])]), (4124, 9, [.rowc false (α := List UInt8) [] E_string o1.2.f_Command.f_Services])]) (by kernel_rfl) (by kernel_rfl) ?_
  refine Wp.loopL ?_
  refine ok_ref45_command__n4_18_19_l2 n ([[45, 110], [45, 111], [45, 118], [45, 116], [45, 114]] : List (List UInt8)) n o1.1 0 o1.2 (S_ref45_Step.mk 0 0 0 (S_api_Command.mk 0 [] 0 false false 0 0) (S_api_Call.mk 0 [] 0 (S_api_Spec.mk [] [] [] 0 [] [] [] (S_api_Check.mk [] 0 0 0) 0 0))) o2 ho2 ?_
  rcases o2 with o2 | o2
  · replace h := sum_l h
    refine To.blockX ?_
    refine To.thenN (Wp.seq ?_)
    refine rg [4, 5] [4, 4124] (K' := [(4, .own 4 0), (5, vb ((List.length o2.1 : Int) == 0))]) (L' := [(4, 32, (List.set (E_ref45_Step o2.2.1) 4 (.row 4124))), (4124, 9, [.rowc false (α := List UInt8) [] E_string o2.2.1.f_Command.f_Services])]) (by kernel_rfl) ?_
    refine To.thenN ?_
    refine Wp.ret ?_
    refine To.keep (kk := [4, 5]) (kl := [4, 4124]) (K' := [(4, .own 4 0), (5, vb ((List.length o2.1 : Int) == 0))]) (L' := [(4, 32, (List.set (E_ref45_Step o2.2.1) 4 (.row 4124))), (4124, 9, [.rowc false (α := List UInt8) [] E_string o2.2.1.f_Command.f_Services])]) (by kernel_rfl) (by kernel_rfl) ?_
    refine To.pre (St.settle (ks := [4124]) (kk := [4, 5]) (kl := [4, 4124]) (K' := [(4, .own 4 0), (5, vb ((List.length o2.1 : Int) == 0))]) (L' := [(4, 32, (List.set (E_ref45_Step o2.2.1) 4 (.row 4124))), (4124, 9, [.rowc true (α := List UInt8) [] E_string o2.2.1.f_Command.f_Services])]) (by kernel_rfl)) ?_
    refine To.pre (St.sealB [4] (L' := [(4, 32, (E_ref45_Step o2.2.1)), (4124, 9, [.rowc true (α := List UInt8) [] E_string o2.2.1.f_Command.f_Services])]) (by kernel_rfl)) ?_
    refine To.keep (kk := [4, 5]) (kl := [4]) (K' := [(4, .own 4 0), (5, vb ((List.length o2.1 : Int) == 0))]) (L' := [(4, 32, (E_ref45_Step o2.2.1))]) (by kernel_rfl) (by kernel_rfl) ?_
    cases h
    exact To.done hΓ (by kernel_rfl)
  · replace h := sum_r h
    refine To.blockR ?_
    refine To.thenR ?_
    refine To.keep (kk := [4, 5]) (kl := [4]) (K' := [(4, .own 4 0), (5, vb o2.1)]) (L' := [(4, 32, (E_ref45_Step o2.2))]) (by kernel_rfl) (by kernel_rfl) ?_
    cases h
    exact To.done hΓ (by kernel_rfl)
def E_i64 : Int → List D := fun x => [.val (.int .i64 x)]
theorem good_E_i64 (l : List (Int)) : GoodR (.recs 0 E_i64 l) := ⟨Nat.le_of_ble_eq_true (by kernel_rfl), fun _ => ⟨rfl, rfl⟩⟩
def ref45_Line_l1 (n : Nat) (v4 : List (List UInt8)) : Nat → Int → S_ref45_Step → Option (Sum (S_ref45_Step) (Bool × S_ref45_Step))
  | 0, _, _ => none
  | k + 1, v7, b2 => if (decide (v7 ≤ 6)) = true then ((ref44_Command n v7).bind fun r4 =>
  if (decide (0 ≤ (0 : Int) ∧ (0 : Int) < (List.length v4 : Int))) = true then (if (r4 == ((v4)[Int.toNat 0]?.getD [])) = true then (if ((!((decide ((List.length v4 : Int) < 2)) == false) || decide (0 ≤ (1 : Int) ∧ (1 : Int) < (List.length v4 : Int)))) = true then (((if ((decide ((List.length v4 : Int) < 2)) == false) = true then ref45_number n ((v4)[Int.toNat 1]?.getD []) else some 0)).bind fun r5 =>
  if (bif (decide ((List.length v4 : Int) < 2)) then true else (decide (r5 < 0))) = true then (some (.inr (false, (S_ref45_Step.mk 0 0 0 (S_api_Command.mk 0 [] 0 false false 0 0) (S_api_Call.mk 0 [] 0 (S_api_Spec.mk [] [] [] 0 [] [] [] (S_api_Check.mk [] 0 0 0) 0 0))))))
  else (if (decide (0 ≤ (1 : Int) ∧ (1 : Int) < (List.length v4 : Int))) = true then ((ref45_number n ((v4)[Int.toNat 1]?.getD [])).bind fun r6 =>
  if (decide (0 ≤ (2 : Int) ∧ (2 : Int) ≤ (List.length v4 : Int))) = true then ((ref45_command__n4_18_19 n (S_ref45_Step.mk 1 r6 0 (S_api_Command.mk v7 [] 0 false false 0 0) (S_api_Call.mk 0 [] 0 (S_api_Spec.mk [] [] [] 0 [] [] [] (S_api_Check.mk [] 0 0 0) 0 0))) (List.drop (Int.toNat 2) v4)).bind fun r7 =>
  if (!r7.2) = true then (some (.inr (false, (S_ref45_Step.mk 0 0 0 (S_api_Command.mk 0 [] 0 false false 0 0) (S_api_Call.mk 0 [] 0 (S_api_Spec.mk [] [] [] 0 [] [] [] (S_api_Check.mk [] 0 0 0) 0 0))))))
  else (some (.inr (true, r7.1)))) else none) else none)) else none)
  else (ref45_Line_l1 n v4 k (IntKind.wrap .i64 (v7 + 1)) b2)) else none)
  else (some (.inl b2))
theorem ok_ref45_Line_l1 (n : Nat) (v4 : List (List UInt8)) {F0 : Fz} {w0 : Pt Tryd.prog} {Q : Exit → Act → World → Prop} (k : Nat) : ∀ (v7 : Int) (b2 : S_ref45_Step) (o : Sum (S_ref45_Step) (Bool × S_ref45_Step)), ref45_Line_l1 n v4 k v7 b2 = some o → (Sum.elim (fun s => To 154 F0 w0 [(2, .own 2 0), (4, ls v4)] [(2, 32, [vi s.f_Kind, vi s.f_N, vi s.f_M, vi s.f_Command.f_Kind, ls s.f_Command.f_Services, vi s.f_Command.f_Count, vb s.f_Command.f_Orphans, vb s.f_Command.f_Volumes, vi s.f_Command.f_Timeout, vi s.f_Command.f_Retries, vi s.f_Call.f_Kind, .str s.f_Call.f_Name, vi s.f_Call.f_Id, .str s.f_Call.f_Spec.f_Name, .str s.f_Call.f_Spec.f_Project, .str s.f_Call.f_Spec.f_Service, vi s.f_Call.f_Spec.f_Number, .str s.f_Call.f_Spec.f_Hash, ls s.f_Call.f_Spec.f_Nets, ls s.f_Call.f_Spec.f_Vols, .str s.f_Call.f_Spec.f_Health.f_Test, vi s.f_Call.f_Spec.f_Health.f_Every, vi s.f_Call.f_Spec.f_Health.f_Start, vi s.f_Call.f_Spec.f_Health.f_Retries, vi s.f_Call.f_Spec.f_Restart, vi s.f_Call.f_Spec.f_Tries])] (.exit 0) Q) (fun s => To 154 F0 w0 [(2, .own 2 0), (3, vb s.1)] [(2, 32, [vi s.2.f_Kind, vi s.2.f_N, vi s.2.f_M, vi s.2.f_Command.f_Kind, ls s.2.f_Command.f_Services, vi s.2.f_Command.f_Count, vb s.2.f_Command.f_Orphans, vb s.2.f_Command.f_Volumes, vi s.2.f_Command.f_Timeout, vi s.2.f_Command.f_Retries, vi s.2.f_Call.f_Kind, .str s.2.f_Call.f_Name, vi s.2.f_Call.f_Id, .str s.2.f_Call.f_Spec.f_Name, .str s.2.f_Call.f_Spec.f_Project, .str s.2.f_Call.f_Spec.f_Service, vi s.2.f_Call.f_Spec.f_Number, .str s.2.f_Call.f_Spec.f_Hash, ls s.2.f_Call.f_Spec.f_Nets, ls s.2.f_Call.f_Spec.f_Vols, .str s.2.f_Call.f_Spec.f_Health.f_Test, vi s.2.f_Call.f_Spec.f_Health.f_Every, vi s.2.f_Call.f_Spec.f_Health.f_Start, vi s.2.f_Call.f_Spec.f_Health.f_Retries, vi s.2.f_Call.f_Spec.f_Restart, vi s.2.f_Call.f_Spec.f_Tries])] .ret Q)) o → WL Tryd.prog 154 F0 w0 [(2, .own 2 0), (4, ls v4), (7, vi v7)] [(2, 32, (E_ref45_Step b2))] (cI (cI (cB (cA (cB (cB (cB (cB (cB (cF Tryd.f14)))))))))) Q := by
  induction k with
  | zero => intro v7 b2 o h; cases h
  | succ k ih =>
    intro v7 b2 o h hQ
    rw [ref45_Line_l1] at h
    refine WL.round ?_
    refine Wp.seq (Wp.seq ?_)
    refine rg [2, 4, 7, 38] [2] (K' := [(2, .own 2 0), (4, ls v4), (7, vi v7), (38, vb (decide (v7 ≤ 6)))]) (L' := [(2, 32, (E_ref45_Step b2))]) (by kernel_rfl) ?_
    refine To.thenN ?_
    refine Wp.cond (b := (decide (v7 ≤ 6))) (by kernel_rfl) (fun hb => ?_) (fun hb => ?_)
    · replace h := if_t hb h
      refine Wp.skip (To.thenN (Wp.seq (Wp.block (Wp.seq ?_))))
      obtain ⟨r4, hr4, h⟩ := bind_of h
      obtain ⟨hc11, h⟩ := chk_of h
      refine Wp.regionD hm hΓ [(1, .str r4)] [2, 4, 7, 46] [2] (K' := [(2, .own 2 0), (4, ls v4), (7, vi v7), (46, vb (r4 == ((v4)[Int.toNat 0]?.getD [])))]) (L' := [(2, 32, (E_ref45_Step b2))]) (ob := [(true = true → CX Tryd.prog 36 [vi v7] (.str r4)), (decide (0 ≤ (0 : Int) ∧ (0 : Int) < (List.length v4 : Int))) = true]) (by kernel_rfl) (AllP.cons (fun _ => cx (ok_ref44_Command n v7 _ hr4)) (AllP.cons hc11 AllP.nil)) ?_
      refine To.thenN ?_
      refine Wp.cond (b := (r4 == ((v4)[Int.toNat 0]?.getD []))) (by kernel_rfl) (fun hb => ?_) (fun hb => ?_)
      · replace h := if_t hb h
        refine Wp.seq (Wp.seq ?_)
        obtain ⟨hc10, h⟩ := chk_of h
        obtain ⟨r5, hr5, h⟩ := bind_of h
        refine Wp.region hΓ [] [(7, vi r5)] [] [2, 4, 7, 56] [2] (K' := [(2, .own 2 0), (4, ls v4), (7, vi v7), (56, vb (bif (decide ((List.length v4 : Int) < 2)) then true else (decide (r5 < 0))))]) (L' := [(2, 32, (E_ref45_Step b2))]) (ob := [(!((decide ((List.length v4 : Int) < 2)) == false) || decide (0 ≤ (1 : Int) ∧ (1 : Int) < (List.length v4 : Int))) = true, (((decide ((List.length v4 : Int) < 2)) == false) = true → CX Tryd.prog 37 [.str ((v4)[Int.toNat 1]?.getD [])] (vi r5))]) (by kernel_rfl) (AllP.cons hc10 (AllP.cons (fun hg => cx (ok_ref45_number n ((v4)[Int.toNat 1]?.getD []) _ (if_t hg hr5))) AllP.nil)) ?_
        refine To.thenN ?_
        refine Wp.cond (b := (bif (decide ((List.length v4 : Int) < 2)) then true else (decide (r5 < 0)))) (by kernel_rfl) (fun hb => ?_) (fun hb => ?_)
        · replace h := if_t hb h
          refine Wp.seq ?_
          refine rg [2, 3] [2] (K' := [(2, .own 2 0), (3, vb false)]) (L' := [(2, 32, [vi 0, vi 0, vi 0, vi 0, .val (.slice none 0 0), vi 0, vb false, vb false, vi 0, vi 0, vi 0, .str [], vi 0, .str [], .str [], .str [], vi 0, .str [], .val (.slice none 0 0), .val (.slice none 0 0), .str [], vi 0, vi 0, vi 0, vi 0, vi 0])]) (by kernel_rfl) ?_
          refine To.thenN ?_
          refine Wp.ret ?_
          refine To.thenR ?_
          refine To.blockR ?_
          refine To.thenR ?_
          refine To.thenR ?_
          refine To.keep (kk := [2, 3]) (kl := [2]) (K' := [(2, .own 2 0), (3, vb false)]) (L' := [(2, 32, [vi 0, vi 0, vi 0, vi 0, .val (.slice none 0 0), vi 0, vb false, vb false, vi 0, vi 0, vi 0, .str [], vi 0, .str [], .str [], .str [], vi 0, .str [], .val (.slice none 0 0), .val (.slice none 0 0), .str [], vi 0, vi 0, vi 0, vi 0, vi 0])]) (by kernel_rfl) (by kernel_rfl) ?_
          refine To.weak (K' := [(2, .own 2 0), (3, vb false)]) (L' := [(2, 32, [vi 0, vi 0, vi 0, vi 0, ls [], vi 0, vb false, vb false, vi 0, vi 0, vi 0, .str [], vi 0, .str [], .str [], .str [], vi 0, .str [], ls [], ls [], .str [], vi 0, vi 0, vi 0, vi 0, vi 0])]) (.cons (.refl _) (.cons (.refl _) .nil)) (.cons (.cons (.refl _) (.cons (.refl _) (.cons (.refl _) (.cons (.refl _) (.cons (.zero _ _) (.cons (.refl _) (.cons (.refl _) (.cons (.refl _) (.cons (.refl _) (.cons (.refl _) (.cons (.refl _) (.cons (.refl _) (.cons (.refl _) (.cons (.refl _) (.cons (.refl _) (.cons (.refl _) (.cons (.refl _) (.cons (.refl _) (.cons (.zero _ _) (.cons (.zero _ _) (.cons (.refl _) (.cons (.refl _) (.cons (.refl _) (.cons (.refl _) (.cons (.refl _) (.cons (.refl _) .nil)))))))))))))))))))))))))) .nil) ?_
          cases h
          exact hQ
        · replace h := if_f hb h
          refine Wp.skip (To.thenN (Wp.seq ?_))
          obtain ⟨hc8, h⟩ := chk_of h
          obtain ⟨r6, hr6, h⟩ := bind_of h
          obtain ⟨hc9, h⟩ := chk_of h
          obtain ⟨r7, hr7, h⟩ := bind_of h
          refine Wp.regionD hm hΓ [(3, vi r6), (9, .tup [.agg [vi r7.1.f_Kind, vi r7.1.f_N, vi r7.1.f_M, vi r7.1.f_Command.f_Kind, ls r7.1.f_Command.f_Services, vi r7.1.f_Command.f_Count, vb r7.1.f_Command.f_Orphans, vb r7.1.f_Command.f_Volumes, vi r7.1.f_Command.f_Timeout, vi r7.1.f_Command.f_Retries, vi r7.1.f_Call.f_Kind, .str r7.1.f_Call.f_Name, vi r7.1.f_Call.f_Id, .str r7.1.f_Call.f_Spec.f_Name, .str r7.1.f_Call.f_Spec.f_Project, .str r7.1.f_Call.f_Spec.f_Service, vi r7.1.f_Call.f_Spec.f_Number, .str r7.1.f_Call.f_Spec.f_Hash, ls r7.1.f_Call.f_Spec.f_Nets, ls r7.1.f_Call.f_Spec.f_Vols, .str r7.1.f_Call.f_Spec.f_Health.f_Test, vi r7.1.f_Call.f_Spec.f_Health.f_Every, vi r7.1.f_Call.f_Spec.f_Health.f_Start, vi r7.1.f_Call.f_Spec.f_Health.f_Retries, vi r7.1.f_Call.f_Spec.f_Restart, vi r7.1.f_Call.f_Spec.f_Tries], vb r7.2])] [2, 8, 9] [2, 8] (K' := [(2, .own 2 0), (8, .own 8 0), (9, vb r7.2)]) (L' := [(2, 32, (E_ref45_Step b2)), (8, 32, (E_ref45_Step r7.1))]) (ob := [(decide (0 ≤ (1 : Int) ∧ (1 : Int) < (List.length v4 : Int))) = true, (true = true → CX Tryd.prog 37 [.str ((v4)[Int.toNat 1]?.getD [])] (vi r6)), (decide (0 ≤ (2 : Int) ∧ (2 : Int) ≤ (List.length v4 : Int))) = true, (true = true → CX Tryd.prog 38 [.agg [vi 1, vi r6, vi 0, vi v7, .val (.slice none 0 0), vi 0, vb false, vb false, vi 0, vi 0, vi 0, .str [], vi 0, .str [], .str [], .str [], vi 0, .str [], .val (.slice none 0 0), .val (.slice none 0 0), .str [], vi 0, vi 0, vi 0, vi 0, vi 0], ls (List.drop (Int.toNat 2) v4)] (.tup [.agg [vi r7.1.f_Kind, vi r7.1.f_N, vi r7.1.f_M, vi r7.1.f_Command.f_Kind, ls r7.1.f_Command.f_Services, vi r7.1.f_Command.f_Count, vb r7.1.f_Command.f_Orphans, vb r7.1.f_Command.f_Volumes, vi r7.1.f_Command.f_Timeout, vi r7.1.f_Command.f_Retries, vi r7.1.f_Call.f_Kind, .str r7.1.f_Call.f_Name, vi r7.1.f_Call.f_Id, .str r7.1.f_Call.f_Spec.f_Name, .str r7.1.f_Call.f_Spec.f_Project, .str r7.1.f_Call.f_Spec.f_Service, vi r7.1.f_Call.f_Spec.f_Number, .str r7.1.f_Call.f_Spec.f_Hash, ls r7.1.f_Call.f_Spec.f_Nets, ls r7.1.f_Call.f_Spec.f_Vols, .str r7.1.f_Call.f_Spec.f_Health.f_Test, vi r7.1.f_Call.f_Spec.f_Health.f_Every, vi r7.1.f_Call.f_Spec.f_Health.f_Start, vi r7.1.f_Call.f_Spec.f_Health.f_Retries, vi r7.1.f_Call.f_Spec.f_Restart, vi r7.1.f_Call.f_Spec.f_Tries], vb r7.2]))]) (by kernel_rfl) (AllP.cons hc8 (AllP.cons (fun _ => cx (ok_ref45_number n ((v4)[Int.toNat 1]?.getD []) _ hr6)) (AllP.cons hc9 (AllP.cons (fun _ => cx (ok_ref45_command__n4_18_19 n (S_ref45_Step.mk 1 r6 0 (S_api_Command.mk v7 [] 0 false false 0 0) (S_api_Call.mk 0 [] 0 (S_api_Spec.mk [] [] [] 0 [] [] [] (S_api_Check.mk [] 0 0 0) 0 0))) (List.drop (Int.toNat 2) v4) _ hr7)) AllP.nil)))) ?_
          refine To.thenN (Wp.seq (Wp.seq ?_))
          refine rg [2, 8, 72] [2, 8] (K' := [(2, .own 2 0), (8, .own 8 0), (72, vb (!r7.2))]) (L' := [(2, 32, (E_ref45_Step b2)), (8, 32, (E_ref45_Step r7.1))]) (by kernel_rfl) ?_
          refine To.thenN ?_
          refine Wp.cond (b := (!r7.2)) (by kernel_rfl) (fun hb => ?_) (fun hb => ?_)
          · replace h := if_t hb h
            refine Wp.seq ?_
            refine rg [2, 3] [2] (K' := [(2, .own 2 0), (3, vb false)]) (L' := [(2, 32, [vi 0, vi 0, vi 0, vi 0, .val (.slice none 0 0), vi 0, vb false, vb false, vi 0, vi 0, vi 0, .str [], vi 0, .str [], .str [], .str [], vi 0, .str [], .val (.slice none 0 0), .val (.slice none 0 0), .str [], vi 0, vi 0, vi 0, vi 0, vi 0])]) (by kernel_rfl) ?_
            refine To.thenN ?_
            refine Wp.ret ?_
            refine To.thenR ?_
            refine To.blockR ?_
            refine To.thenR ?_
            refine To.thenR ?_
            refine To.keep (kk := [2, 3]) (kl := [2]) (K' := [(2, .own 2 0), (3, vb false)]) (L' := [(2, 32, [vi 0, vi 0, vi 0, vi 0, .val (.slice none 0 0), vi 0, vb false, vb false, vi 0, vi 0, vi 0, .str [], vi 0, .str [], .str [], .str [], vi 0, .str [], .val (.slice none 0 0), .val (.slice none 0 0), .str [], vi 0, vi 0, vi 0, vi 0, vi 0])]) (by kernel_rfl) (by kernel_rfl) ?_
            refine To.weak (K' := [(2, .own 2 0), (3, vb false)]) (L' := [(2, 32, [vi 0, vi 0, vi 0, vi 0, ls [], vi 0, vb false, vb false, vi 0, vi 0, vi 0, .str [], vi 0, .str [], .str [], .str [], vi 0, .str [], ls [], ls [], .str [], vi 0, vi 0, vi 0, vi 0, vi 0])]) (.cons (.refl _) (.cons (.refl _) .nil)) (.cons (.cons (.refl _) (.cons (.refl _) (.cons (.refl _) (.cons (.refl _) (.cons (.zero _ _) (.cons (.refl _) (.cons (.refl _) (.cons (.refl _) (.cons (.refl _) (.cons (.refl _) (.cons (.refl _) (.cons (.refl _) (.cons (.refl _) (.cons (.refl _) (.cons (.refl _) (.cons (.refl _) (.cons (.refl _) (.cons (.refl _) (.cons (.zero _ _) (.cons (.zero _ _) (.cons (.refl _) (.cons (.refl _) (.cons (.refl _) (.cons (.refl _) (.cons (.refl _) (.cons (.refl _) .nil)))))))))))))))))))))))))) .nil) ?_
            cases h
            exact hQ
          · replace h := if_f hb h
            refine Wp.skip (To.thenN (Wp.seq ?_))
            refine rg [2, 3] [2] (K' := [(2, .own 2 0), (3, vb true)]) (L' := [(2, 32, (E_ref45_Step r7.1))]) (by kernel_rfl) ?_
            refine To.thenN ?_
            refine Wp.ret ?_
            refine To.blockR ?_
            refine To.thenR ?_
            refine To.thenR ?_
            refine To.keep (kk := [2, 3]) (kl := [2]) (K' := [(2, .own 2 0), (3, vb true)]) (L' := [(2, 32, (E_ref45_Step r7.1))]) (by kernel_rfl) (by kernel_rfl) ?_
            cases h
            exact hQ
      · replace h := if_f hb h
        refine Wp.skip ?_
        refine To.blockN ?_
        refine To.thenN ?_
        refine rg [2, 4, 7] [2] (K' := [(2, .own 2 0), (4, ls v4), (7, vi (IntKind.wrap .i64 (v7 + 1)))]) (L' := [(2, 32, (E_ref45_Step b2))]) (by kernel_rfl) ?_
        refine To.keep (kk := [2, 4, 7]) (kl := [2]) (K' := [(2, .own 2 0), (4, ls v4), (7, vi (IntKind.wrap .i64 (v7 + 1)))]) (L' := [(2, 32, (E_ref45_Step b2))]) (by kernel_rfl) (by kernel_rfl) ?_
        refine To.again ?_
        exact ih (IntKind.wrap .i64 (v7 + 1)) b2 _ h hQ
    · replace h := if_f hb h
      refine Wp.exit ?_
      refine To.thenX ?_
      refine To.thenX ?_
      refine To.keep (kk := [2, 4]) (kl := [2]) (K' := [(2, .own 2 0), (4, ls v4)]) (L' := [(2, 32, (E_ref45_Step b2))]) (by kernel_rfl) (by kernel_rfl) ?_
      cases h
      exact hQ
def ref45_Line_l2 (n : Nat) (v4 : List (List UInt8)) (v10 : List (List UInt8)) : Nat → Int → S_ref45_Step → Option (Sum (S_ref45_Step) (Bool × S_ref45_Step))
  | 0, _, _ => none
  | k + 1, v11, b2 => if (decide (v11 < 3)) = true then (if (decide (0 ≤ (0 : Int) ∧ (0 : Int) < (List.length v4 : Int))) = true then (if (decide (0 ≤ v11 ∧ v11 < (List.length v10 : Int))) = true then (if ((!((bif (((v4)[Int.toNat 0]?.getD []) == ((v10)[Int.toNat v11]?.getD [])) then ((List.length v4 : Int) == 2) else false) == true) || decide (0 ≤ (1 : Int) ∧ (1 : Int) < (List.length v4 : Int)))) = true then (((if ((bif (((v4)[Int.toNat 0]?.getD []) == ((v10)[Int.toNat v11]?.getD [])) then ((List.length v4 : Int) == 2) else false) == true) = true then ref45_number n ((v4)[Int.toNat 1]?.getD []) else some 0)).bind fun r5 =>
  lett ((bif (bif (((v4)[Int.toNat 0]?.getD []) == ((v10)[Int.toNat v11]?.getD [])) then ((List.length v4 : Int) == 2) else false) then (decide (r5 ≥ 0)) else false) : Bool) fun x6 =>
  if x6 = true then (if (decide (0 ≤ v11 ∧ v11 < (List.length ([3, 5, 6] : List (Int)) : Int))) = true then (if (decide (0 ≤ (1 : Int) ∧ (1 : Int) < (List.length v4 : Int))) = true then ((ref45_number n ((v4)[Int.toNat 1]?.getD [])).bind fun r7 =>
  some (.inr (true, (S_ref45_Step.mk (([3, 5, 6])[Int.toNat v11]?.getD 0) r7 0 (S_api_Command.mk 0 [] 0 false false 0 0) (S_api_Call.mk 0 [] 0 (S_api_Spec.mk [] [] [] 0 [] [] [] (S_api_Check.mk [] 0 0 0) 0 0)))))) else none) else none)
  else (ref45_Line_l2 n v4 v10 k (IntKind.wrap .i64 (v11 + 1)) b2)) else none) else none) else none)
  else (some (.inl b2))
theorem ok_ref45_Line_l2 (n : Nat) (v4 : List (List UInt8)) (v10 : List (List UInt8)) {F0 : Fz} {w0 : Pt Tryd.prog} {Q : Exit → Act → World → Prop} (k : Nat) : ∀ (v11 : Int) (b2 : S_ref45_Step) (o : Sum (S_ref45_Step) (Bool × S_ref45_Step)), ref45_Line_l2 n v4 v10 k v11 b2 = some o → (Sum.elim (fun s => To 154 F0 w0 [(2, .own 2 0), (4, ls v4)] [(2, 32, [vi s.f_Kind, vi s.f_N, vi s.f_M, vi s.f_Command.f_Kind, ls s.f_Command.f_Services, vi s.f_Command.f_Count, vb s.f_Command.f_Orphans, vb s.f_Command.f_Volumes, vi s.f_Command.f_Timeout, vi s.f_Command.f_Retries, vi s.f_Call.f_Kind, .str s.f_Call.f_Name, vi s.f_Call.f_Id, .str s.f_Call.f_Spec.f_Name, .str s.f_Call.f_Spec.f_Project, .str s.f_Call.f_Spec.f_Service, vi s.f_Call.f_Spec.f_Number, .str s.f_Call.f_Spec.f_Hash, ls s.f_Call.f_Spec.f_Nets, ls s.f_Call.f_Spec.f_Vols, .str s.f_Call.f_Spec.f_Health.f_Test, vi s.f_Call.f_Spec.f_Health.f_Every, vi s.f_Call.f_Spec.f_Health.f_Start, vi s.f_Call.f_Spec.f_Health.f_Retries, vi s.f_Call.f_Spec.f_Restart, vi s.f_Call.f_Spec.f_Tries])] (.exit 2) Q) (fun s => To 154 F0 w0 [(2, .own 2 0), (3, vb s.1)] [(2, 32, [vi s.2.f_Kind, vi s.2.f_N, vi s.2.f_M, vi s.2.f_Command.f_Kind, ls s.2.f_Command.f_Services, vi s.2.f_Command.f_Count, vb s.2.f_Command.f_Orphans, vb s.2.f_Command.f_Volumes, vi s.2.f_Command.f_Timeout, vi s.2.f_Command.f_Retries, vi s.2.f_Call.f_Kind, .str s.2.f_Call.f_Name, vi s.2.f_Call.f_Id, .str s.2.f_Call.f_Spec.f_Name, .str s.2.f_Call.f_Spec.f_Project, .str s.2.f_Call.f_Spec.f_Service, vi s.2.f_Call.f_Spec.f_Number, .str s.2.f_Call.f_Spec.f_Hash, ls s.2.f_Call.f_Spec.f_Nets, ls s.2.f_Call.f_Spec.f_Vols, .str s.2.f_Call.f_Spec.f_Health.f_Test, vi s.2.f_Call.f_Spec.f_Health.f_Every, vi s.2.f_Call.f_Spec.f_Health.f_Start, vi s.2.f_Call.f_Spec.f_Health.f_Retries, vi s.2.f_Call.f_Spec.f_Restart, vi s.2.f_Call.f_Spec.f_Tries])] .ret Q)) o → WL Tryd.prog 154 F0 w0 [(2, .own 2 0), (4, ls v4), (10, .row 1010), (11, vi v11)] [(2, 32, (E_ref45_Step b2)), (1010, 9, [.rowc false (α := List UInt8) [] E_string v10])] (cI (cI (cB (cA (cB (cB (cB (cB (cB (cB (cB (cF Tryd.f14)))))))))))) Q := by
  induction k with
  | zero => intro v11 b2 o h; cases h
  | succ k ih =>
    intro v11 b2 o h hQ
    rw [ref45_Line_l2] at h
    refine WL.round ?_
    refine Wp.seq (Wp.seq ?_)
    refine rg [2, 4, 10, 11, 77] [2, 1010] (K' := [(2, .own 2 0), (4, ls v4), (10, .row 1010), (11, vi v11), (77, vb (decide (v11 < 3)))]) (L' := [(2, 32, (E_ref45_Step b2)), (1010, 9, [.rowc false (α := List UInt8) [] E_string v10])]) (by kernel_rfl) ?_
    refine To.thenN ?_
    refine Wp.cond (b := (decide (v11 < 3))) (by kernel_rfl) (fun hb => ?_) (fun hb => ?_)
    · replace h := if_t hb h
      refine Wp.skip (To.thenN (Wp.seq (Wp.block (Wp.seq ?_))))
      obtain ⟨hc10, h⟩ := chk_of h
      obtain ⟨hc11, h⟩ := chk_of h
      obtain ⟨hc12, h⟩ := chk_of h
      obtain ⟨r5, hr5, h⟩ := bind_of h
      obtain ⟨x6, hx6, h⟩ := lett_of h
      refine Wp.regionD hm hΓ [(17, vi r5)] [2, 4, 10, 11, 99] [2, 1010] (K' := [(2, .own 2 0), (4, ls v4), (10, .row 1010), (11, vi v11), (99, vb (bif (bif (((v4)[Int.toNat 0]?.getD []) == ((v10)[Int.toNat v11]?.getD [])) then ((List.length v4 : Int) == 2) else false) then (decide (r5 ≥ 0)) else false))]) (L' := [(2, 32, (E_ref45_Step b2)), (1010, 9, [.rowc false (α := List UInt8) [] E_string v10])]) (ob := [(decide (0 ≤ (0 : Int) ∧ (0 : Int) < (List.length v4 : Int))) = true, (decide (0 ≤ v11 ∧ v11 < (List.length v10 : Int))) = true, (decide (0 ≤ v11 ∧ v11 < (List.length v10 : Int))) = true, (!((bif (((v4)[Int.toNat 0]?.getD []) == ((v10)[Int.toNat v11]?.getD [])) then ((List.length v4 : Int) == 2) else false) == true) || decide (0 ≤ (1 : Int) ∧ (1 : Int) < (List.length v4 : Int))) = true, (((bif (((v4)[Int.toNat 0]?.getD []) == ((v10)[Int.toNat v11]?.getD [])) then ((List.length v4 : Int) == 2) else false) == true) = true → CX Tryd.prog 37 [.str ((v4)[Int.toNat 1]?.getD [])] (vi r5))]) (by kernel_rfl) (AllP.cons hc10 (AllP.cons hc11 (AllP.cons hc11 (AllP.cons hc12 (AllP.cons (fun hg => cx (ok_ref45_number n ((v4)[Int.toNat 1]?.getD []) _ (if_t hg hr5))) AllP.nil))))) ?_
      refine To.eq (K' := [(2, .own 2 0), (4, ls v4), (10, .row 1010), (11, vi v11), (99, vb x6)]) (L' := [(2, 32, (E_ref45_Step b2)), (1010, 9, [.rowc false (α := List UInt8) [] E_string v10])]) (by cases hx6; rfl) (by cases hx6; rfl) ?_
      refine To.thenN ?_
      refine Wp.cond (b := x6) (by kernel_rfl) (fun hb => ?_) (fun hb => ?_)
      · replace h := if_t hb h
        refine Wp.seq ?_
        refine Wp.region hΓ [] [(0, .recs (α := Int) 0 E_i64 [3, 5, 6])] [] [2, 4, 11, 12] [2, 100] (K' := [(2, .own 2 0), (4, ls v4), (11, vi v11), (12, .row 100)]) (L' := [(2, 32, (E_ref45_Step b2)), (100, 3, [.rowc false (α := Int) 0 E_i64 [3, 5, 6]])]) (ob := [(MkOb 1 [vi 3, vi 5, vi 6] 3 (.recs (α := Int) 0 E_i64 [3, 5, 6]) ∧ GoodR (.recs (α := Int) 0 E_i64 [3, 5, 6]))]) (by kernel_rfl) (AllP.cons (mkOb (by kernel_rfl) rfl (by kernel_rfl) (good_E_i64 _)) AllP.nil) ?_
        refine To.thenN (Wp.seq ?_)
        obtain ⟨hc8, h⟩ := chk_of h
        obtain ⟨hc9, h⟩ := chk_of h
        obtain ⟨r7, hr7, h⟩ := bind_of h
        refine Wp.regionD hm hΓ [(7, vi r7)] [2, 3] [2] (K' := [(2, .own 2 0), (3, vb true)]) (L' := [(2, 32, [vi (([3, 5, 6])[Int.toNat v11]?.getD 0), vi r7, vi 0, vi 0, .val (.slice none 0 0), vi 0, vb false, vb false, vi 0, vi 0, vi 0, .str [], vi 0, .str [], .str [], .str [], vi 0, .str [], .val (.slice none 0 0), .val (.slice none 0 0), .str [], vi 0, vi 0, vi 0, vi 0, vi 0])]) (ob := [(decide (0 ≤ v11 ∧ v11 < (List.length ([3, 5, 6] : List (Int)) : Int))) = true, (decide (0 ≤ v11 ∧ v11 < (List.length ([3, 5, 6] : List (Int)) : Int))) = true, (decide (0 ≤ (1 : Int) ∧ (1 : Int) < (List.length v4 : Int))) = true, (true = true → CX Tryd.prog 37 [.str ((v4)[Int.toNat 1]?.getD [])] (vi r7))]) (by kernel_rfl) (AllP.cons hc8 (AllP.cons hc8 (AllP.cons hc9 (AllP.cons (fun _ => cx (ok_ref45_number n ((v4)[Int.toNat 1]?.getD []) _ hr7)) AllP.nil)))) ?_
        refine To.thenN ?_
        refine Wp.ret ?_
        refine To.blockR ?_
        refine To.thenR ?_
        refine To.thenR ?_
        refine To.keep (kk := [2, 3]) (kl := [2]) (K' := [(2, .own 2 0), (3, vb true)]) (L' := [(2, 32, [vi (([3, 5, 6])[Int.toNat v11]?.getD 0), vi r7, vi 0, vi 0, .val (.slice none 0 0), vi 0, vb false, vb false, vi 0, vi 0, vi 0, .str [], vi 0, .str [], .str [], .str [], vi 0, .str [], .val (.slice none 0 0), .val (.slice none 0 0), .str [], vi 0, vi 0, vi 0, vi 0, vi 0])]) (by kernel_rfl) (by kernel_rfl) ?_
        refine To.weak (K' := [(2, .own 2 0), (3, vb true)]) (L' := [(2, 32, [vi (([3, 5, 6])[Int.toNat v11]?.getD 0), vi r7, vi 0, vi 0, ls [], vi 0, vb false, vb false, vi 0, vi 0, vi 0, .str [], vi 0, .str [], .str [], .str [], vi 0, .str [], ls [], ls [], .str [], vi 0, vi 0, vi 0, vi 0, vi 0])]) (.cons (.refl _) (.cons (.refl _) .nil)) (.cons (.cons (.refl _) (.cons (.refl _) (.cons (.refl _) (.cons (.refl _) (.cons (.zero _ _) (.cons (.refl _) (.cons (.refl _) (.cons (.refl _) (.cons (.refl _) (.cons (.refl _) (.cons (.refl _) (.cons (.refl _) (.cons (.refl _) (.cons (.refl _) (.cons (.refl _) (.cons (.refl _) (.cons (.refl _) (.cons (.refl _) (.cons (.zero _ _) (.cons (.zero _ _) (.cons (.refl _) (.cons (.refl _) (.cons (.refl _) (.cons (.refl _) (.cons (.refl _) (.cons (.refl _) .nil)))))))))))))))))))))))))) .nil) ?_
        cases h
        exact hQ
      · replace h := if_f hb h
        refine Wp.skip ?_
        refine To.blockN ?_
        refine To.thenN ?_
        refine rg [2, 4, 10, 11] [2, 1010] (K' := [(2, .own 2 0), (4, ls v4), (10, .row 1010), (11, vi (IntKind.wrap .i64 (v11 + 1)))]) (L' := [(2, 32, (E_ref45_Step b2)), (1010, 9, [.rowc false (α := List UInt8) [] E_string v10])]) (by kernel_rfl) ?_
        refine To.keep (kk := [2, 4, 10, 11]) (kl := [2, 1010]) (K' := [(2, .own 2 0), (4, ls v4), (10, .row 1010), (11, vi (IntKind.wrap .i64 (v11 + 1)))]) (L' := [(2, 32, (E_ref45_Step b2)), (1010, 9, [.rowc false (α := List UInt8) [] E_string v10])]) (by kernel_rfl) (by kernel_rfl) ?_
        refine To.again ?_
        exact ih (IntKind.wrap .i64 (v11 + 1)) b2 _ h hQ
    · replace h := if_f hb h
      refine Wp.exit ?_
      refine To.thenX ?_
      refine To.thenX ?_
      refine To.keep (kk := [2, 4]) (kl := [2]) (K' := [(2, .own 2 0), (4, ls v4)]) (L' := [(2, 32, (E_ref45_Step b2))]) (by kernel_rfl) (by kernel_rfl) ?_
      cases h
      exact hQ
def ref45_Line_j3 (n : Nat) (v4 : List (List UInt8)) (v13 : Int) (v142 : Bool) (b2 : S_ref45_Step) : Option (Int) :=
  if v142 = true then some 7
  else some v13
theorem ok_ref45_Line_j3 (n : Nat) (v4 : List (List UInt8)) (v13 : Int) (v142 : Bool) (b2 : S_ref45_Step) (o : Int) (h : ref45_Line_j3 n v4 v13 v142 b2 = some o) {F0 : Fz} {w0 : Pt Tryd.prog} {Q : Exit → Act → World → Prop} (hQ : To 154 F0 w0 [(2, .own 2 0), (4, ls v4), (13, vi o)] [(2, 32, (E_ref45_Step b2))] .normal Q) : Wp Tryd.prog 154 F0 w0 [(2, .own 2 0), (4, ls v4), (13, vi v13), (142, vb v142)] [(2, 32, (E_ref45_Step b2))] (cB (cA (cB (cT (cB (cA (cB (cB (cB (cB (cB (cB (cB (cB (cF Tryd.f14))))))))))))))) Q := by
  unfold ref45_Line_j3 at h
  refine Wp.cond (b := v142) (by kernel_rfl) (fun hb => ?_) (fun hb => ?_)
  · replace h := if_t hb h
    refine rg [2, 4, 13] [2] (K' := [(2, .own 2 0), (4, ls v4), (13, vi 7)]) (L' := [(2, 32, (E_ref45_Step b2))]) (by kernel_rfl) ?_
    refine To.keep (kk := [2, 4, 13]) (kl := [2]) (K' := [(2, .own 2 0), (4, ls v4), (13, vi 7)]) (L' := [(2, 32, (E_ref45_Step b2))]) (by kernel_rfl) (by kernel_rfl) ?_
    cases h
    exact hQ
  · replace h := if_f hb h
    refine Wp.skip ?_
    refine To.keep (kk := [2, 4, 13]) (kl := [2]) (K' := [(2, .own 2 0), (4, ls v4), (13, vi v13)]) (L' := [(2, 32, (E_ref45_Step b2))]) (by kernel_rfl) (by kernel_rfl) ?_
    cases h
    exact hQ
def ref45_Line (n : Nat) (a0 : List UInt8) : Option (S_ref45_Step × Bool) :=
  (ref45_Split n a0).bind fun r1 =>
  if (a0 == [103, 111]) = true then (some ((S_ref45_Step.mk 2 0 0 (S_api_Command.mk 0 [] 0 false false 0 0) (S_api_Call.mk 0 [] 0 (S_api_Spec.mk [] [] [] 0 [] [] [] (S_api_Check.mk [] 0 0 0) 0 0))), true))
  else (if (a0 == [99, 114, 97, 115, 104]) = true then (some ((S_ref45_Step.mk 8 0 0 (S_api_Command.mk 0 [] 0 false false 0 0) (S_api_Call.mk 0 [] 0 (S_api_Spec.mk [] [] [] 0 [] [] [] (S_api_Check.mk [] 0 0 0) 0 0))), true))
  else (if (decide (0 ≤ (0 : Int) ∧ (0 : Int) < (List.length r1 : Int))) = true then (if (((r1)[Int.toNat 0]?.getD []) == [99, 97, 108, 108]) = true then (if (decide (0 ≤ (1 : Int) ∧ (1 : Int) ≤ (List.length r1 : Int))) = true then ((ref45_call n (List.drop (Int.toNat 1) r1)).bind fun r2 =>
  if (!r2.2) = true then (some ((S_ref45_Step.mk 0 0 0 (S_api_Command.mk 0 [] 0 false false 0 0) (S_api_Call.mk 0 [] 0 (S_api_Spec.mk [] [] [] 0 [] [] [] (S_api_Check.mk [] 0 0 0) 0 0))), false))
  else (some ((S_ref45_Step.mk 9 0 0 (S_api_Command.mk 0 [] 0 false false 0 0) r2.1), true))) else none)
  else ((ref45_Line_l1 n r1 n 1 (S_ref45_Step.mk 0 0 0 (S_api_Command.mk 0 [] 0 false false 0 0) (S_api_Call.mk 0 [] 0 (S_api_Spec.mk [] [] [] 0 [] [] [] (S_api_Check.mk [] 0 0 0) 0 0)))).bind fun o4 =>
  (Sum.elim (fun o4 => (ref45_Line_l2 n r1 ([[116, 105, 99, 107], [115, 105, 99, 107], [119, 101, 108, 108]] : List (List UInt8)) n 0 o4).bind fun o5 =>
  (Sum.elim (fun o5 => if (decide (0 ≤ (0 : Int) ∧ (0 : Int) < (List.length r1 : Int))) = true then (if ((!((((r1)[Int.toNat 0]?.getD []) == [101, 120, 105, 116]) == false) || decide (0 ≤ (0 : Int) ∧ (0 : Int) < (List.length r1 : Int)))) = true then (if ((!((bif (bif (((r1)[Int.toNat 0]?.getD []) == [101, 120, 105, 116]) then true else (((r1)[Int.toNat 0]?.getD []) == [102, 97, 117, 108, 116])) then ((List.length r1 : Int) == 3) else false) == true) || decide (0 ≤ (1 : Int) ∧ (1 : Int) < (List.length r1 : Int)))) = true then (((if ((bif (bif (((r1)[Int.toNat 0]?.getD []) == [101, 120, 105, 116]) then true else (((r1)[Int.toNat 0]?.getD []) == [102, 97, 117, 108, 116])) then ((List.length r1 : Int) == 3) else false) == true) = true then ref45_number n ((r1)[Int.toNat 1]?.getD []) else some 0)).bind fun r6 =>
  if ((!((bif (bif (bif (((r1)[Int.toNat 0]?.getD []) == [101, 120, 105, 116]) then true else (((r1)[Int.toNat 0]?.getD []) == [102, 97, 117, 108, 116])) then ((List.length r1 : Int) == 3) else false) then (decide (r6 ≥ 0)) else false) == true) || decide (0 ≤ (2 : Int) ∧ (2 : Int) < (List.length r1 : Int)))) = true then (((if ((bif (bif (bif (((r1)[Int.toNat 0]?.getD []) == [101, 120, 105, 116]) then true else (((r1)[Int.toNat 0]?.getD []) == [102, 97, 117, 108, 116])) then ((List.length r1 : Int) == 3) else false) then (decide (r6 ≥ 0)) else false) == true) = true then ref45_number n ((r1)[Int.toNat 2]?.getD []) else some 0)).bind fun r7 =>
  lett ((bif (bif (bif (bif (((r1)[Int.toNat 0]?.getD []) == [101, 120, 105, 116]) then true else (((r1)[Int.toNat 0]?.getD []) == [102, 97, 117, 108, 116])) then ((List.length r1 : Int) == 3) else false) then (decide (r6 ≥ 0)) else false) then (decide (r7 ≥ 0)) else false) : Bool) fun x8 =>
  if x8 = true then (if (decide (0 ≤ (0 : Int) ∧ (0 : Int) < (List.length r1 : Int))) = true then ((ref45_Line_j3 n r1 4 (((r1)[Int.toNat 0]?.getD []) == [102, 97, 117, 108, 116]) o5).bind fun o9 =>
  if (decide (0 ≤ (1 : Int) ∧ (1 : Int) < (List.length r1 : Int))) = true then ((ref45_number n ((r1)[Int.toNat 1]?.getD [])).bind fun r10 =>
  if (decide (0 ≤ (2 : Int) ∧ (2 : Int) < (List.length r1 : Int))) = true then ((ref45_number n ((r1)[Int.toNat 2]?.getD [])).bind fun r11 =>
  some ((S_ref45_Step.mk o9 r10 r11 (S_api_Command.mk 0 [] 0 false false 0 0) (S_api_Call.mk 0 [] 0 (S_api_Spec.mk [] [] [] 0 [] [] [] (S_api_Check.mk [] 0 0 0) 0 0))), true)) else none) else none) else none)
  else (some ((S_ref45_Step.mk 0 0 0 (S_api_Command.mk 0 [] 0 false false 0 0) (S_api_Call.mk 0 [] 0 (S_api_Spec.mk [] [] [] 0 [] [] [] (S_api_Check.mk [] 0 0 0) 0 0))), false))) else none) else none) else none) else none) (fun o5 => some (o5.2, o5.1))) o5) (fun o4 => some (o4.2, o4.1))) o4)) else none))
end Go.Proofs.YtjjlpomfnfipbaaDoor.M
