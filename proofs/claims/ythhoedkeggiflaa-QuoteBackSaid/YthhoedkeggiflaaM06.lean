/-
  Printed by wip/tools/gen.py: models and walks of functions.
-/
import Derived.Test.YthhoedkeggiflaaM06a
namespace Go.Proofs.Ythhoedkeggiflaa.M
open Go.RowKit Go.Proofs.Ythhoedkeggiflaa.RX
set_option maxRecDepth 100000
theorem ok_ref06_Plain_l1 (n : Nat) (v0 : List UInt8) (v3 : Int) {F0 : Fz} {w0 : Pt} {Q : Exit → Act → World → Prop} (k : Nat) : ∀ (v4 : Int) (o : Sum (Unit) (Bool)), ref06_Plain_l1 n v0 v3 k v4 = some o → (Sum.elim (fun s => To 86 F0 w0 [] [] (.exit 0) Q) (fun s => To 86 F0 w0 [(2, .val (.bool s))] [] .ret Q)) o → WL Try.prog 86 F0 w0 [(0, .str v0), (3, .val (.int .i64 v3)), (4, .val (.int .i64 v4))] [] (cI (cI (cB (cA (cB (cB (cB (cB (cB (cF Try.f11)))))))))) Q := by
  induction k with
  | zero => intro v4 o h; cases h
  | succ k ih =>
    intro v4 o h hQ
    rw [ref06_Plain_l1] at h
    refine WL.round ?_
    refine Wp.seq ?_
    refine Wp.seq ?_
    refine Wp.region hΓ [] [] [0, 3, 4, 46] [] (K' := [(0, .str v0), (3, .val (.int .i64 v3)), (4, .val (.int .i64 v4)), (46, .val (.bool (decide (v4 < v3))))]) (L' := []) (ob := []) (by kernel_rfl) AllP.nil ?_
    refine To.thenN ?_
    refine Wp.cond (b := (decide (v4 < v3))) (by kernel_rfl) (fun hb => ?_) (fun hb => ?_)
    · replace h := if_t hb h
      refine Wp.skip ?_
      refine To.thenN ?_
      refine Wp.seq ?_
      refine Wp.block ?_
      refine Wp.seq ?_
      refine Wp.seq ?_
      obtain ⟨hc10, h⟩ := chk_of h
      refine Wp.region hΓ [] [(3, .val (.bool (ref06_Good (((v0)[Int.toNat v4]?.getD 0).toNat : Int))))] [0, 3, 4, 53] [] (K' := [(0, .str v0), (3, .val (.int .i64 v3)), (4, .val (.int .i64 v4)), (53, .val (.bool (!(ref06_Good (((v0)[Int.toNat v4]?.getD 0).toNat : Int)))))]) (L' := []) (ob := [(decide (0 ≤ v4 ∧ v4 < (List.length v0 : Int))) = true, (true = true → CX Try.prog 22 [.val (.int .u8 (((v0)[Int.toNat v4]?.getD 0).toNat : Int))] (.val (.bool (ref06_Good (((v0)[Int.toNat v4]?.getD 0).toNat : Int)))))]) (by kernel_rfl) (AllP.cons hc10 (AllP.cons (fun _ => cx (ok_ref06_Good (((v0)[Int.toNat v4]?.getD 0).toNat : Int) _ rfl)) AllP.nil)) ?_
      refine To.thenN ?_
      refine Wp.cond (b := (!(ref06_Good (((v0)[Int.toNat v4]?.getD 0).toNat : Int)))) (by kernel_rfl) (fun hb => ?_) (fun hb => ?_)
      · replace h := if_t hb h
        refine Wp.seq ?_
        refine Wp.region hΓ [] [] [2] [] (K' := [(2, .val (.bool false))]) (L' := []) (ob := []) (by kernel_rfl) AllP.nil ?_
        refine To.thenN ?_
        refine Wp.ret ?_
        refine To.thenR ?_
        refine To.blockR ?_
        refine To.thenR ?_
        refine To.thenR ?_
        refine To.keep (kk := [2]) (kl := []) (K' := [(2, .val (.bool false))]) (L' := []) (by kernel_rfl) (by kernel_rfl) ?_
        cases h
        exact hQ
      · replace h := if_f hb h
        refine Wp.skip ?_
        refine To.thenN ?_
        refine Wp.seq ?_
        refine Wp.seq ?_
        obtain ⟨hc8, h⟩ := chk_of h
        obtain ⟨hc9, h⟩ := chk_of h
        obtain ⟨x4, hx4, h⟩ := lett_of h
        refine Wp.region hΓ [] [] [0, 3, 4, 70] [] (K' := [(0, .str v0), (3, .val (.int .i64 v3)), (4, .val (.int .i64 v4)), (70, .val (.bool (bif ((((v0)[Int.toNat v4]?.getD 0).toNat : Int) == 58) then (bif (v4 == (IntKind.wrap .i64 (v3 - 1))) then true else ((((v0)[Int.toNat (IntKind.wrap .i64 (v4 + 1))]?.getD 0).toNat : Int) == 32)) else false)))]) (L' := []) (ob := [(decide (0 ≤ v4 ∧ v4 < (List.length v0 : Int))) = true, (!(((v4 == (IntKind.wrap .i64 (v3 - 1))) == false) && (((((v0)[Int.toNat v4]?.getD 0).toNat : Int) == 58) == true)) || decide (0 ≤ (IntKind.wrap .i64 (v4 + 1)) ∧ (IntKind.wrap .i64 (v4 + 1)) < (List.length v0 : Int))) = true]) (by kernel_rfl) (AllP.cons hc8 (AllP.cons hc9 AllP.nil)) ?_
        refine To.eq (K' := [(0, .str v0), (3, .val (.int .i64 v3)), (4, .val (.int .i64 v4)), (70, .val (.bool x4))]) (L' := []) (by cases hx4; rfl) (by cases hx4; rfl) ?_
        refine To.thenN ?_
        refine Wp.cond (b := x4) (by kernel_rfl) (fun hb => ?_) (fun hb => ?_)
        · replace h := if_t hb h
          refine Wp.seq ?_
          refine Wp.region hΓ [] [] [2] [] (K' := [(2, .val (.bool false))]) (L' := []) (ob := []) (by kernel_rfl) AllP.nil ?_
          refine To.thenN ?_
          refine Wp.ret ?_
          refine To.thenR ?_
          refine To.blockR ?_
          refine To.thenR ?_
          refine To.thenR ?_
          refine To.keep (kk := [2]) (kl := []) (K' := [(2, .val (.bool false))]) (L' := []) (by kernel_rfl) (by kernel_rfl) ?_
          cases h
          exact hQ
        · replace h := if_f hb h
          refine Wp.skip ?_
          refine To.thenN ?_
          refine Wp.seq ?_
          obtain ⟨hc6, h⟩ := chk_of h
          obtain ⟨hc7, h⟩ := chk_of h
          obtain ⟨x5, hx5, h⟩ := lett_of h
          refine Wp.region hΓ [] [] [0, 3, 4, 85] [] (K' := [(0, .str v0), (3, .val (.int .i64 v3)), (4, .val (.int .i64 v4)), (85, .val (.bool (bif (bif ((((v0)[Int.toNat v4]?.getD 0).toNat : Int) == 35) then (decide (v4 > 0)) else false) then ((((v0)[Int.toNat (IntKind.wrap .i64 (v4 - 1))]?.getD 0).toNat : Int) == 32) else false)))]) (L' := []) (ob := [(decide (0 ≤ v4 ∧ v4 < (List.length v0 : Int))) = true, (!((bif ((((v0)[Int.toNat v4]?.getD 0).toNat : Int) == 35) then (decide (v4 > 0)) else false) == true) || decide (0 ≤ (IntKind.wrap .i64 (v4 - 1)) ∧ (IntKind.wrap .i64 (v4 - 1)) < (List.length v0 : Int))) = true]) (by kernel_rfl) (AllP.cons hc6 (AllP.cons hc7 AllP.nil)) ?_
          refine To.eq (K' := [(0, .str v0), (3, .val (.int .i64 v3)), (4, .val (.int .i64 v4)), (85, .val (.bool x5))]) (L' := []) (by cases hx5; rfl) (by cases hx5; rfl) ?_
          refine To.thenN ?_
          refine Wp.cond (b := x5) (by kernel_rfl) (fun hb => ?_) (fun hb => ?_)
          · replace h := if_t hb h
            refine Wp.seq ?_
            refine Wp.region hΓ [] [] [2] [] (K' := [(2, .val (.bool false))]) (L' := []) (ob := []) (by kernel_rfl) AllP.nil ?_
            refine To.thenN ?_
            refine Wp.ret ?_
            refine To.blockR ?_
            refine To.thenR ?_
            refine To.thenR ?_
            refine To.keep (kk := [2]) (kl := []) (K' := [(2, .val (.bool false))]) (L' := []) (by kernel_rfl) (by kernel_rfl) ?_
            cases h
            exact hQ
          · replace h := if_f hb h
            refine Wp.skip ?_
            refine To.blockN ?_
            refine To.thenN ?_
            refine Wp.region hΓ [] [] [0, 3, 4] [] (K' := [(0, .str v0), (3, .val (.int .i64 v3)), (4, .val (.int .i64 (IntKind.wrap .i64 (v4 + 1))))]) (L' := []) (ob := []) (by kernel_rfl) AllP.nil ?_
            refine To.keep (kk := [0, 3, 4]) (kl := []) (K' := [(0, .str v0), (3, .val (.int .i64 v3)), (4, .val (.int .i64 (IntKind.wrap .i64 (v4 + 1))))]) (L' := []) (by kernel_rfl) (by kernel_rfl) ?_
            refine To.again ?_
            exact ih (IntKind.wrap .i64 (v4 + 1)) _ h hQ
    · replace h := if_f hb h
      refine Wp.exit ?_
      refine To.thenX ?_
      refine To.thenX ?_
      refine To.keep (kk := []) (kl := []) (K' := []) (L' := []) (by kernel_rfl) (by kernel_rfl) ?_
      cases h
      exact hQ
def ref06_Plain (n : Nat) (a0 : List UInt8) : Option (Bool) :=
  if ((!((bif (bif ((List.length a0 : Int) == 0) then true else (a0 == [126])) then true else (a0 == [110, 117, 108, 108])) == false) || decide (0 ≤ (0 : Int) ∧ (0 : Int) < (List.length a0 : Int)))) = true then (if ((!((bif (bif (bif ((List.length a0 : Int) == 0) then true else (a0 == [126])) then true else (a0 == [110, 117, 108, 108])) then true else ((((a0)[Int.toNat 0]?.getD 0).toNat : Int) == 32)) == false) || decide (0 ≤ (IntKind.wrap .i64 ((List.length a0 : Int) - 1)) ∧ (IntKind.wrap .i64 ((List.length a0 : Int) - 1)) < (List.length a0 : Int)))) = true then (lett ((bif (bif (bif (bif ((List.length a0 : Int) == 0) then true else (a0 == [126])) then true else (a0 == [110, 117, 108, 108])) then true else ((((a0)[Int.toNat 0]?.getD 0).toNat : Int) == 32)) then true else ((((a0)[Int.toNat (IntKind.wrap .i64 ((List.length a0 : Int) - 1))]?.getD 0).toNat : Int) == 32)) : Bool) fun x1 =>
  if x1 = true then some false
  else (if (decide (0 ≤ (0 : Int) ∧ (0 : Int) < (List.length a0 : Int))) = true then ((ref06_one n (((a0)[Int.toNat 0]?.getD 0).toNat : Int) [63, 58, 44, 91, 93, 123, 125, 35, 38, 42, 33, 124, 62, 39, 34, 37, 64, 96]).bind fun r2 =>
  if r2 = true then some false
  else (if (decide (0 ≤ (0 : Int) ∧ (0 : Int) < (List.length a0 : Int))) = true then (if ((!((((List.length a0 : Int) == 1) == false) && (((((a0)[Int.toNat 0]?.getD 0).toNat : Int) == 45) == true)) || decide (0 ≤ (1 : Int) ∧ (1 : Int) < (List.length a0 : Int)))) = true then (lett ((bif ((((a0)[Int.toNat 0]?.getD 0).toNat : Int) == 45) then (bif ((List.length a0 : Int) == 1) then true else ((((a0)[Int.toNat 1]?.getD 0).toNat : Int) == 32)) else false) : Bool) fun x3 =>
  if x3 = true then some false
  else ((ref06_Plain_l1 n a0 (List.length a0 : Int) n 0).bind fun o4 =>
  (Sum.elim (fun o4 => some true) (fun o4 => some o4)) o4)) else none) else none)) else none)) else none) else none
theorem ok_ref06_Plain (n : Nat) (a0 : List UInt8) (r : Bool) (h : ref06_Plain n a0 = some r) : CallsX Try.prog 11 [.str a0] (.val (.bool r)) := by
  unfold ref06_Plain at h
  refine callsX_of (fn := Try.f11) (by kernel_rfl) rfl (by kernel_rfl) (Nat.le_of_ble_eq_true (by kernel_rfl)) fun F0 w0 => ?_
  refine Wp.keep (kk := [0]) (kl := []) (K' := [(0, .str a0)]) (L' := []) (by kernel_rfl) (by kernel_rfl) ?_
  refine Wp.seq ?_
  refine Wp.region hΓ [] [] [0] [] (K' := [(0, .str a0)]) (L' := []) (ob := []) (by kernel_rfl) AllP.nil ?_
  refine To.thenN ?_
  refine Wp.seq ?_
  refine Wp.region hΓ [] [] [0, 3] [] (K' := [(0, .str a0), (3, .val (.int .i64 (List.length a0 : Int)))]) (L' := []) (ob := []) (by kernel_rfl) AllP.nil ?_
  refine To.thenN ?_
  refine Wp.seq ?_
  refine Wp.seq ?_
  obtain ⟨hc8, h⟩ := chk_of h
  obtain ⟨hc9, h⟩ := chk_of h
  obtain ⟨x1, hx1, h⟩ := lett_of h
  refine Wp.region hΓ [] [] [0, 3, 28] [] (K' := [(0, .str a0), (3, .val (.int .i64 (List.length a0 : Int))), (28, .val (.bool (bif (bif (bif (bif ((List.length a0 : Int) == 0) then true else (a0 == [126])) then true else (a0 == [110, 117, 108, 108])) then true else ((((a0)[Int.toNat 0]?.getD 0).toNat : Int) == 32)) then true else ((((a0)[Int.toNat (IntKind.wrap .i64 ((List.length a0 : Int) - 1))]?.getD 0).toNat : Int) == 32))))]) (L' := []) (ob := [(!((bif (bif ((List.length a0 : Int) == 0) then true else (a0 == [126])) then true else (a0 == [110, 117, 108, 108])) == false) || decide (0 ≤ (0 : Int) ∧ (0 : Int) < (List.length a0 : Int))) = true, (!((bif (bif (bif ((List.length a0 : Int) == 0) then true else (a0 == [126])) then true else (a0 == [110, 117, 108, 108])) then true else ((((a0)[Int.toNat 0]?.getD 0).toNat : Int) == 32)) == false) || decide (0 ≤ (IntKind.wrap .i64 ((List.length a0 : Int) - 1)) ∧ (IntKind.wrap .i64 ((List.length a0 : Int) - 1)) < (List.length a0 : Int))) = true]) (by kernel_rfl) (AllP.cons hc8 (AllP.cons hc9 AllP.nil)) ?_
  refine To.eq (K' := [(0, .str a0), (3, .val (.int .i64 (List.length a0 : Int))), (28, .val (.bool x1))]) (L' := []) (by cases hx1; rfl) (by cases hx1; rfl) ?_
  refine To.thenN ?_
  refine Wp.cond (b := x1) (by kernel_rfl) (fun hb => ?_) (fun hb => ?_)
  · replace h := if_t hb h
    refine Wp.seq ?_
    refine Wp.region hΓ [] [] [2] [] (K' := [(2, .val (.bool false))]) (L' := []) (ob := []) (by kernel_rfl) AllP.nil ?_
    refine To.thenN ?_
    refine Wp.ret ?_
    refine To.thenR ?_
    refine To.keep (kk := [2]) (kl := []) (K' := [(2, .val (.bool false))]) (L' := []) (by kernel_rfl) (by kernel_rfl) ?_
    cases h
    exact To.done hΓ (by kernel_rfl)
  · replace h := if_f hb h
    refine Wp.skip ?_
    refine To.thenN ?_
    refine Wp.seq ?_
    refine Wp.seq ?_
    obtain ⟨hc7, h⟩ := chk_of h
    obtain ⟨r2, hr2, h⟩ := bind_of h
    refine Wp.region hΓ [] [(2, .val (.bool r2))] [0, 3, 31] [] (K' := [(0, .str a0), (3, .val (.int .i64 (List.length a0 : Int))), (31, .val (.bool r2))]) (L' := []) (ob := [(decide (0 ≤ (0 : Int) ∧ (0 : Int) < (List.length a0 : Int))) = true, (true = true → CX Try.prog 24 [.val (.int .u8 (((a0)[Int.toNat 0]?.getD 0).toNat : Int)), .str [63, 58, 44, 91, 93, 123, 125, 35, 38, 42, 33, 124, 62, 39, 34, 37, 64, 96]] (.val (.bool r2)))]) (by kernel_rfl) (AllP.cons hc7 (AllP.cons (fun _ => cx (ok_ref06_one n (((a0)[Int.toNat 0]?.getD 0).toNat : Int) [63, 58, 44, 91, 93, 123, 125, 35, 38, 42, 33, 124, 62, 39, 34, 37, 64, 96] _ hr2)) AllP.nil)) ?_
    refine To.thenN ?_
    refine Wp.cond (b := r2) (by kernel_rfl) (fun hb => ?_) (fun hb => ?_)
    · replace h := if_t hb h
      refine Wp.seq ?_
      refine Wp.region hΓ [] [] [2] [] (K' := [(2, .val (.bool false))]) (L' := []) (ob := []) (by kernel_rfl) AllP.nil ?_
      refine To.thenN ?_
      refine Wp.ret ?_
      refine To.thenR ?_
      refine To.keep (kk := [2]) (kl := []) (K' := [(2, .val (.bool false))]) (L' := []) (by kernel_rfl) (by kernel_rfl) ?_
      cases h
      exact To.done hΓ (by kernel_rfl)
    · replace h := if_f hb h
      refine Wp.skip ?_
      refine To.thenN ?_
      refine Wp.seq ?_
      refine Wp.seq ?_
      obtain ⟨hc5, h⟩ := chk_of h
      obtain ⟨hc6, h⟩ := chk_of h
      obtain ⟨x3, hx3, h⟩ := lett_of h
      refine Wp.region hΓ [] [] [0, 3, 43] [] (K' := [(0, .str a0), (3, .val (.int .i64 (List.length a0 : Int))), (43, .val (.bool (bif ((((a0)[Int.toNat 0]?.getD 0).toNat : Int) == 45) then (bif ((List.length a0 : Int) == 1) then true else ((((a0)[Int.toNat 1]?.getD 0).toNat : Int) == 32)) else false)))]) (L' := []) (ob := [(decide (0 ≤ (0 : Int) ∧ (0 : Int) < (List.length a0 : Int))) = true, (!((((List.length a0 : Int) == 1) == false) && (((((a0)[Int.toNat 0]?.getD 0).toNat : Int) == 45) == true)) || decide (0 ≤ (1 : Int) ∧ (1 : Int) < (List.length a0 : Int))) = true]) (by kernel_rfl) (AllP.cons hc5 (AllP.cons hc6 AllP.nil)) ?_
      refine To.eq (K' := [(0, .str a0), (3, .val (.int .i64 (List.length a0 : Int))), (43, .val (.bool x3))]) (L' := []) (by cases hx3; rfl) (by cases hx3; rfl) ?_
      refine To.thenN ?_
      refine Wp.cond (b := x3) (by kernel_rfl) (fun hb => ?_) (fun hb => ?_)
      · replace h := if_t hb h
        refine Wp.seq ?_
        refine Wp.region hΓ [] [] [2] [] (K' := [(2, .val (.bool false))]) (L' := []) (ob := []) (by kernel_rfl) AllP.nil ?_
        refine To.thenN ?_
        refine Wp.ret ?_
        refine To.thenR ?_
        refine To.keep (kk := [2]) (kl := []) (K' := [(2, .val (.bool false))]) (L' := []) (by kernel_rfl) (by kernel_rfl) ?_
        cases h
        exact To.done hΓ (by kernel_rfl)
      · replace h := if_f hb h
        refine Wp.skip ?_
        refine To.thenN ?_
        refine Wp.seq ?_
        refine Wp.seq ?_
        refine Wp.region hΓ [] [] [0, 3, 4] [] (K' := [(0, .str a0), (3, .val (.int .i64 (List.length a0 : Int))), (4, .val (.int .i64 0))]) (L' := []) (ob := []) (by kernel_rfl) AllP.nil ?_
        refine To.thenN ?_
        refine Wp.block ?_
        obtain ⟨o4, ho4, h⟩ := bind_of h
        refine Wp.keep (kk := [0, 3, 4]) (kl := []) (K' := [(0, .str a0), (3, .val (.int .i64 (List.length a0 : Int))), (4, .val (.int .i64 0))]) (L' := []) (by kernel_rfl) (by kernel_rfl) ?_
        refine Wp.loopL ?_
        refine ok_ref06_Plain_l1 n a0 (List.length a0 : Int) n 0 o4 ho4 ?_
        rcases o4 with o4 | o4
        · replace h := sum_l h
          refine To.blockX ?_
          refine To.thenN ?_
          refine Wp.seq ?_
          refine Wp.region hΓ [] [] [2] [] (K' := [(2, .val (.bool true))]) (L' := []) (ob := []) (by kernel_rfl) AllP.nil ?_
          refine To.thenN ?_
          refine Wp.ret ?_
          refine To.keep (kk := [2]) (kl := []) (K' := [(2, .val (.bool true))]) (L' := []) (by kernel_rfl) (by kernel_rfl) ?_
          cases h
          exact To.done hΓ (by kernel_rfl)
        · replace h := sum_r h
          refine To.blockR ?_
          refine To.thenR ?_
          refine To.keep (kk := [2]) (kl := []) (K' := [(2, .val (.bool o4))]) (L' := []) (by kernel_rfl) (by kernel_rfl) ?_
          cases h
          exact To.done hΓ (by kernel_rfl)
def ref06_Row_l1 (n : Nat) (v0 : List UInt8) : Nat → Int → Option (Sum (Unit) (Bool))
  | 0, _ => none
  | k + 1, v3 => if (decide (v3 < (List.length v0 : Int))) = true then (if (decide (0 ≤ v3 ∧ v3 < (List.length v0 : Int))) = true then ((ref06_one n (((v0)[Int.toNat v3]?.getD 0).toNat : Int) [44, 91, 93, 123, 125]).bind fun r1 =>
  if r1 = true then (some (.inr false))
  else (ref06_Row_l1 n v0 k (IntKind.wrap .i64 (v3 + 1)))) else none)
  else (some (.inl ()))
theorem ok_ref06_Row_l1 (n : Nat) (v0 : List UInt8) {F0 : Fz} {w0 : Pt} {Q : Exit → Act → World → Prop} (k : Nat) : ∀ (v3 : Int) (o : Sum (Unit) (Bool)), ref06_Row_l1 n v0 k v3 = some o → (Sum.elim (fun s => To 16 F0 w0 [(0, .str v0)] [] (.exit 0) Q) (fun s => To 16 F0 w0 [(2, .val (.bool s))] [] .ret Q)) o → WL Try.prog 16 F0 w0 [(0, .str v0), (3, .val (.int .i64 v3))] [] (cI (cI (cB (cA (cB (cF Try.f10)))))) Q := by
  induction k with
  | zero => intro v3 o h; cases h
  | succ k ih =>
    intro v3 o h hQ
    rw [ref06_Row_l1] at h
    refine WL.round ?_
    refine Wp.seq ?_
    refine Wp.seq ?_
    refine Wp.region hΓ [] [] [0, 3, 7] [] (K' := [(0, .str v0), (3, .val (.int .i64 v3)), (7, .val (.bool (decide (v3 < (List.length v0 : Int)))))]) (L' := []) (ob := []) (by kernel_rfl) AllP.nil ?_
    refine To.thenN ?_
    refine Wp.cond (b := (decide (v3 < (List.length v0 : Int)))) (by kernel_rfl) (fun hb => ?_) (fun hb => ?_)
    · replace h := if_t hb h
      refine Wp.skip ?_
      refine To.thenN ?_
      refine Wp.seq ?_
      refine Wp.block ?_
      refine Wp.seq ?_
      obtain ⟨hc2, h⟩ := chk_of h
      obtain ⟨r1, hr1, h⟩ := bind_of h
      refine Wp.region hΓ [] [(3, .val (.bool r1))] [0, 3, 13] [] (K' := [(0, .str v0), (3, .val (.int .i64 v3)), (13, .val (.bool r1))]) (L' := []) (ob := [(decide (0 ≤ v3 ∧ v3 < (List.length v0 : Int))) = true, (true = true → CX Try.prog 24 [.val (.int .u8 (((v0)[Int.toNat v3]?.getD 0).toNat : Int)), .str [44, 91, 93, 123, 125]] (.val (.bool r1)))]) (by kernel_rfl) (AllP.cons hc2 (AllP.cons (fun _ => cx (ok_ref06_one n (((v0)[Int.toNat v3]?.getD 0).toNat : Int) [44, 91, 93, 123, 125] _ hr1)) AllP.nil)) ?_
      refine To.thenN ?_
      refine Wp.cond (b := r1) (by kernel_rfl) (fun hb => ?_) (fun hb => ?_)
      · replace h := if_t hb h
        refine Wp.seq ?_
        refine Wp.region hΓ [] [] [2] [] (K' := [(2, .val (.bool false))]) (L' := []) (ob := []) (by kernel_rfl) AllP.nil ?_
        refine To.thenN ?_
        refine Wp.ret ?_
        refine To.blockR ?_
        refine To.thenR ?_
        refine To.thenR ?_
        refine To.keep (kk := [2]) (kl := []) (K' := [(2, .val (.bool false))]) (L' := []) (by kernel_rfl) (by kernel_rfl) ?_
        cases h
        exact hQ
      · replace h := if_f hb h
        refine Wp.skip ?_
        refine To.blockN ?_
        refine To.thenN ?_
        refine Wp.region hΓ [] [] [0, 3] [] (K' := [(0, .str v0), (3, .val (.int .i64 (IntKind.wrap .i64 (v3 + 1))))]) (L' := []) (ob := []) (by kernel_rfl) AllP.nil ?_
        refine To.keep (kk := [0, 3]) (kl := []) (K' := [(0, .str v0), (3, .val (.int .i64 (IntKind.wrap .i64 (v3 + 1))))]) (L' := []) (by kernel_rfl) (by kernel_rfl) ?_
        refine To.again ?_
        exact ih (IntKind.wrap .i64 (v3 + 1)) _ h hQ
    · replace h := if_f hb h
      refine Wp.exit ?_
      refine To.thenX ?_
      refine To.thenX ?_
      refine To.keep (kk := [0]) (kl := []) (K' := [(0, .str v0)]) (L' := []) (by kernel_rfl) (by kernel_rfl) ?_
      cases h
      exact hQ
def ref06_Row (n : Nat) (a0 : List UInt8) : Option (Bool) :=
  (ref06_Row_l1 n a0 n 0).bind fun o1 =>
  (Sum.elim (fun o1 => (ref06_Plain n a0).bind fun r2 =>
  some r2) (fun o1 => some o1)) o1
theorem ok_ref06_Row (n : Nat) (a0 : List UInt8) (r : Bool) (h : ref06_Row n a0 = some r) : CallsX Try.prog 10 [.str a0] (.val (.bool r)) := by
  unfold ref06_Row at h
  refine callsX_of (fn := Try.f10) (by kernel_rfl) rfl (by kernel_rfl) (Nat.le_of_ble_eq_true (by kernel_rfl)) fun F0 w0 => ?_
  refine Wp.keep (kk := [0]) (kl := []) (K' := [(0, .str a0)]) (L' := []) (by kernel_rfl) (by kernel_rfl) ?_
  refine Wp.seq ?_
  refine Wp.region hΓ [] [] [0] [] (K' := [(0, .str a0)]) (L' := []) (ob := []) (by kernel_rfl) AllP.nil ?_
  refine To.thenN ?_
  refine Wp.seq ?_
  refine Wp.seq ?_
  refine Wp.region hΓ [] [] [0, 3] [] (K' := [(0, .str a0), (3, .val (.int .i64 0))]) (L' := []) (ob := []) (by kernel_rfl) AllP.nil ?_
  refine To.thenN ?_
  refine Wp.block ?_
  obtain ⟨o1, ho1, h⟩ := bind_of h
  refine Wp.keep (kk := [0, 3]) (kl := []) (K' := [(0, .str a0), (3, .val (.int .i64 0))]) (L' := []) (by kernel_rfl) (by kernel_rfl) ?_
  refine Wp.loopL ?_
  refine ok_ref06_Row_l1 n a0 n 0 o1 ho1 ?_
  rcases o1 with o1 | o1
  · replace h := sum_l h
    refine To.blockX ?_
    refine To.thenN ?_
    refine Wp.seq ?_
    obtain ⟨r2, hr2, h⟩ := bind_of h
    refine Wp.region hΓ [] [(1, .val (.bool r2))] [2] [] (K' := [(2, .val (.bool r2))]) (L' := []) (ob := [(true = true → CX Try.prog 11 [.str a0] (.val (.bool r2)))]) (by kernel_rfl) (AllP.cons (fun _ => cx (ok_ref06_Plain n a0 _ hr2)) AllP.nil) ?_
    refine To.thenN ?_
    refine Wp.ret ?_
    refine To.keep (kk := [2]) (kl := []) (K' := [(2, .val (.bool r2))]) (L' := []) (by kernel_rfl) (by kernel_rfl) ?_
    cases h
    exact To.done hΓ (by kernel_rfl)
  · replace h := sum_r h
    refine To.blockR ?_
    refine To.thenR ?_
    refine To.keep (kk := [2]) (kl := []) (K' := [(2, .val (.bool o1))]) (L' := []) (by kernel_rfl) (by kernel_rfl) ?_
    cases h
    exact To.done hΓ (by kernel_rfl)
def quote_Single_j2 (n : Nat) (v0 : List UInt8) (v4 : List (UInt8)) (v13 : Int) (v14 : Int) : Option (Sum ((List (UInt8))) ((List UInt8) × Bool)) :=
  if (decide (0 ≤ v14 ∧ v14 < (List.length v0 : Int))) = true then (if (!(quote_ok (((v0)[Int.toNat v14]?.getD 0).toNat : Int))) = true then (some (.inr ([], false)))
  else (if (decide (0 ≤ v14 ∧ v14 < (List.length v0 : Int))) = true then (if (decide ((List.length v4 + List.length ([((v0)[Int.toNat v14]?.getD 0)] : List (UInt8))) * (1 + 1) ≤ limit)) = true then (if (decide (0 ≤ v14 ∧ v14 < (List.length v0 : Int))) = true then (if ((((v0)[Int.toNat v14]?.getD 0).toNat : Int) == 39) = true then (if (decide ((List.length (v4 ++ ([((v0)[Int.toNat v14]?.getD 0)] : List (UInt8))) + List.length ([39] : List (UInt8))) * (1 + 1) ≤ limit)) = true then (some (.inl ((v4 ++ ([((v0)[Int.toNat v14]?.getD 0)] : List (UInt8))) ++ ([39] : List (UInt8))))) else none)
  else (some (.inl (v4 ++ ([((v0)[Int.toNat v14]?.getD 0)] : List (UInt8)))))) else none) else none) else none)) else none
theorem ok_quote_Single_j2 (n : Nat) (v0 : List UInt8) (v4 : List (UInt8)) (v13 : Int) (v14 : Int) (o : Sum ((List (UInt8))) ((List UInt8) × Bool)) (h : quote_Single_j2 n v0 v4 v13 v14 = some o) {F0 : Fz} {w0 : Pt} {Q : Exit → Act → World → Prop} (hQ : (Sum.elim (fun s => To 40 F0 w0 [(0, .str v0), (4, .row 1004), (13, .val (.int .i64 v13)), (14, .val (.int .i64 v14))] [(1004, 5, [.rowc false (α := UInt8) 0 e8 s])] .normal Q) (fun s => To 40 F0 w0 [(2, .str s.1), (3, .val (.bool s.2))] [] .ret Q)) o) : Wp Try.prog 40 F0 w0 [(0, .str v0), (4, .row 1004), (13, .val (.int .i64 v13)), (14, .val (.int .i64 v14))] [(1004, 5, [.rowc false (α := UInt8) 0 e8 v4])] (cA (cB (cB (cI (cI (cB (cA (cB (cB (cF Try.f12)))))))))) Q := by
  unfold quote_Single_j2 at h
  refine Wp.block ?_
  refine Wp.seq ?_
  refine Wp.region hΓ [] [] [0, 4, 5, 13, 14] [1004] (K' := [(0, .str v0), (4, .row 1004), (5, .val (.int .i64 v14)), (13, .val (.int .i64 v13)), (14, .val (.int .i64 v14))]) (L' := [(1004, 5, [.rowc false (α := UInt8) 0 e8 v4])]) (ob := []) (by kernel_rfl) AllP.nil ?_
  refine To.thenN ?_
  refine Wp.seq ?_
  refine Wp.seq ?_
  obtain ⟨hc5, h⟩ := chk_of h
  refine Wp.region hΓ [] [(3, .val (.bool (quote_ok (((v0)[Int.toNat v14]?.getD 0).toNat : Int))))] [0, 4, 5, 13, 14, 21] [1004] (K' := [(0, .str v0), (4, .row 1004), (5, .val (.int .i64 v14)), (13, .val (.int .i64 v13)), (14, .val (.int .i64 v14)), (21, .val (.bool (!(quote_ok (((v0)[Int.toNat v14]?.getD 0).toNat : Int)))))]) (L' := [(1004, 5, [.rowc false (α := UInt8) 0 e8 v4])]) (ob := [(decide (0 ≤ v14 ∧ v14 < (List.length v0 : Int))) = true, (true = true → CX Try.prog 18 [.val (.int .u8 (((v0)[Int.toNat v14]?.getD 0).toNat : Int))] (.val (.bool (quote_ok (((v0)[Int.toNat v14]?.getD 0).toNat : Int)))))]) (by kernel_rfl) (AllP.cons hc5 (AllP.cons (fun _ => cx (ok_quote_ok (((v0)[Int.toNat v14]?.getD 0).toNat : Int) _ rfl)) AllP.nil)) ?_
  refine To.thenN ?_
  refine Wp.cond (b := (!(quote_ok (((v0)[Int.toNat v14]?.getD 0).toNat : Int)))) (by kernel_rfl) (fun hb => ?_) (fun hb => ?_)
  · replace h := if_t hb h
    refine Wp.seq ?_
    refine Wp.region hΓ [] [] [2, 3] [] (K' := [(2, .str []), (3, .val (.bool false))]) (L' := []) (ob := []) (by kernel_rfl) AllP.nil ?_
    refine To.thenN ?_
    refine Wp.ret ?_
    refine To.thenR ?_
    refine To.blockR ?_
    refine To.keep (kk := [2, 3]) (kl := []) (K' := [(2, .str []), (3, .val (.bool false))]) (L' := []) (by kernel_rfl) (by kernel_rfl) ?_
    cases h
    exact hQ
  · replace h := if_f hb h
    refine Wp.skip ?_
    refine To.thenN ?_
    refine Wp.seq ?_
    obtain ⟨hc3, h⟩ := chk_of h
    obtain ⟨hc4, h⟩ := chk_of h
    refine Wp.region hΓ [] [(4, .recs (α := UInt8) 0 e8 ([((v0)[Int.toNat v14]?.getD 0)])), (5, .recs (α := UInt8) 0 e8 (v4 ++ ([((v0)[Int.toNat v14]?.getD 0)] : List (UInt8))))] [0, 4, 5, 13, 14] [27] (K' := [(0, .str v0), (4, .row 27), (5, .val (.int .i64 v14)), (13, .val (.int .i64 v13)), (14, .val (.int .i64 v14))]) (L' := [(27, 5, [.rowc false (α := UInt8) 0 e8 (v4 ++ ([((v0)[Int.toNat v14]?.getD 0)] : List (UInt8)))])]) (ob := [(decide (0 ≤ v14 ∧ v14 < (List.length v0 : Int))) = true, (MkOb 1 [.val (.int .u8 (((v0)[Int.toNat v14]?.getD 0).toNat : Int))] 1 (.recs (α := UInt8) 0 e8 ([((v0)[Int.toNat v14]?.getD 0)])) ∧ GoodR (.recs (α := UInt8) 0 e8 ([((v0)[Int.toNat v14]?.getD 0)]))), (decide ((List.length v4 + List.length ([((v0)[Int.toNat v14]?.getD 0)] : List (UInt8))) * (1 + 1) ≤ limit)) = true, (AppOb 0 e8 v4 (List.flatMap e8 ([((v0)[Int.toNat v14]?.getD 0)] : List (UInt8))) (List.length ([((v0)[Int.toNat v14]?.getD 0)] : List (UInt8))) (.recs (α := UInt8) 0 e8 (v4 ++ ([((v0)[Int.toNat v14]?.getD 0)] : List (UInt8)))) ∧ GoodR (.recs (α := UInt8) 0 e8 (v4 ++ ([((v0)[Int.toNat v14]?.getD 0)] : List (UInt8)))))]) (by kernel_rfl) (AllP.cons hc3 (AllP.cons (mkOb (All8.cells (ns := [(((v0)[Int.toNat v14]?.getD 0).toNat : Int)]) (.cons rfl .nil)) rfl rfl (good8 _)) (AllP.cons hc4 (AllP.cons (appOb rfl rfl (good8 _)) AllP.nil)))) ?_
    refine To.thenN ?_
    refine Wp.seq ?_
    obtain ⟨hc2, h⟩ := chk_of h
    refine Wp.region hΓ [] [] [0, 4, 13, 14, 31] [27] (K' := [(0, .str v0), (4, .row 27), (13, .val (.int .i64 v13)), (14, .val (.int .i64 v14)), (31, .val (.bool ((((v0)[Int.toNat v14]?.getD 0).toNat : Int) == 39)))]) (L' := [(27, 5, [.rowc false (α := UInt8) 0 e8 (v4 ++ ([((v0)[Int.toNat v14]?.getD 0)] : List (UInt8)))])]) (ob := [(decide (0 ≤ v14 ∧ v14 < (List.length v0 : Int))) = true]) (by kernel_rfl) (AllP.cons hc2 AllP.nil) ?_
    refine To.thenN ?_
    refine Wp.cond (b := ((((v0)[Int.toNat v14]?.getD 0).toNat : Int) == 39)) (by kernel_rfl) (fun hb => ?_) (fun hb => ?_)
    · replace h := if_t hb h
      obtain ⟨hc1, h⟩ := chk_of h
      refine Wp.region hΓ [] [(1, .recs (α := UInt8) 0 e8 [39]), (2, .recs (α := UInt8) 0 e8 ((v4 ++ ([((v0)[Int.toNat v14]?.getD 0)] : List (UInt8))) ++ ([39] : List (UInt8))))] [0, 4, 13, 14] [34] (K' := [(0, .str v0), (4, .row 34), (13, .val (.int .i64 v13)), (14, .val (.int .i64 v14))]) (L' := [(34, 5, [.rowc false (α := UInt8) 0 e8 ((v4 ++ ([((v0)[Int.toNat v14]?.getD 0)] : List (UInt8))) ++ ([39] : List (UInt8)))])]) (ob := [(MkOb 1 [.val (.int .u8 39)] 1 (.recs (α := UInt8) 0 e8 [39]) ∧ GoodR (.recs (α := UInt8) 0 e8 [39])), (decide ((List.length (v4 ++ ([((v0)[Int.toNat v14]?.getD 0)] : List (UInt8))) + List.length ([39] : List (UInt8))) * (1 + 1) ≤ limit)) = true, (AppOb 0 e8 (v4 ++ ([((v0)[Int.toNat v14]?.getD 0)] : List (UInt8))) (List.flatMap e8 ([39] : List (UInt8))) (List.length ([39] : List (UInt8))) (.recs (α := UInt8) 0 e8 ((v4 ++ ([((v0)[Int.toNat v14]?.getD 0)] : List (UInt8))) ++ ([39] : List (UInt8)))) ∧ GoodR (.recs (α := UInt8) 0 e8 ((v4 ++ ([((v0)[Int.toNat v14]?.getD 0)] : List (UInt8))) ++ ([39] : List (UInt8)))))]) (by kernel_rfl) (AllP.cons (mkOb (All8.cells (ns := [39]) (.cons rfl .nil)) rfl rfl (good8 _)) (AllP.cons hc1 (AllP.cons (appOb rfl rfl (good8 _)) AllP.nil))) ?_
      refine To.blockN ?_
      refine To.keep (kk := [0, 4, 13, 14]) (kl := [34]) (K' := [(0, .str v0), (4, .row 34), (13, .val (.int .i64 v13)), (14, .val (.int .i64 v14))]) (L' := [(34, 5, [.rowc false (α := UInt8) 0 e8 ((v4 ++ ([((v0)[Int.toNat v14]?.getD 0)] : List (UInt8))) ++ ([39] : List (UInt8)))])]) (by kernel_rfl) (by kernel_rfl) ?_
      refine To.pre (St.rename 34 1004 (K' := [(0, .str v0), (4, .row 1004), (13, .val (.int .i64 v13)), (14, .val (.int .i64 v14))]) (L' := [(1004, 5, [.rowc false (α := UInt8) 0 e8 ((v4 ++ ([((v0)[Int.toNat v14]?.getD 0)] : List (UInt8))) ++ ([39] : List (UInt8)))])]) (by kernel_rfl) (by kernel_rfl) (by kernel_rfl)) ?_
      refine To.keep (kk := [0, 4, 13, 14]) (kl := [1004]) (K' := [(0, .str v0), (4, .row 1004), (13, .val (.int .i64 v13)), (14, .val (.int .i64 v14))]) (L' := [(1004, 5, [.rowc false (α := UInt8) 0 e8 ((v4 ++ ([((v0)[Int.toNat v14]?.getD 0)] : List (UInt8))) ++ ([39] : List (UInt8)))])]) (by kernel_rfl) (by kernel_rfl) ?_
      cases h
      exact hQ
    · replace h := if_f hb h
      refine Wp.skip ?_
      refine To.blockN ?_
      refine To.keep (kk := [0, 4, 13, 14]) (kl := [27]) (K' := [(0, .str v0), (4, .row 27), (13, .val (.int .i64 v13)), (14, .val (.int .i64 v14))]) (L' := [(27, 5, [.rowc false (α := UInt8) 0 e8 (v4 ++ ([((v0)[Int.toNat v14]?.getD 0)] : List (UInt8)))])]) (by kernel_rfl) (by kernel_rfl) ?_
      refine To.pre (St.rename 27 1004 (K' := [(0, .str v0), (4, .row 1004), (13, .val (.int .i64 v13)), (14, .val (.int .i64 v14))]) (L' := [(1004, 5, [.rowc false (α := UInt8) 0 e8 (v4 ++ ([((v0)[Int.toNat v14]?.getD 0)] : List (UInt8)))])]) (by kernel_rfl) (by kernel_rfl) (by kernel_rfl)) ?_
      refine To.keep (kk := [0, 4, 13, 14]) (kl := [1004]) (K' := [(0, .str v0), (4, .row 1004), (13, .val (.int .i64 v13)), (14, .val (.int .i64 v14))]) (L' := [(1004, 5, [.rowc false (α := UInt8) 0 e8 (v4 ++ ([((v0)[Int.toNat v14]?.getD 0)] : List (UInt8)))])]) (by kernel_rfl) (by kernel_rfl) ?_
      cases h
      exact hQ
def quote_Single_l1 (n : Nat) (v0 : List UInt8) (v13 : Int) : Nat → (List (UInt8)) → Int → Option (Sum ((List (UInt8))) ((List UInt8) × Bool))
  | 0, _, _ => none
  | k + 1, v4, v14 => if (decide (v14 < v13)) = true then ((quote_Single_j2 n v0 v4 v13 v14).bind fun o1 =>
  (Sum.elim (fun o1 => quote_Single_l1 n v0 v13 k o1 (IntKind.wrap .i64 (v14 + 1))) (fun o1 => some (.inr (o1.1, o1.2)))) o1)
  else (some (.inl v4))
theorem ok_quote_Single_l1 (n : Nat) (v0 : List UInt8) (v13 : Int) {F0 : Fz} {w0 : Pt} {Q : Exit → Act → World → Prop} (k : Nat) : ∀ (v4 : List (UInt8)) (v14 : Int) (o : Sum ((List (UInt8))) ((List UInt8) × Bool)), quote_Single_l1 n v0 v13 k v4 v14 = some o → (Sum.elim (fun s => To 40 F0 w0 [(4, .row 1004)] [(1004, 5, [.rowc false (α := UInt8) 0 e8 s])] (.exit 0) Q) (fun s => To 40 F0 w0 [(2, .str s.1), (3, .val (.bool s.2))] [] .ret Q)) o → WL Try.prog 40 F0 w0 [(0, .str v0), (4, .row 1004), (13, .val (.int .i64 v13)), (14, .val (.int .i64 v14))] [(1004, 5, [.rowc false (α := UInt8) 0 e8 v4])] (cI (cI (cB (cA (cB (cB (cF Try.f12))))))) Q := by
  induction k with
  | zero => intro v4 v14 o h; cases h
  | succ k ih =>
    intro v4 v14 o h hQ
    rw [quote_Single_l1] at h
    refine WL.round ?_
    refine Wp.seq ?_
    refine Wp.region hΓ [] [] [0, 4, 13, 14, 15] [1004] (K' := [(0, .str v0), (4, .row 1004), (13, .val (.int .i64 v13)), (14, .val (.int .i64 v14)), (15, .val (.bool (decide (v14 < v13))))]) (L' := [(1004, 5, [.rowc false (α := UInt8) 0 e8 v4])]) (ob := []) (by kernel_rfl) AllP.nil ?_
    refine To.thenN ?_
    refine Wp.seq ?_
    refine Wp.cond (b := (decide (v14 < v13))) (by kernel_rfl) (fun hb => ?_) (fun hb => ?_)
    · replace h := if_t hb h
      refine Wp.skip ?_
      refine To.thenN ?_
      refine Wp.seq ?_
      obtain ⟨o1, ho1, h⟩ := bind_of h
      refine Wp.keep (kk := [0, 4, 13, 14]) (kl := [1004]) (K' := [(0, .str v0), (4, .row 1004), (13, .val (.int .i64 v13)), (14, .val (.int .i64 v14))]) (L' := [(1004, 5, [.rowc false (α := UInt8) 0 e8 v4])]) (by kernel_rfl) (by kernel_rfl) ?_
      refine ok_quote_Single_j2 n v0 v4 v13 v14 o1 ho1 ?_
      rcases o1 with o1 | o1
      · replace h := sum_l h
        refine To.thenN ?_
        refine Wp.region hΓ [] [] [0, 4, 13, 14] [1004] (K' := [(0, .str v0), (4, .row 1004), (13, .val (.int .i64 v13)), (14, .val (.int .i64 (IntKind.wrap .i64 (v14 + 1))))]) (L' := [(1004, 5, [.rowc false (α := UInt8) 0 e8 o1])]) (ob := []) (by kernel_rfl) AllP.nil ?_
        refine To.keep (kk := [0, 4, 13, 14]) (kl := [1004]) (K' := [(0, .str v0), (4, .row 1004), (13, .val (.int .i64 v13)), (14, .val (.int .i64 (IntKind.wrap .i64 (v14 + 1))))]) (L' := [(1004, 5, [.rowc false (α := UInt8) 0 e8 o1])]) (by kernel_rfl) (by kernel_rfl) ?_
        refine To.again ?_
        exact ih o1 (IntKind.wrap .i64 (v14 + 1)) _ h hQ
      · replace h := sum_r h
        refine To.thenR ?_
        refine To.thenR ?_
        refine To.keep (kk := [2, 3]) (kl := []) (K' := [(2, .str o1.1), (3, .val (.bool o1.2))]) (L' := []) (by kernel_rfl) (by kernel_rfl) ?_
        cases h
        exact hQ
    · replace h := if_f hb h
      refine Wp.exit ?_
      refine To.thenX ?_
      refine To.thenX ?_
      refine To.keep (kk := [4]) (kl := [1004]) (K' := [(4, .row 1004)]) (L' := [(1004, 5, [.rowc false (α := UInt8) 0 e8 v4])]) (by kernel_rfl) (by kernel_rfl) ?_
      cases h
      exact hQ
def quote_Single (n : Nat) (a0 : List UInt8) : Option ((List UInt8) × Bool) :=
  if (decide (0 ≤ (0 : Int) ∧ (0 : Int) ≤ (IntKind.wrap .i64 ((List.length a0 : Int) + 2)))) = true then (if (decide ((IntKind.wrap .i64 ((List.length a0 : Int) + 2)) * ((1 + 1 : Nat) : Int) ≤ (limit : Int))) = true then (if (decide ((List.length ([] : List (UInt8)) + List.length ([39] : List (UInt8))) * (1 + 1) ≤ limit)) = true then ((quote_Single_l1 n a0 (List.length a0 : Int) n (([] : List (UInt8)) ++ ([39] : List (UInt8))) 0).bind fun o1 =>
  (Sum.elim (fun o1 => if (decide ((List.length o1 + List.length ([39] : List (UInt8))) * (1 + 1) ≤ limit)) = true then (some ((o1 ++ ([39] : List (UInt8))), true)) else none) (fun o1 => some (o1.1, o1.2))) o1) else none) else none) else none
theorem ok_quote_Single (n : Nat) (a0 : List UInt8) (r : (List UInt8) × Bool) (h : quote_Single n a0 = some r) : CallsX Try.prog 12 [.str a0] (.tup [.str r.1, .val (.bool r.2)]) := by
  unfold quote_Single at h
  refine callsX_of (fn := Try.f12) (by kernel_rfl) rfl (by kernel_rfl) (Nat.le_of_ble_eq_true (by kernel_rfl)) fun F0 w0 => ?_
  refine Wp.keep (kk := [0]) (kl := []) (K' := [(0, .str a0)]) (L' := []) (by kernel_rfl) (by kernel_rfl) ?_
  refine Wp.seq ?_
  refine Wp.region hΓ [] [] [0] [] (K' := [(0, .str a0)]) (L' := []) (ob := []) (by kernel_rfl) AllP.nil ?_
  refine To.thenN ?_
  refine Wp.seq ?_
  obtain ⟨hc3, h⟩ := chk_of h
  obtain ⟨hc4, h⟩ := chk_of h
  obtain ⟨hc5, h⟩ := chk_of h
  refine Wp.region hΓ [] [(3, .recs (α := UInt8) 0 e8 []), (4, .recs (α := UInt8) 0 e8 [39]), (5, .recs (α := UInt8) 0 e8 (([] : List (UInt8)) ++ ([39] : List (UInt8))))] [0, 4] [11] (K' := [(0, .str a0), (4, .row 11)]) (L' := [(11, 5, [.rowc false (α := UInt8) 0 e8 (([] : List (UInt8)) ++ ([39] : List (UInt8)))])]) (ob := [(decide (0 ≤ (0 : Int) ∧ (0 : Int) ≤ (IntKind.wrap .i64 ((List.length a0 : Int) + 2)))) = true, (decide ((IntKind.wrap .i64 ((List.length a0 : Int) + 2)) * ((1 + 1 : Nat) : Int) ≤ (limit : Int))) = true, (MadeOb [.val (.int .u8 0)] (Int.toNat 0) (.recs (α := UInt8) 0 e8 []) ∧ GoodR (.recs (α := UInt8) 0 e8 [])), (MkOb 1 [.val (.int .u8 39)] 1 (.recs (α := UInt8) 0 e8 [39]) ∧ GoodR (.recs (α := UInt8) 0 e8 [39])), (decide ((List.length ([] : List (UInt8)) + List.length ([39] : List (UInt8))) * (1 + 1) ≤ limit)) = true, (AppOb 0 e8 ([] : List (UInt8)) (List.flatMap e8 ([39] : List (UInt8))) (List.length ([39] : List (UInt8))) (.recs (α := UInt8) 0 e8 (([] : List (UInt8)) ++ ([39] : List (UInt8)))) ∧ GoodR (.recs (α := UInt8) 0 e8 (([] : List (UInt8)) ++ ([39] : List (UInt8)))))]) (by kernel_rfl) (AllP.cons hc3 (AllP.cons hc4 (AllP.cons (madeOb (by kernel_rfl) (good8 _)) (AllP.cons (mkOb (All8.cells (ns := [39]) (.cons rfl .nil)) rfl rfl (good8 _)) (AllP.cons hc5 (AllP.cons (appOb rfl rfl (good8 _)) AllP.nil)))))) ?_
  refine To.thenN ?_
  refine Wp.seq ?_
  refine Wp.seq ?_
  refine Wp.region hΓ [] [] [0, 4, 13, 14] [11] (K' := [(0, .str a0), (4, .row 11), (13, .val (.int .i64 (List.length a0 : Int))), (14, .val (.int .i64 0))]) (L' := [(11, 5, [.rowc false (α := UInt8) 0 e8 (([] : List (UInt8)) ++ ([39] : List (UInt8)))])]) (ob := []) (by kernel_rfl) AllP.nil ?_
  refine To.thenN ?_
  refine Wp.block ?_
  obtain ⟨o1, ho1, h⟩ := bind_of h
  refine Wp.keep (kk := [0, 4, 13, 14]) (kl := [11]) (K' := [(0, .str a0), (4, .row 11), (13, .val (.int .i64 (List.length a0 : Int))), (14, .val (.int .i64 0))]) (L' := [(11, 5, [.rowc false (α := UInt8) 0 e8 (([] : List (UInt8)) ++ ([39] : List (UInt8)))])]) (by kernel_rfl) (by kernel_rfl) ?_
  refine Wp.pre (St.rename 11 1004 (K' := [(0, .str a0), (4, .row 1004), (13, .val (.int .i64 (List.length a0 : Int))), (14, .val (.int .i64 0))]) (L' := [(1004, 5, [.rowc false (α := UInt8) 0 e8 (([] : List (UInt8)) ++ ([39] : List (UInt8)))])]) (by kernel_rfl) (by kernel_rfl) (by kernel_rfl)) ?_
  refine Wp.keep (kk := [0, 4, 13, 14]) (kl := [1004]) (K' := [(0, .str a0), (4, .row 1004), (13, .val (.int .i64 (List.length a0 : Int))), (14, .val (.int .i64 0))]) (L' := [(1004, 5, [.rowc false (α := UInt8) 0 e8 (([] : List (UInt8)) ++ ([39] : List (UInt8)))])]) (by kernel_rfl) (by kernel_rfl) ?_
  refine Wp.loopL ?_
  refine ok_quote_Single_l1 n a0 (List.length a0 : Int) n (([] : List (UInt8)) ++ ([39] : List (UInt8))) 0 o1 ho1 ?_
  rcases o1 with o1 | o1
  · replace h := sum_l h
    refine To.blockX ?_
    refine To.thenN ?_
    refine Wp.seq ?_
    obtain ⟨hc2, h⟩ := chk_of h
    refine Wp.region hΓ [] [(1, .recs (α := UInt8) 0 e8 [39]), (2, .recs (α := UInt8) 0 e8 (o1 ++ ([39] : List (UInt8)))), (3, .str (o1 ++ ([39] : List (UInt8))))] [2, 3] [] (K' := [(2, .str (o1 ++ ([39] : List (UInt8)))), (3, .val (.bool true))]) (L' := []) (ob := [(MkOb 1 [.val (.int .u8 39)] 1 (.recs (α := UInt8) 0 e8 [39]) ∧ GoodR (.recs (α := UInt8) 0 e8 [39])), (decide ((List.length o1 + List.length ([39] : List (UInt8))) * (1 + 1) ≤ limit)) = true, (AppOb 0 e8 o1 (List.flatMap e8 ([39] : List (UInt8))) (List.length ([39] : List (UInt8))) (.recs (α := UInt8) 0 e8 (o1 ++ ([39] : List (UInt8)))) ∧ GoodR (.recs (α := UInt8) 0 e8 (o1 ++ ([39] : List (UInt8))))), (true = true → StrOb (List.flatMap e8 (o1 ++ ([39] : List (UInt8)))) (.str (o1 ++ ([39] : List (UInt8)))))]) (by kernel_rfl) (AllP.cons (mkOb (All8.cells (ns := [39]) (.cons rfl .nil)) rfl rfl (good8 _)) (AllP.cons hc2 (AllP.cons (appOb rfl rfl (good8 _)) (AllP.cons (fun _ => strOb (flat8 _)) AllP.nil)))) ?_
    refine To.thenN ?_
    refine Wp.ret ?_
    refine To.keep (kk := [2, 3]) (kl := []) (K' := [(2, .str (o1 ++ ([39] : List (UInt8)))), (3, .val (.bool true))]) (L' := []) (by kernel_rfl) (by kernel_rfl) ?_
    cases h
    exact To.done hΓ (by kernel_rfl)
  · replace h := sum_r h
    refine To.blockR ?_
    refine To.thenR ?_
    refine To.keep (kk := [2, 3]) (kl := []) (K' := [(2, .str o1.1), (3, .val (.bool o1.2))]) (L' := []) (by kernel_rfl) (by kernel_rfl) ?_
    cases h
    exact To.done hΓ (by kernel_rfl)
def ref06_Single_j2 (n : Nat) (v0 : List UInt8) (v4 : List (UInt8)) (v5 : Int) : Option (Sum ((List (UInt8))) ((List UInt8) × Bool)) :=
  if (decide (0 ≤ v5 ∧ v5 < (List.length v0 : Int))) = true then (if (!(ref06_Good (((v0)[Int.toNat v5]?.getD 0).toNat : Int))) = true then (some (.inr ([], false)))
  else (if (decide (0 ≤ v5 ∧ v5 < (List.length v0 : Int))) = true then (if (decide ((List.length v4 + List.length ([((v0)[Int.toNat v5]?.getD 0)] : List (UInt8))) * (1 + 1) ≤ limit)) = true then (if (decide (0 ≤ v5 ∧ v5 < (List.length v0 : Int))) = true then (if ((((v0)[Int.toNat v5]?.getD 0).toNat : Int) == 39) = true then (if (decide ((List.length (v4 ++ ([((v0)[Int.toNat v5]?.getD 0)] : List (UInt8))) + List.length ([39] : List (UInt8))) * (1 + 1) ≤ limit)) = true then (some (.inl ((v4 ++ ([((v0)[Int.toNat v5]?.getD 0)] : List (UInt8))) ++ ([39] : List (UInt8))))) else none)
  else (some (.inl (v4 ++ ([((v0)[Int.toNat v5]?.getD 0)] : List (UInt8)))))) else none) else none) else none)) else none
theorem ok_ref06_Single_j2 (n : Nat) (v0 : List UInt8) (v4 : List (UInt8)) (v5 : Int) (o : Sum ((List (UInt8))) ((List UInt8) × Bool)) (h : ref06_Single_j2 n v0 v4 v5 = some o) {F0 : Fz} {w0 : Pt} {Q : Exit → Act → World → Prop} (hQ : (Sum.elim (fun s => To 36 F0 w0 [(0, .str v0), (4, .row 1004), (5, .val (.int .i64 v5))] [(1004, 5, [.rowc false (α := UInt8) 0 e8 s])] .normal Q) (fun s => To 36 F0 w0 [(2, .str s.1), (3, .val (.bool s.2))] [] .ret Q)) o) : Wp Try.prog 36 F0 w0 [(0, .str v0), (4, .row 1004), (5, .val (.int .i64 v5))] [(1004, 5, [.rowc false (α := UInt8) 0 e8 v4])] (cA (cB (cI (cI (cB (cA (cB (cB (cF Try.f13))))))))) Q := by
  unfold ref06_Single_j2 at h
  refine Wp.block ?_
  refine Wp.seq ?_
  refine Wp.seq ?_
  obtain ⟨hc5, h⟩ := chk_of h
  refine Wp.region hΓ [] [(3, .val (.bool (ref06_Good (((v0)[Int.toNat v5]?.getD 0).toNat : Int))))] [0, 4, 5, 17] [1004] (K' := [(0, .str v0), (4, .row 1004), (5, .val (.int .i64 v5)), (17, .val (.bool (!(ref06_Good (((v0)[Int.toNat v5]?.getD 0).toNat : Int)))))]) (L' := [(1004, 5, [.rowc false (α := UInt8) 0 e8 v4])]) (ob := [(decide (0 ≤ v5 ∧ v5 < (List.length v0 : Int))) = true, (true = true → CX Try.prog 22 [.val (.int .u8 (((v0)[Int.toNat v5]?.getD 0).toNat : Int))] (.val (.bool (ref06_Good (((v0)[Int.toNat v5]?.getD 0).toNat : Int)))))]) (by kernel_rfl) (AllP.cons hc5 (AllP.cons (fun _ => cx (ok_ref06_Good (((v0)[Int.toNat v5]?.getD 0).toNat : Int) _ rfl)) AllP.nil)) ?_
  refine To.thenN ?_
  refine Wp.cond (b := (!(ref06_Good (((v0)[Int.toNat v5]?.getD 0).toNat : Int)))) (by kernel_rfl) (fun hb => ?_) (fun hb => ?_)
  · replace h := if_t hb h
    refine Wp.seq ?_
    refine Wp.region hΓ [] [] [2, 3] [] (K' := [(2, .str []), (3, .val (.bool false))]) (L' := []) (ob := []) (by kernel_rfl) AllP.nil ?_
    refine To.thenN ?_
    refine Wp.ret ?_
    refine To.thenR ?_
    refine To.blockR ?_
    refine To.keep (kk := [2, 3]) (kl := []) (K' := [(2, .str []), (3, .val (.bool false))]) (L' := []) (by kernel_rfl) (by kernel_rfl) ?_
    cases h
    exact hQ
  · replace h := if_f hb h
    refine Wp.skip ?_
    refine To.thenN ?_
    refine Wp.seq ?_
    obtain ⟨hc3, h⟩ := chk_of h
    obtain ⟨hc4, h⟩ := chk_of h
    refine Wp.region hΓ [] [(4, .recs (α := UInt8) 0 e8 ([((v0)[Int.toNat v5]?.getD 0)])), (5, .recs (α := UInt8) 0 e8 (v4 ++ ([((v0)[Int.toNat v5]?.getD 0)] : List (UInt8))))] [0, 4, 5] [23] (K' := [(0, .str v0), (4, .row 23), (5, .val (.int .i64 v5))]) (L' := [(23, 5, [.rowc false (α := UInt8) 0 e8 (v4 ++ ([((v0)[Int.toNat v5]?.getD 0)] : List (UInt8)))])]) (ob := [(decide (0 ≤ v5 ∧ v5 < (List.length v0 : Int))) = true, (MkOb 1 [.val (.int .u8 (((v0)[Int.toNat v5]?.getD 0).toNat : Int))] 1 (.recs (α := UInt8) 0 e8 ([((v0)[Int.toNat v5]?.getD 0)])) ∧ GoodR (.recs (α := UInt8) 0 e8 ([((v0)[Int.toNat v5]?.getD 0)]))), (decide ((List.length v4 + List.length ([((v0)[Int.toNat v5]?.getD 0)] : List (UInt8))) * (1 + 1) ≤ limit)) = true, (AppOb 0 e8 v4 (List.flatMap e8 ([((v0)[Int.toNat v5]?.getD 0)] : List (UInt8))) (List.length ([((v0)[Int.toNat v5]?.getD 0)] : List (UInt8))) (.recs (α := UInt8) 0 e8 (v4 ++ ([((v0)[Int.toNat v5]?.getD 0)] : List (UInt8)))) ∧ GoodR (.recs (α := UInt8) 0 e8 (v4 ++ ([((v0)[Int.toNat v5]?.getD 0)] : List (UInt8)))))]) (by kernel_rfl) (AllP.cons hc3 (AllP.cons (mkOb (All8.cells (ns := [(((v0)[Int.toNat v5]?.getD 0).toNat : Int)]) (.cons rfl .nil)) rfl rfl (good8 _)) (AllP.cons hc4 (AllP.cons (appOb rfl rfl (good8 _)) AllP.nil)))) ?_
    refine To.thenN ?_
    refine Wp.seq ?_
    obtain ⟨hc2, h⟩ := chk_of h
    refine Wp.region hΓ [] [] [0, 4, 5, 27] [23] (K' := [(0, .str v0), (4, .row 23), (5, .val (.int .i64 v5)), (27, .val (.bool ((((v0)[Int.toNat v5]?.getD 0).toNat : Int) == 39)))]) (L' := [(23, 5, [.rowc false (α := UInt8) 0 e8 (v4 ++ ([((v0)[Int.toNat v5]?.getD 0)] : List (UInt8)))])]) (ob := [(decide (0 ≤ v5 ∧ v5 < (List.length v0 : Int))) = true]) (by kernel_rfl) (AllP.cons hc2 AllP.nil) ?_
    refine To.thenN ?_
    refine Wp.cond (b := ((((v0)[Int.toNat v5]?.getD 0).toNat : Int) == 39)) (by kernel_rfl) (fun hb => ?_) (fun hb => ?_)
    · replace h := if_t hb h
      obtain ⟨hc1, h⟩ := chk_of h
      refine Wp.region hΓ [] [(1, .recs (α := UInt8) 0 e8 [39]), (2, .recs (α := UInt8) 0 e8 ((v4 ++ ([((v0)[Int.toNat v5]?.getD 0)] : List (UInt8))) ++ ([39] : List (UInt8))))] [0, 4, 5] [30] (K' := [(0, .str v0), (4, .row 30), (5, .val (.int .i64 v5))]) (L' := [(30, 5, [.rowc false (α := UInt8) 0 e8 ((v4 ++ ([((v0)[Int.toNat v5]?.getD 0)] : List (UInt8))) ++ ([39] : List (UInt8)))])]) (ob := [(MkOb 1 [.val (.int .u8 39)] 1 (.recs (α := UInt8) 0 e8 [39]) ∧ GoodR (.recs (α := UInt8) 0 e8 [39])), (decide ((List.length (v4 ++ ([((v0)[Int.toNat v5]?.getD 0)] : List (UInt8))) + List.length ([39] : List (UInt8))) * (1 + 1) ≤ limit)) = true, (AppOb 0 e8 (v4 ++ ([((v0)[Int.toNat v5]?.getD 0)] : List (UInt8))) (List.flatMap e8 ([39] : List (UInt8))) (List.length ([39] : List (UInt8))) (.recs (α := UInt8) 0 e8 ((v4 ++ ([((v0)[Int.toNat v5]?.getD 0)] : List (UInt8))) ++ ([39] : List (UInt8)))) ∧ GoodR (.recs (α := UInt8) 0 e8 ((v4 ++ ([((v0)[Int.toNat v5]?.getD 0)] : List (UInt8))) ++ ([39] : List (UInt8)))))]) (by kernel_rfl) (AllP.cons (mkOb (All8.cells (ns := [39]) (.cons rfl .nil)) rfl rfl (good8 _)) (AllP.cons hc1 (AllP.cons (appOb rfl rfl (good8 _)) AllP.nil))) ?_
      refine To.blockN ?_
      refine To.keep (kk := [0, 4, 5]) (kl := [30]) (K' := [(0, .str v0), (4, .row 30), (5, .val (.int .i64 v5))]) (L' := [(30, 5, [.rowc false (α := UInt8) 0 e8 ((v4 ++ ([((v0)[Int.toNat v5]?.getD 0)] : List (UInt8))) ++ ([39] : List (UInt8)))])]) (by kernel_rfl) (by kernel_rfl) ?_
      refine To.pre (St.rename 30 1004 (K' := [(0, .str v0), (4, .row 1004), (5, .val (.int .i64 v5))]) (L' := [(1004, 5, [.rowc false (α := UInt8) 0 e8 ((v4 ++ ([((v0)[Int.toNat v5]?.getD 0)] : List (UInt8))) ++ ([39] : List (UInt8)))])]) (by kernel_rfl) (by kernel_rfl) (by kernel_rfl)) ?_
      refine To.keep (kk := [0, 4, 5]) (kl := [1004]) (K' := [(0, .str v0), (4, .row 1004), (5, .val (.int .i64 v5))]) (L' := [(1004, 5, [.rowc false (α := UInt8) 0 e8 ((v4 ++ ([((v0)[Int.toNat v5]?.getD 0)] : List (UInt8))) ++ ([39] : List (UInt8)))])]) (by kernel_rfl) (by kernel_rfl) ?_
      cases h
      exact hQ
    · replace h := if_f hb h
      refine Wp.skip ?_
      refine To.blockN ?_
      refine To.keep (kk := [0, 4, 5]) (kl := [23]) (K' := [(0, .str v0), (4, .row 23), (5, .val (.int .i64 v5))]) (L' := [(23, 5, [.rowc false (α := UInt8) 0 e8 (v4 ++ ([((v0)[Int.toNat v5]?.getD 0)] : List (UInt8)))])]) (by kernel_rfl) (by kernel_rfl) ?_
      refine To.pre (St.rename 23 1004 (K' := [(0, .str v0), (4, .row 1004), (5, .val (.int .i64 v5))]) (L' := [(1004, 5, [.rowc false (α := UInt8) 0 e8 (v4 ++ ([((v0)[Int.toNat v5]?.getD 0)] : List (UInt8)))])]) (by kernel_rfl) (by kernel_rfl) (by kernel_rfl)) ?_
      refine To.keep (kk := [0, 4, 5]) (kl := [1004]) (K' := [(0, .str v0), (4, .row 1004), (5, .val (.int .i64 v5))]) (L' := [(1004, 5, [.rowc false (α := UInt8) 0 e8 (v4 ++ ([((v0)[Int.toNat v5]?.getD 0)] : List (UInt8)))])]) (by kernel_rfl) (by kernel_rfl) ?_
      cases h
      exact hQ
def ref06_Single_l1 (n : Nat) (v0 : List UInt8) : Nat → (List (UInt8)) → Int → Option (Sum ((List (UInt8))) ((List UInt8) × Bool))
  | 0, _, _ => none
  | k + 1, v4, v5 => if (decide (v5 < (List.length v0 : Int))) = true then ((ref06_Single_j2 n v0 v4 v5).bind fun o1 =>
  (Sum.elim (fun o1 => ref06_Single_l1 n v0 k o1 (IntKind.wrap .i64 (v5 + 1))) (fun o1 => some (.inr (o1.1, o1.2)))) o1)
  else (some (.inl v4))
theorem ok_ref06_Single_l1 (n : Nat) (v0 : List UInt8) {F0 : Fz} {w0 : Pt} {Q : Exit → Act → World → Prop} (k : Nat) : ∀ (v4 : List (UInt8)) (v5 : Int) (o : Sum ((List (UInt8))) ((List UInt8) × Bool)), ref06_Single_l1 n v0 k v4 v5 = some o → (Sum.elim (fun s => To 36 F0 w0 [(4, .row 1004)] [(1004, 5, [.rowc false (α := UInt8) 0 e8 s])] (.exit 0) Q) (fun s => To 36 F0 w0 [(2, .str s.1), (3, .val (.bool s.2))] [] .ret Q)) o → WL Try.prog 36 F0 w0 [(0, .str v0), (4, .row 1004), (5, .val (.int .i64 v5))] [(1004, 5, [.rowc false (α := UInt8) 0 e8 v4])] (cI (cI (cB (cA (cB (cB (cF Try.f13))))))) Q := by
  induction k with
  | zero => intro v4 v5 o h; cases h
  | succ k ih =>
    intro v4 v5 o h hQ
    rw [ref06_Single_l1] at h
    refine WL.round ?_
    refine Wp.seq ?_
    refine Wp.seq ?_
    refine Wp.region hΓ [] [] [0, 4, 5, 10] [1004] (K' := [(0, .str v0), (4, .row 1004), (5, .val (.int .i64 v5)), (10, .val (.bool (decide (v5 < (List.length v0 : Int)))))]) (L' := [(1004, 5, [.rowc false (α := UInt8) 0 e8 v4])]) (ob := []) (by kernel_rfl) AllP.nil ?_
    refine To.thenN ?_
    refine Wp.cond (b := (decide (v5 < (List.length v0 : Int)))) (by kernel_rfl) (fun hb => ?_) (fun hb => ?_)
    · replace h := if_t hb h
      refine Wp.skip ?_
      refine To.thenN ?_
      refine Wp.seq ?_
      obtain ⟨o1, ho1, h⟩ := bind_of h
      refine Wp.keep (kk := [0, 4, 5]) (kl := [1004]) (K' := [(0, .str v0), (4, .row 1004), (5, .val (.int .i64 v5))]) (L' := [(1004, 5, [.rowc false (α := UInt8) 0 e8 v4])]) (by kernel_rfl) (by kernel_rfl) ?_
      refine ok_ref06_Single_j2 n v0 v4 v5 o1 ho1 ?_
      rcases o1 with o1 | o1
      · replace h := sum_l h
        refine To.thenN ?_
        refine Wp.region hΓ [] [] [0, 4, 5] [1004] (K' := [(0, .str v0), (4, .row 1004), (5, .val (.int .i64 (IntKind.wrap .i64 (v5 + 1))))]) (L' := [(1004, 5, [.rowc false (α := UInt8) 0 e8 o1])]) (ob := []) (by kernel_rfl) AllP.nil ?_
        refine To.keep (kk := [0, 4, 5]) (kl := [1004]) (K' := [(0, .str v0), (4, .row 1004), (5, .val (.int .i64 (IntKind.wrap .i64 (v5 + 1))))]) (L' := [(1004, 5, [.rowc false (α := UInt8) 0 e8 o1])]) (by kernel_rfl) (by kernel_rfl) ?_
        refine To.again ?_
        exact ih o1 (IntKind.wrap .i64 (v5 + 1)) _ h hQ
      · replace h := sum_r h
        refine To.thenR ?_
        refine To.thenR ?_
        refine To.keep (kk := [2, 3]) (kl := []) (K' := [(2, .str o1.1), (3, .val (.bool o1.2))]) (L' := []) (by kernel_rfl) (by kernel_rfl) ?_
        cases h
        exact hQ
    · replace h := if_f hb h
      refine Wp.exit ?_
      refine To.thenX ?_
      refine To.thenX ?_
      refine To.keep (kk := [4]) (kl := [1004]) (K' := [(4, .row 1004)]) (L' := [(1004, 5, [.rowc false (α := UInt8) 0 e8 v4])]) (by kernel_rfl) (by kernel_rfl) ?_
      cases h
      exact hQ
def ref06_Single (n : Nat) (a0 : List UInt8) : Option ((List UInt8) × Bool) :=
  (ref06_Single_l1 n a0 n ([39] : List (UInt8)) 0).bind fun o1 =>
  (Sum.elim (fun o1 => if (decide ((List.length o1 + List.length ([39] : List (UInt8))) * (1 + 1) ≤ limit)) = true then (some ((o1 ++ ([39] : List (UInt8))), true)) else none) (fun o1 => some (o1.1, o1.2))) o1
theorem ok_ref06_Single (n : Nat) (a0 : List UInt8) (r : (List UInt8) × Bool) (h : ref06_Single n a0 = some r) : CallsX Try.prog 13 [.str a0] (.tup [.str r.1, .val (.bool r.2)]) := by
  unfold ref06_Single at h
  refine callsX_of (fn := Try.f13) (by kernel_rfl) rfl (by kernel_rfl) (Nat.le_of_ble_eq_true (by kernel_rfl)) fun F0 w0 => ?_
  refine Wp.keep (kk := [0]) (kl := []) (K' := [(0, .str a0)]) (L' := []) (by kernel_rfl) (by kernel_rfl) ?_
  refine Wp.seq ?_
  refine Wp.region hΓ [] [] [0] [] (K' := [(0, .str a0)]) (L' := []) (ob := []) (by kernel_rfl) AllP.nil ?_
  refine To.thenN ?_
  refine Wp.seq ?_
  refine Wp.region hΓ [] [(0, .recs (α := UInt8) 0 e8 [39])] [0, 4] [6] (K' := [(0, .str a0), (4, .row 6)]) (L' := [(6, 5, [.rowc false (α := UInt8) 0 e8 [39]])]) (ob := [(MkOb 1 [.val (.int .u8 39)] 1 (.recs (α := UInt8) 0 e8 [39]) ∧ GoodR (.recs (α := UInt8) 0 e8 [39]))]) (by kernel_rfl) (AllP.cons (mkOb (All8.cells (ns := [39]) (.cons rfl .nil)) rfl rfl (good8 _)) AllP.nil) ?_
  refine To.thenN ?_
  refine Wp.seq ?_
  refine Wp.seq ?_
  refine Wp.region hΓ [] [] [0, 4, 5] [6] (K' := [(0, .str a0), (4, .row 6), (5, .val (.int .i64 0))]) (L' := [(6, 5, [.rowc false (α := UInt8) 0 e8 [39]])]) (ob := []) (by kernel_rfl) AllP.nil ?_
  refine To.thenN ?_
  refine Wp.block ?_
  obtain ⟨o1, ho1, h⟩ := bind_of h
  refine Wp.keep (kk := [0, 4, 5]) (kl := [6]) (K' := [(0, .str a0), (4, .row 6), (5, .val (.int .i64 0))]) (L' := [(6, 5, [.rowc false (α := UInt8) 0 e8 [39]])]) (by kernel_rfl) (by kernel_rfl) ?_
  refine Wp.pre (St.rename 6 1004 (K' := [(0, .str a0), (4, .row 1004), (5, .val (.int .i64 0))]) (L' := [(1004, 5, [.rowc false (α := UInt8) 0 e8 [39]])]) (by kernel_rfl) (by kernel_rfl) (by kernel_rfl)) ?_
  refine Wp.keep (kk := [0, 4, 5]) (kl := [1004]) (K' := [(0, .str a0), (4, .row 1004), (5, .val (.int .i64 0))]) (L' := [(1004, 5, [.rowc false (α := UInt8) 0 e8 [39]])]) (by kernel_rfl) (by kernel_rfl) ?_
  refine Wp.loopL ?_
  refine ok_ref06_Single_l1 n a0 n ([39] : List (UInt8)) 0 o1 ho1 ?_
  rcases o1 with o1 | o1
  · replace h := sum_l h
    refine To.blockX ?_
    refine To.thenN ?_
    refine Wp.seq ?_
    obtain ⟨hc2, h⟩ := chk_of h
    refine Wp.region hΓ [] [(1, .recs (α := UInt8) 0 e8 [39]), (2, .recs (α := UInt8) 0 e8 (o1 ++ ([39] : List (UInt8))))] [4] [33] (K' := [(4, .row 33)]) (L' := [(33, 5, [.rowc false (α := UInt8) 0 e8 (o1 ++ ([39] : List (UInt8)))])]) (ob := [(MkOb 1 [.val (.int .u8 39)] 1 (.recs (α := UInt8) 0 e8 [39]) ∧ GoodR (.recs (α := UInt8) 0 e8 [39])), (decide ((List.length o1 + List.length ([39] : List (UInt8))) * (1 + 1) ≤ limit)) = true, (AppOb 0 e8 o1 (List.flatMap e8 ([39] : List (UInt8))) (List.length ([39] : List (UInt8))) (.recs (α := UInt8) 0 e8 (o1 ++ ([39] : List (UInt8)))) ∧ GoodR (.recs (α := UInt8) 0 e8 (o1 ++ ([39] : List (UInt8)))))]) (by kernel_rfl) (AllP.cons (mkOb (All8.cells (ns := [39]) (.cons rfl .nil)) rfl rfl (good8 _)) (AllP.cons hc2 (AllP.cons (appOb rfl rfl (good8 _)) AllP.nil))) ?_
    refine To.thenN ?_
    refine Wp.seq ?_
    refine Wp.region hΓ [] [(1, .str (o1 ++ ([39] : List (UInt8))))] [2, 3] [] (K' := [(2, .str (o1 ++ ([39] : List (UInt8)))), (3, .val (.bool true))]) (L' := []) (ob := [(true = true → StrOb (List.flatMap e8 (o1 ++ ([39] : List (UInt8)))) (.str (o1 ++ ([39] : List (UInt8)))))]) (by kernel_rfl) (AllP.cons (fun _ => strOb (flat8 _)) AllP.nil) ?_
    refine To.thenN ?_
    refine Wp.ret ?_
    refine To.keep (kk := [2, 3]) (kl := []) (K' := [(2, .str (o1 ++ ([39] : List (UInt8)))), (3, .val (.bool true))]) (L' := []) (by kernel_rfl) (by kernel_rfl) ?_
    cases h
    exact To.done hΓ (by kernel_rfl)
  · replace h := sum_r h
    refine To.blockR ?_
    refine To.thenR ?_
    refine To.keep (kk := [2, 3]) (kl := []) (K' := [(2, .str o1.1), (3, .val (.bool o1.2))]) (L' := []) (by kernel_rfl) (by kernel_rfl) ?_
    cases h
    exact To.done hΓ (by kernel_rfl)
def law06_QuoteAsks_j1 (n : Nat) (v0 : List UInt8) (v1 : Bool) (v5 : List UInt8) (v28 : Bool) : Option ((List UInt8)) :=
  if v28 = true then some v0
  else some v5
theorem ok_law06_QuoteAsks_j1 (n : Nat) (v0 : List UInt8) (v1 : Bool) (v5 : List UInt8) (v28 : Bool) (o : (List UInt8)) (h : law06_QuoteAsks_j1 n v0 v1 v5 v28 = some o) {F0 : Fz} {w0 : Pt} {Q : Exit → Act → World → Prop} (hQ : To 79 F0 w0 [(0, .str v0), (1, .val (.bool v1)), (5, .str o)] [] .normal Q) : Wp Try.prog 79 F0 w0 [(0, .str v0), (1, .val (.bool v1)), (5, .str v5), (28, .val (.bool v28))] [] (cB (cA (cB (cB (cB (cF Try.f4)))))) Q := by
  unfold law06_QuoteAsks_j1 at h
  refine Wp.cond (b := v28) (by kernel_rfl) (fun hb => ?_) (fun hb => ?_)
  · replace h := if_t hb h
    refine Wp.region hΓ [] [] [0, 1, 5] [] (K' := [(0, .str v0), (1, .val (.bool v1)), (5, .str v0)]) (L' := []) (ob := []) (by kernel_rfl) AllP.nil ?_
    refine To.keep (kk := [0, 1, 5]) (kl := []) (K' := [(0, .str v0), (1, .val (.bool v1)), (5, .str v0)]) (L' := []) (by kernel_rfl) (by kernel_rfl) ?_
    cases h
    exact hQ
  · replace h := if_f hb h
    refine Wp.skip ?_
    refine To.keep (kk := [0, 1, 5]) (kl := []) (K' := [(0, .str v0), (1, .val (.bool v1)), (5, .str v5)]) (L' := []) (by kernel_rfl) (by kernel_rfl) ?_
    cases h
    exact hQ
def law06_QuoteAsks (n : Nat) (a0 : List UInt8) (a1 : Bool) : Option (Bool) :=
  if (decide ((List.length a0 : Int) > 3000)) = true then ((law06_awake n).bind fun r1 =>
  some r1)
  else ((ref06_Double n a0).bind fun r2 =>
  ((if (a1 == true) = true then ref06_Row n a0 else some false)).bind fun r3 =>
  ((if (((!a1) == true) && ((bif a1 then r3 else false) == false)) = true then ref06_Plain n a0 else some false)).bind fun r4 =>
  (law06_QuoteAsks_j1 n a0 a1 r2 (bif (bif a1 then r3 else false) then true else (bif (!a1) then r4 else false))).bind fun o5 =>
  (quote_Single n a0).bind fun r6 =>
  (ref06_Single n a0).bind fun r7 =>
  (quote_Plain n a0).bind fun r8 =>
  (ref06_Plain n a0).bind fun r9 =>
  ((if ((r8 == r9) == true) = true then quote_Row n a0 else some false)).bind fun r10 =>
  ((if ((r8 == r9) == true) = true then ref06_Row n a0 else some false)).bind fun r11 =>
  ((if ((bif (r8 == r9) then (r10 == r11) else false) == true) = true then quote_Double n a0 else some [])).bind fun r12 =>
  ((if ((bif (r8 == r9) then (r10 == r11) else false) == true) = true then ref06_Double n a0 else some [])).bind fun r13 =>
  ((if ((bif (bif (bif (bif (r8 == r9) then (r10 == r11) else false) then (r12 == r13) else false) then (r6.1 == r7.1) else false) then (r6.2 == r7.2) else false) == true) = true then quote_Write n a0 a1 else some [])).bind fun r14 =>
  ((if ((bif (bif (bif (bif (bif (r8 == r9) then (r10 == r11) else false) then (r12 == r13) else false) then (r6.1 == r7.1) else false) then (r6.2 == r7.2) else false) then (r14 == o5) else false) == true) = true then law06_awake n else some false)).bind fun r15 =>
  lett ((bif (bif (bif (bif (bif (bif (r8 == r9) then (r10 == r11) else false) then (r12 == r13) else false) then (r6.1 == r7.1) else false) then (r6.2 == r7.2) else false) then (r14 == o5) else false) then r15 else false) : Bool) fun x16 =>
  some x16)
theorem ok_law06_QuoteAsks (n : Nat) (a0 : List UInt8) (a1 : Bool) (r : Bool) (h : law06_QuoteAsks n a0 a1 = some r) : CallsX Try.prog 4 [.str a0, .val (.bool a1)] (.val (.bool r)) := by
  unfold law06_QuoteAsks at h
  refine callsX_of (fn := Try.f4) (by kernel_rfl) rfl (by kernel_rfl) (Nat.le_of_ble_eq_true (by kernel_rfl)) fun F0 w0 => ?_
  refine Wp.keep (kk := [0, 1]) (kl := []) (K' := [(0, .str a0), (1, .val (.bool a1))]) (L' := []) (by kernel_rfl) (by kernel_rfl) ?_
  refine Wp.seq ?_
  refine Wp.region hΓ [] [] [0, 1] [] (K' := [(0, .str a0), (1, .val (.bool a1))]) (L' := []) (ob := []) (by kernel_rfl) AllP.nil ?_
  refine To.thenN ?_
  refine Wp.seq ?_
  refine Wp.seq ?_
  refine Wp.region hΓ [] [] [0, 1, 12] [] (K' := [(0, .str a0), (1, .val (.bool a1)), (12, .val (.bool (decide ((List.length a0 : Int) > 3000))))]) (L' := []) (ob := []) (by kernel_rfl) AllP.nil ?_
  refine To.thenN ?_
  refine Wp.cond (b := (decide ((List.length a0 : Int) > 3000))) (by kernel_rfl) (fun hb => ?_) (fun hb => ?_)
  · replace h := if_t hb h
    refine Wp.seq ?_
    obtain ⟨r1, hr1, h⟩ := bind_of h
    refine Wp.region hΓ [] [(0, .val (.bool r1))] [4] [] (K' := [(4, .val (.bool r1))]) (L' := []) (ob := [(true = true → CX Try.prog 6 [] (.val (.bool r1)))]) (by kernel_rfl) (AllP.cons (fun _ => cx (ok_law06_awake n  _ hr1)) AllP.nil) ?_
    refine To.thenN ?_
    refine Wp.ret ?_
    refine To.thenR ?_
    refine To.keep (kk := [4]) (kl := []) (K' := [(4, .val (.bool r1))]) (L' := []) (by kernel_rfl) (by kernel_rfl) ?_
    cases h
    exact To.done hΓ (by kernel_rfl)
  · replace h := if_f hb h
    refine Wp.skip ?_
    refine To.thenN ?_
    refine Wp.seq ?_
    obtain ⟨r2, hr2, h⟩ := bind_of h
    refine Wp.region hΓ [] [(1, .str r2)] [0, 1, 5] [] (K' := [(0, .str a0), (1, .val (.bool a1)), (5, .str r2)]) (L' := []) (ob := [(true = true → CX Try.prog 9 [.str a0] (.str r2))]) (by kernel_rfl) (AllP.cons (fun _ => cx (ok_ref06_Double n a0 _ hr2)) AllP.nil) ?_
    refine To.thenN ?_
    refine Wp.seq ?_
    refine Wp.seq ?_
    obtain ⟨r3, hr3, h⟩ := bind_of h
    obtain ⟨r4, hr4, h⟩ := bind_of h
    refine Wp.region hΓ [] [(3, .val (.bool r3)), (10, .val (.bool r4))] [0, 1, 5, 28] [] (K' := [(0, .str a0), (1, .val (.bool a1)), (5, .str r2), (28, .val (.bool (bif (bif a1 then r3 else false) then true else (bif (!a1) then r4 else false))))]) (L' := []) (ob := [((a1 == true) = true → CX Try.prog 10 [.str a0] (.val (.bool r3))), ((((!a1) == true) && ((bif a1 then r3 else false) == false)) = true → CX Try.prog 11 [.str a0] (.val (.bool r4)))]) (by kernel_rfl) (AllP.cons (fun hg => cx (ok_ref06_Row n a0 _ (if_t hg hr3))) (AllP.cons (fun hg => cx (ok_ref06_Plain n a0 _ (if_t hg hr4))) AllP.nil)) ?_
    refine To.thenN ?_
    obtain ⟨o5, ho5, h⟩ := bind_of h
    refine Wp.keep (kk := [0, 1, 5, 28]) (kl := []) (K' := [(0, .str a0), (1, .val (.bool a1)), (5, .str r2), (28, .val (.bool (bif (bif a1 then r3 else false) then true else (bif (!a1) then r4 else false))))]) (L' := []) (by kernel_rfl) (by kernel_rfl) ?_
    refine ok_law06_QuoteAsks_j1 n a0 a1 r2 (bif (bif a1 then r3 else false) then true else (bif (!a1) then r4 else false)) o5 ho5 ?_
    refine To.thenN ?_
    refine Wp.seq ?_
    obtain ⟨r6, hr6, h⟩ := bind_of h
    refine Wp.region hΓ [] [(1, .tup [.str r6.1, .val (.bool r6.2)])] [0, 1, 5, 6, 7] [] (K' := [(0, .str a0), (1, .val (.bool a1)), (5, .str o5), (6, .str r6.1), (7, .val (.bool r6.2))]) (L' := []) (ob := [(true = true → CX Try.prog 12 [.str a0] (.tup [.str r6.1, .val (.bool r6.2)]))]) (by kernel_rfl) (AllP.cons (fun _ => cx (ok_quote_Single n a0 _ hr6)) AllP.nil) ?_
    refine To.thenN ?_
    refine Wp.seq ?_
    obtain ⟨r7, hr7, h⟩ := bind_of h
    refine Wp.region hΓ [] [(1, .tup [.str r7.1, .val (.bool r7.2)])] [0, 1, 5, 6, 7, 8, 9] [] (K' := [(0, .str a0), (1, .val (.bool a1)), (5, .str o5), (6, .str r6.1), (7, .val (.bool r6.2)), (8, .str r7.1), (9, .val (.bool r7.2))]) (L' := []) (ob := [(true = true → CX Try.prog 13 [.str a0] (.tup [.str r7.1, .val (.bool r7.2)]))]) (by kernel_rfl) (AllP.cons (fun _ => cx (ok_ref06_Single n a0 _ hr7)) AllP.nil) ?_
    refine To.thenN ?_
    refine Wp.seq ?_
    obtain ⟨r8, hr8, h⟩ := bind_of h
    obtain ⟨r9, hr9, h⟩ := bind_of h
    obtain ⟨r10, hr10, h⟩ := bind_of h
    obtain ⟨r11, hr11, h⟩ := bind_of h
    obtain ⟨r12, hr12, h⟩ := bind_of h
    obtain ⟨r13, hr13, h⟩ := bind_of h
    obtain ⟨r14, hr14, h⟩ := bind_of h
    obtain ⟨r15, hr15, h⟩ := bind_of h
    obtain ⟨x16, hx16, h⟩ := lett_of h
    refine Wp.region hΓ [] [(1, .val (.bool r8)), (3, .val (.bool r9)), (7, .val (.bool r10)), (9, .val (.bool r11)), (14, .str r12), (16, .str r13), (32, .str r14), (37, .val (.bool r15))] [4] [] (K' := [(4, .val (.bool (bif (bif (bif (bif (bif (bif (r8 == r9) then (r10 == r11) else false) then (r12 == r13) else false) then (r6.1 == r7.1) else false) then (r6.2 == r7.2) else false) then (r14 == o5) else false) then r15 else false)))]) (L' := []) (ob := [(true = true → CX Try.prog 14 [.str a0] (.val (.bool r8))), (true = true → CX Try.prog 11 [.str a0] (.val (.bool r9))), (((r8 == r9) == true) = true → CX Try.prog 15 [.str a0] (.val (.bool r10))), (((r8 == r9) == true) = true → CX Try.prog 10 [.str a0] (.val (.bool r11))), (((bif (r8 == r9) then (r10 == r11) else false) == true) = true → CX Try.prog 16 [.str a0] (.str r12)), (((bif (r8 == r9) then (r10 == r11) else false) == true) = true → CX Try.prog 9 [.str a0] (.str r13)), (((bif (bif (bif (bif (r8 == r9) then (r10 == r11) else false) then (r12 == r13) else false) then (r6.1 == r7.1) else false) then (r6.2 == r7.2) else false) == true) = true → CX Try.prog 17 [.str a0, .val (.bool a1)] (.str r14)), (((bif (bif (bif (bif (bif (r8 == r9) then (r10 == r11) else false) then (r12 == r13) else false) then (r6.1 == r7.1) else false) then (r6.2 == r7.2) else false) then (r14 == o5) else false) == true) = true → CX Try.prog 6 [] (.val (.bool r15)))]) (by kernel_rfl) (AllP.cons (fun _ => cx (ok_quote_Plain n a0 _ hr8)) (AllP.cons (fun _ => cx (ok_ref06_Plain n a0 _ hr9)) (AllP.cons (fun hg => cx (ok_quote_Row n a0 _ (if_t hg hr10))) (AllP.cons (fun hg => cx (ok_ref06_Row n a0 _ (if_t hg hr11))) (AllP.cons (fun hg => cx (ok_quote_Double n a0 _ (if_t hg hr12))) (AllP.cons (fun hg => cx (ok_ref06_Double n a0 _ (if_t hg hr13))) (AllP.cons (fun hg => cx (ok_quote_Write n a0 a1 _ (if_t hg hr14))) (AllP.cons (fun hg => cx (ok_law06_awake n  _ (if_t hg hr15))) AllP.nil)))))))) ?_
    refine To.eq (K' := [(4, .val (.bool x16))]) (L' := []) (by cases hx16; rfl) (by cases hx16; rfl) ?_
    refine To.thenN ?_
    refine Wp.ret ?_
    refine To.keep (kk := [4]) (kl := []) (K' := [(4, .val (.bool x16))]) (L' := []) (by kernel_rfl) (by kernel_rfl) ?_
    cases h
    exact To.done hΓ (by kernel_rfl)
def law06_QuoteBack (n : Nat) (a0 : List UInt8) (a1 : List UInt8) (a2 : List UInt8) : Option (Bool) :=
  lett ((bif (bif (decide ((List.length a1 : Int) > 3000)) then true else (decide ((List.length a0 : Int) > 3000))) then true else (decide ((List.length a2 : Int) > 3000))) : Bool) fun x1 =>
  if x1 = true then ((law06_awake n).bind fun r2 =>
  some r2)
  else ((quote_Double n a1).bind fun r3 =>
  if (decide (((List.length a0 + List.length r3 : Nat) : Int) ≤ 9223372036854775807)) = true then (if (decide (((List.length (a0 ++ r3) + List.length a2 : Nat) : Int) ≤ 9223372036854775807)) = true then ((quote_Scan n ((a0 ++ r3) ++ a2) (List.length a0 : Int)).bind fun r4 =>
  lett ((bif (bif (!(r4.1 == a1)) then true else (r4.2.1 != (IntKind.wrap .i64 ((List.length a0 : Int) + (List.length r3 : Int))))) then true else (r4.2.2 != 0)) : Bool) fun x5 =>
  if x5 = true then some false
  else ((quote_Single n a1).bind fun r6 =>
  if ((!(((!(a2 == [])) == true) && ((!r6.2) == false)) || decide (0 ≤ (0 : Int) ∧ (0 : Int) < (List.length a2 : Int)))) = true then (if (bif (!r6.2) then true else (bif (!(a2 == [])) then ((((a2)[Int.toNat 0]?.getD 0).toNat : Int) == 39) else false)) = true then ((law06_awake n).bind fun r7 =>
  some r7)
  else (if (decide (((List.length a0 + List.length r6.1 : Nat) : Int) ≤ 9223372036854775807)) = true then (if (decide (((List.length (a0 ++ r6.1) + List.length a2 : Nat) : Int) ≤ 9223372036854775807)) = true then ((quote_Scan n ((a0 ++ r6.1) ++ a2) (List.length a0 : Int)).bind fun r8 =>
  ((if ((bif (bif (r8.1 == a1) then (r8.2.1 == (IntKind.wrap .i64 ((List.length a0 : Int) + (List.length r6.1 : Int)))) else false) then (r8.2.2 == 0) else false) == true) = true then law06_awake n else some false)).bind fun r9 =>
  lett ((bif (bif (bif (r8.1 == a1) then (r8.2.1 == (IntKind.wrap .i64 ((List.length a0 : Int) + (List.length r6.1 : Int)))) else false) then (r8.2.2 == 0) else false) then r9 else false) : Bool) fun x10 =>
  some x10) else none) else none)) else none)) else none) else none)
theorem ok_law06_QuoteBack (n : Nat) (a0 : List UInt8) (a1 : List UInt8) (a2 : List UInt8) (r : Bool) (h : law06_QuoteBack n a0 a1 a2 = some r) : CallsX Try.prog 5 [.str a0, .str a1, .str a2] (.val (.bool r)) := by
  unfold law06_QuoteBack at h
  refine callsX_of (fn := Try.f5) (by kernel_rfl) rfl (by kernel_rfl) (Nat.le_of_ble_eq_true (by kernel_rfl)) fun F0 w0 => ?_
  refine Wp.keep (kk := [0, 1, 2]) (kl := []) (K' := [(0, .str a0), (1, .str a1), (2, .str a2)]) (L' := []) (by kernel_rfl) (by kernel_rfl) ?_
  refine Wp.seq ?_
  refine Wp.region hΓ [] [] [0, 1, 2] [] (K' := [(0, .str a0), (1, .str a1), (2, .str a2)]) (L' := []) (ob := []) (by kernel_rfl) AllP.nil ?_
  refine To.thenN ?_
  refine Wp.seq ?_
  refine Wp.seq ?_
  obtain ⟨x1, hx1, h⟩ := lett_of h
  refine Wp.region hΓ [] [] [0, 1, 2, 24] [] (K' := [(0, .str a0), (1, .str a1), (2, .str a2), (24, .val (.bool (bif (bif (decide ((List.length a1 : Int) > 3000)) then true else (decide ((List.length a0 : Int) > 3000))) then true else (decide ((List.length a2 : Int) > 3000)))))]) (L' := []) (ob := []) (by kernel_rfl) AllP.nil ?_
  refine To.eq (K' := [(0, .str a0), (1, .str a1), (2, .str a2), (24, .val (.bool x1))]) (L' := []) (by cases hx1; rfl) (by cases hx1; rfl) ?_
  refine To.thenN ?_
  refine Wp.cond (b := x1) (by kernel_rfl) (fun hb => ?_) (fun hb => ?_)
  · replace h := if_t hb h
    refine Wp.seq ?_
    obtain ⟨r2, hr2, h⟩ := bind_of h
    refine Wp.region hΓ [] [(0, .val (.bool r2))] [6] [] (K' := [(6, .val (.bool r2))]) (L' := []) (ob := [(true = true → CX Try.prog 6 [] (.val (.bool r2)))]) (by kernel_rfl) (AllP.cons (fun _ => cx (ok_law06_awake n  _ hr2)) AllP.nil) ?_
    refine To.thenN ?_
    refine Wp.ret ?_
    refine To.thenR ?_
    refine To.keep (kk := [6]) (kl := []) (K' := [(6, .val (.bool r2))]) (L' := []) (by kernel_rfl) (by kernel_rfl) ?_
    cases h
    exact To.done hΓ (by kernel_rfl)
  · replace h := if_f hb h
    refine Wp.skip ?_
    refine To.thenN ?_
    refine Wp.seq ?_
    obtain ⟨r3, hr3, h⟩ := bind_of h
    refine Wp.region hΓ [] [(1, .str r3)] [0, 1, 2, 7] [] (K' := [(0, .str a0), (1, .str a1), (2, .str a2), (7, .str r3)]) (L' := []) (ob := [(true = true → CX Try.prog 16 [.str a1] (.str r3))]) (by kernel_rfl) (AllP.cons (fun _ => cx (ok_quote_Double n a1 _ hr3)) AllP.nil) ?_
    refine To.thenN ?_
    refine Wp.seq ?_
    obtain ⟨hc14, h⟩ := chk_of h
    obtain ⟨hc15, h⟩ := chk_of h
    obtain ⟨r4, hr4, h⟩ := bind_of h
    refine Wp.region hΓ [] [(7, .tup [.str r4.1, .val (.int .i64 r4.2.1), .val (.int .i64 r4.2.2)])] [0, 1, 2, 7, 8, 9, 10] [] (K' := [(0, .str a0), (1, .str a1), (2, .str a2), (7, .str r3), (8, .str r4.1), (9, .val (.int .i64 r4.2.1)), (10, .val (.int .i64 r4.2.2))]) (L' := []) (ob := [(decide (((List.length a0 + List.length r3 : Nat) : Int) ≤ 9223372036854775807)) = true, (decide (((List.length (a0 ++ r3) + List.length a2 : Nat) : Int) ≤ 9223372036854775807)) = true, (true = true → CX Try.prog 7 [.str ((a0 ++ r3) ++ a2), .val (.int .i64 (List.length a0 : Int))] (.tup [.str r4.1, .val (.int .i64 r4.2.1), .val (.int .i64 r4.2.2)]))]) (by kernel_rfl) (AllP.cons hc14 (AllP.cons hc15 (AllP.cons (fun _ => cx (ok_quote_Scan n ((a0 ++ r3) ++ a2) (List.length a0 : Int) _ hr4)) AllP.nil))) ?_
    refine To.thenN ?_
    refine Wp.seq ?_
    refine Wp.seq ?_
    obtain ⟨x5, hx5, h⟩ := lett_of h
    refine Wp.region hΓ [] [] [0, 1, 2, 55] [] (K' := [(0, .str a0), (1, .str a1), (2, .str a2), (55, .val (.bool (bif (bif (!(r4.1 == a1)) then true else (r4.2.1 != (IntKind.wrap .i64 ((List.length a0 : Int) + (List.length r3 : Int))))) then true else (r4.2.2 != 0))))]) (L' := []) (ob := []) (by kernel_rfl) AllP.nil ?_
    refine To.eq (K' := [(0, .str a0), (1, .str a1), (2, .str a2), (55, .val (.bool x5))]) (L' := []) (by cases hx5; rfl) (by cases hx5; rfl) ?_
    refine To.thenN ?_
    refine Wp.cond (b := x5) (by kernel_rfl) (fun hb => ?_) (fun hb => ?_)
    · replace h := if_t hb h
      refine Wp.seq ?_
      refine Wp.region hΓ [] [] [6] [] (K' := [(6, .val (.bool false))]) (L' := []) (ob := []) (by kernel_rfl) AllP.nil ?_
      refine To.thenN ?_
      refine Wp.ret ?_
      refine To.thenR ?_
      refine To.keep (kk := [6]) (kl := []) (K' := [(6, .val (.bool false))]) (L' := []) (by kernel_rfl) (by kernel_rfl) ?_
      cases h
      exact To.done hΓ (by kernel_rfl)
    · replace h := if_f hb h
      refine Wp.skip ?_
      refine To.thenN ?_
      refine Wp.seq ?_
      obtain ⟨r6, hr6, h⟩ := bind_of h
      refine Wp.region hΓ [] [(1, .tup [.str r6.1, .val (.bool r6.2)])] [0, 1, 2, 7, 11] [] (K' := [(0, .str a0), (1, .str a1), (2, .str a2), (7, .str r6.1), (11, .val (.bool r6.2))]) (L' := []) (ob := [(true = true → CX Try.prog 12 [.str a1] (.tup [.str r6.1, .val (.bool r6.2)]))]) (by kernel_rfl) (AllP.cons (fun _ => cx (ok_quote_Single n a1 _ hr6)) AllP.nil) ?_
      refine To.thenN ?_
      refine Wp.seq ?_
      refine Wp.seq ?_
      obtain ⟨hc13, h⟩ := chk_of h
      refine Wp.region hΓ [] [] [0, 1, 2, 7, 71] [] (K' := [(0, .str a0), (1, .str a1), (2, .str a2), (7, .str r6.1), (71, .val (.bool (bif (!r6.2) then true else (bif (!(a2 == [])) then ((((a2)[Int.toNat 0]?.getD 0).toNat : Int) == 39) else false))))]) (L' := []) (ob := [(!(((!(a2 == [])) == true) && ((!r6.2) == false)) || decide (0 ≤ (0 : Int) ∧ (0 : Int) < (List.length a2 : Int))) = true]) (by kernel_rfl) (AllP.cons hc13 AllP.nil) ?_
      refine To.thenN ?_
      refine Wp.cond (b := (bif (!r6.2) then true else (bif (!(a2 == [])) then ((((a2)[Int.toNat 0]?.getD 0).toNat : Int) == 39) else false))) (by kernel_rfl) (fun hb => ?_) (fun hb => ?_)
      · replace h := if_t hb h
        refine Wp.seq ?_
        obtain ⟨r7, hr7, h⟩ := bind_of h
        refine Wp.region hΓ [] [(0, .val (.bool r7))] [6] [] (K' := [(6, .val (.bool r7))]) (L' := []) (ob := [(true = true → CX Try.prog 6 [] (.val (.bool r7)))]) (by kernel_rfl) (AllP.cons (fun _ => cx (ok_law06_awake n  _ hr7)) AllP.nil) ?_
        refine To.thenN ?_
        refine Wp.ret ?_
        refine To.thenR ?_
        refine To.keep (kk := [6]) (kl := []) (K' := [(6, .val (.bool r7))]) (L' := []) (by kernel_rfl) (by kernel_rfl) ?_
        cases h
        exact To.done hΓ (by kernel_rfl)
      · replace h := if_f hb h
        refine Wp.skip ?_
        refine To.thenN ?_
        refine Wp.seq ?_
        obtain ⟨hc11, h⟩ := chk_of h
        obtain ⟨hc12, h⟩ := chk_of h
        obtain ⟨r8, hr8, h⟩ := bind_of h
        refine Wp.region hΓ [] [(7, .tup [.str r8.1, .val (.int .i64 r8.2.1), .val (.int .i64 r8.2.2)])] [0, 1, 7, 8, 9, 10] [] (K' := [(0, .str a0), (1, .str a1), (7, .str r6.1), (8, .str r8.1), (9, .val (.int .i64 r8.2.1)), (10, .val (.int .i64 r8.2.2))]) (L' := []) (ob := [(decide (((List.length a0 + List.length r6.1 : Nat) : Int) ≤ 9223372036854775807)) = true, (decide (((List.length (a0 ++ r6.1) + List.length a2 : Nat) : Int) ≤ 9223372036854775807)) = true, (true = true → CX Try.prog 7 [.str ((a0 ++ r6.1) ++ a2), .val (.int .i64 (List.length a0 : Int))] (.tup [.str r8.1, .val (.int .i64 r8.2.1), .val (.int .i64 r8.2.2)]))]) (by kernel_rfl) (AllP.cons hc11 (AllP.cons hc12 (AllP.cons (fun _ => cx (ok_quote_Scan n ((a0 ++ r6.1) ++ a2) (List.length a0 : Int) _ hr8)) AllP.nil))) ?_
        refine To.thenN ?_
        refine Wp.seq ?_
        obtain ⟨r9, hr9, h⟩ := bind_of h
        obtain ⟨x10, hx10, h⟩ := lett_of h
        refine Wp.region hΓ [] [(17, .val (.bool r9))] [6] [] (K' := [(6, .val (.bool (bif (bif (bif (r8.1 == a1) then (r8.2.1 == (IntKind.wrap .i64 ((List.length a0 : Int) + (List.length r6.1 : Int)))) else false) then (r8.2.2 == 0) else false) then r9 else false)))]) (L' := []) (ob := [(((bif (bif (r8.1 == a1) then (r8.2.1 == (IntKind.wrap .i64 ((List.length a0 : Int) + (List.length r6.1 : Int)))) else false) then (r8.2.2 == 0) else false) == true) = true → CX Try.prog 6 [] (.val (.bool r9)))]) (by kernel_rfl) (AllP.cons (fun hg => cx (ok_law06_awake n  _ (if_t hg hr9))) AllP.nil) ?_
        refine To.eq (K' := [(6, .val (.bool x10))]) (L' := []) (by cases hx10; rfl) (by cases hx10; rfl) ?_
        refine To.thenN ?_
        refine Wp.ret ?_
        refine To.keep (kk := [6]) (kl := []) (K' := [(6, .val (.bool x10))]) (L' := []) (by kernel_rfl) (by kernel_rfl) ?_
        cases h
        exact To.done hΓ (by kernel_rfl)
theorem opens9 : Opens Try.prog 9 (fun l : List UInt8 => l.length ≤ maxLen) (fun l => [.str l]) := opens_str (by kernel_rfl)
theorem opens3 : Opens Try.prog 3 (fun n : Int => IntKind.min .i64 ≤ n ∧ n ≤ IntKind.max .i64) (fun n => [.val (.int .i64 n)]) := opens_int (by kernel_rfl)
theorem opens4 : Opens Try.prog 4 (fun _ : Bool => True) (fun b => [.val (.bool b)]) := opens_bool (by kernel_rfl)
end Go.Proofs.Ythhoedkeggiflaa.M