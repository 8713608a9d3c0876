import Derived.Test.YtefojkdckfidcaaGreatDoorQMG10d
set_option linter.all false
namespace Go.Proofs.YtefojkdckfidcaaGreatDoor.M
open Go.RowKit Go.Proofs.YtefojkdckfidcaaGreatDoor.RX
set_option maxRecDepth 100000
structure S_ref10_Found where
  f_N : S_api_Node
  f_Next : Int
  f_No : Int
  f_E : Int
def ref10_Row (n : Nat) (a0 : List UInt8) : Option (Bool) :=
  if ((!((decide ((List.length a0 : Int) > 0)) == true) || decide (0 ≤ (0 : Int) ∧ (0 : Int) < (List.length a0 : Int)))) = true then (if ((!((((List.length a0 : Int) == 1) == false) && ((bif (decide ((List.length a0 : Int) > 0)) then ((((a0)[Int.toNat 0]?.getD 0).toNat : Int) == 45) else false) == true)) || decide (0 ≤ (1 : Int) ∧ (1 : Int) < (List.length a0 : Int)))) = true then (lett ((bif (bif (decide ((List.length a0 : Int) > 0)) then ((((a0)[Int.toNat 0]?.getD 0).toNat : Int) == 45) else false) then (bif ((List.length a0 : Int) == 1) then true else ((((a0)[Int.toNat 1]?.getD 0).toNat : Int) == 32)) else false) : Bool) fun x1 =>
  some x1) else none) else none
theorem ok_ref10_Row (n : Nat) (a0 : List UInt8) (r : Bool) (h : ref10_Row n a0 = some r) : CallsX Tryz.prog 15 [.str a0] (vb r) := by
  unfold ref10_Row at h
  refine callsX_of (fn := Tryz.f15) (by kernel_rfl) rfl (by kernel_rfl) (Nat.le_of_ble_eq_true (by kernel_rfl)) fun F0 w0 _ => ?_
  refine kw [0] [] [(0, .str a0)] [] ?_
  refine Wp.seq ?_
  refine rg [0] [] [(0, .str a0)] [] ?_
  refine To.thenN (Wp.seq ?_)
  obtain ⟨hc2, h⟩ := chk_of h
  obtain ⟨hc3, h⟩ := chk_of h
  obtain ⟨x1, hx1, h⟩ := lett_of h
  refine rr [] [] [] [2] [] [(2, vb (bif (bif (decide ((List.length a0 : Int) > 0)) then ((((a0)[Int.toNat 0]?.getD 0).toNat : Int) == 45) else false) then (bif ((List.length a0 : Int) == 1) then true else ((((a0)[Int.toNat 1]?.getD 0).toNat : Int) == 32)) else false))] [] [(!((decide ((List.length a0 : Int) > 0)) == true) || decide (0 ≤ (0 : Int) ∧ (0 : Int) < (List.length a0 : Int))) = true, (!((((List.length a0 : Int) == 1) == false) && ((bif (decide ((List.length a0 : Int) > 0)) then ((((a0)[Int.toNat 0]?.getD 0).toNat : Int) == 45) else false) == true)) || decide (0 ≤ (1 : Int) ∧ (1 : Int) < (List.length a0 : Int))) = true] (AllP.cons hc2 (AllP.cons hc3 AllP.nil)) ?_
  refine To.eq (K' := [(2, vb x1)]) (L' := []) (by cases hx1; rfl) (by cases hx1; rfl) ?_
  refine To.thenN (Wp.ret ?_)
  refine kt [2] [] [(2, vb x1)] [] ?_
  cases h
  exact To.done hΓ (by kernel_rfl)
def ref10_marked (n : Nat) (a0 : List UInt8) (a1 : Int) : Option (Bool) :=
  if ((!((decide (a1 < (List.length a0 : Int))) == true) || decide (0 ≤ a1 ∧ a1 < (List.length a0 : Int)))) = true then (if ((!((((IntKind.wrap .i64 (a1 + 1)) == (List.length a0 : Int)) == false) && ((bif (decide (a1 < (List.length a0 : Int))) then ((((a0)[Int.toNat a1]?.getD 0).toNat : Int) == 58) else false) == true)) || decide (0 ≤ (IntKind.wrap .i64 (a1 + 1)) ∧ (IntKind.wrap .i64 (a1 + 1)) < (List.length a0 : Int)))) = true then (lett ((bif (bif (decide (a1 < (List.length a0 : Int))) then ((((a0)[Int.toNat a1]?.getD 0).toNat : Int) == 58) else false) then (bif ((IntKind.wrap .i64 (a1 + 1)) == (List.length a0 : Int)) then true else ((((a0)[Int.toNat (IntKind.wrap .i64 (a1 + 1))]?.getD 0).toNat : Int) == 32)) else false) : Bool) fun x1 =>
  some x1) else none) else none
theorem ok_ref10_marked (n : Nat) (a0 : List UInt8) (a1 : Int) (r : Bool) (h : ref10_marked n a0 a1 = some r) : CallsX Tryz.prog 36 [.str a0, vi a1] (vb r) := by
  unfold ref10_marked at h
  refine callsX_of (fn := Tryz.f36) (by kernel_rfl) rfl (by kernel_rfl) (Nat.le_of_ble_eq_true (by kernel_rfl)) fun F0 w0 _ => ?_
  refine kw [0, 1] [] [(0, .str a0), (1, vi a1)] [] ?_
  refine Wp.seq ?_
  refine rg [0, 1] [] [(0, .str a0), (1, vi a1)] [] ?_
  refine To.thenN (Wp.seq ?_)
  obtain ⟨hc2, h⟩ := chk_of h
  obtain ⟨hc3, h⟩ := chk_of h
  obtain ⟨x1, hx1, h⟩ := lett_of h
  refine rr [] [] [] [4] [] [(4, vb (bif (bif (decide (a1 < (List.length a0 : Int))) then ((((a0)[Int.toNat a1]?.getD 0).toNat : Int) == 58) else false) then (bif ((IntKind.wrap .i64 (a1 + 1)) == (List.length a0 : Int)) then true else ((((a0)[Int.toNat (IntKind.wrap .i64 (a1 + 1))]?.getD 0).toNat : Int) == 32)) else false))] [] [(!((decide (a1 < (List.length a0 : Int))) == true) || decide (0 ≤ a1 ∧ a1 < (List.length a0 : Int))) = true, (!((((IntKind.wrap .i64 (a1 + 1)) == (List.length a0 : Int)) == false) && ((bif (decide (a1 < (List.length a0 : Int))) then ((((a0)[Int.toNat a1]?.getD 0).toNat : Int) == 58) else false) == true)) || decide (0 ≤ (IntKind.wrap .i64 (a1 + 1)) ∧ (IntKind.wrap .i64 (a1 + 1)) < (List.length a0 : Int))) = true] (AllP.cons hc2 (AllP.cons hc3 AllP.nil)) ?_
  refine To.eq (K' := [(4, vb x1)]) (L' := []) (by cases hx1; rfl) (by cases hx1; rfl) ?_
  refine To.thenN (Wp.ret ?_)
  refine kt [4] [] [(4, vb x1)] [] ?_
  cases h
  exact To.done hΓ (by kernel_rfl)
def ref10_behind_l1 (n : Nat) (v0 : List UInt8) : Nat → Int → Option (Int)
  | 0, _ => none
  | k + 1, v1 => if ((!((decide (v1 < (List.length v0 : Int))) == true) || decide (0 ≤ v1 ∧ v1 < (List.length v0 : Int)))) = true then (if (bif (decide (v1 < (List.length v0 : Int))) then ((((v0)[Int.toNat v1]?.getD 0).toNat : Int) == 32) else false) = true then (ref10_behind_l1 n v0 k (IntKind.wrap .i64 (v1 + 1)))
  else some v1) else none
theorem ok_ref10_behind_l1 (n : Nat) (v0 : List UInt8) {F0 : Fz} {w0 : Pt Tryz.prog} {Q : Exit → Act → World → Prop} (k : Nat) : ∀ (v1 : Int) (o : Int), ref10_behind_l1 n v0 k v1 = some o → To 22 F0 w0 [(0, .str v0), (1, vi o)] [] (.exit 0) Q → WL Tryz.prog 22 F0 w0 [(0, .str v0), (1, vi v1)] [] (cI (cI (cA (cB (cB (cF Tryz.f37)))))) Q := by
  induction k with
  | zero => intro v1 o h; cases h
  | succ k ih =>
    intro v1 o h hQ
    rw [ref10_behind_l1] at h
    refine WL.round (Wp.seq (Wp.seq ?_))
    obtain ⟨hc1, h⟩ := chk_of h
    refine rr [] [] [] [0, 1, 16] [] [(0, .str v0), (1, vi v1), (16, vb (bif (decide (v1 < (List.length v0 : Int))) then ((((v0)[Int.toNat v1]?.getD 0).toNat : Int) == 32) else false))] [] [(!((decide (v1 < (List.length v0 : Int))) == true) || decide (0 ≤ v1 ∧ v1 < (List.length v0 : Int))) = true] (AllP.cons hc1 AllP.nil) ?_
    refine To.thenN ?_
    refine Wp.cond (b := (bif (decide (v1 < (List.length v0 : Int))) then ((((v0)[Int.toNat v1]?.getD 0).toNat : Int) == 32) else false)) (by kernel_rfl) (fun hb => ?_) (fun hb => ?_)
    · replace h := if_t hb h
      refine Wp.skip (To.thenN (Wp.block ?_))
      refine rg [0, 1] [] [(0, .str v0), (1, vi (IntKind.wrap .i64 (v1 + 1)))] [] ?_
      refine To.blockN ?_
      refine kt [0, 1] [] [(0, .str v0), (1, vi (IntKind.wrap .i64 (v1 + 1)))] [] ?_
      refine To.again ?_
      exact ih (IntKind.wrap .i64 (v1 + 1)) _ h hQ
    · replace h := if_f hb h
      refine Wp.exit (To.thenX (To.thenX ?_))
      refine kt [0, 1] [] [(0, .str v0), (1, vi v1)] [] ?_
      cases h
      exact hQ
def ref10_behind (n : Nat) (a0 : List UInt8) (a1 : Int) : Option ((List UInt8)) :=
  (ref10_behind_l1 n a0 n (IntKind.wrap .i64 (a1 + 1))).bind fun o1 =>
  if (decide (0 ≤ o1 ∧ o1 ≤ (List.length a0 : Int))) = true then (some (List.drop (Int.toNat o1) a0)) else none
theorem ok_ref10_behind (n : Nat) (a0 : List UInt8) (a1 : Int) (r : (List UInt8)) (h : ref10_behind n a0 a1 = some r) : CallsX Tryz.prog 37 [.str a0, vi a1] (.str r) := by
  unfold ref10_behind at h
  refine callsX_of (fn := Tryz.f37) (by kernel_rfl) rfl (by kernel_rfl) (Nat.le_of_ble_eq_true (by kernel_rfl)) fun F0 w0 _ => ?_
  refine kw [0, 1] [] [(0, .str a0), (1, vi a1)] [] ?_
  refine Wp.seq ?_
  refine rg [0, 1] [] [(0, .str a0), (1, vi a1)] [] ?_
  refine To.thenN (Wp.seq ?_)
  refine rg [0, 1] [] [(0, .str a0), (1, vi (IntKind.wrap .i64 (a1 + 1)))] [] ?_
  refine To.thenN (Wp.seq (Wp.block ?_))
  obtain ⟨o1, ho1, h⟩ := bind_of h
  refine kw [0, 1] [] [(0, .str a0), (1, vi (IntKind.wrap .i64 (a1 + 1)))] [] ?_
  refine Wp.loopL ?_
  refine ok_ref10_behind_l1 n a0 n (IntKind.wrap .i64 (a1 + 1)) o1 ho1 ?_
  refine To.blockX (To.thenN (Wp.seq ?_))
  obtain ⟨hc2, h⟩ := chk_of h
  refine rr [] [] [] [4] [] [(4, .str (List.drop (Int.toNat o1) a0))] [] [(decide (0 ≤ o1 ∧ o1 ≤ (List.length a0 : Int))) = true] (AllP.cons hc2 AllP.nil) ?_
  refine To.thenN (Wp.ret ?_)
  refine kt [4] [] [(4, .str (List.drop (Int.toNat o1) a0))] [] ?_
  cases h
  exact To.done hΓ (by kernel_rfl)
def ref06_one_l1 (n : Nat) (v0 : Int) (v1 : List UInt8) : Nat → Int → Option (Sum (Unit) (Bool))
  | 0, _ => none
  | k + 1, v5 => if (decide (v5 < (List.length v1 : Int))) = true then (if (decide (0 ≤ v5 ∧ v5 < (List.length v1 : Int))) = true then (if ((((v1)[Int.toNat v5]?.getD 0).toNat : Int) == v0) = true then (some (.inr true))
  else (ref06_one_l1 n v0 v1 k (IntKind.wrap .i64 (v5 + 1)))) else none)
  else (some (.inl ()))
theorem ok_ref06_one_l1 (n : Nat) (v0 : Int) (v1 : List UInt8) {F0 : Fz} {w0 : Pt Tryz.prog} {Q : Exit → Act → World → Prop} (k : Nat) : ∀ (v5 : Int) (o : Sum (Unit) (Bool)), ref06_one_l1 n v0 v1 k v5 = some o → (Sum.elim (fun s => To 17 F0 w0 [] [] (.exit 0) Q) (fun s => To 17 F0 w0 [(4, vb s)] [] .ret Q)) o → WL Tryz.prog 17 F0 w0 [(0, .val (.int .u8 v0)), (1, .str v1), (5, vi v5)] [] (cI (cI (cB (cA (cB (cF Tryz.f74)))))) Q := by
  induction k with
  | zero => intro v5 o h; cases h
  | succ k ih =>
    intro v5 o h hQ
    rw [ref06_one_l1] at h
    refine WL.round (Wp.seq (Wp.seq ?_))
    refine rg [0, 1, 5, 9] [] [(0, .val (.int .u8 v0)), (1, .str v1), (5, vi v5), (9, vb (decide (v5 < (List.length v1 : Int))))] [] ?_
    refine To.thenN ?_
    refine Wp.cond (b := (decide (v5 < (List.length v1 : Int)))) (by kernel_rfl) (fun hb => ?_) (fun hb => ?_)
    · replace h := if_t hb h
      refine Wp.skip (To.thenN (Wp.seq (Wp.block (Wp.seq ?_))))
      obtain ⟨hc1, h⟩ := chk_of h
      refine rr [] [] [] [0, 1, 5, 16] [] [(0, .val (.int .u8 v0)), (1, .str v1), (5, vi v5), (16, vb ((((v1)[Int.toNat v5]?.getD 0).toNat : Int) == v0))] [] [(decide (0 ≤ v5 ∧ v5 < (List.length v1 : Int))) = true] (AllP.cons hc1 AllP.nil) ?_
      refine To.thenN ?_
      refine Wp.cond (b := ((((v1)[Int.toNat v5]?.getD 0).toNat : Int) == v0)) (by kernel_rfl) (fun hb => ?_) (fun hb => ?_)
      · replace h := if_t hb h
        refine Wp.seq ?_
        refine rg [4] [] [(4, vb true)] [] ?_
        refine To.thenN (Wp.ret (To.blockR (To.thenR (To.thenR ?_))))
        refine kt [4] [] [(4, vb true)] [] ?_
        cases h
        exact hQ
      · replace h := if_f hb h
        refine Wp.skip (To.blockN (To.thenN ?_))
        refine rg [0, 1, 5] [] [(0, .val (.int .u8 v0)), (1, .str v1), (5, vi (IntKind.wrap .i64 (v5 + 1)))] [] ?_
        refine kt [0, 1, 5] [] [(0, .val (.int .u8 v0)), (1, .str v1), (5, vi (IntKind.wrap .i64 (v5 + 1)))] [] ?_
        refine To.again ?_
        exact ih (IntKind.wrap .i64 (v5 + 1)) _ h hQ
    · replace h := if_f hb h
      refine Wp.exit (To.thenX (To.thenX ?_))
      refine kt [] [] [] [] ?_
      cases h
      exact hQ
def ref06_one (n : Nat) (a0 : Int) (a1 : List UInt8) : Option (Bool) :=
  (ref06_one_l1 n a0 a1 n 0).bind fun o1 =>
  (Sum.elim (fun o1 => some false) (fun o1 => some o1)) o1
theorem ok_ref06_one (n : Nat) (a0 : Int) (a1 : List UInt8) (r : Bool) (h : ref06_one n a0 a1 = some r) : CallsX Tryz.prog 74 [.val (.int .u8 a0), .str a1] (vb r) := by
  unfold ref06_one at h
  refine callsX_of (fn := Tryz.f74) (by kernel_rfl) rfl (by kernel_rfl) (Nat.le_of_ble_eq_true (by kernel_rfl)) fun F0 w0 _ => ?_
  refine kw [0, 1] [] [(0, .val (.int .u8 a0)), (1, .str a1)] [] ?_
  refine Wp.seq ?_
  refine rg [0, 1] [] [(0, .val (.int .u8 a0)), (1, .str a1)] [] ?_
  refine To.thenN (Wp.seq (Wp.seq ?_))
  refine rg [0, 1, 5] [] [(0, .val (.int .u8 a0)), (1, .str a1), (5, vi 0)] [] ?_
  refine To.thenN (Wp.block ?_)
  obtain ⟨o1, ho1, h⟩ := bind_of h
  refine kw [0, 1, 5] [] [(0, .val (.int .u8 a0)), (1, .str a1), (5, vi 0)] [] ?_
  refine Wp.loopL ?_
  refine ok_ref06_one_l1 n a0 a1 n 0 o1 ho1 ?_
  rcases o1 with o1 | o1
  · replace h := sum_l h
    refine To.blockX (To.thenN (Wp.seq ?_))
    refine rg [4] [] [(4, vb false)] [] ?_
    refine To.thenN (Wp.ret ?_)
    refine kt [4] [] [(4, vb false)] [] ?_
    cases h
    exact To.done hΓ (by kernel_rfl)
  · replace h := sum_r h
    refine To.blockR (To.thenR ?_)
    refine kt [4] [] [(4, vb o1)] [] ?_
    cases h
    exact To.done hΓ (by kernel_rfl)
def ref06_Plain_l1 (n : Nat) (v0 : List UInt8) (v3 : Int) : Nat → Int → Option (Sum (Unit) (Bool))
  | 0, _ => none
  | k + 1, v4 => if (decide (v4 < v3)) = true then (if (decide (0 ≤ v4 ∧ v4 < (List.length v0 : Int))) = true then (if (!(ref06_Good (((v0)[Int.toNat v4]?.getD 0).toNat : Int))) = true then (some (.inr false))
  else (if (decide (0 ≤ v4 ∧ v4 < (List.length v0 : Int))) = true then (if ((!(((v4 == (IntKind.wrap .i64 (v3 - 1))) == false) && (((((v0)[Int.toNat v4]?.getD 0).toNat : Int) == 58) == true)) || decide (0 ≤ (IntKind.wrap .i64 (v4 + 1)) ∧ (IntKind.wrap .i64 (v4 + 1)) < (List.length v0 : Int)))) = true then (lett ((bif ((((v0)[Int.toNat v4]?.getD 0).toNat : Int) == 58) then (bif (v4 == (IntKind.wrap .i64 (v3 - 1))) then true else ((((v0)[Int.toNat (IntKind.wrap .i64 (v4 + 1))]?.getD 0).toNat : Int) == 32)) else false) : Bool) fun x4 =>
  if x4 = true then (some (.inr false))
  else (if (decide (0 ≤ v4 ∧ v4 < (List.length v0 : Int))) = true then (if ((!((bif ((((v0)[Int.toNat v4]?.getD 0).toNat : Int) == 35) then (decide (v4 > 0)) else false) == true) || decide (0 ≤ (IntKind.wrap .i64 (v4 - 1)) ∧ (IntKind.wrap .i64 (v4 - 1)) < (List.length v0 : Int)))) = true then (lett ((bif (bif ((((v0)[Int.toNat v4]?.getD 0).toNat : Int) == 35) then (decide (v4 > 0)) else false) then ((((v0)[Int.toNat (IntKind.wrap .i64 (v4 - 1))]?.getD 0).toNat : Int) == 32) else false) : Bool) fun x5 =>
  if x5 = true then (some (.inr false))
  else (ref06_Plain_l1 n v0 v3 k (IntKind.wrap .i64 (v4 + 1)))) else none) else none)) else none) else none)) else none)
  else (some (.inl ()))
theorem ok_ref06_Plain_l1 (n : Nat) (v0 : List UInt8) (v3 : Int) {F0 : Fz} {w0 : Pt Tryz.prog} {Q : Exit → Act → World → Prop} (k : Nat) : ∀ (v4 : Int) (o : Sum (Unit) (Bool)), ref06_Plain_l1 n v0 v3 k v4 = some o → (Sum.elim (fun s => To 86 F0 w0 [] [] (.exit 0) Q) (fun s => To 86 F0 w0 [(2, vb s)] [] .ret Q)) o → WL Tryz.prog 86 F0 w0 [(0, .str v0), (3, vi v3), (4, vi v4)] [] (cI (cI (cB (cA (cB (cB (cB (cB (cB (cF Tryz.f38)))))))))) Q := by
  induction k with
  | zero => intro v4 o h; cases h
  | succ k ih =>
    intro v4 o h hQ
    rw [ref06_Plain_l1] at h
    refine WL.round (Wp.seq (Wp.seq ?_))
    refine rg [0, 3, 4, 46] [] [(0, .str v0), (3, vi v3), (4, vi v4), (46, vb (decide (v4 < v3)))] [] ?_
    refine To.thenN ?_
    refine Wp.cond (b := (decide (v4 < v3))) (by kernel_rfl) (fun hb => ?_) (fun hb => ?_)
    · replace h := if_t hb h
      refine Wp.skip (To.thenN (Wp.seq (Wp.block (Wp.seq (Wp.seq ?_)))))
      obtain ⟨hc10, h⟩ := chk_of h
      refine rr [] [(3, vb (ref06_Good (((v0)[Int.toNat v4]?.getD 0).toNat : Int)))] [] [0, 3, 4, 53] [] [(0, .str v0), (3, vi v3), (4, vi v4), (53, vb (!(ref06_Good (((v0)[Int.toNat v4]?.getD 0).toNat : Int))))] [] [(decide (0 ≤ v4 ∧ v4 < (List.length v0 : Int))) = true, (true = true → CX Tryz.prog 75 [.val (.int .u8 (((v0)[Int.toNat v4]?.getD 0).toNat : Int))] (vb (ref06_Good (((v0)[Int.toNat v4]?.getD 0).toNat : Int))))] (AllP.cons hc10 (AllP.cons (fun _ => cx (ok_ref06_Good (((v0)[Int.toNat v4]?.getD 0).toNat : Int) _ rfl)) AllP.nil)) ?_
      refine To.thenN ?_
      refine Wp.cond (b := (!(ref06_Good (((v0)[Int.toNat v4]?.getD 0).toNat : Int)))) (by kernel_rfl) (fun hb => ?_) (fun hb => ?_)
      · replace h := if_t hb h
        refine Wp.seq ?_
        refine rg [2] [] [(2, vb false)] [] ?_
        refine To.thenN (Wp.ret (To.thenR (To.blockR (To.thenR (To.thenR ?_)))))
        refine kt [2] [] [(2, vb false)] [] ?_
        cases h
        exact hQ
      · replace h := if_f hb h
        refine Wp.skip (To.thenN (Wp.seq (Wp.seq ?_)))
        obtain ⟨hc8, h⟩ := chk_of h
        obtain ⟨hc9, h⟩ := chk_of h
        obtain ⟨x4, hx4, h⟩ := lett_of h
        refine rr [] [] [] [0, 3, 4, 70] [] [(0, .str v0), (3, vi v3), (4, vi v4), (70, vb (bif ((((v0)[Int.toNat v4]?.getD 0).toNat : Int) == 58) then (bif (v4 == (IntKind.wrap .i64 (v3 - 1))) then true else ((((v0)[Int.toNat (IntKind.wrap .i64 (v4 + 1))]?.getD 0).toNat : Int) == 32)) else false))] [] [(decide (0 ≤ v4 ∧ v4 < (List.length v0 : Int))) = true, (!(((v4 == (IntKind.wrap .i64 (v3 - 1))) == false) && (((((v0)[Int.toNat v4]?.getD 0).toNat : Int) == 58) == true)) || decide (0 ≤ (IntKind.wrap .i64 (v4 + 1)) ∧ (IntKind.wrap .i64 (v4 + 1)) < (List.length v0 : Int))) = true] (AllP.cons hc8 (AllP.cons hc9 AllP.nil)) ?_
        refine To.eq (K' := [(0, .str v0), (3, vi v3), (4, vi v4), (70, vb x4)]) (L' := []) (by cases hx4; rfl) (by cases hx4; rfl) ?_
        refine To.thenN ?_
        refine Wp.cond (b := x4) (by kernel_rfl) (fun hb => ?_) (fun hb => ?_)
        · replace h := if_t hb h
          refine Wp.seq ?_
          refine rg [2] [] [(2, vb false)] [] ?_
          refine To.thenN (Wp.ret (To.thenR (To.blockR (To.thenR (To.thenR ?_)))))
          refine kt [2] [] [(2, vb false)] [] ?_
          cases h
          exact hQ
        · replace h := if_f hb h
          refine Wp.skip (To.thenN (Wp.seq ?_))
          obtain ⟨hc6, h⟩ := chk_of h
          obtain ⟨hc7, h⟩ := chk_of h
          obtain ⟨x5, hx5, h⟩ := lett_of h
          refine rr [] [] [] [0, 3, 4, 85] [] [(0, .str v0), (3, vi v3), (4, vi v4), (85, vb (bif (bif ((((v0)[Int.toNat v4]?.getD 0).toNat : Int) == 35) then (decide (v4 > 0)) else false) then ((((v0)[Int.toNat (IntKind.wrap .i64 (v4 - 1))]?.getD 0).toNat : Int) == 32) else false))] [] [(decide (0 ≤ v4 ∧ v4 < (List.length v0 : Int))) = true, (!((bif ((((v0)[Int.toNat v4]?.getD 0).toNat : Int) == 35) then (decide (v4 > 0)) else false) == true) || decide (0 ≤ (IntKind.wrap .i64 (v4 - 1)) ∧ (IntKind.wrap .i64 (v4 - 1)) < (List.length v0 : Int))) = true] (AllP.cons hc6 (AllP.cons hc7 AllP.nil)) ?_
          refine To.eq (K' := [(0, .str v0), (3, vi v3), (4, vi v4), (85, vb x5)]) (L' := []) (by cases hx5; rfl) (by cases hx5; rfl) ?_
          refine To.thenN ?_
          refine Wp.cond (b := x5) (by kernel_rfl) (fun hb => ?_) (fun hb => ?_)
          · replace h := if_t hb h
            refine Wp.seq ?_
            refine rg [2] [] [(2, vb false)] [] ?_
            refine To.thenN (Wp.ret (To.blockR (To.thenR (To.thenR ?_))))
            refine kt [2] [] [(2, vb false)] [] ?_
            cases h
            exact hQ
          · replace h := if_f hb h
            refine Wp.skip (To.blockN (To.thenN ?_))
            refine rg [0, 3, 4] [] [(0, .str v0), (3, vi v3), (4, vi (IntKind.wrap .i64 (v4 + 1)))] [] ?_
            refine kt [0, 3, 4] [] [(0, .str v0), (3, vi v3), (4, vi (IntKind.wrap .i64 (v4 + 1)))] [] ?_
            refine To.again ?_
            exact ih (IntKind.wrap .i64 (v4 + 1)) _ h hQ
    · replace h := if_f hb h
      refine Wp.exit (To.thenX (To.thenX ?_))
      refine kt [] [] [] [] ?_
      cases h
      exact hQ
def ref06_Plain (n : Nat) (a0 : List UInt8) : Option (Bool) :=
  if ((!((bif (bif ((List.length a0 : Int) == 0) then true else (a0 == [126])) then true else (a0 == [110, 117, 108, 108])) == false) || decide (0 ≤ (0 : Int) ∧ (0 : Int) < (List.length a0 : Int)))) = true then (if ((!((bif (bif (bif ((List.length a0 : Int) == 0) then true else (a0 == [126])) then true else (a0 == [110, 117, 108, 108])) then true else ((((a0)[Int.toNat 0]?.getD 0).toNat : Int) == 32)) == false) || decide (0 ≤ (IntKind.wrap .i64 ((List.length a0 : Int) - 1)) ∧ (IntKind.wrap .i64 ((List.length a0 : Int) - 1)) < (List.length a0 : Int)))) = true then (lett ((bif (bif (bif (bif ((List.length a0 : Int) == 0) then true else (a0 == [126])) then true else (a0 == [110, 117, 108, 108])) then true else ((((a0)[Int.toNat 0]?.getD 0).toNat : Int) == 32)) then true else ((((a0)[Int.toNat (IntKind.wrap .i64 ((List.length a0 : Int) - 1))]?.getD 0).toNat : Int) == 32)) : Bool) fun x1 =>
  if x1 = true then some false
  else (if (decide (0 ≤ (0 : Int) ∧ (0 : Int) < (List.length a0 : Int))) = true then ((ref06_one n (((a0)[Int.toNat 0]?.getD 0).toNat : Int) [63, 58, 44, 91, 93, 123, 125, 35, 38, 42, 33, 124, 62, 39, 34, 37, 64, 96]).bind fun r2 =>
  if r2 = true then some false
  else (if (decide (0 ≤ (0 : Int) ∧ (0 : Int) < (List.length a0 : Int))) = true then (if ((!((((List.length a0 : Int) == 1) == false) && (((((a0)[Int.toNat 0]?.getD 0).toNat : Int) == 45) == true)) || decide (0 ≤ (1 : Int) ∧ (1 : Int) < (List.length a0 : Int)))) = true then (lett ((bif ((((a0)[Int.toNat 0]?.getD 0).toNat : Int) == 45) then (bif ((List.length a0 : Int) == 1) then true else ((((a0)[Int.toNat 1]?.getD 0).toNat : Int) == 32)) else false) : Bool) fun x3 =>
  if x3 = true then some false
  else ((ref06_Plain_l1 n a0 (List.length a0 : Int) n 0).bind fun o4 =>
  (Sum.elim (fun o4 => some true) (fun o4 => some o4)) o4)) else none) else none)) else none)) else none) else none
theorem ok_ref06_Plain (n : Nat) (a0 : List UInt8) (r : Bool) (h : ref06_Plain n a0 = some r) : CallsX Tryz.prog 38 [.str a0] (vb r) := by
  unfold ref06_Plain at h
  refine callsX_of (fn := Tryz.f38) (by kernel_rfl) rfl (by kernel_rfl) (Nat.le_of_ble_eq_true (by kernel_rfl)) fun F0 w0 _ => ?_
  refine kw [0] [] [(0, .str a0)] [] ?_
  refine Wp.seq ?_
  refine rg [0] [] [(0, .str a0)] [] ?_
  refine To.thenN (Wp.seq ?_)
  refine rg [0, 3] [] [(0, .str a0), (3, vi (List.length a0 : Int))] [] ?_
  refine To.thenN (Wp.seq (Wp.seq ?_))
  obtain ⟨hc8, h⟩ := chk_of h
  obtain ⟨hc9, h⟩ := chk_of h
  obtain ⟨x1, hx1, h⟩ := lett_of h
  refine rr [] [] [] [0, 3, 28] [] [(0, .str a0), (3, vi (List.length a0 : Int)), (28, vb (bif (bif (bif (bif ((List.length a0 : Int) == 0) then true else (a0 == [126])) then true else (a0 == [110, 117, 108, 108])) then true else ((((a0)[Int.toNat 0]?.getD 0).toNat : Int) == 32)) then true else ((((a0)[Int.toNat (IntKind.wrap .i64 ((List.length a0 : Int) - 1))]?.getD 0).toNat : Int) == 32)))] [] [(!((bif (bif ((List.length a0 : Int) == 0) then true else (a0 == [126])) then true else (a0 == [110, 117, 108, 108])) == false) || decide (0 ≤ (0 : Int) ∧ (0 : Int) < (List.length a0 : Int))) = true, (!((bif (bif (bif ((List.length a0 : Int) == 0) then true else (a0 == [126])) then true else (a0 == [110, 117, 108, 108])) then true else ((((a0)[Int.toNat 0]?.getD 0).toNat : Int) == 32)) == false) || decide (0 ≤ (IntKind.wrap .i64 ((List.length a0 : Int) - 1)) ∧ (IntKind.wrap .i64 ((List.length a0 : Int) - 1)) < (List.length a0 : Int))) = true] (AllP.cons hc8 (AllP.cons hc9 AllP.nil)) ?_
  refine To.eq (K' := [(0, .str a0), (3, vi (List.length a0 : Int)), (28, vb x1)]) (L' := []) (by cases hx1; rfl) (by cases hx1; rfl) ?_
  refine To.thenN ?_
  refine Wp.cond (b := x1) (by kernel_rfl) (fun hb => ?_) (fun hb => ?_)
  · replace h := if_t hb h
    refine Wp.seq ?_
    refine rg [2] [] [(2, vb false)] [] ?_
    refine To.thenN (Wp.ret (To.thenR ?_))
    refine kt [2] [] [(2, vb false)] [] ?_
    cases h
    exact To.done hΓ (by kernel_rfl)
  · replace h := if_f hb h
    refine Wp.skip (To.thenN (Wp.seq (Wp.seq ?_)))
    obtain ⟨hc7, h⟩ := chk_of h
    obtain ⟨r2, hr2, h⟩ := bind_of h
    refine rr [] [(2, vb r2)] [] [0, 3, 31] [] [(0, .str a0), (3, vi (List.length a0 : Int)), (31, vb r2)] [] [(decide (0 ≤ (0 : Int) ∧ (0 : Int) < (List.length a0 : Int))) = true, (true = true → CX Tryz.prog 74 [.val (.int .u8 (((a0)[Int.toNat 0]?.getD 0).toNat : Int)), .str [63, 58, 44, 91, 93, 123, 125, 35, 38, 42, 33, 124, 62, 39, 34, 37, 64, 96]] (vb r2))] (AllP.cons hc7 (AllP.cons (fun _ => cx (ok_ref06_one n (((a0)[Int.toNat 0]?.getD 0).toNat : Int) [63, 58, 44, 91, 93, 123, 125, 35, 38, 42, 33, 124, 62, 39, 34, 37, 64, 96] _ hr2)) AllP.nil)) ?_
    refine To.thenN ?_
    refine Wp.cond (b := r2) (by kernel_rfl) (fun hb => ?_) (fun hb => ?_)
    · replace h := if_t hb h
      refine Wp.seq ?_
      refine rg [2] [] [(2, vb false)] [] ?_
      refine To.thenN (Wp.ret (To.thenR ?_))
      refine kt [2] [] [(2, vb false)] [] ?_
      cases h
      exact To.done hΓ (by kernel_rfl)
    · replace h := if_f hb h
      refine Wp.skip (To.thenN (Wp.seq (Wp.seq ?_)))
      obtain ⟨hc5, h⟩ := chk_of h
      obtain ⟨hc6, h⟩ := chk_of h
      obtain ⟨x3, hx3, h⟩ := lett_of h
      refine rr [] [] [] [0, 3, 43] [] [(0, .str a0), (3, vi (List.length a0 : Int)), (43, vb (bif ((((a0)[Int.toNat 0]?.getD 0).toNat : Int) == 45) then (bif ((List.length a0 : Int) == 1) then true else ((((a0)[Int.toNat 1]?.getD 0).toNat : Int) == 32)) else false))] [] [(decide (0 ≤ (0 : Int) ∧ (0 : Int) < (List.length a0 : Int))) = true, (!((((List.length a0 : Int) == 1) == false) && (((((a0)[Int.toNat 0]?.getD 0).toNat : Int) == 45) == true)) || decide (0 ≤ (1 : Int) ∧ (1 : Int) < (List.length a0 : Int))) = true] (AllP.cons hc5 (AllP.cons hc6 AllP.nil)) ?_
      refine To.eq (K' := [(0, .str a0), (3, vi (List.length a0 : Int)), (43, vb x3)]) (L' := []) (by cases hx3; rfl) (by cases hx3; rfl) ?_
      refine To.thenN ?_
      refine Wp.cond (b := x3) (by kernel_rfl) (fun hb => ?_) (fun hb => ?_)
      · replace h := if_t hb h
        refine Wp.seq ?_
        refine rg [2] [] [(2, vb false)] [] ?_
        refine To.thenN (Wp.ret (To.thenR ?_))
        refine kt [2] [] [(2, vb false)] [] ?_
        cases h
        exact To.done hΓ (by kernel_rfl)
      · replace h := if_f hb h
        refine Wp.skip (To.thenN (Wp.seq (Wp.seq ?_)))
        refine rg [0, 3, 4] [] [(0, .str a0), (3, vi (List.length a0 : Int)), (4, vi 0)] [] ?_
        refine To.thenN (Wp.block ?_)
        obtain ⟨o4, ho4, h⟩ := bind_of h
        refine kw [0, 3, 4] [] [(0, .str a0), (3, vi (List.length a0 : Int)), (4, vi 0)] [] ?_
        refine Wp.loopL ?_
        refine ok_ref06_Plain_l1 n a0 (List.length a0 : Int) n 0 o4 ho4 ?_
        rcases o4 with o4 | o4
        · replace h := sum_l h
          refine To.blockX (To.thenN (Wp.seq ?_))
          refine rg [2] [] [(2, vb true)] [] ?_
          refine To.thenN (Wp.ret ?_)
          refine kt [2] [] [(2, vb true)] [] ?_
          cases h
          exact To.done hΓ (by kernel_rfl)
        · replace h := sum_r h
          refine To.blockR (To.thenR ?_)
          refine kt [2] [] [(2, vb o4)] [] ?_
          cases h
          exact To.done hΓ (by kernel_rfl)
def ref10_Entry_l1 (n : Nat) (v0 : List UInt8) : Nat → Int → Option (Sum (Unit) ((List UInt8) × (List UInt8) × Int))
  | 0, _ => none
  | k + 1, v8 => if (decide (v8 < (List.length v0 : Int))) = true then ((ref10_marked n v0 v8).bind fun r6 =>
  if r6 = true then (if (decide (0 ≤ v8 ∧ v8 ≤ (List.length v0 : Int))) = true then ((ref06_Plain n (List.take (Int.toNat v8) v0)).bind fun r7 =>
  if ((!((!r7) == false) || decide (0 ≤ v8 ∧ v8 ≤ (List.length v0 : Int)))) = true then (if (bif (!r7) then true else ((List.take (Int.toNat v8) v0) == [60, 60])) = true then (some (.inr ([], [], (-1))))
  else (if (decide (0 ≤ v8 ∧ v8 ≤ (List.length v0 : Int))) = true then ((ref10_behind n v0 v8).bind fun r8 =>
  some (.inr ((List.take (Int.toNat v8) v0), r8, 1))) else none)) else none) else none)
  else (ref10_Entry_l1 n v0 k (IntKind.wrap .i64 (v8 + 1))))
  else (some (.inl ()))
theorem ok_ref10_Entry_l1 (n : Nat) (v0 : List UInt8) {F0 : Fz} {w0 : Pt Tryz.prog} {Q : Exit → Act → World → Prop} (k : Nat) : ∀ (v8 : Int) (o : Sum (Unit) ((List UInt8) × (List UInt8) × Int)), ref10_Entry_l1 n v0 k v8 = some o → (Sum.elim (fun s => To 77 F0 w0 [] [] (.exit 0) Q) (fun s => To 77 F0 w0 [(2, .str s.1), (3, .str s.2.1), (4, vi s.2.2)] [] .ret Q)) o → WL Tryz.prog 77 F0 w0 [(0, .str v0), (8, vi v8)] [] (cI (cI (cB (cA (cB (cB (cB (cF Tryz.f13)))))))) Q := by
  induction k with
  | zero => intro v8 o h; cases h
  | succ k ih =>
    intro v8 o h hQ
    rw [ref10_Entry_l1] at h
    refine WL.round (Wp.seq (Wp.seq ?_))
    refine rg [0, 8, 54] [] [(0, .str v0), (8, vi v8), (54, vb (decide (v8 < (List.length v0 : Int))))] [] ?_
    refine To.thenN ?_
    refine Wp.cond (b := (decide (v8 < (List.length v0 : Int)))) (by kernel_rfl) (fun hb => ?_) (fun hb => ?_)
    · replace h := if_t hb h
      refine Wp.skip (To.thenN (Wp.seq (Wp.block (Wp.seq ?_))))
      obtain ⟨r6, hr6, h⟩ := bind_of h
      refine rr [] [(2, vb r6)] [] [0, 8, 59] [] [(0, .str v0), (8, vi v8), (59, vb r6)] [] [(true = true → CX Tryz.prog 36 [.str v0, vi v8] (vb r6))] (AllP.cons (fun _ => cx (ok_ref10_marked n v0 v8 _ hr6)) AllP.nil) ?_
      refine To.thenN ?_
      refine Wp.cond (b := r6) (by kernel_rfl) (fun hb => ?_) (fun hb => ?_)
      · replace h := if_t hb h
        refine Wp.seq (Wp.seq ?_)
        obtain ⟨hc10, h⟩ := chk_of h
        obtain ⟨r7, hr7, h⟩ := bind_of h
        obtain ⟨hc11, h⟩ := chk_of h
        refine rr [] [(3, vb r7)] [] [0, 8, 70] [] [(0, .str v0), (8, vi v8), (70, vb (bif (!r7) then true else ((List.take (Int.toNat v8) v0) == [60, 60])))] [] [(decide (0 ≤ v8 ∧ v8 ≤ (List.length v0 : Int))) = true, (true = true → CX Tryz.prog 38 [.str (List.take (Int.toNat v8) v0)] (vb r7)), (!((!r7) == false) || decide (0 ≤ v8 ∧ v8 ≤ (List.length v0 : Int))) = true] (AllP.cons hc10 (AllP.cons (fun _ => cx (ok_ref06_Plain n (List.take (Int.toNat v8) v0) _ hr7)) (AllP.cons hc11 AllP.nil))) ?_
        refine To.thenN ?_
        refine Wp.cond (b := (bif (!r7) then true else ((List.take (Int.toNat v8) v0) == [60, 60]))) (by kernel_rfl) (fun hb => ?_) (fun hb => ?_)
        · replace h := if_t hb h
          refine Wp.seq ?_
          refine rg [2, 3, 4] [] [(2, .str []), (3, .str []), (4, vi (-1))] [] ?_
          refine To.thenN (Wp.ret (To.thenR (To.blockR (To.thenR (To.thenR ?_)))))
          refine kt [2, 3, 4] [] [(2, .str []), (3, .str []), (4, vi (-1))] [] ?_
          cases h
          exact hQ
        · replace h := if_f hb h
          refine Wp.skip (To.thenN (Wp.seq ?_))
          obtain ⟨hc9, h⟩ := chk_of h
          obtain ⟨r8, hr8, h⟩ := bind_of h
          refine Wp.regionD hm hΓ [(5, .str r8)] [2, 3, 4] [] (K' := [(2, .str (List.take (Int.toNat v8) v0)), (3, .str r8), (4, vi 1)]) (L' := []) (ob := [(decide (0 ≤ v8 ∧ v8 ≤ (List.length v0 : Int))) = true, (true = true → CX Tryz.prog 37 [.str v0, vi v8] (.str r8))]) (by kernel_rfl) (AllP.cons hc9 (AllP.cons (fun _ => cx (ok_ref10_behind n v0 v8 _ hr8)) AllP.nil)) ?_
          refine To.thenN (Wp.ret (To.blockR (To.thenR (To.thenR ?_))))
          refine kt [2, 3, 4] [] [(2, .str (List.take (Int.toNat v8) v0)), (3, .str r8), (4, vi 1)] [] ?_
          cases h
          exact hQ
      · replace h := if_f hb h
        refine Wp.skip (To.blockN (To.thenN ?_))
        refine rg [0, 8] [] [(0, .str v0), (8, vi (IntKind.wrap .i64 (v8 + 1)))] [] ?_
        refine kt [0, 8] [] [(0, .str v0), (8, vi (IntKind.wrap .i64 (v8 + 1)))] [] ?_
        refine To.again ?_
        exact ih (IntKind.wrap .i64 (v8 + 1)) _ h hQ
    · replace h := if_f hb h
      refine Wp.exit (To.thenX (To.thenX ?_))
      refine kt [] [] [] [] ?_
      cases h
      exact hQ
def ref10_Entry (n : Nat) (a0 : List UInt8) : Option ((List UInt8) × (List UInt8) × Int) :=
  ((if (((List.length a0 : Int) == 0) == false) = true then ref10_Row n a0 else some false)).bind fun r1 =>
  if ((!((bif ((List.length a0 : Int) == 0) then true else r1) == false) || decide (0 ≤ (0 : Int) ∧ (0 : Int) < (List.length a0 : Int)))) = true then (if ((!((bif (bif ((List.length a0 : Int) == 0) then true else r1) then true else ((((a0)[Int.toNat 0]?.getD 0).toNat : Int) == 91)) == false) || decide (0 ≤ (0 : Int) ∧ (0 : Int) < (List.length a0 : Int)))) = true then (lett ((bif (bif (bif ((List.length a0 : Int) == 0) then true else r1) then true else ((((a0)[Int.toNat 0]?.getD 0).toNat : Int) == 91)) then true else ((((a0)[Int.toNat 0]?.getD 0).toNat : Int) == 123)) : Bool) fun x2 =>
  if x2 = true then (some ([], [], 0))
  else (if (decide (0 ≤ (0 : Int) ∧ (0 : Int) < (List.length a0 : Int))) = true then (if ((!(((((a0)[Int.toNat 0]?.getD 0).toNat : Int) == 34) == false) || decide (0 ≤ (0 : Int) ∧ (0 : Int) < (List.length a0 : Int)))) = true then (if (bif ((((a0)[Int.toNat 0]?.getD 0).toNat : Int) == 34) then true else ((((a0)[Int.toNat 0]?.getD 0).toNat : Int) == 39)) = true then ((ref06_Scan n a0 0).bind fun r3 =>
  ((if ((r3.2.2 == 0) == true) = true then ref10_marked n a0 r3.2.1 else some false)).bind fun r4 =>
  if (bif (r3.2.2 == 0) then r4 else false) = true then ((ref10_behind n a0 r3.2.1).bind fun r5 =>
  some (r3.1, r5, 1))
  else (some ([], [], 0)))
  else ((ref10_Entry_l1 n a0 n 0).bind fun o6 =>
  (Sum.elim (fun o6 => some ([], [], 0)) (fun o6 => some (o6.1, o6.2.1, o6.2.2))) o6)) else none) else none)) else none) else none
theorem ok_ref10_Entry (n : Nat) (a0 : List UInt8) (r : (List UInt8) × (List UInt8) × Int) (h : ref10_Entry n a0 = some r) : CallsX Tryz.prog 13 [.str a0] (.tup [.str r.1, .str r.2.1, vi r.2.2]) := by
  unfold ref10_Entry at h
  refine callsX_of (fn := Tryz.f13) (by kernel_rfl) rfl (by kernel_rfl) (Nat.le_of_ble_eq_true (by kernel_rfl)) fun F0 w0 _ => ?_
  refine kw [0] [] [(0, .str a0)] [] ?_
  refine Wp.seq ?_
  refine rg [0] [] [(0, .str a0)] [] ?_
  refine To.thenN (Wp.seq (Wp.seq ?_))
  obtain ⟨r1, hr1, h⟩ := bind_of h
  obtain ⟨hc9, h⟩ := chk_of h
  obtain ⟨hc10, h⟩ := chk_of h
  obtain ⟨x2, hx2, h⟩ := lett_of h
  refine rr [] [(5, vb r1)] [] [0, 25] [] [(0, .str a0), (25, vb (bif (bif (bif ((List.length a0 : Int) == 0) then true else r1) then true else ((((a0)[Int.toNat 0]?.getD 0).toNat : Int) == 91)) then true else ((((a0)[Int.toNat 0]?.getD 0).toNat : Int) == 123)))] [] [((((List.length a0 : Int) == 0) == false) = true → CX Tryz.prog 15 [.str a0] (vb r1)), (!((bif ((List.length a0 : Int) == 0) then true else r1) == false) || decide (0 ≤ (0 : Int) ∧ (0 : Int) < (List.length a0 : Int))) = true, (!((bif (bif ((List.length a0 : Int) == 0) then true else r1) then true else ((((a0)[Int.toNat 0]?.getD 0).toNat : Int) == 91)) == false) || decide (0 ≤ (0 : Int) ∧ (0 : Int) < (List.length a0 : Int))) = true] (AllP.cons (fun hg => cx (ok_ref10_Row n a0 _ (if_t hg hr1))) (AllP.cons hc9 (AllP.cons hc10 AllP.nil))) ?_
  refine To.eq (K' := [(0, .str a0), (25, vb x2)]) (L' := []) (by cases hx2; rfl) (by cases hx2; rfl) ?_
  refine To.thenN ?_
  refine Wp.cond (b := x2) (by kernel_rfl) (fun hb => ?_) (fun hb => ?_)
  · replace h := if_t hb h
    refine Wp.seq ?_
    refine rg [2, 3, 4] [] [(2, .str []), (3, .str []), (4, vi 0)] [] ?_
    refine To.thenN (Wp.ret (To.thenR ?_))
    refine kt [2, 3, 4] [] [(2, .str []), (3, .str []), (4, vi 0)] [] ?_
    cases h
    exact To.done hΓ (by kernel_rfl)
  · replace h := if_f hb h
    refine Wp.skip (To.thenN (Wp.seq (Wp.seq ?_)))
    obtain ⟨hc7, h⟩ := chk_of h
    obtain ⟨hc8, h⟩ := chk_of h
    refine rr [] [] [] [0, 33] [] [(0, .str a0), (33, vb (bif ((((a0)[Int.toNat 0]?.getD 0).toNat : Int) == 34) then true else ((((a0)[Int.toNat 0]?.getD 0).toNat : Int) == 39)))] [] [(decide (0 ≤ (0 : Int) ∧ (0 : Int) < (List.length a0 : Int))) = true, (!(((((a0)[Int.toNat 0]?.getD 0).toNat : Int) == 34) == false) || decide (0 ≤ (0 : Int) ∧ (0 : Int) < (List.length a0 : Int))) = true] (AllP.cons hc7 (AllP.cons hc8 AllP.nil)) ?_
    refine To.thenN ?_
    refine Wp.cond (b := (bif ((((a0)[Int.toNat 0]?.getD 0).toNat : Int) == 34) then true else ((((a0)[Int.toNat 0]?.getD 0).toNat : Int) == 39))) (by kernel_rfl) (fun hb => ?_) (fun hb => ?_)
    · replace h := if_t hb h
      refine Wp.seq ?_
      obtain ⟨r3, hr3, h⟩ := bind_of h
      refine rr [] [(1, .tup [.str r3.1, vi r3.2.1, vi r3.2.2])] [] [0, 5, 6, 7] [] [(0, .str a0), (5, .str r3.1), (6, vi r3.2.1), (7, vi r3.2.2)] [] [(true = true → CX Tryz.prog 35 [.str a0, vi 0] (.tup [.str r3.1, vi r3.2.1, vi r3.2.2]))] (AllP.cons (fun _ => cx (ok_ref06_Scan n a0 0 _ hr3)) AllP.nil) ?_
      refine To.thenN (Wp.seq (Wp.seq ?_))
      obtain ⟨r4, hr4, h⟩ := bind_of h
      refine rr [] [(5, vb r4)] [] [0, 5, 6, 46] [] [(0, .str a0), (5, .str r3.1), (6, vi r3.2.1), (46, vb (bif (r3.2.2 == 0) then r4 else false))] [] [(((r3.2.2 == 0) == true) = true → CX Tryz.prog 36 [.str a0, vi r3.2.1] (vb r4))] (AllP.cons (fun hg => cx (ok_ref10_marked n a0 r3.2.1 _ (if_t hg hr4))) AllP.nil) ?_
      refine To.thenN ?_
      refine Wp.cond (b := (bif (r3.2.2 == 0) then r4 else false)) (by kernel_rfl) (fun hb => ?_) (fun hb => ?_)
      · replace h := if_t hb h
        refine Wp.seq ?_
        obtain ⟨r5, hr5, h⟩ := bind_of h
        refine rr [] [(3, .str r5)] [] [2, 3, 4] [] [(2, .str r3.1), (3, .str r5), (4, vi 1)] [] [(true = true → CX Tryz.prog 37 [.str a0, vi r3.2.1] (.str r5))] (AllP.cons (fun _ => cx (ok_ref10_behind n a0 r3.2.1 _ hr5)) AllP.nil) ?_
        refine To.thenN (Wp.ret (To.thenR (To.thenR ?_)))
        refine kt [2, 3, 4] [] [(2, .str r3.1), (3, .str r5), (4, vi 1)] [] ?_
        cases h
        exact To.done hΓ (by kernel_rfl)
      · replace h := if_f hb h
        refine Wp.skip (To.thenN (Wp.seq ?_))
        refine rg [2, 3, 4] [] [(2, .str []), (3, .str []), (4, vi 0)] [] ?_
        refine To.thenN (Wp.ret (To.thenR ?_))
        refine kt [2, 3, 4] [] [(2, .str []), (3, .str []), (4, vi 0)] [] ?_
        cases h
        exact To.done hΓ (by kernel_rfl)
    · replace h := if_f hb h
      refine Wp.skip (To.thenN (Wp.seq (Wp.seq ?_)))
      refine rg [0, 8] [] [(0, .str a0), (8, vi 0)] [] ?_
      refine To.thenN (Wp.block ?_)
      obtain ⟨o6, ho6, h⟩ := bind_of h
      refine kw [0, 8] [] [(0, .str a0), (8, vi 0)] [] ?_
      refine Wp.loopL ?_
      refine ok_ref10_Entry_l1 n a0 n 0 o6 ho6 ?_
      rcases o6 with o6 | o6
      · replace h := sum_l h
        refine To.blockX (To.thenN (Wp.seq ?_))
        refine rg [2, 3, 4] [] [(2, .str []), (3, .str []), (4, vi 0)] [] ?_
        refine To.thenN (Wp.ret ?_)
        refine kt [2, 3, 4] [] [(2, .str []), (3, .str []), (4, vi 0)] [] ?_
        cases h
        exact To.done hΓ (by kernel_rfl)
      · replace h := sum_r h
        refine To.blockR (To.thenR ?_)
        refine kt [2, 3, 4] [] [(2, .str o6.1), (3, .str o6.2.1), (4, vi o6.2.2)] [] ?_
        cases h
        exact To.done hΓ (by kernel_rfl)
end Go.Proofs.YtefojkdckfidcaaGreatDoor.M
