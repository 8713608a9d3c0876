/-
  Printed by wip/tools/gen.py: models and walks of functions.
-/
import Derived.Test.YtljnmojkhajolaaRxArgs
import Derived.Test.YtljnmojkhajolaaRxGoto
import Derived.Test.YtljnmojkhajolaaSh02
import Derived.Test.YtljnmojkhajolaaProg
namespace Go.Proofs.Ytljnmojkhajolaa.M
open Go.RowKit Go.Proofs.Ytljnmojkhajolaa.RX
set_option maxRecDepth 100000
def tab : List (Nat × TI) := [
  (4, { agg := false, size := 1, zero := [.bool false], kind := .bool, eqs := [] }),
  (9, { agg := false, size := 1, zero := [.string ⟨#[]⟩], kind := .str, eqs := [] }),
  (24, { agg := false, size := 1, zero := [.slice none 0 0], kind := .slice 1 false, elt := 9, eb := 16, ez := [.string ⟨#[]⟩], ek := none, eqs := [] }),
  (40, { agg := false, size := 1, zero := [.slice none 0 0], kind := .slice 1 false, elt := 24, eb := 24, ez := [.slice none 0 0], ek := none, eqs := [] })]
theorem tabOK : TabOK Try.prog tab := ⟨⟨by kernel_rfl, fun h => absurd rfl h⟩, ⟨by kernel_rfl, fun h => absurd rfl h⟩, ⟨by kernel_rfl, fun h => absurd rfl h⟩, ⟨by kernel_rfl, fun h => absurd rfl h⟩, trivial⟩
theorem hΓ : ΓOK Try.prog (tabΓ tab) := ΓOK.of tabOK
theorem hm : Try.prog.follows .mixedOrders = true := by kernel_rfl
def E_string : List UInt8 → List D := fun x => [.str x]
theorem good_E_string (l : List (List UInt8)) : GoodR (.recs [] E_string l) := ⟨Nat.le_of_ble_eq_true (by kernel_rfl), fun _ => ⟨rfl, rfl⟩⟩
def name_Sorted (n : Nat) (a0 : List (List UInt8)) : Option ((List (List UInt8))) :=
  if (decide ((List.length ([] : List (List UInt8)) + List.length a0) * (16 + 1) ≤ limit)) = true then (if (decide (List.length (([] : List (List UInt8)) ++ a0) * 17 ≤ limit)) = true then (if (decide (List.length (Sh.sort (([] : List (List UInt8)) ++ a0)) * 17 ≤ limit)) = true then (some (Lib.compact (Sh.sort (([] : List (List UInt8)) ++ a0)))) else none) else none) else none
theorem ok_name_Sorted (n : Nat) (a0 : List (List UInt8)) (r : (List (List UInt8))) (h : name_Sorted n a0 = some r) : CallsX Try.prog 15 [.recs (α := List UInt8) [] E_string a0] (.recs (α := List UInt8) [] E_string r) := by
  unfold name_Sorted at h
  refine callsX_of (fn := Try.f15) (by kernel_rfl) rfl (by kernel_rfl) (Nat.le_of_ble_eq_true (by kernel_rfl)) fun F0 w0 _ => ?_
  refine Wp.keep (kk := [0]) (kl := []) (K' := [(0, .recs (α := List UInt8) [] E_string a0)]) (L' := []) (by kernel_rfl) (by kernel_rfl) ?_
  refine Wp.seq ?_
  refine Wp.region hΓ [] [] [] [0] [] (K' := [(0, .recs (α := List UInt8) [] E_string a0)]) (L' := []) (ob := []) (by kernel_rfl) AllP.nil ?_
  refine To.thenN ?_
  refine Wp.seq ?_
  obtain ⟨hc3, h⟩ := chk_of h
  refine Wp.region hΓ [] [(0, .recs (α := List UInt8) [] E_string []), (2, .recs (α := List UInt8) [] E_string (([] : List (List UInt8)) ++ a0))] [] [3] [6] (K' := [(3, .row 6)]) (L' := [(6, 9, [.rowc false (α := List UInt8) [] E_string (([] : List (List UInt8)) ++ a0)])]) (ob := [(MkOb 1 [] 0 (.recs (α := List UInt8) [] E_string []) ∧ GoodR (.recs (α := List UInt8) [] E_string [])), (decide ((List.length ([] : List (List UInt8)) + List.length a0) * (16 + 1) ≤ limit)) = true, (AppOb [] E_string ([] : List (List UInt8)) (List.flatMap E_string a0) (List.length a0) (.recs (α := List UInt8) [] E_string (([] : List (List UInt8)) ++ a0)) ∧ GoodR (.recs (α := List UInt8) [] E_string (([] : List (List UInt8)) ++ a0)))]) (by kernel_rfl) (AllP.cons (mkOb (by kernel_rfl) rfl (by kernel_rfl) (good_E_string _)) (AllP.cons hc3 (AllP.cons (appOb rfl rfl (good_E_string _)) AllP.nil))) ?_
  refine To.thenN ?_
  refine Wp.seq ?_
  obtain ⟨u1, h⟩ := chk_of h
  refine Wp.region hΓ [] [] [(1, ⟨[(1000000, 6)], [(1000000, 6)], [.row 1000000], [(1000000, 9, [.rowc false (α := List UInt8) [] E_string (([] : List (List UInt8)) ++ a0)])], .tup [], [(1000000, 9, [.rowc false (α := List UInt8) [] E_string (Sh.sort (([] : List (List UInt8)) ++ a0))])]⟩)] [3] [6] (K' := [(3, .row 6)]) (L' := [(6, 9, [.rowc false (α := List UInt8) [] E_string (Sh.sort (([] : List (List UInt8)) ++ a0))])]) (ob := [CbOb (CallsB Try.prog) 37 [.row 6] [some (9, [.rowc false (α := List UInt8) [] E_string (([] : List (List UInt8)) ++ a0)])] ⟨[(1000000, 6)], [(1000000, 6)], [.row 1000000], [(1000000, 9, [.rowc false (α := List UInt8) [] E_string (([] : List (List UInt8)) ++ a0)])], .tup [], [(1000000, 9, [.rowc false (α := List UInt8) [] E_string (Sh.sort (([] : List (List UInt8)) ++ a0))])]⟩]) (by kernel_rfl) (AllP.cons (⟨Sh.sort37 u1, by kernel_rfl, by kernel_rfl⟩) AllP.nil) ?_
  refine To.thenN ?_
  refine Wp.seq ?_
  obtain ⟨u2, h⟩ := chk_of h
  refine Wp.region hΓ [] [] [(1, ⟨[(1000000, 6)], [], [.row 1000000], [(1000000, 9, [.rowc false (α := List UInt8) [] E_string (Sh.sort (([] : List (List UInt8)) ++ a0))])], .recs (α := List UInt8) [] E_string (Lib.compact (Sh.sort (([] : List (List UInt8)) ++ a0))), []⟩)] [2] [] (K' := [(2, .recs (α := List UInt8) [] E_string (Lib.compact (Sh.sort (([] : List (List UInt8)) ++ a0))))]) (L' := []) (ob := [CbOb (CallsB Try.prog) 38 [.row 6] [some (9, [.rowc false (α := List UInt8) [] E_string (Sh.sort (([] : List (List UInt8)) ++ a0))])] ⟨[(1000000, 6)], [], [.row 1000000], [(1000000, 9, [.rowc false (α := List UInt8) [] E_string (Sh.sort (([] : List (List UInt8)) ++ a0))])], .recs (α := List UInt8) [] E_string (Lib.compact (Sh.sort (([] : List (List UInt8)) ++ a0))), []⟩]) (by kernel_rfl) (AllP.cons (⟨Sh.compact38 u2, by kernel_rfl, by kernel_rfl⟩) AllP.nil) ?_
  refine To.thenN ?_
  refine Wp.ret ?_
  refine To.keep (kk := [2]) (kl := []) (K' := [(2, .recs (α := List UInt8) [] E_string (Lib.compact (Sh.sort (([] : List (List UInt8)) ++ a0))))]) (L' := []) (by kernel_rfl) (by kernel_rfl) ?_
  cases h
  exact To.done hΓ (by kernel_rfl)
def name_small (a0 : Int) : Bool :=
  (bif (decide (a0 ≥ 97)) then (decide (a0 ≤ 122)) else false)
theorem ok_name_small (a0 : Int) (r : Bool) (h : name_small a0 = r) : CallsX Try.prog 34 [.val (.int .u8 a0)] (.val (.bool r)) := by
  unfold name_small at h
  refine callsX_of (fn := Try.f34) (by kernel_rfl) rfl (by kernel_rfl) (Nat.le_of_ble_eq_true (by kernel_rfl)) fun F0 w0 _ => ?_
  refine Wp.keep (kk := [0]) (kl := []) (K' := [(0, .val (.int .u8 a0))]) (L' := []) (by kernel_rfl) (by kernel_rfl) ?_
  refine Wp.seq ?_
  refine Wp.region hΓ [] [] [] [0] [] (K' := [(0, .val (.int .u8 a0))]) (L' := []) (ob := []) (by kernel_rfl) AllP.nil ?_
  refine To.thenN ?_
  refine Wp.seq ?_
  refine Wp.region hΓ [] [] [] [2] [] (K' := [(2, .val (.bool (bif (decide (a0 ≥ 97)) then (decide (a0 ≤ 122)) else false)))]) (L' := []) (ob := []) (by kernel_rfl) AllP.nil ?_
  refine To.thenN ?_
  refine Wp.ret ?_
  refine To.keep (kk := [2]) (kl := []) (K' := [(2, .val (.bool (bif (decide (a0 ≥ 97)) then (decide (a0 ≤ 122)) else false)))]) (L' := []) (by kernel_rfl) (by kernel_rfl) ?_
  cases h
  exact To.done hΓ (by kernel_rfl)
def name_letter (a0 : Int) : Bool :=
  (bif (name_small a0) then true else (bif (decide (a0 ≥ 65)) then (decide (a0 ≤ 90)) else false))
theorem ok_name_letter (a0 : Int) (r : Bool) (h : name_letter a0 = r) : CallsX Try.prog 28 [.val (.int .u8 a0)] (.val (.bool r)) := by
  unfold name_letter at h
  refine callsX_of (fn := Try.f28) (by kernel_rfl) rfl (by kernel_rfl) (Nat.le_of_ble_eq_true (by kernel_rfl)) fun F0 w0 _ => ?_
  refine Wp.keep (kk := [0]) (kl := []) (K' := [(0, .val (.int .u8 a0))]) (L' := []) (by kernel_rfl) (by kernel_rfl) ?_
  refine Wp.seq ?_
  refine Wp.region hΓ [] [] [] [0] [] (K' := [(0, .val (.int .u8 a0))]) (L' := []) (ob := []) (by kernel_rfl) AllP.nil ?_
  refine To.thenN ?_
  refine Wp.seq ?_
  refine Wp.region hΓ [] [(1, .val (.bool (name_small a0)))] [] [2] [] (K' := [(2, .val (.bool (bif (name_small a0) then true else (bif (decide (a0 ≥ 65)) then (decide (a0 ≤ 90)) else false))))]) (L' := []) (ob := [(true = true → CX Try.prog 34 [.val (.int .u8 a0)] (.val (.bool (name_small a0))))]) (by kernel_rfl) (AllP.cons (fun _ => cx (ok_name_small a0 _ rfl)) AllP.nil) ?_
  refine To.thenN ?_
  refine Wp.ret ?_
  refine To.keep (kk := [2]) (kl := []) (K' := [(2, .val (.bool (bif (name_small a0) then true else (bif (decide (a0 ≥ 65)) then (decide (a0 ≤ 90)) else false))))]) (L' := []) (by kernel_rfl) (by kernel_rfl) ?_
  cases h
  exact To.done hΓ (by kernel_rfl)
def name_number (a0 : Int) : Bool :=
  (bif (decide (a0 ≥ 48)) then (decide (a0 ≤ 57)) else false)
theorem ok_name_number (a0 : Int) (r : Bool) (h : name_number a0 = r) : CallsX Try.prog 29 [.val (.int .u8 a0)] (.val (.bool r)) := by
  unfold name_number at h
  refine callsX_of (fn := Try.f29) (by kernel_rfl) rfl (by kernel_rfl) (Nat.le_of_ble_eq_true (by kernel_rfl)) fun F0 w0 _ => ?_
  refine Wp.keep (kk := [0]) (kl := []) (K' := [(0, .val (.int .u8 a0))]) (L' := []) (by kernel_rfl) (by kernel_rfl) ?_
  refine Wp.seq ?_
  refine Wp.region hΓ [] [] [] [0] [] (K' := [(0, .val (.int .u8 a0))]) (L' := []) (ob := []) (by kernel_rfl) AllP.nil ?_
  refine To.thenN ?_
  refine Wp.seq ?_
  refine Wp.region hΓ [] [] [] [2] [] (K' := [(2, .val (.bool (bif (decide (a0 ≥ 48)) then (decide (a0 ≤ 57)) else false)))]) (L' := []) (ob := []) (by kernel_rfl) AllP.nil ?_
  refine To.thenN ?_
  refine Wp.ret ?_
  refine To.keep (kk := [2]) (kl := []) (K' := [(2, .val (.bool (bif (decide (a0 ≥ 48)) then (decide (a0 ≤ 57)) else false)))]) (L' := []) (by kernel_rfl) (by kernel_rfl) ?_
  cases h
  exact To.done hΓ (by kernel_rfl)
def name_Service_1 (a0 : Int) : Bool :=
  (bif (name_letter a0) then true else (name_number a0))
theorem ok_name_Service_1 (a0 : Int) (r : Bool) (h : name_Service_1 a0 = r) : CallsX Try.prog 27 [.val (.int .u8 a0)] (.val (.bool r)) := by
  unfold name_Service_1 at h
  refine callsX_of (fn := Try.f27) (by kernel_rfl) rfl (by kernel_rfl) (Nat.le_of_ble_eq_true (by kernel_rfl)) fun F0 w0 _ => ?_
  refine Wp.keep (kk := [0]) (kl := []) (K' := [(0, .val (.int .u8 a0))]) (L' := []) (by kernel_rfl) (by kernel_rfl) ?_
  refine Wp.seq ?_
  refine Wp.region hΓ [] [] [] [0] [] (K' := [(0, .val (.int .u8 a0))]) (L' := []) (ob := []) (by kernel_rfl) AllP.nil ?_
  refine To.thenN ?_
  refine Wp.seq ?_
  refine Wp.region hΓ [] [(1, .val (.bool (name_letter a0))), (4, .val (.bool (name_number a0)))] [] [2] [] (K' := [(2, .val (.bool (bif (name_letter a0) then true else (name_number a0))))]) (L' := []) (ob := [(true = true → CX Try.prog 28 [.val (.int .u8 a0)] (.val (.bool (name_letter a0)))), (((name_letter a0) == false) = true → CX Try.prog 29 [.val (.int .u8 a0)] (.val (.bool (name_number a0))))]) (by kernel_rfl) (AllP.cons (fun _ => cx (ok_name_letter a0 _ rfl)) (AllP.cons (fun _ => cx (ok_name_number a0 _ rfl)) AllP.nil)) ?_
  refine To.thenN ?_
  refine Wp.ret ?_
  refine To.keep (kk := [2]) (kl := []) (K' := [(2, .val (.bool (bif (name_letter a0) then true else (name_number a0))))]) (L' := []) (by kernel_rfl) (by kernel_rfl) ?_
  cases h
  exact To.done hΓ (by kernel_rfl)
def name_Service_2 (a0 : Int) : Bool :=
  lett ((bif (bif (bif (bif (name_letter a0) then true else (name_number a0)) then true else (a0 == 45)) then true else (a0 == 95)) then true else (a0 == 46)) : Bool) fun x1 =>
  x1
theorem ok_name_Service_2 (a0 : Int) (r : Bool) (h : name_Service_2 a0 = r) : CallsX Try.prog 30 [.val (.int .u8 a0)] (.val (.bool r)) := by
  unfold name_Service_2 at h
  refine callsX_of (fn := Try.f30) (by kernel_rfl) rfl (by kernel_rfl) (Nat.le_of_ble_eq_true (by kernel_rfl)) fun F0 w0 _ => ?_
  refine Wp.keep (kk := [0]) (kl := []) (K' := [(0, .val (.int .u8 a0))]) (L' := []) (by kernel_rfl) (by kernel_rfl) ?_
  refine Wp.seq ?_
  refine Wp.region hΓ [] [] [] [0] [] (K' := [(0, .val (.int .u8 a0))]) (L' := []) (ob := []) (by kernel_rfl) AllP.nil ?_
  refine To.thenN ?_
  refine Wp.seq ?_
  obtain ⟨x1, hx1, h⟩ := lett_of h
  refine Wp.region hΓ [] [(1, .val (.bool (name_letter a0))), (4, .val (.bool (name_number a0)))] [] [2] [] (K' := [(2, .val (.bool (bif (bif (bif (bif (name_letter a0) then true else (name_number a0)) then true else (a0 == 45)) then true else (a0 == 95)) then true else (a0 == 46))))]) (L' := []) (ob := [(true = true → CX Try.prog 28 [.val (.int .u8 a0)] (.val (.bool (name_letter a0)))), (((name_letter a0) == false) = true → CX Try.prog 29 [.val (.int .u8 a0)] (.val (.bool (name_number a0))))]) (by kernel_rfl) (AllP.cons (fun _ => cx (ok_name_letter a0 _ rfl)) (AllP.cons (fun _ => cx (ok_name_number a0 _ rfl)) AllP.nil)) ?_
  refine To.eq (K' := [(2, .val (.bool x1))]) (L' := []) (by cases hx1; rfl) (by cases hx1; rfl) ?_
  refine To.thenN ?_
  refine Wp.ret ?_
  refine To.keep (kk := [2]) (kl := []) (K' := [(2, .val (.bool x1))]) (L' := []) (by kernel_rfl) (by kernel_rfl) ?_
  cases h
  exact To.done hΓ (by kernel_rfl)
def name_of__name_Service_1__name_Service_2_l1 (n : Nat) (v0 : List UInt8) : Nat → Int → Option (Sum (Unit) (Bool))
  | 0, _ => none
  | k + 1, v7 => if (decide (v7 < (List.length v0 : Int))) = true then (if (decide (0 ≤ v7 ∧ v7 < (List.length v0 : Int))) = true then (if (!(name_Service_2 (((v0)[Int.toNat v7]?.getD 0).toNat : Int))) = true then (some (.inr false))
  else (name_of__name_Service_1__name_Service_2_l1 n v0 k (IntKind.wrap .i64 (v7 + 1)))) else none)
  else (some (.inl ()))
theorem ok_name_of__name_Service_1__name_Service_2_l1 (n : Nat) (v0 : List UInt8) {F0 : Fz} {w0 : Pt Try.prog} {Q : Exit → Act → World → Prop} (k : Nat) : ∀ (v7 : Int) (o : Sum (Unit) (Bool)), name_of__name_Service_1__name_Service_2_l1 n v0 k v7 = some o → (Sum.elim (fun s => To 35 F0 w0 [] [] (.exit 0) Q) (fun s => To 35 F0 w0 [(6, .val (.bool s))] [] .ret Q)) o → WL Try.prog 35 F0 w0 [(0, .str v0), (2, .fn 30 []), (7, .val (.int .i64 v7))] [] (cI (cI (cB (cA (cB (cB (cF Try.f26))))))) Q := by
  induction k with
  | zero => intro v7 o h; cases h
  | succ k ih =>
    intro v7 o h hQ
    rw [name_of__name_Service_1__name_Service_2_l1] at h
    refine WL.round ?_
    refine Wp.seq ?_
    refine Wp.seq ?_
    refine Wp.region hΓ [] [] [] [0, 2, 7, 26] [] (K' := [(0, .str v0), (2, .fn 30 []), (7, .val (.int .i64 v7)), (26, .val (.bool (decide (v7 < (List.length v0 : Int)))))]) (L' := []) (ob := []) (by kernel_rfl) AllP.nil ?_
    refine To.thenN ?_
    refine Wp.cond (b := (decide (v7 < (List.length v0 : Int)))) (by kernel_rfl) (fun hb => ?_) (fun hb => ?_)
    · replace h := if_t hb h
      refine Wp.skip ?_
      refine To.thenN ?_
      refine Wp.seq ?_
      refine Wp.block ?_
      refine Wp.seq ?_
      obtain ⟨hc2, h⟩ := chk_of h
      refine Wp.region hΓ [] [(4, .val (.bool (name_Service_2 (((v0)[Int.toNat v7]?.getD 0).toNat : Int))))] [] [0, 2, 7, 34] [] (K' := [(0, .str v0), (2, .fn 30 []), (7, .val (.int .i64 v7)), (34, .val (.bool (!(name_Service_2 (((v0)[Int.toNat v7]?.getD 0).toNat : Int)))))]) (L' := []) (ob := [(decide (0 ≤ v7 ∧ v7 < (List.length v0 : Int))) = true, (true = true → CX Try.prog 30 [.val (.int .u8 (((v0)[Int.toNat v7]?.getD 0).toNat : Int))] (.val (.bool (name_Service_2 (((v0)[Int.toNat v7]?.getD 0).toNat : Int)))))]) (by kernel_rfl) (AllP.cons hc2 (AllP.cons (fun _ => cx (ok_name_Service_2 (((v0)[Int.toNat v7]?.getD 0).toNat : Int) _ rfl)) AllP.nil)) ?_
      refine To.thenN ?_
      refine Wp.cond (b := (!(name_Service_2 (((v0)[Int.toNat v7]?.getD 0).toNat : Int)))) (by kernel_rfl) (fun hb => ?_) (fun hb => ?_)
      · replace h := if_t hb h
        refine Wp.seq ?_
        refine Wp.region hΓ [] [] [] [6] [] (K' := [(6, .val (.bool false))]) (L' := []) (ob := []) (by kernel_rfl) AllP.nil ?_
        refine To.thenN ?_
        refine Wp.ret ?_
        refine To.blockR ?_
        refine To.thenR ?_
        refine To.thenR ?_
        refine To.keep (kk := [6]) (kl := []) (K' := [(6, .val (.bool false))]) (L' := []) (by kernel_rfl) (by kernel_rfl) ?_
        cases h
        exact hQ
      · replace h := if_f hb h
        refine Wp.skip ?_
        refine To.blockN ?_
        refine To.thenN ?_
        refine Wp.region hΓ [] [] [] [0, 2, 7] [] (K' := [(0, .str v0), (2, .fn 30 []), (7, .val (.int .i64 (IntKind.wrap .i64 (v7 + 1))))]) (L' := []) (ob := []) (by kernel_rfl) AllP.nil ?_
        refine To.keep (kk := [0, 2, 7]) (kl := []) (K' := [(0, .str v0), (2, .fn 30 []), (7, .val (.int .i64 (IntKind.wrap .i64 (v7 + 1))))]) (L' := []) (by kernel_rfl) (by kernel_rfl) ?_
        refine To.again ?_
        exact ih (IntKind.wrap .i64 (v7 + 1)) _ h hQ
    · replace h := if_f hb h
      refine Wp.exit ?_
      refine To.thenX ?_
      refine To.thenX ?_
      refine To.keep (kk := []) (kl := []) (K' := []) (L' := []) (by kernel_rfl) (by kernel_rfl) ?_
      cases h
      exact hQ
def name_of__name_Service_1__name_Service_2 (n : Nat) (a0 : List UInt8) : Option (Bool) :=
  if ((!((bif (decide ((List.length a0 : Int) < 1)) then true else (decide ((List.length a0 : Int) > 24))) == false) || decide (0 ≤ (0 : Int) ∧ (0 : Int) < (List.length a0 : Int)))) = true then (lett ((bif (bif (decide ((List.length a0 : Int) < 1)) then true else (decide ((List.length a0 : Int) > 24))) then true else (!(name_Service_1 (((a0)[Int.toNat 0]?.getD 0).toNat : Int)))) : Bool) fun x1 =>
  if x1 = true then some false
  else ((name_of__name_Service_1__name_Service_2_l1 n a0 n 1).bind fun o2 =>
  (Sum.elim (fun o2 => some true) (fun o2 => some o2)) o2)) else none
theorem ok_name_of__name_Service_1__name_Service_2 (n : Nat) (a0 : List UInt8) (r : Bool) (h : name_of__name_Service_1__name_Service_2 n a0 = some r) : CallsX Try.prog 26 [.str a0, .fn 27 [], .fn 30 []] (.val (.bool r)) := by
  unfold name_of__name_Service_1__name_Service_2 at h
  refine callsX_of (fn := Try.f26) (by kernel_rfl) rfl (by kernel_rfl) (Nat.le_of_ble_eq_true (by kernel_rfl)) fun F0 w0 _ => ?_
  refine Wp.keep (kk := [0, 1, 2]) (kl := []) (K' := [(0, .str a0), (1, .fn 27 []), (2, .fn 30 [])]) (L' := []) (by kernel_rfl) (by kernel_rfl) ?_
  refine Wp.seq ?_
  refine Wp.region hΓ [] [] [] [0, 1, 2] [] (K' := [(0, .str a0), (1, .fn 27 []), (2, .fn 30 [])]) (L' := []) (ob := []) (by kernel_rfl) AllP.nil ?_
  refine To.thenN ?_
  refine Wp.seq ?_
  refine Wp.seq ?_
  obtain ⟨hc3, h⟩ := chk_of h
  obtain ⟨x1, hx1, h⟩ := lett_of h
  refine Wp.region hΓ [] [(12, .val (.bool (name_Service_1 (((a0)[Int.toNat 0]?.getD 0).toNat : Int))))] [] [0, 2, 22] [] (K' := [(0, .str a0), (2, .fn 30 []), (22, .val (.bool (bif (bif (decide ((List.length a0 : Int) < 1)) then true else (decide ((List.length a0 : Int) > 24))) then true else (!(name_Service_1 (((a0)[Int.toNat 0]?.getD 0).toNat : Int))))))]) (L' := []) (ob := [(!((bif (decide ((List.length a0 : Int) < 1)) then true else (decide ((List.length a0 : Int) > 24))) == false) || decide (0 ≤ (0 : Int) ∧ (0 : Int) < (List.length a0 : Int))) = true, (((bif (decide ((List.length a0 : Int) < 1)) then true else (decide ((List.length a0 : Int) > 24))) == false) = true → CX Try.prog 27 [.val (.int .u8 (((a0)[Int.toNat 0]?.getD 0).toNat : Int))] (.val (.bool (name_Service_1 (((a0)[Int.toNat 0]?.getD 0).toNat : Int)))))]) (by kernel_rfl) (AllP.cons hc3 (AllP.cons (fun _ => cx (ok_name_Service_1 (((a0)[Int.toNat 0]?.getD 0).toNat : Int) _ rfl)) AllP.nil)) ?_
  refine To.eq (K' := [(0, .str a0), (2, .fn 30 []), (22, .val (.bool x1))]) (L' := []) (by cases hx1; rfl) (by cases hx1; rfl) ?_
  refine To.thenN ?_
  refine Wp.cond (b := x1) (by kernel_rfl) (fun hb => ?_) (fun hb => ?_)
  · replace h := if_t hb h
    refine Wp.seq ?_
    refine Wp.region hΓ [] [] [] [6] [] (K' := [(6, .val (.bool false))]) (L' := []) (ob := []) (by kernel_rfl) AllP.nil ?_
    refine To.thenN ?_
    refine Wp.ret ?_
    refine To.thenR ?_
    refine To.keep (kk := [6]) (kl := []) (K' := [(6, .val (.bool false))]) (L' := []) (by kernel_rfl) (by kernel_rfl) ?_
    cases h
    exact To.done hΓ (by kernel_rfl)
  · replace h := if_f hb h
    refine Wp.skip ?_
    refine To.thenN ?_
    refine Wp.seq ?_
    refine Wp.seq ?_
    refine Wp.region hΓ [] [] [] [0, 2, 7] [] (K' := [(0, .str a0), (2, .fn 30 []), (7, .val (.int .i64 1))]) (L' := []) (ob := []) (by kernel_rfl) AllP.nil ?_
    refine To.thenN ?_
    refine Wp.block ?_
    obtain ⟨o2, ho2, h⟩ := bind_of h
    refine Wp.keep (kk := [0, 2, 7]) (kl := []) (K' := [(0, .str a0), (2, .fn 30 []), (7, .val (.int .i64 1))]) (L' := []) (by kernel_rfl) (by kernel_rfl) ?_
    refine Wp.loopL ?_
    refine ok_name_of__name_Service_1__name_Service_2_l1 n a0 n 1 o2 ho2 ?_
    rcases o2 with o2 | o2
    · replace h := sum_l h
      refine To.blockX ?_
      refine To.thenN ?_
      refine Wp.seq ?_
      refine Wp.region hΓ [] [] [] [6] [] (K' := [(6, .val (.bool true))]) (L' := []) (ob := []) (by kernel_rfl) AllP.nil ?_
      refine To.thenN ?_
      refine Wp.ret ?_
      refine To.keep (kk := [6]) (kl := []) (K' := [(6, .val (.bool true))]) (L' := []) (by kernel_rfl) (by kernel_rfl) ?_
      cases h
      exact To.done hΓ (by kernel_rfl)
    · replace h := sum_r h
      refine To.blockR ?_
      refine To.thenR ?_
      refine To.keep (kk := [6]) (kl := []) (K' := [(6, .val (.bool o2))]) (L' := []) (by kernel_rfl) (by kernel_rfl) ?_
      cases h
      exact To.done hΓ (by kernel_rfl)
def name_Service (n : Nat) (a0 : List UInt8) : Option (Bool) :=
  (name_of__name_Service_1__name_Service_2 n a0).bind fun r1 =>
  some r1
theorem ok_name_Service (n : Nat) (a0 : List UInt8) (r : Bool) (h : name_Service n a0 = some r) : CallsX Try.prog 7 [.str a0] (.val (.bool r)) := by
  unfold name_Service at h
  refine callsX_of (fn := Try.f7) (by kernel_rfl) rfl (by kernel_rfl) (Nat.le_of_ble_eq_true (by kernel_rfl)) fun F0 w0 _ => ?_
  refine Wp.keep (kk := [0]) (kl := []) (K' := [(0, .str a0)]) (L' := []) (by kernel_rfl) (by kernel_rfl) ?_
  refine Wp.seq ?_
  refine Wp.region hΓ [] [] [] [0] [] (K' := [(0, .str a0)]) (L' := []) (ob := []) (by kernel_rfl) AllP.nil ?_
  refine To.thenN ?_
  refine Wp.seq ?_
  obtain ⟨r1, hr1, h⟩ := bind_of h
  refine Wp.region hΓ [] [(1, .val (.bool r1))] [] [2] [] (K' := [(2, .val (.bool r1))]) (L' := []) (ob := [(true = true → CX Try.prog 26 [.str a0, .fn 27 [], .fn 30 []] (.val (.bool r1)))]) (by kernel_rfl) (AllP.cons (fun _ => cx (ok_name_of__name_Service_1__name_Service_2 n a0 _ hr1)) AllP.nil) ?_
  refine To.thenN ?_
  refine Wp.ret ?_
  refine To.keep (kk := [2]) (kl := []) (K' := [(2, .val (.bool r1))]) (L' := []) (by kernel_rfl) (by kernel_rfl) ?_
  cases h
  exact To.done hΓ (by kernel_rfl)
def name_Variable_1 (a0 : Int) : Bool :=
  (bif (name_letter a0) then true else (a0 == 95))
theorem ok_name_Variable_1 (a0 : Int) (r : Bool) (h : name_Variable_1 a0 = r) : CallsX Try.prog 31 [.val (.int .u8 a0)] (.val (.bool r)) := by
  unfold name_Variable_1 at h
  refine callsX_of (fn := Try.f31) (by kernel_rfl) rfl (by kernel_rfl) (Nat.le_of_ble_eq_true (by kernel_rfl)) fun F0 w0 _ => ?_
  refine Wp.keep (kk := [0]) (kl := []) (K' := [(0, .val (.int .u8 a0))]) (L' := []) (by kernel_rfl) (by kernel_rfl) ?_
  refine Wp.seq ?_
  refine Wp.region hΓ [] [] [] [0] [] (K' := [(0, .val (.int .u8 a0))]) (L' := []) (ob := []) (by kernel_rfl) AllP.nil ?_
  refine To.thenN ?_
  refine Wp.seq ?_
  refine Wp.region hΓ [] [(1, .val (.bool (name_letter a0)))] [] [2] [] (K' := [(2, .val (.bool (bif (name_letter a0) then true else (a0 == 95))))]) (L' := []) (ob := [(true = true → CX Try.prog 28 [.val (.int .u8 a0)] (.val (.bool (name_letter a0))))]) (by kernel_rfl) (AllP.cons (fun _ => cx (ok_name_letter a0 _ rfl)) AllP.nil) ?_
  refine To.thenN ?_
  refine Wp.ret ?_
  refine To.keep (kk := [2]) (kl := []) (K' := [(2, .val (.bool (bif (name_letter a0) then true else (a0 == 95))))]) (L' := []) (by kernel_rfl) (by kernel_rfl) ?_
  cases h
  exact To.done hΓ (by kernel_rfl)
def name_Variable_2 (a0 : Int) : Bool :=
  (bif (bif (name_letter a0) then true else (name_number a0)) then true else (a0 == 95))
theorem ok_name_Variable_2 (a0 : Int) (r : Bool) (h : name_Variable_2 a0 = r) : CallsX Try.prog 32 [.val (.int .u8 a0)] (.val (.bool r)) := by
  unfold name_Variable_2 at h
  refine callsX_of (fn := Try.f32) (by kernel_rfl) rfl (by kernel_rfl) (Nat.le_of_ble_eq_true (by kernel_rfl)) fun F0 w0 _ => ?_
  refine Wp.keep (kk := [0]) (kl := []) (K' := [(0, .val (.int .u8 a0))]) (L' := []) (by kernel_rfl) (by kernel_rfl) ?_
  refine Wp.seq ?_
  refine Wp.region hΓ [] [] [] [0] [] (K' := [(0, .val (.int .u8 a0))]) (L' := []) (ob := []) (by kernel_rfl) AllP.nil ?_
  refine To.thenN ?_
  refine Wp.seq ?_
  refine Wp.region hΓ [] [(1, .val (.bool (name_letter a0))), (4, .val (.bool (name_number a0)))] [] [2] [] (K' := [(2, .val (.bool (bif (bif (name_letter a0) then true else (name_number a0)) then true else (a0 == 95))))]) (L' := []) (ob := [(true = true → CX Try.prog 28 [.val (.int .u8 a0)] (.val (.bool (name_letter a0)))), (((name_letter a0) == false) = true → CX Try.prog 29 [.val (.int .u8 a0)] (.val (.bool (name_number a0))))]) (by kernel_rfl) (AllP.cons (fun _ => cx (ok_name_letter a0 _ rfl)) (AllP.cons (fun _ => cx (ok_name_number a0 _ rfl)) AllP.nil)) ?_
  refine To.thenN ?_
  refine Wp.ret ?_
  refine To.keep (kk := [2]) (kl := []) (K' := [(2, .val (.bool (bif (bif (name_letter a0) then true else (name_number a0)) then true else (a0 == 95))))]) (L' := []) (by kernel_rfl) (by kernel_rfl) ?_
  cases h
  exact To.done hΓ (by kernel_rfl)
def name_of__name_Variable_1__name_Variable_2_l1 (n : Nat) (v0 : List UInt8) : Nat → Int → Option (Sum (Unit) (Bool))
  | 0, _ => none
  | k + 1, v7 => if (decide (v7 < (List.length v0 : Int))) = true then (if (decide (0 ≤ v7 ∧ v7 < (List.length v0 : Int))) = true then (if (!(name_Variable_2 (((v0)[Int.toNat v7]?.getD 0).toNat : Int))) = true then (some (.inr false))
  else (name_of__name_Variable_1__name_Variable_2_l1 n v0 k (IntKind.wrap .i64 (v7 + 1)))) else none)
  else (some (.inl ()))
theorem ok_name_of__name_Variable_1__name_Variable_2_l1 (n : Nat) (v0 : List UInt8) {F0 : Fz} {w0 : Pt Try.prog} {Q : Exit → Act → World → Prop} (k : Nat) : ∀ (v7 : Int) (o : Sum (Unit) (Bool)), name_of__name_Variable_1__name_Variable_2_l1 n v0 k v7 = some o → (Sum.elim (fun s => To 35 F0 w0 [] [] (.exit 0) Q) (fun s => To 35 F0 w0 [(6, .val (.bool s))] [] .ret Q)) o → WL Try.prog 35 F0 w0 [(0, .str v0), (2, .fn 32 []), (7, .val (.int .i64 v7))] [] (cI (cI (cB (cA (cB (cB (cF Try.f26))))))) Q := by
  induction k with
  | zero => intro v7 o h; cases h
  | succ k ih =>
    intro v7 o h hQ
    rw [name_of__name_Variable_1__name_Variable_2_l1] at h
    refine WL.round ?_
    refine Wp.seq ?_
    refine Wp.seq ?_
    refine Wp.region hΓ [] [] [] [0, 2, 7, 26] [] (K' := [(0, .str v0), (2, .fn 32 []), (7, .val (.int .i64 v7)), (26, .val (.bool (decide (v7 < (List.length v0 : Int)))))]) (L' := []) (ob := []) (by kernel_rfl) AllP.nil ?_
    refine To.thenN ?_
    refine Wp.cond (b := (decide (v7 < (List.length v0 : Int)))) (by kernel_rfl) (fun hb => ?_) (fun hb => ?_)
    · replace h := if_t hb h
      refine Wp.skip ?_
      refine To.thenN ?_
      refine Wp.seq ?_
      refine Wp.block ?_
      refine Wp.seq ?_
      obtain ⟨hc2, h⟩ := chk_of h
      refine Wp.region hΓ [] [(4, .val (.bool (name_Variable_2 (((v0)[Int.toNat v7]?.getD 0).toNat : Int))))] [] [0, 2, 7, 34] [] (K' := [(0, .str v0), (2, .fn 32 []), (7, .val (.int .i64 v7)), (34, .val (.bool (!(name_Variable_2 (((v0)[Int.toNat v7]?.getD 0).toNat : Int)))))]) (L' := []) (ob := [(decide (0 ≤ v7 ∧ v7 < (List.length v0 : Int))) = true, (true = true → CX Try.prog 32 [.val (.int .u8 (((v0)[Int.toNat v7]?.getD 0).toNat : Int))] (.val (.bool (name_Variable_2 (((v0)[Int.toNat v7]?.getD 0).toNat : Int)))))]) (by kernel_rfl) (AllP.cons hc2 (AllP.cons (fun _ => cx (ok_name_Variable_2 (((v0)[Int.toNat v7]?.getD 0).toNat : Int) _ rfl)) AllP.nil)) ?_
      refine To.thenN ?_
      refine Wp.cond (b := (!(name_Variable_2 (((v0)[Int.toNat v7]?.getD 0).toNat : Int)))) (by kernel_rfl) (fun hb => ?_) (fun hb => ?_)
      · replace h := if_t hb h
        refine Wp.seq ?_
        refine Wp.region hΓ [] [] [] [6] [] (K' := [(6, .val (.bool false))]) (L' := []) (ob := []) (by kernel_rfl) AllP.nil ?_
        refine To.thenN ?_
        refine Wp.ret ?_
        refine To.blockR ?_
        refine To.thenR ?_
        refine To.thenR ?_
        refine To.keep (kk := [6]) (kl := []) (K' := [(6, .val (.bool false))]) (L' := []) (by kernel_rfl) (by kernel_rfl) ?_
        cases h
        exact hQ
      · replace h := if_f hb h
        refine Wp.skip ?_
        refine To.blockN ?_
        refine To.thenN ?_
        refine Wp.region hΓ [] [] [] [0, 2, 7] [] (K' := [(0, .str v0), (2, .fn 32 []), (7, .val (.int .i64 (IntKind.wrap .i64 (v7 + 1))))]) (L' := []) (ob := []) (by kernel_rfl) AllP.nil ?_
        refine To.keep (kk := [0, 2, 7]) (kl := []) (K' := [(0, .str v0), (2, .fn 32 []), (7, .val (.int .i64 (IntKind.wrap .i64 (v7 + 1))))]) (L' := []) (by kernel_rfl) (by kernel_rfl) ?_
        refine To.again ?_
        exact ih (IntKind.wrap .i64 (v7 + 1)) _ h hQ
    · replace h := if_f hb h
      refine Wp.exit ?_
      refine To.thenX ?_
      refine To.thenX ?_
      refine To.keep (kk := []) (kl := []) (K' := []) (L' := []) (by kernel_rfl) (by kernel_rfl) ?_
      cases h
      exact hQ
def name_of__name_Variable_1__name_Variable_2 (n : Nat) (a0 : List UInt8) : Option (Bool) :=
  if ((!((bif (decide ((List.length a0 : Int) < 1)) then true else (decide ((List.length a0 : Int) > 24))) == false) || decide (0 ≤ (0 : Int) ∧ (0 : Int) < (List.length a0 : Int)))) = true then (lett ((bif (bif (decide ((List.length a0 : Int) < 1)) then true else (decide ((List.length a0 : Int) > 24))) then true else (!(name_Variable_1 (((a0)[Int.toNat 0]?.getD 0).toNat : Int)))) : Bool) fun x1 =>
  if x1 = true then some false
  else ((name_of__name_Variable_1__name_Variable_2_l1 n a0 n 1).bind fun o2 =>
  (Sum.elim (fun o2 => some true) (fun o2 => some o2)) o2)) else none
theorem ok_name_of__name_Variable_1__name_Variable_2 (n : Nat) (a0 : List UInt8) (r : Bool) (h : name_of__name_Variable_1__name_Variable_2 n a0 = some r) : CallsX Try.prog 26 [.str a0, .fn 31 [], .fn 32 []] (.val (.bool r)) := by
  unfold name_of__name_Variable_1__name_Variable_2 at h
  refine callsX_of (fn := Try.f26) (by kernel_rfl) rfl (by kernel_rfl) (Nat.le_of_ble_eq_true (by kernel_rfl)) fun F0 w0 _ => ?_
  refine Wp.keep (kk := [0, 1, 2]) (kl := []) (K' := [(0, .str a0), (1, .fn 31 []), (2, .fn 32 [])]) (L' := []) (by kernel_rfl) (by kernel_rfl) ?_
  refine Wp.seq ?_
  refine Wp.region hΓ [] [] [] [0, 1, 2] [] (K' := [(0, .str a0), (1, .fn 31 []), (2, .fn 32 [])]) (L' := []) (ob := []) (by kernel_rfl) AllP.nil ?_
  refine To.thenN ?_
  refine Wp.seq ?_
  refine Wp.seq ?_
  obtain ⟨hc3, h⟩ := chk_of h
  obtain ⟨x1, hx1, h⟩ := lett_of h
  refine Wp.region hΓ [] [(12, .val (.bool (name_Variable_1 (((a0)[Int.toNat 0]?.getD 0).toNat : Int))))] [] [0, 2, 22] [] (K' := [(0, .str a0), (2, .fn 32 []), (22, .val (.bool (bif (bif (decide ((List.length a0 : Int) < 1)) then true else (decide ((List.length a0 : Int) > 24))) then true else (!(name_Variable_1 (((a0)[Int.toNat 0]?.getD 0).toNat : Int))))))]) (L' := []) (ob := [(!((bif (decide ((List.length a0 : Int) < 1)) then true else (decide ((List.length a0 : Int) > 24))) == false) || decide (0 ≤ (0 : Int) ∧ (0 : Int) < (List.length a0 : Int))) = true, (((bif (decide ((List.length a0 : Int) < 1)) then true else (decide ((List.length a0 : Int) > 24))) == false) = true → CX Try.prog 31 [.val (.int .u8 (((a0)[Int.toNat 0]?.getD 0).toNat : Int))] (.val (.bool (name_Variable_1 (((a0)[Int.toNat 0]?.getD 0).toNat : Int)))))]) (by kernel_rfl) (AllP.cons hc3 (AllP.cons (fun _ => cx (ok_name_Variable_1 (((a0)[Int.toNat 0]?.getD 0).toNat : Int) _ rfl)) AllP.nil)) ?_
  refine To.eq (K' := [(0, .str a0), (2, .fn 32 []), (22, .val (.bool x1))]) (L' := []) (by cases hx1; rfl) (by cases hx1; rfl) ?_
  refine To.thenN ?_
  refine Wp.cond (b := x1) (by kernel_rfl) (fun hb => ?_) (fun hb => ?_)
  · replace h := if_t hb h
    refine Wp.seq ?_
    refine Wp.region hΓ [] [] [] [6] [] (K' := [(6, .val (.bool false))]) (L' := []) (ob := []) (by kernel_rfl) AllP.nil ?_
    refine To.thenN ?_
    refine Wp.ret ?_
    refine To.thenR ?_
    refine To.keep (kk := [6]) (kl := []) (K' := [(6, .val (.bool false))]) (L' := []) (by kernel_rfl) (by kernel_rfl) ?_
    cases h
    exact To.done hΓ (by kernel_rfl)
  · replace h := if_f hb h
    refine Wp.skip ?_
    refine To.thenN ?_
    refine Wp.seq ?_
    refine Wp.seq ?_
    refine Wp.region hΓ [] [] [] [0, 2, 7] [] (K' := [(0, .str a0), (2, .fn 32 []), (7, .val (.int .i64 1))]) (L' := []) (ob := []) (by kernel_rfl) AllP.nil ?_
    refine To.thenN ?_
    refine Wp.block ?_
    obtain ⟨o2, ho2, h⟩ := bind_of h
    refine Wp.keep (kk := [0, 2, 7]) (kl := []) (K' := [(0, .str a0), (2, .fn 32 []), (7, .val (.int .i64 1))]) (L' := []) (by kernel_rfl) (by kernel_rfl) ?_
    refine Wp.loopL ?_
    refine ok_name_of__name_Variable_1__name_Variable_2_l1 n a0 n 1 o2 ho2 ?_
    rcases o2 with o2 | o2
    · replace h := sum_l h
      refine To.blockX ?_
      refine To.thenN ?_
      refine Wp.seq ?_
      refine Wp.region hΓ [] [] [] [6] [] (K' := [(6, .val (.bool true))]) (L' := []) (ob := []) (by kernel_rfl) AllP.nil ?_
      refine To.thenN ?_
      refine Wp.ret ?_
      refine To.keep (kk := [6]) (kl := []) (K' := [(6, .val (.bool true))]) (L' := []) (by kernel_rfl) (by kernel_rfl) ?_
      cases h
      exact To.done hΓ (by kernel_rfl)
    · replace h := sum_r h
      refine To.blockR ?_
      refine To.thenR ?_
      refine To.keep (kk := [6]) (kl := []) (K' := [(6, .val (.bool o2))]) (L' := []) (by kernel_rfl) (by kernel_rfl) ?_
      cases h
      exact To.done hΓ (by kernel_rfl)
def name_Variable (n : Nat) (a0 : List UInt8) : Option (Bool) :=
  (name_of__name_Variable_1__name_Variable_2 n a0).bind fun r1 =>
  some r1
theorem ok_name_Variable (n : Nat) (a0 : List UInt8) (r : Bool) (h : name_Variable n a0 = some r) : CallsX Try.prog 8 [.str a0] (.val (.bool r)) := by
  unfold name_Variable at h
  refine callsX_of (fn := Try.f8) (by kernel_rfl) rfl (by kernel_rfl) (Nat.le_of_ble_eq_true (by kernel_rfl)) fun F0 w0 _ => ?_
  refine Wp.keep (kk := [0]) (kl := []) (K' := [(0, .str a0)]) (L' := []) (by kernel_rfl) (by kernel_rfl) ?_
  refine Wp.seq ?_
  refine Wp.region hΓ [] [] [] [0] [] (K' := [(0, .str a0)]) (L' := []) (ob := []) (by kernel_rfl) AllP.nil ?_
  refine To.thenN ?_
  refine Wp.seq ?_
  obtain ⟨r1, hr1, h⟩ := bind_of h
  refine Wp.region hΓ [] [(1, .val (.bool r1))] [] [2] [] (K' := [(2, .val (.bool r1))]) (L' := []) (ob := [(true = true → CX Try.prog 26 [.str a0, .fn 31 [], .fn 32 []] (.val (.bool r1)))]) (by kernel_rfl) (AllP.cons (fun _ => cx (ok_name_of__name_Variable_1__name_Variable_2 n a0 _ hr1)) AllP.nil) ?_
  refine To.thenN ?_
  refine Wp.ret ?_
  refine To.keep (kk := [2]) (kl := []) (K' := [(2, .val (.bool r1))]) (L' := []) (by kernel_rfl) (by kernel_rfl) ?_
  cases h
  exact To.done hΓ (by kernel_rfl)
def slices_Index_string_string_l1 (n : Nat) (v0 : List (List UInt8)) (v1 : List UInt8) (v7 : Int) : Nat → Int → Option (Sum (Unit) (Int))
  | 0, _ => none
  | k + 1, v8 => if (decide (v8 < v7)) = true then (if (decide (0 ≤ v8 ∧ v8 < (List.length v0 : Int))) = true then (if (v1 == ((v0)[Int.toNat v8]?.getD [])) = true then (some (.inr v8))
  else (slices_Index_string_string_l1 n v0 v1 v7 k (IntKind.wrap .i64 (v8 + 1)))) else none)
  else (some (.inl ()))
theorem ok_slices_Index_string_string_l1 (n : Nat) (v0 : List (List UInt8)) (v1 : List UInt8) (v7 : Int) {F0 : Fz} {w0 : Pt Try.prog} {Q : Exit → Act → World → Prop} (k : Nat) : ∀ (v8 : Int) (o : Sum (Unit) (Int)), slices_Index_string_string_l1 n v0 v1 v7 k v8 = some o → (Sum.elim (fun s => To 19 F0 w0 [] [] (.exit 0) Q) (fun s => To 19 F0 w0 [(4, .val (.int .i64 s))] [] .ret Q)) o → WL Try.prog 19 F0 w0 [(0, .recs (α := List UInt8) [] E_string v0), (1, .str v1), (7, .val (.int .i64 v7)), (8, .val (.int .i64 v8))] [] (cI (cI (cB (cA (cB (cF Try.f42)))))) Q := by
  induction k with
  | zero => intro v8 o h; cases h
  | succ k ih =>
    intro v8 o h hQ
    rw [slices_Index_string_string_l1] at h
    refine WL.round ?_
    refine Wp.seq ?_
    refine Wp.region hΓ [] [] [] [0, 1, 7, 8, 9] [] (K' := [(0, .recs (α := List UInt8) [] E_string v0), (1, .str v1), (7, .val (.int .i64 v7)), (8, .val (.int .i64 v8)), (9, .val (.bool (decide (v8 < v7))))]) (L' := []) (ob := []) (by kernel_rfl) AllP.nil ?_
    refine To.thenN ?_
    refine Wp.seq ?_
    refine Wp.cond (b := (decide (v8 < v7))) (by kernel_rfl) (fun hb => ?_) (fun hb => ?_)
    · replace h := if_t hb h
      refine Wp.skip ?_
      refine To.thenN ?_
      refine Wp.seq ?_
      refine Wp.block ?_
      refine Wp.seq ?_
      refine Wp.region hΓ [] [] [] [0, 1, 5, 7, 8] [] (K' := [(0, .recs (α := List UInt8) [] E_string v0), (1, .str v1), (5, .val (.int .i64 v8)), (7, .val (.int .i64 v7)), (8, .val (.int .i64 v8))]) (L' := []) (ob := []) (by kernel_rfl) AllP.nil ?_
      refine To.thenN ?_
      refine Wp.seq ?_
      obtain ⟨hc1, h⟩ := chk_of h
      refine Wp.region hΓ [] [] [] [0, 1, 5, 7, 8, 16] [] (K' := [(0, .recs (α := List UInt8) [] E_string v0), (1, .str v1), (5, .val (.int .i64 v8)), (7, .val (.int .i64 v7)), (8, .val (.int .i64 v8)), (16, .val (.bool (v1 == ((v0)[Int.toNat v8]?.getD []))))]) (L' := []) (ob := [(decide (0 ≤ v8 ∧ v8 < (List.length v0 : Int))) = true]) (by kernel_rfl) (AllP.cons hc1 AllP.nil) ?_
      refine To.thenN ?_
      refine Wp.cond (b := (v1 == ((v0)[Int.toNat v8]?.getD []))) (by kernel_rfl) (fun hb => ?_) (fun hb => ?_)
      · replace h := if_t hb h
        refine Wp.seq ?_
        refine Wp.region hΓ [] [] [] [4] [] (K' := [(4, .val (.int .i64 v8))]) (L' := []) (ob := []) (by kernel_rfl) AllP.nil ?_
        refine To.thenN ?_
        refine Wp.ret ?_
        refine To.blockR ?_
        refine To.thenR ?_
        refine To.thenR ?_
        refine To.keep (kk := [4]) (kl := []) (K' := [(4, .val (.int .i64 v8))]) (L' := []) (by kernel_rfl) (by kernel_rfl) ?_
        cases h
        exact hQ
      · replace h := if_f hb h
        refine Wp.skip ?_
        refine To.blockN ?_
        refine To.thenN ?_
        refine Wp.region hΓ [] [] [] [0, 1, 7, 8] [] (K' := [(0, .recs (α := List UInt8) [] E_string v0), (1, .str v1), (7, .val (.int .i64 v7)), (8, .val (.int .i64 (IntKind.wrap .i64 (v8 + 1))))]) (L' := []) (ob := []) (by kernel_rfl) AllP.nil ?_
        refine To.keep (kk := [0, 1, 7, 8]) (kl := []) (K' := [(0, .recs (α := List UInt8) [] E_string v0), (1, .str v1), (7, .val (.int .i64 v7)), (8, .val (.int .i64 (IntKind.wrap .i64 (v8 + 1))))]) (L' := []) (by kernel_rfl) (by kernel_rfl) ?_
        refine To.again ?_
        exact ih (IntKind.wrap .i64 (v8 + 1)) _ h hQ
    · replace h := if_f hb h
      refine Wp.exit ?_
      refine To.thenX ?_
      refine To.thenX ?_
      refine To.keep (kk := []) (kl := []) (K' := []) (L' := []) (by kernel_rfl) (by kernel_rfl) ?_
      cases h
      exact hQ
def slices_Index_string_string (n : Nat) (a0 : List (List UInt8)) (a1 : List UInt8) : Option (Int) :=
  (slices_Index_string_string_l1 n a0 a1 (List.length a0 : Int) n 0).bind fun o1 =>
  (Sum.elim (fun o1 => some (-1)) (fun o1 => some o1)) o1
theorem ok_slices_Index_string_string (n : Nat) (a0 : List (List UInt8)) (a1 : List UInt8) (r : Int) (h : slices_Index_string_string n a0 a1 = some r) : CallsX Try.prog 42 [.recs (α := List UInt8) [] E_string a0, .str a1] (.val (.int .i64 r)) := by
  unfold slices_Index_string_string at h
  refine callsX_of (fn := Try.f42) (by kernel_rfl) rfl (by kernel_rfl) (Nat.le_of_ble_eq_true (by kernel_rfl)) fun F0 w0 _ => ?_
  refine Wp.keep (kk := [0, 1]) (kl := []) (K' := [(0, .recs (α := List UInt8) [] E_string a0), (1, .str a1)]) (L' := []) (by kernel_rfl) (by kernel_rfl) ?_
  refine Wp.seq ?_
  refine Wp.region hΓ [] [] [] [0, 1] [] (K' := [(0, .recs (α := List UInt8) [] E_string a0), (1, .str a1)]) (L' := []) (ob := []) (by kernel_rfl) AllP.nil ?_
  refine To.thenN ?_
  refine Wp.seq ?_
  refine Wp.seq ?_
  refine Wp.region hΓ [] [] [] [0, 1, 7, 8] [] (K' := [(0, .recs (α := List UInt8) [] E_string a0), (1, .str a1), (7, .val (.int .i64 (List.length a0 : Int))), (8, .val (.int .i64 0))]) (L' := []) (ob := []) (by kernel_rfl) AllP.nil ?_
  refine To.thenN ?_
  refine Wp.block ?_
  obtain ⟨o1, ho1, h⟩ := bind_of h
  refine Wp.keep (kk := [0, 1, 7, 8]) (kl := []) (K' := [(0, .recs (α := List UInt8) [] E_string a0), (1, .str a1), (7, .val (.int .i64 (List.length a0 : Int))), (8, .val (.int .i64 0))]) (L' := []) (by kernel_rfl) (by kernel_rfl) ?_
  refine Wp.loopL ?_
  refine ok_slices_Index_string_string_l1 n a0 a1 (List.length a0 : Int) n 0 o1 ho1 ?_
  rcases o1 with o1 | o1
  · replace h := sum_l h
    refine To.blockX ?_
    refine To.thenN ?_
    refine Wp.seq ?_
    refine Wp.region hΓ [] [] [] [4] [] (K' := [(4, .val (.int .i64 (-1)))]) (L' := []) (ob := []) (by kernel_rfl) AllP.nil ?_
    refine To.thenN ?_
    refine Wp.ret ?_
    refine To.keep (kk := [4]) (kl := []) (K' := [(4, .val (.int .i64 (-1)))]) (L' := []) (by kernel_rfl) (by kernel_rfl) ?_
    cases h
    exact To.done hΓ (by kernel_rfl)
  · replace h := sum_r h
    refine To.blockR ?_
    refine To.thenR ?_
    refine To.keep (kk := [4]) (kl := []) (K' := [(4, .val (.int .i64 o1))]) (L' := []) (by kernel_rfl) (by kernel_rfl) ?_
    cases h
    exact To.done hΓ (by kernel_rfl)
def name_At (n : Nat) (a0 : List (List UInt8)) (a1 : List UInt8) : Option (Int) :=
  (slices_Index_string_string n a0 a1).bind fun r1 =>
  some r1
theorem ok_name_At (n : Nat) (a0 : List (List UInt8)) (a1 : List UInt8) (r : Int) (h : name_At n a0 a1 = some r) : CallsX Try.prog 24 [.recs (α := List UInt8) [] E_string a0, .str a1] (.val (.int .i64 r)) := by
  unfold name_At at h
  refine callsX_of (fn := Try.f24) (by kernel_rfl) rfl (by kernel_rfl) (Nat.le_of_ble_eq_true (by kernel_rfl)) fun F0 w0 _ => ?_
  refine Wp.keep (kk := [0, 1]) (kl := []) (K' := [(0, .recs (α := List UInt8) [] E_string a0), (1, .str a1)]) (L' := []) (by kernel_rfl) (by kernel_rfl) ?_
  refine Wp.seq ?_
  refine Wp.region hΓ [] [] [] [0, 1] [] (K' := [(0, .recs (α := List UInt8) [] E_string a0), (1, .str a1)]) (L' := []) (ob := []) (by kernel_rfl) AllP.nil ?_
  refine To.thenN ?_
  refine Wp.seq ?_
  obtain ⟨r1, hr1, h⟩ := bind_of h
  refine Wp.region hΓ [] [(2, .val (.int .i64 r1))] [] [4] [] (K' := [(4, .val (.int .i64 r1))]) (L' := []) (ob := [(true = true → CX Try.prog 42 [.recs (α := List UInt8) [] E_string a0, .str a1] (.val (.int .i64 r1)))]) (by kernel_rfl) (AllP.cons (fun _ => cx (ok_slices_Index_string_string n a0 a1 _ hr1)) AllP.nil) ?_
  refine To.thenN ?_
  refine Wp.ret ?_
  refine To.keep (kk := [4]) (kl := []) (K' := [(4, .val (.int .i64 r1))]) (L' := []) (by kernel_rfl) (by kernel_rfl) ?_
  cases h
  exact To.done hΓ (by kernel_rfl)
def law02_awake (n : Nat) : Option (Bool) :=
  (name_Sorted n ([[98], [97], [98]])).bind fun r1 =>
  (name_Service n [119, 101, 98, 45, 49]).bind fun r2 =>
  ((if (r2 == true) = true then name_Variable n [119, 101, 98, 45, 49] else some false)).bind fun r3 =>
  if ((!((bif (bif r2 then (!r3) else false) then ((List.length r1 : Int) == 2) else false) == true) || decide (0 ≤ (0 : Int) ∧ (0 : Int) < (List.length r1 : Int)))) = true then (((if ((bif (bif (bif r2 then (!r3) else false) then ((List.length r1 : Int) == 2) else false) then (((r1)[Int.toNat 0]?.getD []) == [97]) else false) == true) = true then name_At n r1 [98] else some 0)).bind fun r4 =>
  lett ((bif (bif (bif (bif r2 then (!r3) else false) then ((List.length r1 : Int) == 2) else false) then (((r1)[Int.toNat 0]?.getD []) == [97]) else false) then (r4 == 1) else false) : Bool) fun x5 =>
  some x5) else none
theorem ok_law02_awake (n : Nat) (r : Bool) (h : law02_awake n = some r) : CallsX Try.prog 6 [] (.val (.bool r)) := by
  unfold law02_awake at h
  refine callsX_of (fn := Try.f6) (by kernel_rfl) rfl (by kernel_rfl) (Nat.le_of_ble_eq_true (by kernel_rfl)) fun F0 w0 _ => ?_
  refine Wp.keep (kk := []) (kl := []) (K' := []) (L' := []) (by kernel_rfl) (by kernel_rfl) ?_
  refine Wp.seq ?_
  refine Wp.region hΓ [] [] [] [] [] (K' := []) (L' := []) (ob := []) (by kernel_rfl) AllP.nil ?_
  refine To.thenN ?_
  refine Wp.seq ?_
  obtain ⟨r1, hr1, h⟩ := bind_of h
  refine Wp.region hΓ [(1, [2])] [(0, .recs (α := List UInt8) [] E_string ([[98], [97], [98]])), (1, .recs (α := List UInt8) [] E_string r1)] [] [1] [] (K' := [(1, .recs (α := List UInt8) [] E_string r1)]) (L' := []) (ob := [(MkOb 1 [.str [98], .str [97], .str [98]] 3 (.recs (α := List UInt8) [] E_string ([[98], [97], [98]])) ∧ GoodR (.recs (α := List UInt8) [] E_string ([[98], [97], [98]]))), (true = true → CX Try.prog 15 [.recs (α := List UInt8) [] E_string ([[98], [97], [98]])] (.recs (α := List UInt8) [] E_string r1))]) (by kernel_rfl) (AllP.cons (mkOb (by kernel_rfl) rfl (by kernel_rfl) (good_E_string _)) (AllP.cons (fun _ => cx (ok_name_Sorted n ([[98], [97], [98]]) _ hr1)) AllP.nil)) ?_
  refine To.thenN ?_
  refine Wp.seq ?_
  obtain ⟨r2, hr2, h⟩ := bind_of h
  obtain ⟨r3, hr3, h⟩ := bind_of h
  obtain ⟨hc6, h⟩ := chk_of h
  obtain ⟨r4, hr4, h⟩ := bind_of h
  obtain ⟨x5, hx5, h⟩ := lett_of h
  refine Wp.region hΓ [] [(0, .val (.bool r2)), (2, .val (.bool r3)), (18, .val (.int .i64 r4))] [] [0] [] (K' := [(0, .val (.bool (bif (bif (bif (bif r2 then (!r3) else false) then ((List.length r1 : Int) == 2) else false) then (((r1)[Int.toNat 0]?.getD []) == [97]) else false) then (r4 == 1) else false)))]) (L' := []) (ob := [(true = true → CX Try.prog 7 [.str [119, 101, 98, 45, 49]] (.val (.bool r2))), ((r2 == true) = true → CX Try.prog 8 [.str [119, 101, 98, 45, 49]] (.val (.bool r3))), (!((bif (bif r2 then (!r3) else false) then ((List.length r1 : Int) == 2) else false) == true) || decide (0 ≤ (0 : Int) ∧ (0 : Int) < (List.length r1 : Int))) = true, (((bif (bif (bif r2 then (!r3) else false) then ((List.length r1 : Int) == 2) else false) then (((r1)[Int.toNat 0]?.getD []) == [97]) else false) == true) = true → CX Try.prog 24 [.recs (α := List UInt8) [] E_string r1, .str [98]] (.val (.int .i64 r4)))]) (by kernel_rfl) (AllP.cons (fun _ => cx (ok_name_Service n [119, 101, 98, 45, 49] _ hr2)) (AllP.cons (fun hg => cx (ok_name_Variable n [119, 101, 98, 45, 49] _ (if_t hg hr3))) (AllP.cons hc6 (AllP.cons (fun hg => cx (ok_name_At n r1 [98] _ (if_t hg hr4))) AllP.nil)))) ?_
  refine To.eq (K' := [(0, .val (.bool x5))]) (L' := []) (by cases hx5; rfl) (by cases hx5; rfl) ?_
  refine To.thenN ?_
  refine Wp.ret ?_
  refine To.keep (kk := [0]) (kl := []) (K' := [(0, .val (.bool x5))]) (L' := []) (by kernel_rfl) (by kernel_rfl) ?_
  cases h
  exact To.done hΓ (by kernel_rfl)
def name_Project_1 (a0 : Int) : Bool :=
  (bif (name_small a0) then true else (name_number a0))
theorem ok_name_Project_1 (a0 : Int) (r : Bool) (h : name_Project_1 a0 = r) : CallsX Try.prog 33 [.val (.int .u8 a0)] (.val (.bool r)) := by
  unfold name_Project_1 at h
  refine callsX_of (fn := Try.f33) (by kernel_rfl) rfl (by kernel_rfl) (Nat.le_of_ble_eq_true (by kernel_rfl)) fun F0 w0 _ => ?_
  refine Wp.keep (kk := [0]) (kl := []) (K' := [(0, .val (.int .u8 a0))]) (L' := []) (by kernel_rfl) (by kernel_rfl) ?_
  refine Wp.seq ?_
  refine Wp.region hΓ [] [] [] [0] [] (K' := [(0, .val (.int .u8 a0))]) (L' := []) (ob := []) (by kernel_rfl) AllP.nil ?_
  refine To.thenN ?_
  refine Wp.seq ?_
  refine Wp.region hΓ [] [(1, .val (.bool (name_small a0))), (4, .val (.bool (name_number a0)))] [] [2] [] (K' := [(2, .val (.bool (bif (name_small a0) then true else (name_number a0))))]) (L' := []) (ob := [(true = true → CX Try.prog 34 [.val (.int .u8 a0)] (.val (.bool (name_small a0)))), (((name_small a0) == false) = true → CX Try.prog 29 [.val (.int .u8 a0)] (.val (.bool (name_number a0))))]) (by kernel_rfl) (AllP.cons (fun _ => cx (ok_name_small a0 _ rfl)) (AllP.cons (fun _ => cx (ok_name_number a0 _ rfl)) AllP.nil)) ?_
  refine To.thenN ?_
  refine Wp.ret ?_
  refine To.keep (kk := [2]) (kl := []) (K' := [(2, .val (.bool (bif (name_small a0) then true else (name_number a0))))]) (L' := []) (by kernel_rfl) (by kernel_rfl) ?_
  cases h
  exact To.done hΓ (by kernel_rfl)
def name_Project_2 (a0 : Int) : Bool :=
  (bif (bif (bif (name_small a0) then true else (name_number a0)) then true else (a0 == 45)) then true else (a0 == 95))
theorem ok_name_Project_2 (a0 : Int) (r : Bool) (h : name_Project_2 a0 = r) : CallsX Try.prog 35 [.val (.int .u8 a0)] (.val (.bool r)) := by
  unfold name_Project_2 at h
  refine callsX_of (fn := Try.f35) (by kernel_rfl) rfl (by kernel_rfl) (Nat.le_of_ble_eq_true (by kernel_rfl)) fun F0 w0 _ => ?_
  refine Wp.keep (kk := [0]) (kl := []) (K' := [(0, .val (.int .u8 a0))]) (L' := []) (by kernel_rfl) (by kernel_rfl) ?_
  refine Wp.seq ?_
  refine Wp.region hΓ [] [] [] [0] [] (K' := [(0, .val (.int .u8 a0))]) (L' := []) (ob := []) (by kernel_rfl) AllP.nil ?_
  refine To.thenN ?_
  refine Wp.seq ?_
  refine Wp.region hΓ [] [(1, .val (.bool (name_small a0))), (4, .val (.bool (name_number a0)))] [] [2] [] (K' := [(2, .val (.bool (bif (bif (bif (name_small a0) then true else (name_number a0)) then true else (a0 == 45)) then true else (a0 == 95))))]) (L' := []) (ob := [(true = true → CX Try.prog 34 [.val (.int .u8 a0)] (.val (.bool (name_small a0)))), (((name_small a0) == false) = true → CX Try.prog 29 [.val (.int .u8 a0)] (.val (.bool (name_number a0))))]) (by kernel_rfl) (AllP.cons (fun _ => cx (ok_name_small a0 _ rfl)) (AllP.cons (fun _ => cx (ok_name_number a0 _ rfl)) AllP.nil)) ?_
  refine To.thenN ?_
  refine Wp.ret ?_
  refine To.keep (kk := [2]) (kl := []) (K' := [(2, .val (.bool (bif (bif (bif (name_small a0) then true else (name_number a0)) then true else (a0 == 45)) then true else (a0 == 95))))]) (L' := []) (by kernel_rfl) (by kernel_rfl) ?_
  cases h
  exact To.done hΓ (by kernel_rfl)
def name_of__name_Project_1__name_Project_2_l1 (n : Nat) (v0 : List UInt8) : Nat → Int → Option (Sum (Unit) (Bool))
  | 0, _ => none
  | k + 1, v7 => if (decide (v7 < (List.length v0 : Int))) = true then (if (decide (0 ≤ v7 ∧ v7 < (List.length v0 : Int))) = true then (if (!(name_Project_2 (((v0)[Int.toNat v7]?.getD 0).toNat : Int))) = true then (some (.inr false))
  else (name_of__name_Project_1__name_Project_2_l1 n v0 k (IntKind.wrap .i64 (v7 + 1)))) else none)
  else (some (.inl ()))
theorem ok_name_of__name_Project_1__name_Project_2_l1 (n : Nat) (v0 : List UInt8) {F0 : Fz} {w0 : Pt Try.prog} {Q : Exit → Act → World → Prop} (k : Nat) : ∀ (v7 : Int) (o : Sum (Unit) (Bool)), name_of__name_Project_1__name_Project_2_l1 n v0 k v7 = some o → (Sum.elim (fun s => To 35 F0 w0 [] [] (.exit 0) Q) (fun s => To 35 F0 w0 [(6, .val (.bool s))] [] .ret Q)) o → WL Try.prog 35 F0 w0 [(0, .str v0), (2, .fn 35 []), (7, .val (.int .i64 v7))] [] (cI (cI (cB (cA (cB (cB (cF Try.f26))))))) Q := by
  induction k with
  | zero => intro v7 o h; cases h
  | succ k ih =>
    intro v7 o h hQ
    rw [name_of__name_Project_1__name_Project_2_l1] at h
    refine WL.round ?_
    refine Wp.seq ?_
    refine Wp.seq ?_
    refine Wp.region hΓ [] [] [] [0, 2, 7, 26] [] (K' := [(0, .str v0), (2, .fn 35 []), (7, .val (.int .i64 v7)), (26, .val (.bool (decide (v7 < (List.length v0 : Int)))))]) (L' := []) (ob := []) (by kernel_rfl) AllP.nil ?_
    refine To.thenN ?_
    refine Wp.cond (b := (decide (v7 < (List.length v0 : Int)))) (by kernel_rfl) (fun hb => ?_) (fun hb => ?_)
    · replace h := if_t hb h
      refine Wp.skip ?_
      refine To.thenN ?_
      refine Wp.seq ?_
      refine Wp.block ?_
      refine Wp.seq ?_
      obtain ⟨hc2, h⟩ := chk_of h
      refine Wp.region hΓ [] [(4, .val (.bool (name_Project_2 (((v0)[Int.toNat v7]?.getD 0).toNat : Int))))] [] [0, 2, 7, 34] [] (K' := [(0, .str v0), (2, .fn 35 []), (7, .val (.int .i64 v7)), (34, .val (.bool (!(name_Project_2 (((v0)[Int.toNat v7]?.getD 0).toNat : Int)))))]) (L' := []) (ob := [(decide (0 ≤ v7 ∧ v7 < (List.length v0 : Int))) = true, (true = true → CX Try.prog 35 [.val (.int .u8 (((v0)[Int.toNat v7]?.getD 0).toNat : Int))] (.val (.bool (name_Project_2 (((v0)[Int.toNat v7]?.getD 0).toNat : Int)))))]) (by kernel_rfl) (AllP.cons hc2 (AllP.cons (fun _ => cx (ok_name_Project_2 (((v0)[Int.toNat v7]?.getD 0).toNat : Int) _ rfl)) AllP.nil)) ?_
      refine To.thenN ?_
      refine Wp.cond (b := (!(name_Project_2 (((v0)[Int.toNat v7]?.getD 0).toNat : Int)))) (by kernel_rfl) (fun hb => ?_) (fun hb => ?_)
      · replace h := if_t hb h
        refine Wp.seq ?_
        refine Wp.region hΓ [] [] [] [6] [] (K' := [(6, .val (.bool false))]) (L' := []) (ob := []) (by kernel_rfl) AllP.nil ?_
        refine To.thenN ?_
        refine Wp.ret ?_
        refine To.blockR ?_
        refine To.thenR ?_
        refine To.thenR ?_
        refine To.keep (kk := [6]) (kl := []) (K' := [(6, .val (.bool false))]) (L' := []) (by kernel_rfl) (by kernel_rfl) ?_
        cases h
        exact hQ
      · replace h := if_f hb h
        refine Wp.skip ?_
        refine To.blockN ?_
        refine To.thenN ?_
        refine Wp.region hΓ [] [] [] [0, 2, 7] [] (K' := [(0, .str v0), (2, .fn 35 []), (7, .val (.int .i64 (IntKind.wrap .i64 (v7 + 1))))]) (L' := []) (ob := []) (by kernel_rfl) AllP.nil ?_
        refine To.keep (kk := [0, 2, 7]) (kl := []) (K' := [(0, .str v0), (2, .fn 35 []), (7, .val (.int .i64 (IntKind.wrap .i64 (v7 + 1))))]) (L' := []) (by kernel_rfl) (by kernel_rfl) ?_
        refine To.again ?_
        exact ih (IntKind.wrap .i64 (v7 + 1)) _ h hQ
    · replace h := if_f hb h
      refine Wp.exit ?_
      refine To.thenX ?_
      refine To.thenX ?_
      refine To.keep (kk := []) (kl := []) (K' := []) (L' := []) (by kernel_rfl) (by kernel_rfl) ?_
      cases h
      exact hQ
def name_of__name_Project_1__name_Project_2 (n : Nat) (a0 : List UInt8) : Option (Bool) :=
  if ((!((bif (decide ((List.length a0 : Int) < 1)) then true else (decide ((List.length a0 : Int) > 24))) == false) || decide (0 ≤ (0 : Int) ∧ (0 : Int) < (List.length a0 : Int)))) = true then (lett ((bif (bif (decide ((List.length a0 : Int) < 1)) then true else (decide ((List.length a0 : Int) > 24))) then true else (!(name_Project_1 (((a0)[Int.toNat 0]?.getD 0).toNat : Int)))) : Bool) fun x1 =>
  if x1 = true then some false
  else ((name_of__name_Project_1__name_Project_2_l1 n a0 n 1).bind fun o2 =>
  (Sum.elim (fun o2 => some true) (fun o2 => some o2)) o2)) else none
theorem ok_name_of__name_Project_1__name_Project_2 (n : Nat) (a0 : List UInt8) (r : Bool) (h : name_of__name_Project_1__name_Project_2 n a0 = some r) : CallsX Try.prog 26 [.str a0, .fn 33 [], .fn 35 []] (.val (.bool r)) := by
  unfold name_of__name_Project_1__name_Project_2 at h
  refine callsX_of (fn := Try.f26) (by kernel_rfl) rfl (by kernel_rfl) (Nat.le_of_ble_eq_true (by kernel_rfl)) fun F0 w0 _ => ?_
  refine Wp.keep (kk := [0, 1, 2]) (kl := []) (K' := [(0, .str a0), (1, .fn 33 []), (2, .fn 35 [])]) (L' := []) (by kernel_rfl) (by kernel_rfl) ?_
  refine Wp.seq ?_
  refine Wp.region hΓ [] [] [] [0, 1, 2] [] (K' := [(0, .str a0), (1, .fn 33 []), (2, .fn 35 [])]) (L' := []) (ob := []) (by kernel_rfl) AllP.nil ?_
  refine To.thenN ?_
  refine Wp.seq ?_
  refine Wp.seq ?_
  obtain ⟨hc3, h⟩ := chk_of h
  obtain ⟨x1, hx1, h⟩ := lett_of h
  refine Wp.region hΓ [] [(12, .val (.bool (name_Project_1 (((a0)[Int.toNat 0]?.getD 0).toNat : Int))))] [] [0, 2, 22] [] (K' := [(0, .str a0), (2, .fn 35 []), (22, .val (.bool (bif (bif (decide ((List.length a0 : Int) < 1)) then true else (decide ((List.length a0 : Int) > 24))) then true else (!(name_Project_1 (((a0)[Int.toNat 0]?.getD 0).toNat : Int))))))]) (L' := []) (ob := [(!((bif (decide ((List.length a0 : Int) < 1)) then true else (decide ((List.length a0 : Int) > 24))) == false) || decide (0 ≤ (0 : Int) ∧ (0 : Int) < (List.length a0 : Int))) = true, (((bif (decide ((List.length a0 : Int) < 1)) then true else (decide ((List.length a0 : Int) > 24))) == false) = true → CX Try.prog 33 [.val (.int .u8 (((a0)[Int.toNat 0]?.getD 0).toNat : Int))] (.val (.bool (name_Project_1 (((a0)[Int.toNat 0]?.getD 0).toNat : Int)))))]) (by kernel_rfl) (AllP.cons hc3 (AllP.cons (fun _ => cx (ok_name_Project_1 (((a0)[Int.toNat 0]?.getD 0).toNat : Int) _ rfl)) AllP.nil)) ?_
  refine To.eq (K' := [(0, .str a0), (2, .fn 35 []), (22, .val (.bool x1))]) (L' := []) (by cases hx1; rfl) (by cases hx1; rfl) ?_
  refine To.thenN ?_
  refine Wp.cond (b := x1) (by kernel_rfl) (fun hb => ?_) (fun hb => ?_)
  · replace h := if_t hb h
    refine Wp.seq ?_
    refine Wp.region hΓ [] [] [] [6] [] (K' := [(6, .val (.bool false))]) (L' := []) (ob := []) (by kernel_rfl) AllP.nil ?_
    refine To.thenN ?_
    refine Wp.ret ?_
    refine To.thenR ?_
    refine To.keep (kk := [6]) (kl := []) (K' := [(6, .val (.bool false))]) (L' := []) (by kernel_rfl) (by kernel_rfl) ?_
    cases h
    exact To.done hΓ (by kernel_rfl)
  · replace h := if_f hb h
    refine Wp.skip ?_
    refine To.thenN ?_
    refine Wp.seq ?_
    refine Wp.seq ?_
    refine Wp.region hΓ [] [] [] [0, 2, 7] [] (K' := [(0, .str a0), (2, .fn 35 []), (7, .val (.int .i64 1))]) (L' := []) (ob := []) (by kernel_rfl) AllP.nil ?_
    refine To.thenN ?_
    refine Wp.block ?_
    obtain ⟨o2, ho2, h⟩ := bind_of h
    refine Wp.keep (kk := [0, 2, 7]) (kl := []) (K' := [(0, .str a0), (2, .fn 35 []), (7, .val (.int .i64 1))]) (L' := []) (by kernel_rfl) (by kernel_rfl) ?_
    refine Wp.loopL ?_
    refine ok_name_of__name_Project_1__name_Project_2_l1 n a0 n 1 o2 ho2 ?_
    rcases o2 with o2 | o2
    · replace h := sum_l h
      refine To.blockX ?_
      refine To.thenN ?_
      refine Wp.seq ?_
      refine Wp.region hΓ [] [] [] [6] [] (K' := [(6, .val (.bool true))]) (L' := []) (ob := []) (by kernel_rfl) AllP.nil ?_
      refine To.thenN ?_
      refine Wp.ret ?_
      refine To.keep (kk := [6]) (kl := []) (K' := [(6, .val (.bool true))]) (L' := []) (by kernel_rfl) (by kernel_rfl) ?_
      cases h
      exact To.done hΓ (by kernel_rfl)
    · replace h := sum_r h
      refine To.blockR ?_
      refine To.thenR ?_
      refine To.keep (kk := [6]) (kl := []) (K' := [(6, .val (.bool o2))]) (L' := []) (by kernel_rfl) (by kernel_rfl) ?_
      cases h
      exact To.done hΓ (by kernel_rfl)
def name_Project (n : Nat) (a0 : List UInt8) : Option (Bool) :=
  (name_of__name_Project_1__name_Project_2 n a0).bind fun r1 =>
  some r1
theorem ok_name_Project (n : Nat) (a0 : List UInt8) (r : Bool) (h : name_Project n a0 = some r) : CallsX Try.prog 9 [.str a0] (.val (.bool r)) := by
  unfold name_Project at h
  refine callsX_of (fn := Try.f9) (by kernel_rfl) rfl (by kernel_rfl) (Nat.le_of_ble_eq_true (by kernel_rfl)) fun F0 w0 _ => ?_
  refine Wp.keep (kk := [0]) (kl := []) (K' := [(0, .str a0)]) (L' := []) (by kernel_rfl) (by kernel_rfl) ?_
  refine Wp.seq ?_
  refine Wp.region hΓ [] [] [] [0] [] (K' := [(0, .str a0)]) (L' := []) (ob := []) (by kernel_rfl) AllP.nil ?_
  refine To.thenN ?_
  refine Wp.seq ?_
  obtain ⟨r1, hr1, h⟩ := bind_of h
  refine Wp.region hΓ [] [(1, .val (.bool r1))] [] [2] [] (K' := [(2, .val (.bool r1))]) (L' := []) (ob := [(true = true → CX Try.prog 26 [.str a0, .fn 33 [], .fn 35 []] (.val (.bool r1)))]) (by kernel_rfl) (AllP.cons (fun _ => cx (ok_name_of__name_Project_1__name_Project_2 n a0 _ hr1)) AllP.nil) ?_
  refine To.thenN ?_
  refine Wp.ret ?_
  refine To.keep (kk := [2]) (kl := []) (K' := [(2, .val (.bool r1))]) (L' := []) (by kernel_rfl) (by kernel_rfl) ?_
  cases h
  exact To.done hΓ (by kernel_rfl)
def ref02_Kind (a0 : Int) : Int :=
  if (bif (decide (a0 ≥ 97)) then (decide (a0 ≤ 122)) else false) = true then 1
  else (if (bif (decide (a0 ≥ 65)) then (decide (a0 ≤ 90)) else false) = true then 2
  else (if (bif (decide (a0 ≥ 48)) then (decide (a0 ≤ 57)) else false) = true then 3
  else (if (a0 == 95) = true then 4
  else (if (a0 == 45) = true then 5
  else (if (a0 == 46) = true then 6
  else 0)))))
theorem ok_ref02_Kind (a0 : Int) (r : Int) (h : ref02_Kind a0 = r) : CallsX Try.prog 36 [.val (.int .u8 a0)] (.val (.int .i64 r)) := by
  unfold ref02_Kind at h
  refine callsX_of (fn := Try.f36) (by kernel_rfl) rfl (by kernel_rfl) (Nat.le_of_ble_eq_true (by kernel_rfl)) fun F0 w0 _ => ?_
  refine Wp.keep (kk := [0]) (kl := []) (K' := [(0, .val (.int .u8 a0))]) (L' := []) (by kernel_rfl) (by kernel_rfl) ?_
  refine Wp.seq ?_
  refine Wp.region hΓ [] [] [] [0] [] (K' := [(0, .val (.int .u8 a0))]) (L' := []) (ob := []) (by kernel_rfl) AllP.nil ?_
  refine To.thenN ?_
  refine Wp.seq ?_
  refine Wp.seq ?_
  refine Wp.region hΓ [] [] [] [0, 8] [] (K' := [(0, .val (.int .u8 a0)), (8, .val (.bool (bif (decide (a0 ≥ 97)) then (decide (a0 ≤ 122)) else false)))]) (L' := []) (ob := []) (by kernel_rfl) AllP.nil ?_
  refine To.thenN ?_
  refine Wp.cond (b := (bif (decide (a0 ≥ 97)) then (decide (a0 ≤ 122)) else false)) (by kernel_rfl) (fun hb => ?_) (fun hb => ?_)
  · replace h := if_t hb h
    refine Wp.seq ?_
    refine Wp.region hΓ [] [] [] [2] [] (K' := [(2, .val (.int .i64 1))]) (L' := []) (ob := []) (by kernel_rfl) AllP.nil ?_
    refine To.thenN ?_
    refine Wp.ret ?_
    refine To.thenR ?_
    refine To.keep (kk := [2]) (kl := []) (K' := [(2, .val (.int .i64 1))]) (L' := []) (by kernel_rfl) (by kernel_rfl) ?_
    cases h
    exact To.done hΓ (by kernel_rfl)
  · replace h := if_f hb h
    refine Wp.skip ?_
    refine To.thenN ?_
    refine Wp.seq ?_
    refine Wp.seq ?_
    refine Wp.region hΓ [] [] [] [0, 14] [] (K' := [(0, .val (.int .u8 a0)), (14, .val (.bool (bif (decide (a0 ≥ 65)) then (decide (a0 ≤ 90)) else false)))]) (L' := []) (ob := []) (by kernel_rfl) AllP.nil ?_
    refine To.thenN ?_
    refine Wp.cond (b := (bif (decide (a0 ≥ 65)) then (decide (a0 ≤ 90)) else false)) (by kernel_rfl) (fun hb => ?_) (fun hb => ?_)
    · replace h := if_t hb h
      refine Wp.seq ?_
      refine Wp.region hΓ [] [] [] [2] [] (K' := [(2, .val (.int .i64 2))]) (L' := []) (ob := []) (by kernel_rfl) AllP.nil ?_
      refine To.thenN ?_
      refine Wp.ret ?_
      refine To.thenR ?_
      refine To.keep (kk := [2]) (kl := []) (K' := [(2, .val (.int .i64 2))]) (L' := []) (by kernel_rfl) (by kernel_rfl) ?_
      cases h
      exact To.done hΓ (by kernel_rfl)
    · replace h := if_f hb h
      refine Wp.skip ?_
      refine To.thenN ?_
      refine Wp.seq ?_
      refine Wp.seq ?_
      refine Wp.region hΓ [] [] [] [0, 20] [] (K' := [(0, .val (.int .u8 a0)), (20, .val (.bool (bif (decide (a0 ≥ 48)) then (decide (a0 ≤ 57)) else false)))]) (L' := []) (ob := []) (by kernel_rfl) AllP.nil ?_
      refine To.thenN ?_
      refine Wp.cond (b := (bif (decide (a0 ≥ 48)) then (decide (a0 ≤ 57)) else false)) (by kernel_rfl) (fun hb => ?_) (fun hb => ?_)
      · replace h := if_t hb h
        refine Wp.seq ?_
        refine Wp.region hΓ [] [] [] [2] [] (K' := [(2, .val (.int .i64 3))]) (L' := []) (ob := []) (by kernel_rfl) AllP.nil ?_
        refine To.thenN ?_
        refine Wp.ret ?_
        refine To.thenR ?_
        refine To.keep (kk := [2]) (kl := []) (K' := [(2, .val (.int .i64 3))]) (L' := []) (by kernel_rfl) (by kernel_rfl) ?_
        cases h
        exact To.done hΓ (by kernel_rfl)
      · replace h := if_f hb h
        refine Wp.skip ?_
        refine To.thenN ?_
        refine Wp.seq ?_
        refine Wp.seq ?_
        refine Wp.region hΓ [] [] [] [0, 22] [] (K' := [(0, .val (.int .u8 a0)), (22, .val (.bool (a0 == 95)))]) (L' := []) (ob := []) (by kernel_rfl) AllP.nil ?_
        refine To.thenN ?_
        refine Wp.cond (b := (a0 == 95)) (by kernel_rfl) (fun hb => ?_) (fun hb => ?_)
        · replace h := if_t hb h
          refine Wp.seq ?_
          refine Wp.region hΓ [] [] [] [2] [] (K' := [(2, .val (.int .i64 4))]) (L' := []) (ob := []) (by kernel_rfl) AllP.nil ?_
          refine To.thenN ?_
          refine Wp.ret ?_
          refine To.thenR ?_
          refine To.keep (kk := [2]) (kl := []) (K' := [(2, .val (.int .i64 4))]) (L' := []) (by kernel_rfl) (by kernel_rfl) ?_
          cases h
          exact To.done hΓ (by kernel_rfl)
        · replace h := if_f hb h
          refine Wp.skip ?_
          refine To.thenN ?_
          refine Wp.seq ?_
          refine Wp.seq ?_
          refine Wp.region hΓ [] [] [] [0, 24] [] (K' := [(0, .val (.int .u8 a0)), (24, .val (.bool (a0 == 45)))]) (L' := []) (ob := []) (by kernel_rfl) AllP.nil ?_
          refine To.thenN ?_
          refine Wp.cond (b := (a0 == 45)) (by kernel_rfl) (fun hb => ?_) (fun hb => ?_)
          · replace h := if_t hb h
            refine Wp.seq ?_
            refine Wp.region hΓ [] [] [] [2] [] (K' := [(2, .val (.int .i64 5))]) (L' := []) (ob := []) (by kernel_rfl) AllP.nil ?_
            refine To.thenN ?_
            refine Wp.ret ?_
            refine To.thenR ?_
            refine To.keep (kk := [2]) (kl := []) (K' := [(2, .val (.int .i64 5))]) (L' := []) (by kernel_rfl) (by kernel_rfl) ?_
            cases h
            exact To.done hΓ (by kernel_rfl)
          · replace h := if_f hb h
            refine Wp.skip ?_
            refine To.thenN ?_
            refine Wp.seq ?_
            refine Wp.seq ?_
            refine Wp.region hΓ [] [] [] [26] [] (K' := [(26, .val (.bool (a0 == 46)))]) (L' := []) (ob := []) (by kernel_rfl) AllP.nil ?_
            refine To.thenN ?_
            refine Wp.cond (b := (a0 == 46)) (by kernel_rfl) (fun hb => ?_) (fun hb => ?_)
            · replace h := if_t hb h
              refine Wp.seq ?_
              refine Wp.region hΓ [] [] [] [2] [] (K' := [(2, .val (.int .i64 6))]) (L' := []) (ob := []) (by kernel_rfl) AllP.nil ?_
              refine To.thenN ?_
              refine Wp.ret ?_
              refine To.thenR ?_
              refine To.keep (kk := [2]) (kl := []) (K' := [(2, .val (.int .i64 6))]) (L' := []) (by kernel_rfl) (by kernel_rfl) ?_
              cases h
              exact To.done hΓ (by kernel_rfl)
            · replace h := if_f hb h
              refine Wp.skip ?_
              refine To.thenN ?_
              refine Wp.seq ?_
              refine Wp.region hΓ [] [] [] [2] [] (K' := [(2, .val (.int .i64 0))]) (L' := []) (ob := []) (by kernel_rfl) AllP.nil ?_
              refine To.thenN ?_
              refine Wp.ret ?_
              refine To.keep (kk := [2]) (kl := []) (K' := [(2, .val (.int .i64 0))]) (L' := []) (by kernel_rfl) (by kernel_rfl) ?_
              cases h
              exact To.done hΓ (by kernel_rfl)
def ref02_Service_l1 (n : Nat) (v0 : List UInt8) : Nat → Int → Option (Sum (Unit) (Bool))
  | 0, _ => none
  | k + 1, v3 => if (decide (v3 < (List.length v0 : Int))) = true then (if (decide (0 ≤ v3 ∧ v3 < (List.length v0 : Int))) = true then (lett ((bif ((ref02_Kind (((v0)[Int.toNat v3]?.getD 0).toNat : Int)) == 0) then true else (bif (v3 == 0) then (decide ((ref02_Kind (((v0)[Int.toNat v3]?.getD 0).toNat : Int)) > 3)) else false)) : Bool) fun x1 =>
  if x1 = true then (some (.inr false))
  else (ref02_Service_l1 n v0 k (IntKind.wrap .i64 (v3 + 1)))) else none)
  else (some (.inl ()))
theorem ok_ref02_Service_l1 (n : Nat) (v0 : List UInt8) {F0 : Fz} {w0 : Pt Try.prog} {Q : Exit → Act → World → Prop} (k : Nat) : ∀ (v3 : Int) (o : Sum (Unit) (Bool)), ref02_Service_l1 n v0 k v3 = some o → (Sum.elim (fun s => To 33 F0 w0 [] [] (.exit 0) Q) (fun s => To 33 F0 w0 [(2, .val (.bool s))] [] .ret Q)) o → WL Try.prog 33 F0 w0 [(0, .str v0), (3, .val (.int .i64 v3))] [] (cI (cI (cB (cA (cB (cB (cF Try.f10))))))) Q := by
  induction k with
  | zero => intro v3 o h; cases h
  | succ k ih =>
    intro v3 o h hQ
    rw [ref02_Service_l1] at h
    refine WL.round ?_
    refine Wp.seq ?_
    refine Wp.seq ?_
    refine Wp.region hΓ [] [] [] [0, 3, 16] [] (K' := [(0, .str v0), (3, .val (.int .i64 v3)), (16, .val (.bool (decide (v3 < (List.length v0 : Int)))))]) (L' := []) (ob := []) (by kernel_rfl) AllP.nil ?_
    refine To.thenN ?_
    refine Wp.cond (b := (decide (v3 < (List.length v0 : Int)))) (by kernel_rfl) (fun hb => ?_) (fun hb => ?_)
    · replace h := if_t hb h
      refine Wp.skip ?_
      refine To.thenN ?_
      refine Wp.seq ?_
      refine Wp.block ?_
      refine Wp.seq ?_
      obtain ⟨hc2, h⟩ := chk_of h
      refine Wp.region hΓ [] [(3, .val (.int .i64 (ref02_Kind (((v0)[Int.toNat v3]?.getD 0).toNat : Int))))] [] [0, 3, 4] [] (K' := [(0, .str v0), (3, .val (.int .i64 v3)), (4, .val (.int .i64 (ref02_Kind (((v0)[Int.toNat v3]?.getD 0).toNat : Int))))]) (L' := []) (ob := [(decide (0 ≤ v3 ∧ v3 < (List.length v0 : Int))) = true, (true = true → CX Try.prog 36 [.val (.int .u8 (((v0)[Int.toNat v3]?.getD 0).toNat : Int))] (.val (.int .i64 (ref02_Kind (((v0)[Int.toNat v3]?.getD 0).toNat : Int)))))]) (by kernel_rfl) (AllP.cons hc2 (AllP.cons (fun _ => cx (ok_ref02_Kind (((v0)[Int.toNat v3]?.getD 0).toNat : Int) _ rfl)) AllP.nil)) ?_
      refine To.thenN ?_
      refine Wp.seq ?_
      obtain ⟨x1, hx1, h⟩ := lett_of h
      refine Wp.region hΓ [] [] [] [0, 3, 32] [] (K' := [(0, .str v0), (3, .val (.int .i64 v3)), (32, .val (.bool (bif ((ref02_Kind (((v0)[Int.toNat v3]?.getD 0).toNat : Int)) == 0) then true else (bif (v3 == 0) then (decide ((ref02_Kind (((v0)[Int.toNat v3]?.getD 0).toNat : Int)) > 3)) else false))))]) (L' := []) (ob := []) (by kernel_rfl) AllP.nil ?_
      refine To.eq (K' := [(0, .str v0), (3, .val (.int .i64 v3)), (32, .val (.bool x1))]) (L' := []) (by cases hx1; rfl) (by cases hx1; rfl) ?_
      refine To.thenN ?_
      refine Wp.cond (b := x1) (by kernel_rfl) (fun hb => ?_) (fun hb => ?_)
      · replace h := if_t hb h
        refine Wp.seq ?_
        refine Wp.region hΓ [] [] [] [2] [] (K' := [(2, .val (.bool false))]) (L' := []) (ob := []) (by kernel_rfl) AllP.nil ?_
        refine To.thenN ?_
        refine Wp.ret ?_
        refine To.blockR ?_
        refine To.thenR ?_
        refine To.thenR ?_
        refine To.keep (kk := [2]) (kl := []) (K' := [(2, .val (.bool false))]) (L' := []) (by kernel_rfl) (by kernel_rfl) ?_
        cases h
        exact hQ
      · replace h := if_f hb h
        refine Wp.skip ?_
        refine To.blockN ?_
        refine To.thenN ?_
        refine Wp.region hΓ [] [] [] [0, 3] [] (K' := [(0, .str v0), (3, .val (.int .i64 (IntKind.wrap .i64 (v3 + 1))))]) (L' := []) (ob := []) (by kernel_rfl) AllP.nil ?_
        refine To.keep (kk := [0, 3]) (kl := []) (K' := [(0, .str v0), (3, .val (.int .i64 (IntKind.wrap .i64 (v3 + 1))))]) (L' := []) (by kernel_rfl) (by kernel_rfl) ?_
        refine To.again ?_
        exact ih (IntKind.wrap .i64 (v3 + 1)) _ h hQ
    · replace h := if_f hb h
      refine Wp.exit ?_
      refine To.thenX ?_
      refine To.thenX ?_
      refine To.keep (kk := []) (kl := []) (K' := []) (L' := []) (by kernel_rfl) (by kernel_rfl) ?_
      cases h
      exact hQ
def ref02_Service (n : Nat) (a0 : List UInt8) : Option (Bool) :=
  if (bif (decide ((List.length a0 : Int) < 1)) then true else (decide ((List.length a0 : Int) > 24))) = true then some false
  else ((ref02_Service_l1 n a0 n 0).bind fun o1 =>
  (Sum.elim (fun o1 => some true) (fun o1 => some o1)) o1)
theorem ok_ref02_Service (n : Nat) (a0 : List UInt8) (r : Bool) (h : ref02_Service n a0 = some r) : CallsX Try.prog 10 [.str a0] (.val (.bool r)) := by
  unfold ref02_Service at h
  refine callsX_of (fn := Try.f10) (by kernel_rfl) rfl (by kernel_rfl) (Nat.le_of_ble_eq_true (by kernel_rfl)) fun F0 w0 _ => ?_
  refine Wp.keep (kk := [0]) (kl := []) (K' := [(0, .str a0)]) (L' := []) (by kernel_rfl) (by kernel_rfl) ?_
  refine Wp.seq ?_
  refine Wp.region hΓ [] [] [] [0] [] (K' := [(0, .str a0)]) (L' := []) (ob := []) (by kernel_rfl) AllP.nil ?_
  refine To.thenN ?_
  refine Wp.seq ?_
  refine Wp.seq ?_
  refine Wp.region hΓ [] [] [] [0, 12] [] (K' := [(0, .str a0), (12, .val (.bool (bif (decide ((List.length a0 : Int) < 1)) then true else (decide ((List.length a0 : Int) > 24)))))]) (L' := []) (ob := []) (by kernel_rfl) AllP.nil ?_
  refine To.thenN ?_
  refine Wp.cond (b := (bif (decide ((List.length a0 : Int) < 1)) then true else (decide ((List.length a0 : Int) > 24)))) (by kernel_rfl) (fun hb => ?_) (fun hb => ?_)
  · replace h := if_t hb h
    refine Wp.seq ?_
    refine Wp.region hΓ [] [] [] [2] [] (K' := [(2, .val (.bool false))]) (L' := []) (ob := []) (by kernel_rfl) AllP.nil ?_
    refine To.thenN ?_
    refine Wp.ret ?_
    refine To.thenR ?_
    refine To.keep (kk := [2]) (kl := []) (K' := [(2, .val (.bool false))]) (L' := []) (by kernel_rfl) (by kernel_rfl) ?_
    cases h
    exact To.done hΓ (by kernel_rfl)
  · replace h := if_f hb h
    refine Wp.skip ?_
    refine To.thenN ?_
    refine Wp.seq ?_
    refine Wp.seq ?_
    refine Wp.region hΓ [] [] [] [0, 3] [] (K' := [(0, .str a0), (3, .val (.int .i64 0))]) (L' := []) (ob := []) (by kernel_rfl) AllP.nil ?_
    refine To.thenN ?_
    refine Wp.block ?_
    obtain ⟨o1, ho1, h⟩ := bind_of h
    refine Wp.keep (kk := [0, 3]) (kl := []) (K' := [(0, .str a0), (3, .val (.int .i64 0))]) (L' := []) (by kernel_rfl) (by kernel_rfl) ?_
    refine Wp.loopL ?_
    refine ok_ref02_Service_l1 n a0 n 0 o1 ho1 ?_
    rcases o1 with o1 | o1
    · replace h := sum_l h
      refine To.blockX ?_
      refine To.thenN ?_
      refine Wp.seq ?_
      refine Wp.region hΓ [] [] [] [2] [] (K' := [(2, .val (.bool true))]) (L' := []) (ob := []) (by kernel_rfl) AllP.nil ?_
      refine To.thenN ?_
      refine Wp.ret ?_
      refine To.keep (kk := [2]) (kl := []) (K' := [(2, .val (.bool true))]) (L' := []) (by kernel_rfl) (by kernel_rfl) ?_
      cases h
      exact To.done hΓ (by kernel_rfl)
    · replace h := sum_r h
      refine To.blockR ?_
      refine To.thenR ?_
      refine To.keep (kk := [2]) (kl := []) (K' := [(2, .val (.bool o1))]) (L' := []) (by kernel_rfl) (by kernel_rfl) ?_
      cases h
      exact To.done hΓ (by kernel_rfl)
def ref02_Variable_l1 (n : Nat) (v0 : List UInt8) : Nat → Int → Option (Sum (Unit) (Bool))
  | 0, _ => none
  | k + 1, v3 => if (decide (v3 < (List.length v0 : Int))) = true then (if (decide (0 ≤ v3 ∧ v3 < (List.length v0 : Int))) = true then (lett ((bif (bif ((ref02_Kind (((v0)[Int.toNat v3]?.getD 0).toNat : Int)) == 0) then true else (decide ((ref02_Kind (((v0)[Int.toNat v3]?.getD 0).toNat : Int)) > 4))) then true else (bif (v3 == 0) then ((ref02_Kind (((v0)[Int.toNat v3]?.getD 0).toNat : Int)) == 3) else false)) : Bool) fun x1 =>
  if x1 = true then (some (.inr false))
  else (ref02_Variable_l1 n v0 k (IntKind.wrap .i64 (v3 + 1)))) else none)
  else (some (.inl ()))
theorem ok_ref02_Variable_l1 (n : Nat) (v0 : List UInt8) {F0 : Fz} {w0 : Pt Try.prog} {Q : Exit → Act → World → Prop} (k : Nat) : ∀ (v3 : Int) (o : Sum (Unit) (Bool)), ref02_Variable_l1 n v0 k v3 = some o → (Sum.elim (fun s => To 37 F0 w0 [] [] (.exit 0) Q) (fun s => To 37 F0 w0 [(2, .val (.bool s))] [] .ret Q)) o → WL Try.prog 37 F0 w0 [(0, .str v0), (3, .val (.int .i64 v3))] [] (cI (cI (cB (cA (cB (cB (cF Try.f11))))))) Q := by
  induction k with
  | zero => intro v3 o h; cases h
  | succ k ih =>
    intro v3 o h hQ
    rw [ref02_Variable_l1] at h
    refine WL.round ?_
    refine Wp.seq ?_
    refine Wp.seq ?_
    refine Wp.region hΓ [] [] [] [0, 3, 16] [] (K' := [(0, .str v0), (3, .val (.int .i64 v3)), (16, .val (.bool (decide (v3 < (List.length v0 : Int)))))]) (L' := []) (ob := []) (by kernel_rfl) AllP.nil ?_
    refine To.thenN ?_
    refine Wp.cond (b := (decide (v3 < (List.length v0 : Int)))) (by kernel_rfl) (fun hb => ?_) (fun hb => ?_)
    · replace h := if_t hb h
      refine Wp.skip ?_
      refine To.thenN ?_
      refine Wp.seq ?_
      refine Wp.block ?_
      refine Wp.seq ?_
      obtain ⟨hc2, h⟩ := chk_of h
      refine Wp.region hΓ [] [(3, .val (.int .i64 (ref02_Kind (((v0)[Int.toNat v3]?.getD 0).toNat : Int))))] [] [0, 3, 4] [] (K' := [(0, .str v0), (3, .val (.int .i64 v3)), (4, .val (.int .i64 (ref02_Kind (((v0)[Int.toNat v3]?.getD 0).toNat : Int))))]) (L' := []) (ob := [(decide (0 ≤ v3 ∧ v3 < (List.length v0 : Int))) = true, (true = true → CX Try.prog 36 [.val (.int .u8 (((v0)[Int.toNat v3]?.getD 0).toNat : Int))] (.val (.int .i64 (ref02_Kind (((v0)[Int.toNat v3]?.getD 0).toNat : Int)))))]) (by kernel_rfl) (AllP.cons hc2 (AllP.cons (fun _ => cx (ok_ref02_Kind (((v0)[Int.toNat v3]?.getD 0).toNat : Int) _ rfl)) AllP.nil)) ?_
      refine To.thenN ?_
      refine Wp.seq ?_
      obtain ⟨x1, hx1, h⟩ := lett_of h
      refine Wp.region hΓ [] [] [] [0, 3, 36] [] (K' := [(0, .str v0), (3, .val (.int .i64 v3)), (36, .val (.bool (bif (bif ((ref02_Kind (((v0)[Int.toNat v3]?.getD 0).toNat : Int)) == 0) then true else (decide ((ref02_Kind (((v0)[Int.toNat v3]?.getD 0).toNat : Int)) > 4))) then true else (bif (v3 == 0) then ((ref02_Kind (((v0)[Int.toNat v3]?.getD 0).toNat : Int)) == 3) else false))))]) (L' := []) (ob := []) (by kernel_rfl) AllP.nil ?_
      refine To.eq (K' := [(0, .str v0), (3, .val (.int .i64 v3)), (36, .val (.bool x1))]) (L' := []) (by cases hx1; rfl) (by cases hx1; rfl) ?_
      refine To.thenN ?_
      refine Wp.cond (b := x1) (by kernel_rfl) (fun hb => ?_) (fun hb => ?_)
      · replace h := if_t hb h
        refine Wp.seq ?_
        refine Wp.region hΓ [] [] [] [2] [] (K' := [(2, .val (.bool false))]) (L' := []) (ob := []) (by kernel_rfl) AllP.nil ?_
        refine To.thenN ?_
        refine Wp.ret ?_
        refine To.blockR ?_
        refine To.thenR ?_
        refine To.thenR ?_
        refine To.keep (kk := [2]) (kl := []) (K' := [(2, .val (.bool false))]) (L' := []) (by kernel_rfl) (by kernel_rfl) ?_
        cases h
        exact hQ
      · replace h := if_f hb h
        refine Wp.skip ?_
        refine To.blockN ?_
        refine To.thenN ?_
        refine Wp.region hΓ [] [] [] [0, 3] [] (K' := [(0, .str v0), (3, .val (.int .i64 (IntKind.wrap .i64 (v3 + 1))))]) (L' := []) (ob := []) (by kernel_rfl) AllP.nil ?_
        refine To.keep (kk := [0, 3]) (kl := []) (K' := [(0, .str v0), (3, .val (.int .i64 (IntKind.wrap .i64 (v3 + 1))))]) (L' := []) (by kernel_rfl) (by kernel_rfl) ?_
        refine To.again ?_
        exact ih (IntKind.wrap .i64 (v3 + 1)) _ h hQ
    · replace h := if_f hb h
      refine Wp.exit ?_
      refine To.thenX ?_
      refine To.thenX ?_
      refine To.keep (kk := []) (kl := []) (K' := []) (L' := []) (by kernel_rfl) (by kernel_rfl) ?_
      cases h
      exact hQ
def ref02_Variable (n : Nat) (a0 : List UInt8) : Option (Bool) :=
  if (bif (decide ((List.length a0 : Int) < 1)) then true else (decide ((List.length a0 : Int) > 24))) = true then some false
  else ((ref02_Variable_l1 n a0 n 0).bind fun o1 =>
  (Sum.elim (fun o1 => some true) (fun o1 => some o1)) o1)
theorem ok_ref02_Variable (n : Nat) (a0 : List UInt8) (r : Bool) (h : ref02_Variable n a0 = some r) : CallsX Try.prog 11 [.str a0] (.val (.bool r)) := by
  unfold ref02_Variable at h
  refine callsX_of (fn := Try.f11) (by kernel_rfl) rfl (by kernel_rfl) (Nat.le_of_ble_eq_true (by kernel_rfl)) fun F0 w0 _ => ?_
  refine Wp.keep (kk := [0]) (kl := []) (K' := [(0, .str a0)]) (L' := []) (by kernel_rfl) (by kernel_rfl) ?_
  refine Wp.seq ?_
  refine Wp.region hΓ [] [] [] [0] [] (K' := [(0, .str a0)]) (L' := []) (ob := []) (by kernel_rfl) AllP.nil ?_
  refine To.thenN ?_
  refine Wp.seq ?_
  refine Wp.seq ?_
  refine Wp.region hΓ [] [] [] [0, 12] [] (K' := [(0, .str a0), (12, .val (.bool (bif (decide ((List.length a0 : Int) < 1)) then true else (decide ((List.length a0 : Int) > 24)))))]) (L' := []) (ob := []) (by kernel_rfl) AllP.nil ?_
  refine To.thenN ?_
  refine Wp.cond (b := (bif (decide ((List.length a0 : Int) < 1)) then true else (decide ((List.length a0 : Int) > 24)))) (by kernel_rfl) (fun hb => ?_) (fun hb => ?_)
  · replace h := if_t hb h
    refine Wp.seq ?_
    refine Wp.region hΓ [] [] [] [2] [] (K' := [(2, .val (.bool false))]) (L' := []) (ob := []) (by kernel_rfl) AllP.nil ?_
    refine To.thenN ?_
    refine Wp.ret ?_
    refine To.thenR ?_
    refine To.keep (kk := [2]) (kl := []) (K' := [(2, .val (.bool false))]) (L' := []) (by kernel_rfl) (by kernel_rfl) ?_
    cases h
    exact To.done hΓ (by kernel_rfl)
  · replace h := if_f hb h
    refine Wp.skip ?_
    refine To.thenN ?_
    refine Wp.seq ?_
    refine Wp.seq ?_
    refine Wp.region hΓ [] [] [] [0, 3] [] (K' := [(0, .str a0), (3, .val (.int .i64 0))]) (L' := []) (ob := []) (by kernel_rfl) AllP.nil ?_
    refine To.thenN ?_
    refine Wp.block ?_
    obtain ⟨o1, ho1, h⟩ := bind_of h
    refine Wp.keep (kk := [0, 3]) (kl := []) (K' := [(0, .str a0), (3, .val (.int .i64 0))]) (L' := []) (by kernel_rfl) (by kernel_rfl) ?_
    refine Wp.loopL ?_
    refine ok_ref02_Variable_l1 n a0 n 0 o1 ho1 ?_
    rcases o1 with o1 | o1
    · replace h := sum_l h
      refine To.blockX ?_
      refine To.thenN ?_
      refine Wp.seq ?_
      refine Wp.region hΓ [] [] [] [2] [] (K' := [(2, .val (.bool true))]) (L' := []) (ob := []) (by kernel_rfl) AllP.nil ?_
      refine To.thenN ?_
      refine Wp.ret ?_
      refine To.keep (kk := [2]) (kl := []) (K' := [(2, .val (.bool true))]) (L' := []) (by kernel_rfl) (by kernel_rfl) ?_
      cases h
      exact To.done hΓ (by kernel_rfl)
    · replace h := sum_r h
      refine To.blockR ?_
      refine To.thenR ?_
      refine To.keep (kk := [2]) (kl := []) (K' := [(2, .val (.bool o1))]) (L' := []) (by kernel_rfl) (by kernel_rfl) ?_
      cases h
      exact To.done hΓ (by kernel_rfl)
def ref02_Project_l1 (n : Nat) (v0 : List UInt8) : Nat → Int → Option (Sum (Unit) (Bool))
  | 0, _ => none
  | k + 1, v3 => if (decide (v3 < (List.length v0 : Int))) = true then (if (decide (0 ≤ v3 ∧ v3 < (List.length v0 : Int))) = true then (lett ((bif (bif (bif ((ref02_Kind (((v0)[Int.toNat v3]?.getD 0).toNat : Int)) == 0) then true else ((ref02_Kind (((v0)[Int.toNat v3]?.getD 0).toNat : Int)) == 2)) then true else ((ref02_Kind (((v0)[Int.toNat v3]?.getD 0).toNat : Int)) == 6)) then true else (bif (v3 == 0) then (decide ((ref02_Kind (((v0)[Int.toNat v3]?.getD 0).toNat : Int)) > 3)) else false)) : Bool) fun x1 =>
  if x1 = true then (some (.inr false))
  else (ref02_Project_l1 n v0 k (IntKind.wrap .i64 (v3 + 1)))) else none)
  else (some (.inl ()))
theorem ok_ref02_Project_l1 (n : Nat) (v0 : List UInt8) {F0 : Fz} {w0 : Pt Try.prog} {Q : Exit → Act → World → Prop} (k : Nat) : ∀ (v3 : Int) (o : Sum (Unit) (Bool)), ref02_Project_l1 n v0 k v3 = some o → (Sum.elim (fun s => To 41 F0 w0 [] [] (.exit 0) Q) (fun s => To 41 F0 w0 [(2, .val (.bool s))] [] .ret Q)) o → WL Try.prog 41 F0 w0 [(0, .str v0), (3, .val (.int .i64 v3))] [] (cI (cI (cB (cA (cB (cB (cF Try.f12))))))) Q := by
  induction k with
  | zero => intro v3 o h; cases h
  | succ k ih =>
    intro v3 o h hQ
    rw [ref02_Project_l1] at h
    refine WL.round ?_
    refine Wp.seq ?_
    refine Wp.seq ?_
    refine Wp.region hΓ [] [] [] [0, 3, 16] [] (K' := [(0, .str v0), (3, .val (.int .i64 v3)), (16, .val (.bool (decide (v3 < (List.length v0 : Int)))))]) (L' := []) (ob := []) (by kernel_rfl) AllP.nil ?_
    refine To.thenN ?_
    refine Wp.cond (b := (decide (v3 < (List.length v0 : Int)))) (by kernel_rfl) (fun hb => ?_) (fun hb => ?_)
    · replace h := if_t hb h
      refine Wp.skip ?_
      refine To.thenN ?_
      refine Wp.seq ?_
      refine Wp.block ?_
      refine Wp.seq ?_
      obtain ⟨hc2, h⟩ := chk_of h
      refine Wp.region hΓ [] [(3, .val (.int .i64 (ref02_Kind (((v0)[Int.toNat v3]?.getD 0).toNat : Int))))] [] [0, 3, 4] [] (K' := [(0, .str v0), (3, .val (.int .i64 v3)), (4, .val (.int .i64 (ref02_Kind (((v0)[Int.toNat v3]?.getD 0).toNat : Int))))]) (L' := []) (ob := [(decide (0 ≤ v3 ∧ v3 < (List.length v0 : Int))) = true, (true = true → CX Try.prog 36 [.val (.int .u8 (((v0)[Int.toNat v3]?.getD 0).toNat : Int))] (.val (.int .i64 (ref02_Kind (((v0)[Int.toNat v3]?.getD 0).toNat : Int)))))]) (by kernel_rfl) (AllP.cons hc2 (AllP.cons (fun _ => cx (ok_ref02_Kind (((v0)[Int.toNat v3]?.getD 0).toNat : Int) _ rfl)) AllP.nil)) ?_
      refine To.thenN ?_
      refine Wp.seq ?_
      obtain ⟨x1, hx1, h⟩ := lett_of h
      refine Wp.region hΓ [] [] [] [0, 3, 40] [] (K' := [(0, .str v0), (3, .val (.int .i64 v3)), (40, .val (.bool (bif (bif (bif ((ref02_Kind (((v0)[Int.toNat v3]?.getD 0).toNat : Int)) == 0) then true else ((ref02_Kind (((v0)[Int.toNat v3]?.getD 0).toNat : Int)) == 2)) then true else ((ref02_Kind (((v0)[Int.toNat v3]?.getD 0).toNat : Int)) == 6)) then true else (bif (v3 == 0) then (decide ((ref02_Kind (((v0)[Int.toNat v3]?.getD 0).toNat : Int)) > 3)) else false))))]) (L' := []) (ob := []) (by kernel_rfl) AllP.nil ?_
      refine To.eq (K' := [(0, .str v0), (3, .val (.int .i64 v3)), (40, .val (.bool x1))]) (L' := []) (by cases hx1; rfl) (by cases hx1; rfl) ?_
      refine To.thenN ?_
      refine Wp.cond (b := x1) (by kernel_rfl) (fun hb => ?_) (fun hb => ?_)
      · replace h := if_t hb h
        refine Wp.seq ?_
        refine Wp.region hΓ [] [] [] [2] [] (K' := [(2, .val (.bool false))]) (L' := []) (ob := []) (by kernel_rfl) AllP.nil ?_
        refine To.thenN ?_
        refine Wp.ret ?_
        refine To.blockR ?_
        refine To.thenR ?_
        refine To.thenR ?_
        refine To.keep (kk := [2]) (kl := []) (K' := [(2, .val (.bool false))]) (L' := []) (by kernel_rfl) (by kernel_rfl) ?_
        cases h
        exact hQ
      · replace h := if_f hb h
        refine Wp.skip ?_
        refine To.blockN ?_
        refine To.thenN ?_
        refine Wp.region hΓ [] [] [] [0, 3] [] (K' := [(0, .str v0), (3, .val (.int .i64 (IntKind.wrap .i64 (v3 + 1))))]) (L' := []) (ob := []) (by kernel_rfl) AllP.nil ?_
        refine To.keep (kk := [0, 3]) (kl := []) (K' := [(0, .str v0), (3, .val (.int .i64 (IntKind.wrap .i64 (v3 + 1))))]) (L' := []) (by kernel_rfl) (by kernel_rfl) ?_
        refine To.again ?_
        exact ih (IntKind.wrap .i64 (v3 + 1)) _ h hQ
    · replace h := if_f hb h
      refine Wp.exit ?_
      refine To.thenX ?_
      refine To.thenX ?_
      refine To.keep (kk := []) (kl := []) (K' := []) (L' := []) (by kernel_rfl) (by kernel_rfl) ?_
      cases h
      exact hQ
def ref02_Project (n : Nat) (a0 : List UInt8) : Option (Bool) :=
  if (bif (decide ((List.length a0 : Int) < 1)) then true else (decide ((List.length a0 : Int) > 24))) = true then some false
  else ((ref02_Project_l1 n a0 n 0).bind fun o1 =>
  (Sum.elim (fun o1 => some true) (fun o1 => some o1)) o1)
theorem ok_ref02_Project (n : Nat) (a0 : List UInt8) (r : Bool) (h : ref02_Project n a0 = some r) : CallsX Try.prog 12 [.str a0] (.val (.bool r)) := by
  unfold ref02_Project at h
  refine callsX_of (fn := Try.f12) (by kernel_rfl) rfl (by kernel_rfl) (Nat.le_of_ble_eq_true (by kernel_rfl)) fun F0 w0 _ => ?_
  refine Wp.keep (kk := [0]) (kl := []) (K' := [(0, .str a0)]) (L' := []) (by kernel_rfl) (by kernel_rfl) ?_
  refine Wp.seq ?_
  refine Wp.region hΓ [] [] [] [0] [] (K' := [(0, .str a0)]) (L' := []) (ob := []) (by kernel_rfl) AllP.nil ?_
  refine To.thenN ?_
  refine Wp.seq ?_
  refine Wp.seq ?_
  refine Wp.region hΓ [] [] [] [0, 12] [] (K' := [(0, .str a0), (12, .val (.bool (bif (decide ((List.length a0 : Int) < 1)) then true else (decide ((List.length a0 : Int) > 24)))))]) (L' := []) (ob := []) (by kernel_rfl) AllP.nil ?_
  refine To.thenN ?_
  refine Wp.cond (b := (bif (decide ((List.length a0 : Int) < 1)) then true else (decide ((List.length a0 : Int) > 24)))) (by kernel_rfl) (fun hb => ?_) (fun hb => ?_)
  · replace h := if_t hb h
    refine Wp.seq ?_
    refine Wp.region hΓ [] [] [] [2] [] (K' := [(2, .val (.bool false))]) (L' := []) (ob := []) (by kernel_rfl) AllP.nil ?_
    refine To.thenN ?_
    refine Wp.ret ?_
    refine To.thenR ?_
    refine To.keep (kk := [2]) (kl := []) (K' := [(2, .val (.bool false))]) (L' := []) (by kernel_rfl) (by kernel_rfl) ?_
    cases h
    exact To.done hΓ (by kernel_rfl)
  · replace h := if_f hb h
    refine Wp.skip ?_
    refine To.thenN ?_
    refine Wp.seq ?_
    refine Wp.seq ?_
    refine Wp.region hΓ [] [] [] [0, 3] [] (K' := [(0, .str a0), (3, .val (.int .i64 0))]) (L' := []) (ob := []) (by kernel_rfl) AllP.nil ?_
    refine To.thenN ?_
    refine Wp.block ?_
    obtain ⟨o1, ho1, h⟩ := bind_of h
    refine Wp.keep (kk := [0, 3]) (kl := []) (K' := [(0, .str a0), (3, .val (.int .i64 0))]) (L' := []) (by kernel_rfl) (by kernel_rfl) ?_
    refine Wp.loopL ?_
    refine ok_ref02_Project_l1 n a0 n 0 o1 ho1 ?_
    rcases o1 with o1 | o1
    · replace h := sum_l h
      refine To.blockX ?_
      refine To.thenN ?_
      refine Wp.seq ?_
      refine Wp.region hΓ [] [] [] [2] [] (K' := [(2, .val (.bool true))]) (L' := []) (ob := []) (by kernel_rfl) AllP.nil ?_
      refine To.thenN ?_
      refine Wp.ret ?_
      refine To.keep (kk := [2]) (kl := []) (K' := [(2, .val (.bool true))]) (L' := []) (by kernel_rfl) (by kernel_rfl) ?_
      cases h
      exact To.done hΓ (by kernel_rfl)
    · replace h := sum_r h
      refine To.blockR ?_
      refine To.thenR ?_
      refine To.keep (kk := [2]) (kl := []) (K' := [(2, .val (.bool o1))]) (L' := []) (by kernel_rfl) (by kernel_rfl) ?_
      cases h
      exact To.done hΓ (by kernel_rfl)
def law02_NameKinds (n : Nat) (a0 : List UInt8) : Option (Bool) :=
  if (decide ((List.length a0 : Int) > 4000)) = true then ((law02_awake n).bind fun r1 =>
  some r1)
  else ((name_Service n a0).bind fun r2 =>
  (name_Variable n a0).bind fun r3 =>
  (name_Project n a0).bind fun r4 =>
  (ref02_Service n a0).bind fun r5 =>
  ((if ((r2 == r5) == true) = true then ref02_Variable n a0 else some false)).bind fun r6 =>
  ((if ((bif (r2 == r5) then (r3 == r6) else false) == true) = true then ref02_Project n a0 else some false)).bind fun r7 =>
  ((if ((bif (bif (bif (r2 == r5) then (r3 == r6) else false) then (r4 == r7) else false) then (bif (!r4) then true else r2) else false) == true) = true then law02_awake n else some false)).bind fun r8 =>
  lett ((bif (bif (bif (bif (r2 == r5) then (r3 == r6) else false) then (r4 == r7) else false) then (bif (!r4) then true else r2) else false) then r8 else false) : Bool) fun x9 =>
  some x9)
theorem ok_law02_NameKinds (n : Nat) (a0 : List UInt8) (r : Bool) (h : law02_NameKinds n a0 = some r) : CallsX Try.prog 3 [.str a0] (.val (.bool r)) := by
  unfold law02_NameKinds at h
  refine callsX_of (fn := Try.f3) (by kernel_rfl) rfl (by kernel_rfl) (Nat.le_of_ble_eq_true (by kernel_rfl)) fun F0 w0 _ => ?_
  refine Wp.keep (kk := [0]) (kl := []) (K' := [(0, .str a0)]) (L' := []) (by kernel_rfl) (by kernel_rfl) ?_
  refine Wp.seq ?_
  refine Wp.region hΓ [] [] [] [0] [] (K' := [(0, .str a0)]) (L' := []) (ob := []) (by kernel_rfl) AllP.nil ?_
  refine To.thenN ?_
  refine Wp.seq ?_
  refine Wp.seq ?_
  refine Wp.region hΓ [] [] [] [0, 8] [] (K' := [(0, .str a0), (8, .val (.bool (decide ((List.length a0 : Int) > 4000))))]) (L' := []) (ob := []) (by kernel_rfl) AllP.nil ?_
  refine To.thenN ?_
  refine Wp.cond (b := (decide ((List.length a0 : Int) > 4000))) (by kernel_rfl) (fun hb => ?_) (fun hb => ?_)
  · replace h := if_t hb h
    refine Wp.seq ?_
    obtain ⟨r1, hr1, h⟩ := bind_of h
    refine Wp.region hΓ [] [(0, .val (.bool r1))] [] [2] [] (K' := [(2, .val (.bool r1))]) (L' := []) (ob := [(true = true → CX Try.prog 6 [] (.val (.bool r1)))]) (by kernel_rfl) (AllP.cons (fun _ => cx (ok_law02_awake n  _ hr1)) AllP.nil) ?_
    refine To.thenN ?_
    refine Wp.ret ?_
    refine To.thenR ?_
    refine To.keep (kk := [2]) (kl := []) (K' := [(2, .val (.bool r1))]) (L' := []) (by kernel_rfl) (by kernel_rfl) ?_
    cases h
    exact To.done hΓ (by kernel_rfl)
  · replace h := if_f hb h
    refine Wp.skip ?_
    refine To.thenN ?_
    refine Wp.seq ?_
    obtain ⟨r2, hr2, h⟩ := bind_of h
    obtain ⟨r3, hr3, h⟩ := bind_of h
    obtain ⟨r4, hr4, h⟩ := bind_of h
    refine Wp.region hΓ [] [(1, .val (.bool r2)), (3, .val (.bool r3)), (5, .val (.bool r4))] [] [0, 3, 4, 5] [] (K' := [(0, .str a0), (3, .val (.bool r2)), (4, .val (.bool r3)), (5, .val (.bool r4))]) (L' := []) (ob := [(true = true → CX Try.prog 7 [.str a0] (.val (.bool r2))), (true = true → CX Try.prog 8 [.str a0] (.val (.bool r3))), (true = true → CX Try.prog 9 [.str a0] (.val (.bool r4)))]) (by kernel_rfl) (AllP.cons (fun _ => cx (ok_name_Service n a0 _ hr2)) (AllP.cons (fun _ => cx (ok_name_Variable n a0 _ hr3)) (AllP.cons (fun _ => cx (ok_name_Project n a0 _ hr4)) AllP.nil))) ?_
    refine To.thenN ?_
    refine Wp.seq ?_
    obtain ⟨r5, hr5, h⟩ := bind_of h
    obtain ⟨r6, hr6, h⟩ := bind_of h
    obtain ⟨r7, hr7, h⟩ := bind_of h
    obtain ⟨r8, hr8, h⟩ := bind_of h
    obtain ⟨x9, hx9, h⟩ := lett_of h
    refine Wp.region hΓ [] [(2, .val (.bool r5)), (7, .val (.bool r6)), (13, .val (.bool r7)), (24, .val (.bool r8))] [] [2] [] (K' := [(2, .val (.bool (bif (bif (bif (bif (r2 == r5) then (r3 == r6) else false) then (r4 == r7) else false) then (bif (!r4) then true else r2) else false) then r8 else false)))]) (L' := []) (ob := [(true = true → CX Try.prog 10 [.str a0] (.val (.bool r5))), (((r2 == r5) == true) = true → CX Try.prog 11 [.str a0] (.val (.bool r6))), (((bif (r2 == r5) then (r3 == r6) else false) == true) = true → CX Try.prog 12 [.str a0] (.val (.bool r7))), (((bif (bif (bif (r2 == r5) then (r3 == r6) else false) then (r4 == r7) else false) then (bif (!r4) then true else r2) else false) == true) = true → CX Try.prog 6 [] (.val (.bool r8)))]) (by kernel_rfl) (AllP.cons (fun _ => cx (ok_ref02_Service n a0 _ hr5)) (AllP.cons (fun hg => cx (ok_ref02_Variable n a0 _ (if_t hg hr6))) (AllP.cons (fun hg => cx (ok_ref02_Project n a0 _ (if_t hg hr7))) (AllP.cons (fun hg => cx (ok_law02_awake n  _ (if_t hg hr8))) AllP.nil)))) ?_
    refine To.eq (K' := [(2, .val (.bool x9))]) (L' := []) (by cases hx9; rfl) (by cases hx9; rfl) ?_
    refine To.thenN ?_
    refine Wp.ret ?_
    refine To.keep (kk := [2]) (kl := []) (K' := [(2, .val (.bool x9))]) (L' := []) (by kernel_rfl) (by kernel_rfl) ?_
    cases h
    exact To.done hΓ (by kernel_rfl)
def law02_Few_l1 (n : Nat) (v0 : List (List UInt8)) : Nat → Int → Option (Sum (Unit) (Bool))
  | 0, _ => none
  | k + 1, v5 => if (decide (v5 < (List.length v0 : Int))) = true then (if (decide (0 ≤ v5 ∧ v5 < (List.length v0 : Int))) = true then (if (decide ((List.length ((v0)[Int.toNat v5]?.getD []) : Int) > 100)) = true then (some (.inr false))
  else (law02_Few_l1 n v0 k (IntKind.wrap .i64 (v5 + 1)))) else none)
  else (some (.inl ()))
theorem ok_law02_Few_l1 (n : Nat) (v0 : List (List UInt8)) {F0 : Fz} {w0 : Pt Try.prog} {Q : Exit → Act → World → Prop} (k : Nat) : ∀ (v5 : Int) (o : Sum (Unit) (Bool)), law02_Few_l1 n v0 k v5 = some o → (Sum.elim (fun s => To 22 F0 w0 [] [] (.exit 0) Q) (fun s => To 22 F0 w0 [(4, .val (.bool s))] [] .ret Q)) o → WL Try.prog 22 F0 w0 [(0, .recs (α := List UInt8) [] E_string v0), (5, .val (.int .i64 v5))] [] (cI (cI (cB (cA (cB (cB (cF Try.f13))))))) Q := by
  induction k with
  | zero => intro v5 o h; cases h
  | succ k ih =>
    intro v5 o h hQ
    rw [law02_Few_l1] at h
    refine WL.round ?_
    refine Wp.seq ?_
    refine Wp.seq ?_
    refine Wp.region hΓ [] [] [] [0, 5, 13] [] (K' := [(0, .recs (α := List UInt8) [] E_string v0), (5, .val (.int .i64 v5)), (13, .val (.bool (decide (v5 < (List.length v0 : Int)))))]) (L' := []) (ob := []) (by kernel_rfl) AllP.nil ?_
    refine To.thenN ?_
    refine Wp.cond (b := (decide (v5 < (List.length v0 : Int)))) (by kernel_rfl) (fun hb => ?_) (fun hb => ?_)
    · replace h := if_t hb h
      refine Wp.skip ?_
      refine To.thenN ?_
      refine Wp.seq ?_
      refine Wp.block ?_
      refine Wp.seq ?_
      obtain ⟨hc1, h⟩ := chk_of h
      refine Wp.region hΓ [] [] [] [0, 5, 21] [] (K' := [(0, .recs (α := List UInt8) [] E_string v0), (5, .val (.int .i64 v5)), (21, .val (.bool (decide ((List.length ((v0)[Int.toNat v5]?.getD []) : Int) > 100))))]) (L' := []) (ob := [(decide (0 ≤ v5 ∧ v5 < (List.length v0 : Int))) = true]) (by kernel_rfl) (AllP.cons hc1 AllP.nil) ?_
      refine To.thenN ?_
      refine Wp.cond (b := (decide ((List.length ((v0)[Int.toNat v5]?.getD []) : Int) > 100))) (by kernel_rfl) (fun hb => ?_) (fun hb => ?_)
      · replace h := if_t hb h
        refine Wp.seq ?_
        refine Wp.region hΓ [] [] [] [4] [] (K' := [(4, .val (.bool false))]) (L' := []) (ob := []) (by kernel_rfl) AllP.nil ?_
        refine To.thenN ?_
        refine Wp.ret ?_
        refine To.blockR ?_
        refine To.thenR ?_
        refine To.thenR ?_
        refine To.keep (kk := [4]) (kl := []) (K' := [(4, .val (.bool false))]) (L' := []) (by kernel_rfl) (by kernel_rfl) ?_
        cases h
        exact hQ
      · replace h := if_f hb h
        refine Wp.skip ?_
        refine To.blockN ?_
        refine To.thenN ?_
        refine Wp.region hΓ [] [] [] [0, 5] [] (K' := [(0, .recs (α := List UInt8) [] E_string v0), (5, .val (.int .i64 (IntKind.wrap .i64 (v5 + 1))))]) (L' := []) (ob := []) (by kernel_rfl) AllP.nil ?_
        refine To.keep (kk := [0, 5]) (kl := []) (K' := [(0, .recs (α := List UInt8) [] E_string v0), (5, .val (.int .i64 (IntKind.wrap .i64 (v5 + 1))))]) (L' := []) (by kernel_rfl) (by kernel_rfl) ?_
        refine To.again ?_
        exact ih (IntKind.wrap .i64 (v5 + 1)) _ h hQ
    · replace h := if_f hb h
      refine Wp.exit ?_
      refine To.thenX ?_
      refine To.thenX ?_
      refine To.keep (kk := []) (kl := []) (K' := []) (L' := []) (by kernel_rfl) (by kernel_rfl) ?_
      cases h
      exact hQ
def law02_Few (n : Nat) (a0 : List (List UInt8)) (a1 : Int) : Option (Bool) :=
  if (decide ((List.length a0 : Int) > a1)) = true then some false
  else ((law02_Few_l1 n a0 n 0).bind fun o1 =>
  (Sum.elim (fun o1 => some true) (fun o1 => some o1)) o1)
theorem ok_law02_Few (n : Nat) (a0 : List (List UInt8)) (a1 : Int) (r : Bool) (h : law02_Few n a0 a1 = some r) : CallsX Try.prog 13 [.recs (α := List UInt8) [] E_string a0, .val (.int .i64 a1)] (.val (.bool r)) := by
  unfold law02_Few at h
  refine callsX_of (fn := Try.f13) (by kernel_rfl) rfl (by kernel_rfl) (Nat.le_of_ble_eq_true (by kernel_rfl)) fun F0 w0 _ => ?_
  refine Wp.keep (kk := [0, 1]) (kl := []) (K' := [(0, .recs (α := List UInt8) [] E_string a0), (1, .val (.int .i64 a1))]) (L' := []) (by kernel_rfl) (by kernel_rfl) ?_
  refine Wp.seq ?_
  refine Wp.region hΓ [] [] [] [0, 1] [] (K' := [(0, .recs (α := List UInt8) [] E_string a0), (1, .val (.int .i64 a1))]) (L' := []) (ob := []) (by kernel_rfl) AllP.nil ?_
  refine To.thenN ?_
  refine Wp.seq ?_
  refine Wp.seq ?_
  refine Wp.region hΓ [] [] [] [0, 9] [] (K' := [(0, .recs (α := List UInt8) [] E_string a0), (9, .val (.bool (decide ((List.length a0 : Int) > a1))))]) (L' := []) (ob := []) (by kernel_rfl) AllP.nil ?_
  refine To.thenN ?_
  refine Wp.cond (b := (decide ((List.length a0 : Int) > a1))) (by kernel_rfl) (fun hb => ?_) (fun hb => ?_)
  · replace h := if_t hb h
    refine Wp.seq ?_
    refine Wp.region hΓ [] [] [] [4] [] (K' := [(4, .val (.bool false))]) (L' := []) (ob := []) (by kernel_rfl) AllP.nil ?_
    refine To.thenN ?_
    refine Wp.ret ?_
    refine To.thenR ?_
    refine To.keep (kk := [4]) (kl := []) (K' := [(4, .val (.bool false))]) (L' := []) (by kernel_rfl) (by kernel_rfl) ?_
    cases h
    exact To.done hΓ (by kernel_rfl)
  · replace h := if_f hb h
    refine Wp.skip ?_
    refine To.thenN ?_
    refine Wp.seq ?_
    refine Wp.seq ?_
    refine Wp.region hΓ [] [] [] [0, 5] [] (K' := [(0, .recs (α := List UInt8) [] E_string a0), (5, .val (.int .i64 0))]) (L' := []) (ob := []) (by kernel_rfl) AllP.nil ?_
    refine To.thenN ?_
    refine Wp.block ?_
    obtain ⟨o1, ho1, h⟩ := bind_of h
    refine Wp.keep (kk := [0, 5]) (kl := []) (K' := [(0, .recs (α := List UInt8) [] E_string a0), (5, .val (.int .i64 0))]) (L' := []) (by kernel_rfl) (by kernel_rfl) ?_
    refine Wp.loopL ?_
    refine ok_law02_Few_l1 n a0 n 0 o1 ho1 ?_
    rcases o1 with o1 | o1
    · replace h := sum_l h
      refine To.blockX ?_
      refine To.thenN ?_
      refine Wp.seq ?_
      refine Wp.region hΓ [] [] [] [4] [] (K' := [(4, .val (.bool true))]) (L' := []) (ob := []) (by kernel_rfl) AllP.nil ?_
      refine To.thenN ?_
      refine Wp.ret ?_
      refine To.keep (kk := [4]) (kl := []) (K' := [(4, .val (.bool true))]) (L' := []) (by kernel_rfl) (by kernel_rfl) ?_
      cases h
      exact To.done hΓ (by kernel_rfl)
    · replace h := sum_r h
      refine To.blockR ?_
      refine To.thenR ?_
      refine To.keep (kk := [4]) (kl := []) (K' := [(4, .val (.bool o1))]) (L' := []) (by kernel_rfl) (by kernel_rfl) ?_
      cases h
      exact To.done hΓ (by kernel_rfl)
def ref02_Sorted_j3 (n : Nat) (v0 : List (List UInt8)) (v3 : List (List UInt8)) (v4 : Int) (v5 : Int) : Option (Int) :=
  if ((!(((List.length v3 : Int) == 0) == false) || decide (0 ≤ v5 ∧ v5 < (List.length v0 : Int)))) = true then (if ((!(((List.length v3 : Int) == 0) == false) || decide (0 ≤ (IntKind.wrap .i64 ((List.length v3 : Int) - 1)) ∧ (IntKind.wrap .i64 ((List.length v3 : Int) - 1)) < (List.length v3 : Int)))) = true then (if ((!(((decide (v4 < 0)) == false) && ((bif ((List.length v3 : Int) == 0) then true else (!(Op.bytesLess ((v0)[Int.toNat v5]?.getD []) ((v3)[Int.toNat (IntKind.wrap .i64 ((List.length v3 : Int) - 1))]?.getD []) || ((v0)[Int.toNat v5]?.getD []) == ((v3)[Int.toNat (IntKind.wrap .i64 ((List.length v3 : Int) - 1))]?.getD [])))) == true)) || decide (0 ≤ v5 ∧ v5 < (List.length v0 : Int)))) = true then (if ((!(((decide (v4 < 0)) == false) && ((bif ((List.length v3 : Int) == 0) then true else (!(Op.bytesLess ((v0)[Int.toNat v5]?.getD []) ((v3)[Int.toNat (IntKind.wrap .i64 ((List.length v3 : Int) - 1))]?.getD []) || ((v0)[Int.toNat v5]?.getD []) == ((v3)[Int.toNat (IntKind.wrap .i64 ((List.length v3 : Int) - 1))]?.getD [])))) == true)) || decide (0 ≤ v4 ∧ v4 < (List.length v0 : Int)))) = true then (lett ((bif (bif ((List.length v3 : Int) == 0) then true else (!(Op.bytesLess ((v0)[Int.toNat v5]?.getD []) ((v3)[Int.toNat (IntKind.wrap .i64 ((List.length v3 : Int) - 1))]?.getD []) || ((v0)[Int.toNat v5]?.getD []) == ((v3)[Int.toNat (IntKind.wrap .i64 ((List.length v3 : Int) - 1))]?.getD [])))) then (bif (decide (v4 < 0)) then true else (Op.bytesLess ((v0)[Int.toNat v5]?.getD []) ((v0)[Int.toNat v4]?.getD []))) else false) : Bool) fun x1 =>
  if x1 = true then some v5
  else some v4) else none) else none) else none) else none
theorem ok_ref02_Sorted_j3 (n : Nat) (v0 : List (List UInt8)) (v3 : List (List UInt8)) (v4 : Int) (v5 : Int) (o : Int) (h : ref02_Sorted_j3 n v0 v3 v4 v5 = some o) {F0 : Fz} {w0 : Pt Try.prog} {Q : Exit → Act → World → Prop} (hQ : To 55 F0 w0 [(0, .recs (α := List UInt8) [] E_string v0), (3, .row 1003), (4, .val (.int .i64 o)), (5, .val (.int .i64 v5))] [(1003, 9, [.rowc false (α := List UInt8) [] E_string v3])] .normal Q) : Wp Try.prog 55 F0 w0 [(0, .recs (α := List UInt8) [] E_string v0), (3, .row 1003), (4, .val (.int .i64 v4)), (5, .val (.int .i64 v5))] [(1003, 9, [.rowc false (α := List UInt8) [] E_string v3])] (cA (cB (cI (cI (cB (cA (cB (cI (cI (cI (cB (cB (cF Try.f16))))))))))))) Q := by
  unfold ref02_Sorted_j3 at h
  refine Wp.block ?_
  refine Wp.seq ?_
  obtain ⟨hc2, h⟩ := chk_of h
  obtain ⟨hc3, h⟩ := chk_of h
  obtain ⟨hc4, h⟩ := chk_of h
  obtain ⟨hc5, h⟩ := chk_of h
  obtain ⟨x1, hx1, h⟩ := lett_of h
  refine Wp.regionD hm hΓ [] [0, 3, 4, 5, 43] [1003] (K' := [(0, .recs (α := List UInt8) [] E_string v0), (3, .row 1003), (4, .val (.int .i64 v4)), (5, .val (.int .i64 v5)), (43, .val (.bool (bif (bif ((List.length v3 : Int) == 0) then true else (!(Op.bytesLess ((v0)[Int.toNat v5]?.getD []) ((v3)[Int.toNat (IntKind.wrap .i64 ((List.length v3 : Int) - 1))]?.getD []) || ((v0)[Int.toNat v5]?.getD []) == ((v3)[Int.toNat (IntKind.wrap .i64 ((List.length v3 : Int) - 1))]?.getD [])))) then (bif (decide (v4 < 0)) then true else (Op.bytesLess ((v0)[Int.toNat v5]?.getD []) ((v0)[Int.toNat v4]?.getD []))) else false)))]) (L' := [(1003, 9, [.rowc false (α := List UInt8) [] E_string v3])]) (ob := [(!(((List.length v3 : Int) == 0) == false) || decide (0 ≤ v5 ∧ v5 < (List.length v0 : Int))) = true, (!(((List.length v3 : Int) == 0) == false) || decide (0 ≤ (IntKind.wrap .i64 ((List.length v3 : Int) - 1)) ∧ (IntKind.wrap .i64 ((List.length v3 : Int) - 1)) < (List.length v3 : Int))) = true, (!(((List.length v3 : Int) == 0) == false) || decide (0 ≤ (IntKind.wrap .i64 ((List.length v3 : Int) - 1)) ∧ (IntKind.wrap .i64 ((List.length v3 : Int) - 1)) < (List.length v3 : Int))) = true, (!(((decide (v4 < 0)) == false) && ((bif ((List.length v3 : Int) == 0) then true else (!(Op.bytesLess ((v0)[Int.toNat v5]?.getD []) ((v3)[Int.toNat (IntKind.wrap .i64 ((List.length v3 : Int) - 1))]?.getD []) || ((v0)[Int.toNat v5]?.getD []) == ((v3)[Int.toNat (IntKind.wrap .i64 ((List.length v3 : Int) - 1))]?.getD [])))) == true)) || decide (0 ≤ v5 ∧ v5 < (List.length v0 : Int))) = true, (!(((decide (v4 < 0)) == false) && ((bif ((List.length v3 : Int) == 0) then true else (!(Op.bytesLess ((v0)[Int.toNat v5]?.getD []) ((v3)[Int.toNat (IntKind.wrap .i64 ((List.length v3 : Int) - 1))]?.getD []) || ((v0)[Int.toNat v5]?.getD []) == ((v3)[Int.toNat (IntKind.wrap .i64 ((List.length v3 : Int) - 1))]?.getD [])))) == true)) || decide (0 ≤ v4 ∧ v4 < (List.length v0 : Int))) = true]) (by kernel_rfl) (AllP.cons hc2 (AllP.cons hc3 (AllP.cons hc3 (AllP.cons hc4 (AllP.cons hc5 AllP.nil))))) ?_
  refine To.eq (K' := [(0, .recs (α := List UInt8) [] E_string v0), (3, .row 1003), (4, .val (.int .i64 v4)), (5, .val (.int .i64 v5)), (43, .val (.bool x1))]) (L' := [(1003, 9, [.rowc false (α := List UInt8) [] E_string v3])]) (by cases hx1; rfl) (by cases hx1; rfl) ?_
  refine To.thenN ?_
  refine Wp.cond (b := x1) (by kernel_rfl) (fun hb => ?_) (fun hb => ?_)
  · replace h := if_t hb h
    refine Wp.region hΓ [] [] [] [0, 3, 4, 5] [1003] (K' := [(0, .recs (α := List UInt8) [] E_string v0), (3, .row 1003), (4, .val (.int .i64 v5)), (5, .val (.int .i64 v5))]) (L' := [(1003, 9, [.rowc false (α := List UInt8) [] E_string v3])]) (ob := []) (by kernel_rfl) AllP.nil ?_
    refine To.blockN ?_
    refine To.keep (kk := [0, 3, 4, 5]) (kl := [1003]) (K' := [(0, .recs (α := List UInt8) [] E_string v0), (3, .row 1003), (4, .val (.int .i64 v5)), (5, .val (.int .i64 v5))]) (L' := [(1003, 9, [.rowc false (α := List UInt8) [] E_string v3])]) (by kernel_rfl) (by kernel_rfl) ?_
    cases h
    exact hQ
  · replace h := if_f hb h
    refine Wp.skip ?_
    refine To.blockN ?_
    refine To.keep (kk := [0, 3, 4, 5]) (kl := [1003]) (K' := [(0, .recs (α := List UInt8) [] E_string v0), (3, .row 1003), (4, .val (.int .i64 v4)), (5, .val (.int .i64 v5))]) (L' := [(1003, 9, [.rowc false (α := List UInt8) [] E_string v3])]) (by kernel_rfl) (by kernel_rfl) ?_
    cases h
    exact hQ
def ref02_Sorted_l2 (n : Nat) (v0 : List (List UInt8)) (v3 : List (List UInt8)) : Nat → Int → Int → Option (Int)
  | 0, _, _ => none
  | k + 1, v4, v5 => if (decide (v5 < (List.length v0 : Int))) = true then ((ref02_Sorted_j3 n v0 v3 v4 v5).bind fun o1 =>
  ref02_Sorted_l2 n v0 v3 k o1 (IntKind.wrap .i64 (v5 + 1)))
  else some v4
theorem ok_ref02_Sorted_l2 (n : Nat) (v0 : List (List UInt8)) (v3 : List (List UInt8)) {F0 : Fz} {w0 : Pt Try.prog} {Q : Exit → Act → World → Prop} (k : Nat) : ∀ (v4 : Int) (v5 : Int) (o : Int), ref02_Sorted_l2 n v0 v3 k v4 v5 = some o → To 55 F0 w0 [(0, .recs (α := List UInt8) [] E_string v0), (3, .row 1003), (4, .val (.int .i64 o))] [(1003, 9, [.rowc false (α := List UInt8) [] E_string v3])] (.exit 2) Q → WL Try.prog 55 F0 w0 [(0, .recs (α := List UInt8) [] E_string v0), (3, .row 1003), (4, .val (.int .i64 v4)), (5, .val (.int .i64 v5))] [(1003, 9, [.rowc false (α := List UInt8) [] E_string v3])] (cI (cI (cB (cA (cB (cI (cI (cI (cB (cB (cF Try.f16))))))))))) Q := by
  induction k with
  | zero => intro v4 v5 o h; cases h
  | succ k ih =>
    intro v4 v5 o h hQ
    rw [ref02_Sorted_l2] at h
    refine WL.round ?_
    refine Wp.seq ?_
    refine Wp.seq ?_
    refine Wp.region hΓ [] [] [] [0, 3, 4, 5, 10] [1003] (K' := [(0, .recs (α := List UInt8) [] E_string v0), (3, .row 1003), (4, .val (.int .i64 v4)), (5, .val (.int .i64 v5)), (10, .val (.bool (decide (v5 < (List.length v0 : Int)))))]) (L' := [(1003, 9, [.rowc false (α := List UInt8) [] E_string v3])]) (ob := []) (by kernel_rfl) AllP.nil ?_
    refine To.thenN ?_
    refine Wp.cond (b := (decide (v5 < (List.length v0 : Int)))) (by kernel_rfl) (fun hb => ?_) (fun hb => ?_)
    · replace h := if_t hb h
      refine Wp.skip ?_
      refine To.thenN ?_
      refine Wp.seq ?_
      obtain ⟨o1, ho1, h⟩ := bind_of h
      refine Wp.keep (kk := [0, 3, 4, 5]) (kl := [1003]) (K' := [(0, .recs (α := List UInt8) [] E_string v0), (3, .row 1003), (4, .val (.int .i64 v4)), (5, .val (.int .i64 v5))]) (L' := [(1003, 9, [.rowc false (α := List UInt8) [] E_string v3])]) (by kernel_rfl) (by kernel_rfl) ?_
      refine ok_ref02_Sorted_j3 n v0 v3 v4 v5 o1 ho1 ?_
      refine To.thenN ?_
      refine Wp.region hΓ [] [] [] [0, 3, 4, 5] [1003] (K' := [(0, .recs (α := List UInt8) [] E_string v0), (3, .row 1003), (4, .val (.int .i64 o1)), (5, .val (.int .i64 (IntKind.wrap .i64 (v5 + 1))))]) (L' := [(1003, 9, [.rowc false (α := List UInt8) [] E_string v3])]) (ob := []) (by kernel_rfl) AllP.nil ?_
      refine To.keep (kk := [0, 3, 4, 5]) (kl := [1003]) (K' := [(0, .recs (α := List UInt8) [] E_string v0), (3, .row 1003), (4, .val (.int .i64 o1)), (5, .val (.int .i64 (IntKind.wrap .i64 (v5 + 1))))]) (L' := [(1003, 9, [.rowc false (α := List UInt8) [] E_string v3])]) (by kernel_rfl) (by kernel_rfl) ?_
      refine To.again ?_
      exact ih o1 (IntKind.wrap .i64 (v5 + 1)) _ h hQ
    · replace h := if_f hb h
      refine Wp.exit ?_
      refine To.thenX ?_
      refine To.thenX ?_
      refine To.keep (kk := [0, 3, 4]) (kl := [1003]) (K' := [(0, .recs (α := List UInt8) [] E_string v0), (3, .row 1003), (4, .val (.int .i64 v4))]) (L' := [(1003, 9, [.rowc false (α := List UInt8) [] E_string v3])]) (by kernel_rfl) (by kernel_rfl) ?_
      cases h
      exact hQ
def ref02_Sorted_l1 (n : Nat) (v0 : List (List UInt8)) : Nat → (List (List UInt8)) → Option ((List (List UInt8)))
  | 0, _ => none
  | k + 1, v3 => (ref02_Sorted_l2 n v0 v3 n (-1) 0).bind fun o1 =>
  if (decide (o1 < 0)) = true then some v3
  else (if (decide (0 ≤ o1 ∧ o1 < (List.length v0 : Int))) = true then (if (decide ((List.length v3 + List.length ([((v0)[Int.toNat o1]?.getD [])] : List (List UInt8))) * (16 + 1) ≤ limit)) = true then (ref02_Sorted_l1 n v0 k (v3 ++ ([((v0)[Int.toNat o1]?.getD [])] : List (List UInt8)))) else none) else none)
theorem ok_ref02_Sorted_l1 (n : Nat) (v0 : List (List UInt8)) {F0 : Fz} {w0 : Pt Try.prog} {Q : Exit → Act → World → Prop} (k : Nat) : ∀ (v3 : List (List UInt8)) (o : (List (List UInt8))), ref02_Sorted_l1 n v0 k v3 = some o → To 55 F0 w0 [(2, .row 1002)] [(1002, 9, [.rowc false (α := List UInt8) [] E_string o])] .ret Q → WL Try.prog 55 F0 w0 [(0, .recs (α := List UInt8) [] E_string v0), (3, .row 1003)] [(1003, 9, [.rowc false (α := List UInt8) [] E_string v3])] (cI (cI (cB (cB (cF Try.f16))))) Q := by
  induction k with
  | zero => intro v3 o h; cases h
  | succ k ih =>
    intro v3 o h hQ
    rw [ref02_Sorted_l1] at h
    refine WL.round ?_
    refine Wp.block ?_
    refine Wp.seq ?_
    refine Wp.region hΓ [] [] [] [0, 3, 4] [1003] (K' := [(0, .recs (α := List UInt8) [] E_string v0), (3, .row 1003), (4, .val (.int .i64 (-1)))]) (L' := [(1003, 9, [.rowc false (α := List UInt8) [] E_string v3])]) (ob := []) (by kernel_rfl) AllP.nil ?_
    refine To.thenN ?_
    refine Wp.seq ?_
    refine Wp.seq ?_
    refine Wp.region hΓ [] [] [] [0, 3, 4, 5] [1003] (K' := [(0, .recs (α := List UInt8) [] E_string v0), (3, .row 1003), (4, .val (.int .i64 (-1))), (5, .val (.int .i64 0))]) (L' := [(1003, 9, [.rowc false (α := List UInt8) [] E_string v3])]) (ob := []) (by kernel_rfl) AllP.nil ?_
    refine To.thenN ?_
    refine Wp.block ?_
    obtain ⟨o1, ho1, h⟩ := bind_of h
    refine Wp.keep (kk := [0, 3, 4, 5]) (kl := [1003]) (K' := [(0, .recs (α := List UInt8) [] E_string v0), (3, .row 1003), (4, .val (.int .i64 (-1))), (5, .val (.int .i64 0))]) (L' := [(1003, 9, [.rowc false (α := List UInt8) [] E_string v3])]) (by kernel_rfl) (by kernel_rfl) ?_
    refine Wp.loopL ?_
    refine ok_ref02_Sorted_l2 n v0 v3 n (-1) 0 o1 ho1 ?_
    refine To.blockX ?_
    refine To.thenN ?_
    refine Wp.seq ?_
    refine Wp.seq ?_
    refine Wp.region hΓ [] [] [] [0, 3, 4, 46] [1003] (K' := [(0, .recs (α := List UInt8) [] E_string v0), (3, .row 1003), (4, .val (.int .i64 o1)), (46, .val (.bool (decide (o1 < 0))))]) (L' := [(1003, 9, [.rowc false (α := List UInt8) [] E_string v3])]) (ob := []) (by kernel_rfl) AllP.nil ?_
    refine To.thenN ?_
    refine Wp.cond (b := (decide (o1 < 0))) (by kernel_rfl) (fun hb => ?_) (fun hb => ?_)
    · replace h := if_t hb h
      refine Wp.seq ?_
      refine Wp.region hΓ [] [] [] [2] [1003] (K' := [(2, .row 1003)]) (L' := [(1003, 9, [.rowc false (α := List UInt8) [] E_string v3])]) (ob := []) (by kernel_rfl) AllP.nil ?_
      refine To.thenN ?_
      refine Wp.ret ?_
      refine To.thenR ?_
      refine To.blockR ?_
      refine To.thenR ?_
      refine To.keep (kk := [2]) (kl := [1003]) (K' := [(2, .row 1003)]) (L' := [(1003, 9, [.rowc false (α := List UInt8) [] E_string v3])]) (by kernel_rfl) (by kernel_rfl) ?_
      refine To.pre (St.rename 1003 1002 (by decide) (K' := [(2, .row 1002)]) (L' := [(1002, 9, [.rowc false (α := List UInt8) [] E_string v3])]) (by kernel_rfl) (by kernel_rfl) (by kernel_rfl)) ?_
      refine To.keep (kk := [2]) (kl := [1002]) (K' := [(2, .row 1002)]) (L' := [(1002, 9, [.rowc false (α := List UInt8) [] E_string v3])]) (by kernel_rfl) (by kernel_rfl) ?_
      cases h
      exact hQ
    · replace h := if_f hb h
      refine Wp.skip ?_
      refine To.thenN ?_
      obtain ⟨hc2, h⟩ := chk_of h
      obtain ⟨hc3, h⟩ := chk_of h
      refine Wp.region hΓ [] [(5, .recs (α := List UInt8) [] E_string ([((v0)[Int.toNat o1]?.getD [])])), (6, .recs (α := List UInt8) [] E_string (v3 ++ ([((v0)[Int.toNat o1]?.getD [])] : List (List UInt8))))] [] [0, 3] [54] (K' := [(0, .recs (α := List UInt8) [] E_string v0), (3, .row 54)]) (L' := [(54, 9, [.rowc false (α := List UInt8) [] E_string (v3 ++ ([((v0)[Int.toNat o1]?.getD [])] : List (List UInt8)))])]) (ob := [(decide (0 ≤ o1 ∧ o1 < (List.length v0 : Int))) = true, (MkOb 1 [.str ((v0)[Int.toNat o1]?.getD [])] 1 (.recs (α := List UInt8) [] E_string ([((v0)[Int.toNat o1]?.getD [])])) ∧ GoodR (.recs (α := List UInt8) [] E_string ([((v0)[Int.toNat o1]?.getD [])]))), (decide ((List.length v3 + List.length ([((v0)[Int.toNat o1]?.getD [])] : List (List UInt8))) * (16 + 1) ≤ limit)) = true, (AppOb [] E_string v3 (List.flatMap E_string ([((v0)[Int.toNat o1]?.getD [])] : List (List UInt8))) (List.length ([((v0)[Int.toNat o1]?.getD [])] : List (List UInt8))) (.recs (α := List UInt8) [] E_string (v3 ++ ([((v0)[Int.toNat o1]?.getD [])] : List (List UInt8)))) ∧ GoodR (.recs (α := List UInt8) [] E_string (v3 ++ ([((v0)[Int.toNat o1]?.getD [])] : List (List UInt8)))))]) (by kernel_rfl) (AllP.cons hc2 (AllP.cons (mkOb (by kernel_rfl) rfl (by kernel_rfl) (good_E_string _)) (AllP.cons hc3 (AllP.cons (appOb rfl rfl (good_E_string _)) AllP.nil)))) ?_
      refine To.blockN ?_
      refine To.keep (kk := [0, 3]) (kl := [54]) (K' := [(0, .recs (α := List UInt8) [] E_string v0), (3, .row 54)]) (L' := [(54, 9, [.rowc false (α := List UInt8) [] E_string (v3 ++ ([((v0)[Int.toNat o1]?.getD [])] : List (List UInt8)))])]) (by kernel_rfl) (by kernel_rfl) ?_
      refine To.pre (St.rename 54 1003 (by decide) (K' := [(0, .recs (α := List UInt8) [] E_string v0), (3, .row 1003)]) (L' := [(1003, 9, [.rowc false (α := List UInt8) [] E_string (v3 ++ ([((v0)[Int.toNat o1]?.getD [])] : List (List UInt8)))])]) (by kernel_rfl) (by kernel_rfl) (by kernel_rfl)) ?_
      refine To.keep (kk := [0, 3]) (kl := [1003]) (K' := [(0, .recs (α := List UInt8) [] E_string v0), (3, .row 1003)]) (L' := [(1003, 9, [.rowc false (α := List UInt8) [] E_string (v3 ++ ([((v0)[Int.toNat o1]?.getD [])] : List (List UInt8)))])]) (by kernel_rfl) (by kernel_rfl) ?_
      refine To.again ?_
      exact ih (v3 ++ ([((v0)[Int.toNat o1]?.getD [])] : List (List UInt8))) _ h hQ
def ref02_Sorted (n : Nat) (a0 : List (List UInt8)) : Option ((List (List UInt8))) :=
  (ref02_Sorted_l1 n a0 n ([] : List (List UInt8))).bind fun o1 =>
  some o1
theorem ok_ref02_Sorted (n : Nat) (a0 : List (List UInt8)) (r : (List (List UInt8))) (h : ref02_Sorted n a0 = some r) : CallsX Try.prog 16 [.recs (α := List UInt8) [] E_string a0] (.recs (α := List UInt8) [] E_string r) := by
  unfold ref02_Sorted at h
  refine callsX_of (fn := Try.f16) (by kernel_rfl) rfl (by kernel_rfl) (Nat.le_of_ble_eq_true (by kernel_rfl)) fun F0 w0 _ => ?_
  refine Wp.keep (kk := [0]) (kl := []) (K' := [(0, .recs (α := List UInt8) [] E_string a0)]) (L' := []) (by kernel_rfl) (by kernel_rfl) ?_
  refine Wp.seq ?_
  refine Wp.region hΓ [] [] [] [0] [] (K' := [(0, .recs (α := List UInt8) [] E_string a0)]) (L' := []) (ob := []) (by kernel_rfl) AllP.nil ?_
  refine To.thenN ?_
  refine Wp.seq ?_
  refine Wp.region hΓ [] [(0, .recs (α := List UInt8) [] E_string [])] [] [0, 3] [6] (K' := [(0, .recs (α := List UInt8) [] E_string a0), (3, .row 6)]) (L' := [(6, 9, [.rowc false (α := List UInt8) [] E_string []])]) (ob := [(MkOb 1 [] 0 (.recs (α := List UInt8) [] E_string []) ∧ GoodR (.recs (α := List UInt8) [] E_string []))]) (by kernel_rfl) (AllP.cons (mkOb (by kernel_rfl) rfl (by kernel_rfl) (good_E_string _)) AllP.nil) ?_
  refine To.thenN ?_
  refine Wp.block ?_
  obtain ⟨o1, ho1, h⟩ := bind_of h
  refine Wp.keep (kk := [0, 3]) (kl := [6]) (K' := [(0, .recs (α := List UInt8) [] E_string a0), (3, .row 6)]) (L' := [(6, 9, [.rowc false (α := List UInt8) [] E_string []])]) (by kernel_rfl) (by kernel_rfl) ?_
  refine Wp.pre (St.rename 6 1003 (by decide) (K' := [(0, .recs (α := List UInt8) [] E_string a0), (3, .row 1003)]) (L' := [(1003, 9, [.rowc false (α := List UInt8) [] E_string []])]) (by kernel_rfl) (by kernel_rfl) (by kernel_rfl)) ?_
  refine Wp.keep (kk := [0, 3]) (kl := [1003]) (K' := [(0, .recs (α := List UInt8) [] E_string a0), (3, .row 1003)]) (L' := [(1003, 9, [.rowc false (α := List UInt8) [] E_string []])]) (by kernel_rfl) (by kernel_rfl) ?_
  refine Wp.loopL ?_
  refine ok_ref02_Sorted_l1 n a0 n ([] : List (List UInt8)) o1 ho1 ?_
  refine To.blockR ?_
  refine To.keep (kk := [2]) (kl := [1002]) (K' := [(2, .row 1002)]) (L' := [(1002, 9, [.rowc false (α := List UInt8) [] E_string o1])]) (by kernel_rfl) (by kernel_rfl) ?_
  refine To.pre (St.settle (ks := [1002]) (kk := [2]) (kl := [1002]) (K' := [(2, .row 1002)]) (L' := [(1002, 9, [.rowc true (α := List UInt8) [] E_string o1])]) (by kernel_rfl)) ?_
  refine To.pre (St.sealK [2] (K' := [(2, .recs (α := List UInt8) [] E_string o1)]) (by kernel_rfl)) ?_
  refine To.keep (kk := [2]) (kl := []) (K' := [(2, .recs (α := List UInt8) [] E_string o1)]) (L' := []) (by kernel_rfl) (by kernel_rfl) ?_
  cases h
  exact To.done hΓ (by kernel_rfl)
def ref02_Same_l1 (n : Nat) (v0 : List (List UInt8)) (v1 : List (List UInt8)) : Nat → Int → Option (Sum (Unit) (Bool))
  | 0, _ => none
  | k + 1, v5 => if (decide (v5 < (List.length v0 : Int))) = true then (if (decide (0 ≤ v5 ∧ v5 < (List.length v0 : Int))) = true then (if (decide (0 ≤ v5 ∧ v5 < (List.length v1 : Int))) = true then (if (!(((v0)[Int.toNat v5]?.getD []) == ((v1)[Int.toNat v5]?.getD []))) = true then (some (.inr false))
  else (ref02_Same_l1 n v0 v1 k (IntKind.wrap .i64 (v5 + 1)))) else none) else none)
  else (some (.inl ()))
theorem ok_ref02_Same_l1 (n : Nat) (v0 : List (List UInt8)) (v1 : List (List UInt8)) {F0 : Fz} {w0 : Pt Try.prog} {Q : Exit → Act → World → Prop} (k : Nat) : ∀ (v5 : Int) (o : Sum (Unit) (Bool)), ref02_Same_l1 n v0 v1 k v5 = some o → (Sum.elim (fun s => To 26 F0 w0 [] [] (.exit 0) Q) (fun s => To 26 F0 w0 [(4, .val (.bool s))] [] .ret Q)) o → WL Try.prog 26 F0 w0 [(0, .recs (α := List UInt8) [] E_string v0), (1, .recs (α := List UInt8) [] E_string v1), (5, .val (.int .i64 v5))] [] (cI (cI (cB (cA (cB (cB (cF Try.f14))))))) Q := by
  induction k with
  | zero => intro v5 o h; cases h
  | succ k ih =>
    intro v5 o h hQ
    rw [ref02_Same_l1] at h
    refine WL.round ?_
    refine Wp.seq ?_
    refine Wp.seq ?_
    refine Wp.region hΓ [] [] [] [0, 1, 5, 14] [] (K' := [(0, .recs (α := List UInt8) [] E_string v0), (1, .recs (α := List UInt8) [] E_string v1), (5, .val (.int .i64 v5)), (14, .val (.bool (decide (v5 < (List.length v0 : Int)))))]) (L' := []) (ob := []) (by kernel_rfl) AllP.nil ?_
    refine To.thenN ?_
    refine Wp.cond (b := (decide (v5 < (List.length v0 : Int)))) (by kernel_rfl) (fun hb => ?_) (fun hb => ?_)
    · replace h := if_t hb h
      refine Wp.skip ?_
      refine To.thenN ?_
      refine Wp.seq ?_
      refine Wp.block ?_
      refine Wp.seq ?_
      obtain ⟨hc1, h⟩ := chk_of h
      obtain ⟨hc2, h⟩ := chk_of h
      refine Wp.regionD hm hΓ [] [0, 1, 5, 25] [] (K' := [(0, .recs (α := List UInt8) [] E_string v0), (1, .recs (α := List UInt8) [] E_string v1), (5, .val (.int .i64 v5)), (25, .val (.bool (!(((v0)[Int.toNat v5]?.getD []) == ((v1)[Int.toNat v5]?.getD [])))))]) (L' := []) (ob := [(decide (0 ≤ v5 ∧ v5 < (List.length v0 : Int))) = true, (decide (0 ≤ v5 ∧ v5 < (List.length v1 : Int))) = true]) (by kernel_rfl) (AllP.cons hc1 (AllP.cons hc2 AllP.nil)) ?_
      refine To.thenN ?_
      refine Wp.cond (b := (!(((v0)[Int.toNat v5]?.getD []) == ((v1)[Int.toNat v5]?.getD [])))) (by kernel_rfl) (fun hb => ?_) (fun hb => ?_)
      · replace h := if_t hb h
        refine Wp.seq ?_
        refine Wp.region hΓ [] [] [] [4] [] (K' := [(4, .val (.bool false))]) (L' := []) (ob := []) (by kernel_rfl) AllP.nil ?_
        refine To.thenN ?_
        refine Wp.ret ?_
        refine To.blockR ?_
        refine To.thenR ?_
        refine To.thenR ?_
        refine To.keep (kk := [4]) (kl := []) (K' := [(4, .val (.bool false))]) (L' := []) (by kernel_rfl) (by kernel_rfl) ?_
        cases h
        exact hQ
      · replace h := if_f hb h
        refine Wp.skip ?_
        refine To.blockN ?_
        refine To.thenN ?_
        refine Wp.region hΓ [] [] [] [0, 1, 5] [] (K' := [(0, .recs (α := List UInt8) [] E_string v0), (1, .recs (α := List UInt8) [] E_string v1), (5, .val (.int .i64 (IntKind.wrap .i64 (v5 + 1))))]) (L' := []) (ob := []) (by kernel_rfl) AllP.nil ?_
        refine To.keep (kk := [0, 1, 5]) (kl := []) (K' := [(0, .recs (α := List UInt8) [] E_string v0), (1, .recs (α := List UInt8) [] E_string v1), (5, .val (.int .i64 (IntKind.wrap .i64 (v5 + 1))))]) (L' := []) (by kernel_rfl) (by kernel_rfl) ?_
        refine To.again ?_
        exact ih (IntKind.wrap .i64 (v5 + 1)) _ h hQ
    · replace h := if_f hb h
      refine Wp.exit ?_
      refine To.thenX ?_
      refine To.thenX ?_
      refine To.keep (kk := []) (kl := []) (K' := []) (L' := []) (by kernel_rfl) (by kernel_rfl) ?_
      cases h
      exact hQ
def ref02_Same (n : Nat) (a0 : List (List UInt8)) (a1 : List (List UInt8)) : Option (Bool) :=
  if ((List.length a0 : Int) != (List.length a1 : Int)) = true then some false
  else ((ref02_Same_l1 n a0 a1 n 0).bind fun o1 =>
  (Sum.elim (fun o1 => some true) (fun o1 => some o1)) o1)
theorem ok_ref02_Same (n : Nat) (a0 : List (List UInt8)) (a1 : List (List UInt8)) (r : Bool) (h : ref02_Same n a0 a1 = some r) : CallsX Try.prog 14 [.recs (α := List UInt8) [] E_string a0, .recs (α := List UInt8) [] E_string a1] (.val (.bool r)) := by
  unfold ref02_Same at h
  refine callsX_of (fn := Try.f14) (by kernel_rfl) rfl (by kernel_rfl) (Nat.le_of_ble_eq_true (by kernel_rfl)) fun F0 w0 _ => ?_
  refine Wp.keep (kk := [0, 1]) (kl := []) (K' := [(0, .recs (α := List UInt8) [] E_string a0), (1, .recs (α := List UInt8) [] E_string a1)]) (L' := []) (by kernel_rfl) (by kernel_rfl) ?_
  refine Wp.seq ?_
  refine Wp.region hΓ [] [] [] [0, 1] [] (K' := [(0, .recs (α := List UInt8) [] E_string a0), (1, .recs (α := List UInt8) [] E_string a1)]) (L' := []) (ob := []) (by kernel_rfl) AllP.nil ?_
  refine To.thenN ?_
  refine Wp.seq ?_
  refine Wp.seq ?_
  refine Wp.region hΓ [] [] [] [0, 1, 10] [] (K' := [(0, .recs (α := List UInt8) [] E_string a0), (1, .recs (α := List UInt8) [] E_string a1), (10, .val (.bool ((List.length a0 : Int) != (List.length a1 : Int))))]) (L' := []) (ob := []) (by kernel_rfl) AllP.nil ?_
  refine To.thenN ?_
  refine Wp.cond (b := ((List.length a0 : Int) != (List.length a1 : Int))) (by kernel_rfl) (fun hb => ?_) (fun hb => ?_)
  · replace h := if_t hb h
    refine Wp.seq ?_
    refine Wp.region hΓ [] [] [] [4] [] (K' := [(4, .val (.bool false))]) (L' := []) (ob := []) (by kernel_rfl) AllP.nil ?_
    refine To.thenN ?_
    refine Wp.ret ?_
    refine To.thenR ?_
    refine To.keep (kk := [4]) (kl := []) (K' := [(4, .val (.bool false))]) (L' := []) (by kernel_rfl) (by kernel_rfl) ?_
    cases h
    exact To.done hΓ (by kernel_rfl)
  · replace h := if_f hb h
    refine Wp.skip ?_
    refine To.thenN ?_
    refine Wp.seq ?_
    refine Wp.seq ?_
    refine Wp.region hΓ [] [] [] [0, 1, 5] [] (K' := [(0, .recs (α := List UInt8) [] E_string a0), (1, .recs (α := List UInt8) [] E_string a1), (5, .val (.int .i64 0))]) (L' := []) (ob := []) (by kernel_rfl) AllP.nil ?_
    refine To.thenN ?_
    refine Wp.block ?_
    obtain ⟨o1, ho1, h⟩ := bind_of h
    refine Wp.keep (kk := [0, 1, 5]) (kl := []) (K' := [(0, .recs (α := List UInt8) [] E_string a0), (1, .recs (α := List UInt8) [] E_string a1), (5, .val (.int .i64 0))]) (L' := []) (by kernel_rfl) (by kernel_rfl) ?_
    refine Wp.loopL ?_
    refine ok_ref02_Same_l1 n a0 a1 n 0 o1 ho1 ?_
    rcases o1 with o1 | o1
    · replace h := sum_l h
      refine To.blockX ?_
      refine To.thenN ?_
      refine Wp.seq ?_
      refine Wp.region hΓ [] [] [] [4] [] (K' := [(4, .val (.bool true))]) (L' := []) (ob := []) (by kernel_rfl) AllP.nil ?_
      refine To.thenN ?_
      refine Wp.ret ?_
      refine To.keep (kk := [4]) (kl := []) (K' := [(4, .val (.bool true))]) (L' := []) (by kernel_rfl) (by kernel_rfl) ?_
      cases h
      exact To.done hΓ (by kernel_rfl)
    · replace h := sum_r h
      refine To.blockR ?_
      refine To.thenR ?_
      refine To.keep (kk := [4]) (kl := []) (K' := [(4, .val (.bool o1))]) (L' := []) (by kernel_rfl) (by kernel_rfl) ?_
      cases h
      exact To.done hΓ (by kernel_rfl)
def E_Lstring : List (List UInt8) → List D := fun x => [.recs (α := List UInt8) [] E_string x]
def slices_Concat_string_string_j2 (n : Nat) (v0 : List (List (List UInt8))) (v3 : Int) (v9 : List (List (List UInt8))) (v10 : Int) (v11 : Int) : Option (Int) :=
  if (decide (0 ≤ v11 ∧ v11 < (List.length v9 : Int))) = true then (if (decide ((IntKind.wrap .i64 (v3 + (List.length ((v9)[Int.toNat v11]?.getD []) : Int))) < 0)) = true then none
  else (some (IntKind.wrap .i64 (v3 + (List.length ((v9)[Int.toNat v11]?.getD []) : Int))))) else none
theorem ok_slices_Concat_string_string_j2 (n : Nat) (v0 : List (List (List UInt8))) (v3 : Int) (v9 : List (List (List UInt8))) (v10 : Int) (v11 : Int) (o : Int) (h : slices_Concat_string_string_j2 n v0 v3 v9 v10 v11 = some o) {F0 : Fz} {w0 : Pt Try.prog} {Q : Exit → Act → World → Prop} (hQ : To 36 F0 w0 [(0, .recs (α := List (List UInt8)) [] E_Lstring v0), (3, .val (.int .i64 o)), (9, .recs (α := List (List UInt8)) [] E_Lstring v9), (10, .val (.int .i64 v10)), (11, .val (.int .i64 v11))] [] .normal Q) : Wp Try.prog 36 F0 w0 [(0, .recs (α := List (List UInt8)) [] E_Lstring v0), (3, .val (.int .i64 v3)), (9, .recs (α := List (List UInt8)) [] E_Lstring v9), (10, .val (.int .i64 v10)), (11, .val (.int .i64 v11))] [] (cA (cB (cB (cI (cI (cB (cA (cB (cB (cF Try.f39)))))))))) Q := by
  unfold slices_Concat_string_string_j2 at h
  refine Wp.block ?_
  refine Wp.seq ?_
  obtain ⟨hc1, h⟩ := chk_of h
  refine Wp.region hΓ [] [] [] [0, 3, 5, 9, 10, 11] [] (K' := [(0, .recs (α := List (List UInt8)) [] E_Lstring v0), (3, .val (.int .i64 v3)), (5, .recs (α := List UInt8) [] E_string ((v9)[Int.toNat v11]?.getD [])), (9, .recs (α := List (List UInt8)) [] E_Lstring v9), (10, .val (.int .i64 v10)), (11, .val (.int .i64 v11))]) (L' := []) (ob := [(decide (0 ≤ v11 ∧ v11 < (List.length v9 : Int))) = true]) (by kernel_rfl) (AllP.cons hc1 AllP.nil) ?_
  refine To.thenN ?_
  refine Wp.seq ?_
  refine Wp.region hΓ [] [] [] [0, 3, 9, 10, 11] [] (K' := [(0, .recs (α := List (List UInt8)) [] E_Lstring v0), (3, .val (.int .i64 (IntKind.wrap .i64 (v3 + (List.length ((v9)[Int.toNat v11]?.getD []) : Int))))), (9, .recs (α := List (List UInt8)) [] E_Lstring v9), (10, .val (.int .i64 v10)), (11, .val (.int .i64 v11))]) (L' := []) (ob := []) (by kernel_rfl) AllP.nil ?_
  refine To.thenN ?_
  refine Wp.seq ?_
  refine Wp.region hΓ [] [] [] [0, 3, 9, 10, 11, 20] [] (K' := [(0, .recs (α := List (List UInt8)) [] E_Lstring v0), (3, .val (.int .i64 (IntKind.wrap .i64 (v3 + (List.length ((v9)[Int.toNat v11]?.getD []) : Int))))), (9, .recs (α := List (List UInt8)) [] E_Lstring v9), (10, .val (.int .i64 v10)), (11, .val (.int .i64 v11)), (20, .val (.bool (decide ((IntKind.wrap .i64 (v3 + (List.length ((v9)[Int.toNat v11]?.getD []) : Int))) < 0))))]) (L' := []) (ob := []) (by kernel_rfl) AllP.nil ?_
  refine To.thenN ?_
  refine Wp.cond (b := (decide ((IntKind.wrap .i64 (v3 + (List.length ((v9)[Int.toNat v11]?.getD []) : Int))) < 0))) (by kernel_rfl) (fun hb => ?_) (fun hb => ?_)
  · replace h := if_t hb h
    cases h
  · replace h := if_f hb h
    refine Wp.skip ?_
    refine To.blockN ?_
    refine To.keep (kk := [0, 3, 9, 10, 11]) (kl := []) (K' := [(0, .recs (α := List (List UInt8)) [] E_Lstring v0), (3, .val (.int .i64 (IntKind.wrap .i64 (v3 + (List.length ((v9)[Int.toNat v11]?.getD []) : Int))))), (9, .recs (α := List (List UInt8)) [] E_Lstring v9), (10, .val (.int .i64 v10)), (11, .val (.int .i64 v11))]) (L' := []) (by kernel_rfl) (by kernel_rfl) ?_
    cases h
    exact hQ
def slices_Concat_string_string_l1 (n : Nat) (v0 : List (List (List UInt8))) (v9 : List (List (List UInt8))) (v10 : Int) : Nat → Int → Int → Option (Int)
  | 0, _, _ => none
  | k + 1, v3, v11 => if (decide (v11 < v10)) = true then ((slices_Concat_string_string_j2 n v0 v3 v9 v10 v11).bind fun o1 =>
  slices_Concat_string_string_l1 n v0 v9 v10 k o1 (IntKind.wrap .i64 (v11 + 1)))
  else some v3
theorem ok_slices_Concat_string_string_l1 (n : Nat) (v0 : List (List (List UInt8))) (v9 : List (List (List UInt8))) (v10 : Int) {F0 : Fz} {w0 : Pt Try.prog} {Q : Exit → Act → World → Prop} (k : Nat) : ∀ (v3 : Int) (v11 : Int) (o : Int), slices_Concat_string_string_l1 n v0 v9 v10 k v3 v11 = some o → To 36 F0 w0 [(0, .recs (α := List (List UInt8)) [] E_Lstring v0), (3, .val (.int .i64 o))] [] (.exit 0) Q → WL Try.prog 36 F0 w0 [(0, .recs (α := List (List UInt8)) [] E_Lstring v0), (3, .val (.int .i64 v3)), (9, .recs (α := List (List UInt8)) [] E_Lstring v9), (10, .val (.int .i64 v10)), (11, .val (.int .i64 v11))] [] (cI (cI (cB (cA (cB (cB (cF Try.f39))))))) Q := by
  induction k with
  | zero => intro v3 v11 o h; cases h
  | succ k ih =>
    intro v3 v11 o h hQ
    rw [slices_Concat_string_string_l1] at h
    refine WL.round ?_
    refine Wp.seq ?_
    refine Wp.region hΓ [] [] [] [0, 3, 9, 10, 11, 12] [] (K' := [(0, .recs (α := List (List UInt8)) [] E_Lstring v0), (3, .val (.int .i64 v3)), (9, .recs (α := List (List UInt8)) [] E_Lstring v9), (10, .val (.int .i64 v10)), (11, .val (.int .i64 v11)), (12, .val (.bool (decide (v11 < v10))))]) (L' := []) (ob := []) (by kernel_rfl) AllP.nil ?_
    refine To.thenN ?_
    refine Wp.seq ?_
    refine Wp.cond (b := (decide (v11 < v10))) (by kernel_rfl) (fun hb => ?_) (fun hb => ?_)
    · replace h := if_t hb h
      refine Wp.skip ?_
      refine To.thenN ?_
      refine Wp.seq ?_
      obtain ⟨o1, ho1, h⟩ := bind_of h
      refine Wp.keep (kk := [0, 3, 9, 10, 11]) (kl := []) (K' := [(0, .recs (α := List (List UInt8)) [] E_Lstring v0), (3, .val (.int .i64 v3)), (9, .recs (α := List (List UInt8)) [] E_Lstring v9), (10, .val (.int .i64 v10)), (11, .val (.int .i64 v11))]) (L' := []) (by kernel_rfl) (by kernel_rfl) ?_
      refine ok_slices_Concat_string_string_j2 n v0 v3 v9 v10 v11 o1 ho1 ?_
      refine To.thenN ?_
      refine Wp.region hΓ [] [] [] [0, 3, 9, 10, 11] [] (K' := [(0, .recs (α := List (List UInt8)) [] E_Lstring v0), (3, .val (.int .i64 o1)), (9, .recs (α := List (List UInt8)) [] E_Lstring v9), (10, .val (.int .i64 v10)), (11, .val (.int .i64 (IntKind.wrap .i64 (v11 + 1))))]) (L' := []) (ob := []) (by kernel_rfl) AllP.nil ?_
      refine To.keep (kk := [0, 3, 9, 10, 11]) (kl := []) (K' := [(0, .recs (α := List (List UInt8)) [] E_Lstring v0), (3, .val (.int .i64 o1)), (9, .recs (α := List (List UInt8)) [] E_Lstring v9), (10, .val (.int .i64 v10)), (11, .val (.int .i64 (IntKind.wrap .i64 (v11 + 1))))]) (L' := []) (by kernel_rfl) (by kernel_rfl) ?_
      refine To.again ?_
      exact ih o1 (IntKind.wrap .i64 (v11 + 1)) _ h hQ
    · replace h := if_f hb h
      refine Wp.exit ?_
      refine To.thenX ?_
      refine To.thenX ?_
      refine To.keep (kk := [0, 3]) (kl := []) (K' := [(0, .recs (α := List (List UInt8)) [] E_Lstring v0), (3, .val (.int .i64 v3))]) (L' := []) (by kernel_rfl) (by kernel_rfl) ?_
      cases h
      exact hQ
def slices_Concat_string_string_l3 (n : Nat) (v25 : List (List (List UInt8))) (v26 : Int) : Nat → (List (List UInt8)) → Int → Option ((List (List UInt8)))
  | 0, _, _ => none
  | k + 1, v6, v27 => if (decide (v27 < v26)) = true then (if (decide (0 ≤ v27 ∧ v27 < (List.length v25 : Int))) = true then (if (decide ((List.length v6 + List.length ((v25)[Int.toNat v27]?.getD [])) * (16 + 1) ≤ limit)) = true then (slices_Concat_string_string_l3 n v25 v26 k (v6 ++ ((v25)[Int.toNat v27]?.getD [])) (IntKind.wrap .i64 (v27 + 1))) else none) else none)
  else some v6
theorem ok_slices_Concat_string_string_l3 (n : Nat) (v25 : List (List (List UInt8))) (v26 : Int) {F0 : Fz} {w0 : Pt Try.prog} {Q : Exit → Act → World → Prop} (k : Nat) : ∀ (v6 : List (List UInt8)) (v27 : Int) (o : (List (List UInt8))), slices_Concat_string_string_l3 n v25 v26 k v6 v27 = some o → To 36 F0 w0 [(6, .row 1006)] [(1006, 9, [.rowc false (α := List UInt8) [] E_string o])] (.exit 2) Q → WL Try.prog 36 F0 w0 [(6, .row 1006), (25, .recs (α := List (List UInt8)) [] E_Lstring v25), (26, .val (.int .i64 v26)), (27, .val (.int .i64 v27))] [(1006, 9, [.rowc false (α := List UInt8) [] E_string v6])] (cI (cI (cB (cA (cB (cB (cB (cB (cF Try.f39))))))))) Q := by
  induction k with
  | zero => intro v6 v27 o h; cases h
  | succ k ih =>
    intro v6 v27 o h hQ
    rw [slices_Concat_string_string_l3] at h
    refine WL.round ?_
    refine Wp.seq ?_
    refine Wp.region hΓ [] [] [] [6, 25, 26, 27, 28] [1006] (K' := [(6, .row 1006), (25, .recs (α := List (List UInt8)) [] E_Lstring v25), (26, .val (.int .i64 v26)), (27, .val (.int .i64 v27)), (28, .val (.bool (decide (v27 < v26))))]) (L' := [(1006, 9, [.rowc false (α := List UInt8) [] E_string v6])]) (ob := []) (by kernel_rfl) AllP.nil ?_
    refine To.thenN ?_
    refine Wp.seq ?_
    refine Wp.cond (b := (decide (v27 < v26))) (by kernel_rfl) (fun hb => ?_) (fun hb => ?_)
    · replace h := if_t hb h
      refine Wp.skip ?_
      refine To.thenN ?_
      refine Wp.seq ?_
      refine Wp.block ?_
      refine Wp.seq ?_
      obtain ⟨hc4, h⟩ := chk_of h
      refine Wp.region hΓ [] [] [] [6, 8, 25, 26, 27] [1006] (K' := [(6, .row 1006), (8, .recs (α := List UInt8) [] E_string ((v25)[Int.toNat v27]?.getD [])), (25, .recs (α := List (List UInt8)) [] E_Lstring v25), (26, .val (.int .i64 v26)), (27, .val (.int .i64 v27))]) (L' := [(1006, 9, [.rowc false (α := List UInt8) [] E_string v6])]) (ob := [(decide (0 ≤ v27 ∧ v27 < (List.length v25 : Int))) = true]) (by kernel_rfl) (AllP.cons hc4 AllP.nil) ?_
      refine To.thenN ?_
      obtain ⟨hc3, h⟩ := chk_of h
      refine Wp.region hΓ [] [(2, .recs (α := List UInt8) [] E_string (v6 ++ ((v25)[Int.toNat v27]?.getD [])))] [] [6, 25, 26, 27] [33] (K' := [(6, .row 33), (25, .recs (α := List (List UInt8)) [] E_Lstring v25), (26, .val (.int .i64 v26)), (27, .val (.int .i64 v27))]) (L' := [(33, 9, [.rowc false (α := List UInt8) [] E_string (v6 ++ ((v25)[Int.toNat v27]?.getD []))])]) (ob := [(decide ((List.length v6 + List.length ((v25)[Int.toNat v27]?.getD [])) * (16 + 1) ≤ limit)) = true, (AppOb [] E_string v6 (List.flatMap E_string ((v25)[Int.toNat v27]?.getD [])) (List.length ((v25)[Int.toNat v27]?.getD [])) (.recs (α := List UInt8) [] E_string (v6 ++ ((v25)[Int.toNat v27]?.getD []))) ∧ GoodR (.recs (α := List UInt8) [] E_string (v6 ++ ((v25)[Int.toNat v27]?.getD []))))]) (by kernel_rfl) (AllP.cons hc3 (AllP.cons (appOb rfl rfl (good_E_string _)) AllP.nil)) ?_
      refine To.blockN ?_
      refine To.thenN ?_
      refine Wp.region hΓ [] [] [] [6, 25, 26, 27] [33] (K' := [(6, .row 33), (25, .recs (α := List (List UInt8)) [] E_Lstring v25), (26, .val (.int .i64 v26)), (27, .val (.int .i64 (IntKind.wrap .i64 (v27 + 1))))]) (L' := [(33, 9, [.rowc false (α := List UInt8) [] E_string (v6 ++ ((v25)[Int.toNat v27]?.getD []))])]) (ob := []) (by kernel_rfl) AllP.nil ?_
      refine To.keep (kk := [6, 25, 26, 27]) (kl := [33]) (K' := [(6, .row 33), (25, .recs (α := List (List UInt8)) [] E_Lstring v25), (26, .val (.int .i64 v26)), (27, .val (.int .i64 (IntKind.wrap .i64 (v27 + 1))))]) (L' := [(33, 9, [.rowc false (α := List UInt8) [] E_string (v6 ++ ((v25)[Int.toNat v27]?.getD []))])]) (by kernel_rfl) (by kernel_rfl) ?_
      refine To.pre (St.rename 33 1006 (by decide) (K' := [(6, .row 1006), (25, .recs (α := List (List UInt8)) [] E_Lstring v25), (26, .val (.int .i64 v26)), (27, .val (.int .i64 (IntKind.wrap .i64 (v27 + 1))))]) (L' := [(1006, 9, [.rowc false (α := List UInt8) [] E_string (v6 ++ ((v25)[Int.toNat v27]?.getD []))])]) (by kernel_rfl) (by kernel_rfl) (by kernel_rfl)) ?_
      refine To.keep (kk := [6, 25, 26, 27]) (kl := [1006]) (K' := [(6, .row 1006), (25, .recs (α := List (List UInt8)) [] E_Lstring v25), (26, .val (.int .i64 v26)), (27, .val (.int .i64 (IntKind.wrap .i64 (v27 + 1))))]) (L' := [(1006, 9, [.rowc false (α := List UInt8) [] E_string (v6 ++ ((v25)[Int.toNat v27]?.getD []))])]) (by kernel_rfl) (by kernel_rfl) ?_
      refine To.again ?_
      exact ih (v6 ++ ((v25)[Int.toNat v27]?.getD [])) (IntKind.wrap .i64 (v27 + 1)) _ h hQ
    · replace h := if_f hb h
      refine Wp.exit ?_
      refine To.thenX ?_
      refine To.thenX ?_
      refine To.keep (kk := [6]) (kl := [1006]) (K' := [(6, .row 1006)]) (L' := [(1006, 9, [.rowc false (α := List UInt8) [] E_string v6])]) (by kernel_rfl) (by kernel_rfl) ?_
      cases h
      exact hQ
def slices_Concat_string_string (n : Nat) (a0 : List (List (List UInt8))) : Option ((List (List UInt8))) :=
  (slices_Concat_string_string_l1 n a0 a0 (List.length a0 : Int) n 0 0).bind fun o1 =>
  if (decide (0 ≤ o1 ∧ o1 * 17 ≤ (limit : Int))) = true then ((slices_Concat_string_string_l3 n a0 (List.length a0 : Int) n ([] : List (List UInt8)) 0).bind fun o3 =>
  some o3) else none
theorem ok_slices_Concat_string_string (n : Nat) (a0 : List (List (List UInt8))) (r : (List (List UInt8))) (h : slices_Concat_string_string n a0 = some r) : CallsX Try.prog 39 [.recs (α := List (List UInt8)) [] E_Lstring a0] (.recs (α := List UInt8) [] E_string r) := by
  unfold slices_Concat_string_string at h
  refine callsX_of (fn := Try.f39) (by kernel_rfl) rfl (by kernel_rfl) (Nat.le_of_ble_eq_true (by kernel_rfl)) fun F0 w0 _ => ?_
  refine Wp.keep (kk := [0]) (kl := []) (K' := [(0, .recs (α := List (List UInt8)) [] E_Lstring a0)]) (L' := []) (by kernel_rfl) (by kernel_rfl) ?_
  refine Wp.seq ?_
  refine Wp.region hΓ [] [] [] [0] [] (K' := [(0, .recs (α := List (List UInt8)) [] E_Lstring a0)]) (L' := []) (ob := []) (by kernel_rfl) AllP.nil ?_
  refine To.thenN ?_
  refine Wp.seq ?_
  refine Wp.region hΓ [] [] [] [0, 3] [] (K' := [(0, .recs (α := List (List UInt8)) [] E_Lstring a0), (3, .val (.int .i64 0))]) (L' := []) (ob := []) (by kernel_rfl) AllP.nil ?_
  refine To.thenN ?_
  refine Wp.seq ?_
  refine Wp.seq ?_
  refine Wp.region hΓ [] [] [] [0, 3, 9, 10, 11] [] (K' := [(0, .recs (α := List (List UInt8)) [] E_Lstring a0), (3, .val (.int .i64 0)), (9, .recs (α := List (List UInt8)) [] E_Lstring a0), (10, .val (.int .i64 (List.length a0 : Int))), (11, .val (.int .i64 0))]) (L' := []) (ob := []) (by kernel_rfl) AllP.nil ?_
  refine To.thenN ?_
  refine Wp.block ?_
  obtain ⟨o1, ho1, h⟩ := bind_of h
  refine Wp.keep (kk := [0, 3, 9, 10, 11]) (kl := []) (K' := [(0, .recs (α := List (List UInt8)) [] E_Lstring a0), (3, .val (.int .i64 0)), (9, .recs (α := List (List UInt8)) [] E_Lstring a0), (10, .val (.int .i64 (List.length a0 : Int))), (11, .val (.int .i64 0))]) (L' := []) (by kernel_rfl) (by kernel_rfl) ?_
  refine Wp.loopL ?_
  refine ok_slices_Concat_string_string_l1 n a0 a0 (List.length a0 : Int) n 0 0 o1 ho1 ?_
  refine To.blockX ?_
  refine To.thenN ?_
  refine Wp.seq ?_
  obtain ⟨u2, h⟩ := chk_of h
  refine Wp.region hΓ [] [] [(1, ⟨[], [(1, 24)], [.val (.slice none 0 0), .val (.int .i64 o1)], [], .row 1, [(1, 9, [.rowc false (α := List UInt8) [] E_string []])]⟩)] [0, 6] [24] (K' := [(0, .recs (α := List (List UInt8)) [] E_Lstring a0), (6, .row 24)]) (L' := [(24, 9, [.rowc false (α := List UInt8) [] E_string []])]) (ob := [CbOb (CallsB Try.prog) 45 [.val (.slice none 0 0), .val (.int .i64 o1)] [] ⟨[], [(1, 24)], [.val (.slice none 0 0), .val (.int .i64 o1)], [], .row 1, [(1, 9, [.rowc false (α := List UInt8) [] E_string []])]⟩]) (by kernel_rfl) (AllP.cons (⟨Sh.grow45 u2, by kernel_rfl, by kernel_rfl⟩) AllP.nil) ?_
  refine To.thenN ?_
  refine Wp.seq ?_
  refine Wp.seq ?_
  refine Wp.region hΓ [] [] [] [6, 25, 26, 27] [24] (K' := [(6, .row 24), (25, .recs (α := List (List UInt8)) [] E_Lstring a0), (26, .val (.int .i64 (List.length a0 : Int))), (27, .val (.int .i64 0))]) (L' := [(24, 9, [.rowc false (α := List UInt8) [] E_string []])]) (ob := []) (by kernel_rfl) AllP.nil ?_
  refine To.thenN ?_
  refine Wp.block ?_
  obtain ⟨o3, ho3, h⟩ := bind_of h
  refine Wp.keep (kk := [6, 25, 26, 27]) (kl := [24]) (K' := [(6, .row 24), (25, .recs (α := List (List UInt8)) [] E_Lstring a0), (26, .val (.int .i64 (List.length a0 : Int))), (27, .val (.int .i64 0))]) (L' := [(24, 9, [.rowc false (α := List UInt8) [] E_string []])]) (by kernel_rfl) (by kernel_rfl) ?_
  refine Wp.pre (St.rename 24 1006 (by decide) (K' := [(6, .row 1006), (25, .recs (α := List (List UInt8)) [] E_Lstring a0), (26, .val (.int .i64 (List.length a0 : Int))), (27, .val (.int .i64 0))]) (L' := [(1006, 9, [.rowc false (α := List UInt8) [] E_string []])]) (by kernel_rfl) (by kernel_rfl) (by kernel_rfl)) ?_
  refine Wp.keep (kk := [6, 25, 26, 27]) (kl := [1006]) (K' := [(6, .row 1006), (25, .recs (α := List (List UInt8)) [] E_Lstring a0), (26, .val (.int .i64 (List.length a0 : Int))), (27, .val (.int .i64 0))]) (L' := [(1006, 9, [.rowc false (α := List UInt8) [] E_string []])]) (by kernel_rfl) (by kernel_rfl) ?_
  refine Wp.loopL ?_
  refine ok_slices_Concat_string_string_l3 n a0 (List.length a0 : Int) n ([] : List (List UInt8)) 0 o3 ho3 ?_
  refine To.blockX ?_
  refine To.thenN ?_
  refine Wp.seq ?_
  refine Wp.region hΓ [] [] [] [2] [1006] (K' := [(2, .row 1006)]) (L' := [(1006, 9, [.rowc false (α := List UInt8) [] E_string o3])]) (ob := []) (by kernel_rfl) AllP.nil ?_
  refine To.thenN ?_
  refine Wp.ret ?_
  refine To.keep (kk := [2]) (kl := [1006]) (K' := [(2, .row 1006)]) (L' := [(1006, 9, [.rowc false (α := List UInt8) [] E_string o3])]) (by kernel_rfl) (by kernel_rfl) ?_
  refine To.pre (St.settle (ks := [1006]) (kk := [2]) (kl := [1006]) (K' := [(2, .row 1006)]) (L' := [(1006, 9, [.rowc true (α := List UInt8) [] E_string o3])]) (by kernel_rfl)) ?_
  refine To.pre (St.sealK [2] (K' := [(2, .recs (α := List UInt8) [] E_string o3)]) (by kernel_rfl)) ?_
  refine To.keep (kk := [2]) (kl := []) (K' := [(2, .recs (α := List UInt8) [] E_string o3)]) (L' := []) (by kernel_rfl) (by kernel_rfl) ?_
  cases h
  exact To.done hΓ (by kernel_rfl)
theorem good_E_Lstring (l : List (List (List UInt8))) : GoodR (.recs [] E_Lstring l) := ⟨Nat.le_of_ble_eq_true (by kernel_rfl), fun _ => ⟨rfl, rfl⟩⟩
def name_Both (n : Nat) (a0 : List (List UInt8)) (a1 : List (List UInt8)) : Option ((List (List UInt8))) :=
  (slices_Concat_string_string n [a0, a1]).bind fun r1 =>
  (name_Sorted n r1).bind fun r2 =>
  some r2
theorem ok_name_Both (n : Nat) (a0 : List (List UInt8)) (a1 : List (List UInt8)) (r : (List (List UInt8))) (h : name_Both n a0 a1 = some r) : CallsX Try.prog 17 [.recs (α := List UInt8) [] E_string a0, .recs (α := List UInt8) [] E_string a1] (.recs (α := List UInt8) [] E_string r) := by
  unfold name_Both at h
  refine callsX_of (fn := Try.f17) (by kernel_rfl) rfl (by kernel_rfl) (Nat.le_of_ble_eq_true (by kernel_rfl)) fun F0 w0 _ => ?_
  refine Wp.keep (kk := [0, 1]) (kl := []) (K' := [(0, .recs (α := List UInt8) [] E_string a0), (1, .recs (α := List UInt8) [] E_string a1)]) (L' := []) (by kernel_rfl) (by kernel_rfl) ?_
  refine Wp.seq ?_
  refine Wp.region hΓ [] [] [] [0, 1] [] (K' := [(0, .recs (α := List UInt8) [] E_string a0), (1, .recs (α := List UInt8) [] E_string a1)]) (L' := []) (ob := []) (by kernel_rfl) AllP.nil ?_
  refine To.thenN ?_
  refine Wp.seq ?_
  obtain ⟨r1, hr1, h⟩ := bind_of h
  obtain ⟨r2, hr2, h⟩ := bind_of h
  refine Wp.region hΓ [(3, [7])] [(2, .recs (α := List (List UInt8)) [] E_Lstring [a0, a1]), (3, .recs (α := List UInt8) [] E_string r1), (4, .recs (α := List UInt8) [] E_string r2)] [] [4] [] (K' := [(4, .recs (α := List UInt8) [] E_string r2)]) (L' := []) (ob := [(MkOb 1 [.recs (α := List UInt8) [] E_string a0, .recs (α := List UInt8) [] E_string a1] 2 (.recs (α := List (List UInt8)) [] E_Lstring [a0, a1]) ∧ GoodR (.recs (α := List (List UInt8)) [] E_Lstring [a0, a1])), (true = true → CX Try.prog 39 [.recs (α := List (List UInt8)) [] E_Lstring [a0, a1]] (.recs (α := List UInt8) [] E_string r1)), (true = true → CX Try.prog 15 [.recs (α := List UInt8) [] E_string r1] (.recs (α := List UInt8) [] E_string r2))]) (by kernel_rfl) (AllP.cons (mkOb (by kernel_rfl) rfl (by kernel_rfl) (good_E_Lstring _)) (AllP.cons (fun _ => cx (ok_slices_Concat_string_string n [a0, a1] _ hr1)) (AllP.cons (fun _ => cx (ok_name_Sorted n r1 _ hr2)) AllP.nil))) ?_
  refine To.thenN ?_
  refine Wp.ret ?_
  refine To.keep (kk := [4]) (kl := []) (K' := [(4, .recs (α := List UInt8) [] E_string r2)]) (L' := []) (by kernel_rfl) (by kernel_rfl) ?_
  cases h
  exact To.done hΓ (by kernel_rfl)
def ref02_Both_l1 (n : Nat) (v0 : List (List UInt8)) (v1 : List (List UInt8)) : Nat → (List (List UInt8)) → Int → Option ((List (List UInt8)))
  | 0, _, _ => none
  | k + 1, v5, v6 => if (decide (v6 < (List.length v0 : Int))) = true then (if (decide (0 ≤ v6 ∧ v6 < (List.length v0 : Int))) = true then (if (decide ((List.length v5 + List.length ([((v0)[Int.toNat v6]?.getD [])] : List (List UInt8))) * (16 + 1) ≤ limit)) = true then (ref02_Both_l1 n v0 v1 k (v5 ++ ([((v0)[Int.toNat v6]?.getD [])] : List (List UInt8))) (IntKind.wrap .i64 (v6 + 1))) else none) else none)
  else some v5
theorem ok_ref02_Both_l1 (n : Nat) (v0 : List (List UInt8)) (v1 : List (List UInt8)) {F0 : Fz} {w0 : Pt Try.prog} {Q : Exit → Act → World → Prop} (k : Nat) : ∀ (v5 : List (List UInt8)) (v6 : Int) (o : (List (List UInt8))), ref02_Both_l1 n v0 v1 k v5 v6 = some o → To 37 F0 w0 [(1, .recs (α := List UInt8) [] E_string v1), (5, .row 1005)] [(1005, 9, [.rowc false (α := List UInt8) [] E_string o])] (.exit 0) Q → WL Try.prog 37 F0 w0 [(0, .recs (α := List UInt8) [] E_string v0), (1, .recs (α := List UInt8) [] E_string v1), (5, .row 1005), (6, .val (.int .i64 v6))] [(1005, 9, [.rowc false (α := List UInt8) [] E_string v5])] (cI (cI (cB (cA (cB (cB (cF Try.f18))))))) Q := by
  induction k with
  | zero => intro v5 v6 o h; cases h
  | succ k ih =>
    intro v5 v6 o h hQ
    rw [ref02_Both_l1] at h
    refine WL.round ?_
    refine Wp.seq ?_
    refine Wp.seq ?_
    refine Wp.region hΓ [] [] [] [0, 1, 5, 6, 12] [1005] (K' := [(0, .recs (α := List UInt8) [] E_string v0), (1, .recs (α := List UInt8) [] E_string v1), (5, .row 1005), (6, .val (.int .i64 v6)), (12, .val (.bool (decide (v6 < (List.length v0 : Int)))))]) (L' := [(1005, 9, [.rowc false (α := List UInt8) [] E_string v5])]) (ob := []) (by kernel_rfl) AllP.nil ?_
    refine To.thenN ?_
    refine Wp.cond (b := (decide (v6 < (List.length v0 : Int)))) (by kernel_rfl) (fun hb => ?_) (fun hb => ?_)
    · replace h := if_t hb h
      refine Wp.skip ?_
      refine To.thenN ?_
      refine Wp.seq ?_
      refine Wp.block ?_
      obtain ⟨hc1, h⟩ := chk_of h
      obtain ⟨hc2, h⟩ := chk_of h
      refine Wp.region hΓ [] [(5, .recs (α := List UInt8) [] E_string ([((v0)[Int.toNat v6]?.getD [])])), (6, .recs (α := List UInt8) [] E_string (v5 ++ ([((v0)[Int.toNat v6]?.getD [])] : List (List UInt8))))] [] [0, 1, 5, 6] [21] (K' := [(0, .recs (α := List UInt8) [] E_string v0), (1, .recs (α := List UInt8) [] E_string v1), (5, .row 21), (6, .val (.int .i64 v6))]) (L' := [(21, 9, [.rowc false (α := List UInt8) [] E_string (v5 ++ ([((v0)[Int.toNat v6]?.getD [])] : List (List UInt8)))])]) (ob := [(decide (0 ≤ v6 ∧ v6 < (List.length v0 : Int))) = true, (MkOb 1 [.str ((v0)[Int.toNat v6]?.getD [])] 1 (.recs (α := List UInt8) [] E_string ([((v0)[Int.toNat v6]?.getD [])])) ∧ GoodR (.recs (α := List UInt8) [] E_string ([((v0)[Int.toNat v6]?.getD [])]))), (decide ((List.length v5 + List.length ([((v0)[Int.toNat v6]?.getD [])] : List (List UInt8))) * (16 + 1) ≤ limit)) = true, (AppOb [] E_string v5 (List.flatMap E_string ([((v0)[Int.toNat v6]?.getD [])] : List (List UInt8))) (List.length ([((v0)[Int.toNat v6]?.getD [])] : List (List UInt8))) (.recs (α := List UInt8) [] E_string (v5 ++ ([((v0)[Int.toNat v6]?.getD [])] : List (List UInt8)))) ∧ GoodR (.recs (α := List UInt8) [] E_string (v5 ++ ([((v0)[Int.toNat v6]?.getD [])] : List (List UInt8)))))]) (by kernel_rfl) (AllP.cons hc1 (AllP.cons (mkOb (by kernel_rfl) rfl (by kernel_rfl) (good_E_string _)) (AllP.cons hc2 (AllP.cons (appOb rfl rfl (good_E_string _)) AllP.nil)))) ?_
      refine To.blockN ?_
      refine To.thenN ?_
      refine Wp.region hΓ [] [] [] [0, 1, 5, 6] [21] (K' := [(0, .recs (α := List UInt8) [] E_string v0), (1, .recs (α := List UInt8) [] E_string v1), (5, .row 21), (6, .val (.int .i64 (IntKind.wrap .i64 (v6 + 1))))]) (L' := [(21, 9, [.rowc false (α := List UInt8) [] E_string (v5 ++ ([((v0)[Int.toNat v6]?.getD [])] : List (List UInt8)))])]) (ob := []) (by kernel_rfl) AllP.nil ?_
      refine To.keep (kk := [0, 1, 5, 6]) (kl := [21]) (K' := [(0, .recs (α := List UInt8) [] E_string v0), (1, .recs (α := List UInt8) [] E_string v1), (5, .row 21), (6, .val (.int .i64 (IntKind.wrap .i64 (v6 + 1))))]) (L' := [(21, 9, [.rowc false (α := List UInt8) [] E_string (v5 ++ ([((v0)[Int.toNat v6]?.getD [])] : List (List UInt8)))])]) (by kernel_rfl) (by kernel_rfl) ?_
      refine To.pre (St.rename 21 1005 (by decide) (K' := [(0, .recs (α := List UInt8) [] E_string v0), (1, .recs (α := List UInt8) [] E_string v1), (5, .row 1005), (6, .val (.int .i64 (IntKind.wrap .i64 (v6 + 1))))]) (L' := [(1005, 9, [.rowc false (α := List UInt8) [] E_string (v5 ++ ([((v0)[Int.toNat v6]?.getD [])] : List (List UInt8)))])]) (by kernel_rfl) (by kernel_rfl) (by kernel_rfl)) ?_
      refine To.keep (kk := [0, 1, 5, 6]) (kl := [1005]) (K' := [(0, .recs (α := List UInt8) [] E_string v0), (1, .recs (α := List UInt8) [] E_string v1), (5, .row 1005), (6, .val (.int .i64 (IntKind.wrap .i64 (v6 + 1))))]) (L' := [(1005, 9, [.rowc false (α := List UInt8) [] E_string (v5 ++ ([((v0)[Int.toNat v6]?.getD [])] : List (List UInt8)))])]) (by kernel_rfl) (by kernel_rfl) ?_
      refine To.again ?_
      exact ih (v5 ++ ([((v0)[Int.toNat v6]?.getD [])] : List (List UInt8))) (IntKind.wrap .i64 (v6 + 1)) _ h hQ
    · replace h := if_f hb h
      refine Wp.exit ?_
      refine To.thenX ?_
      refine To.thenX ?_
      refine To.keep (kk := [1, 5]) (kl := [1005]) (K' := [(1, .recs (α := List UInt8) [] E_string v1), (5, .row 1005)]) (L' := [(1005, 9, [.rowc false (α := List UInt8) [] E_string v5])]) (by kernel_rfl) (by kernel_rfl) ?_
      cases h
      exact hQ
def ref02_Both_l2 (n : Nat) (v1 : List (List UInt8)) : Nat → (List (List UInt8)) → Int → Option ((List (List UInt8)))
  | 0, _, _ => none
  | k + 1, v5, v7 => if (decide (v7 < (List.length v1 : Int))) = true then (if (decide (0 ≤ v7 ∧ v7 < (List.length v1 : Int))) = true then (if (decide ((List.length v5 + List.length ([((v1)[Int.toNat v7]?.getD [])] : List (List UInt8))) * (16 + 1) ≤ limit)) = true then (ref02_Both_l2 n v1 k (v5 ++ ([((v1)[Int.toNat v7]?.getD [])] : List (List UInt8))) (IntKind.wrap .i64 (v7 + 1))) else none) else none)
  else some v5
theorem ok_ref02_Both_l2 (n : Nat) (v1 : List (List UInt8)) {F0 : Fz} {w0 : Pt Try.prog} {Q : Exit → Act → World → Prop} (k : Nat) : ∀ (v5 : List (List UInt8)) (v7 : Int) (o : (List (List UInt8))), ref02_Both_l2 n v1 k v5 v7 = some o → To 37 F0 w0 [(5, .row 1005)] [(1005, 9, [.rowc false (α := List UInt8) [] E_string o])] (.exit 2) Q → WL Try.prog 37 F0 w0 [(1, .recs (α := List UInt8) [] E_string v1), (5, .row 1005), (7, .val (.int .i64 v7))] [(1005, 9, [.rowc false (α := List UInt8) [] E_string v5])] (cI (cI (cB (cA (cB (cB (cB (cF Try.f18)))))))) Q := by
  induction k with
  | zero => intro v5 v7 o h; cases h
  | succ k ih =>
    intro v5 v7 o h hQ
    rw [ref02_Both_l2] at h
    refine WL.round ?_
    refine Wp.seq ?_
    refine Wp.seq ?_
    refine Wp.region hΓ [] [] [] [1, 5, 7, 25] [1005] (K' := [(1, .recs (α := List UInt8) [] E_string v1), (5, .row 1005), (7, .val (.int .i64 v7)), (25, .val (.bool (decide (v7 < (List.length v1 : Int)))))]) (L' := [(1005, 9, [.rowc false (α := List UInt8) [] E_string v5])]) (ob := []) (by kernel_rfl) AllP.nil ?_
    refine To.thenN ?_
    refine Wp.cond (b := (decide (v7 < (List.length v1 : Int)))) (by kernel_rfl) (fun hb => ?_) (fun hb => ?_)
    · replace h := if_t hb h
      refine Wp.skip ?_
      refine To.thenN ?_
      refine Wp.seq ?_
      refine Wp.block ?_
      obtain ⟨hc2, h⟩ := chk_of h
      obtain ⟨hc3, h⟩ := chk_of h
      refine Wp.region hΓ [] [(5, .recs (α := List UInt8) [] E_string ([((v1)[Int.toNat v7]?.getD [])])), (6, .recs (α := List UInt8) [] E_string (v5 ++ ([((v1)[Int.toNat v7]?.getD [])] : List (List UInt8))))] [] [1, 5, 7] [34] (K' := [(1, .recs (α := List UInt8) [] E_string v1), (5, .row 34), (7, .val (.int .i64 v7))]) (L' := [(34, 9, [.rowc false (α := List UInt8) [] E_string (v5 ++ ([((v1)[Int.toNat v7]?.getD [])] : List (List UInt8)))])]) (ob := [(decide (0 ≤ v7 ∧ v7 < (List.length v1 : Int))) = true, (MkOb 1 [.str ((v1)[Int.toNat v7]?.getD [])] 1 (.recs (α := List UInt8) [] E_string ([((v1)[Int.toNat v7]?.getD [])])) ∧ GoodR (.recs (α := List UInt8) [] E_string ([((v1)[Int.toNat v7]?.getD [])]))), (decide ((List.length v5 + List.length ([((v1)[Int.toNat v7]?.getD [])] : List (List UInt8))) * (16 + 1) ≤ limit)) = true, (AppOb [] E_string v5 (List.flatMap E_string ([((v1)[Int.toNat v7]?.getD [])] : List (List UInt8))) (List.length ([((v1)[Int.toNat v7]?.getD [])] : List (List UInt8))) (.recs (α := List UInt8) [] E_string (v5 ++ ([((v1)[Int.toNat v7]?.getD [])] : List (List UInt8)))) ∧ GoodR (.recs (α := List UInt8) [] E_string (v5 ++ ([((v1)[Int.toNat v7]?.getD [])] : List (List UInt8)))))]) (by kernel_rfl) (AllP.cons hc2 (AllP.cons (mkOb (by kernel_rfl) rfl (by kernel_rfl) (good_E_string _)) (AllP.cons hc3 (AllP.cons (appOb rfl rfl (good_E_string _)) AllP.nil)))) ?_
      refine To.blockN ?_
      refine To.thenN ?_
      refine Wp.region hΓ [] [] [] [1, 5, 7] [34] (K' := [(1, .recs (α := List UInt8) [] E_string v1), (5, .row 34), (7, .val (.int .i64 (IntKind.wrap .i64 (v7 + 1))))]) (L' := [(34, 9, [.rowc false (α := List UInt8) [] E_string (v5 ++ ([((v1)[Int.toNat v7]?.getD [])] : List (List UInt8)))])]) (ob := []) (by kernel_rfl) AllP.nil ?_
      refine To.keep (kk := [1, 5, 7]) (kl := [34]) (K' := [(1, .recs (α := List UInt8) [] E_string v1), (5, .row 34), (7, .val (.int .i64 (IntKind.wrap .i64 (v7 + 1))))]) (L' := [(34, 9, [.rowc false (α := List UInt8) [] E_string (v5 ++ ([((v1)[Int.toNat v7]?.getD [])] : List (List UInt8)))])]) (by kernel_rfl) (by kernel_rfl) ?_
      refine To.pre (St.rename 34 1005 (by decide) (K' := [(1, .recs (α := List UInt8) [] E_string v1), (5, .row 1005), (7, .val (.int .i64 (IntKind.wrap .i64 (v7 + 1))))]) (L' := [(1005, 9, [.rowc false (α := List UInt8) [] E_string (v5 ++ ([((v1)[Int.toNat v7]?.getD [])] : List (List UInt8)))])]) (by kernel_rfl) (by kernel_rfl) (by kernel_rfl)) ?_
      refine To.keep (kk := [1, 5, 7]) (kl := [1005]) (K' := [(1, .recs (α := List UInt8) [] E_string v1), (5, .row 1005), (7, .val (.int .i64 (IntKind.wrap .i64 (v7 + 1))))]) (L' := [(1005, 9, [.rowc false (α := List UInt8) [] E_string (v5 ++ ([((v1)[Int.toNat v7]?.getD [])] : List (List UInt8)))])]) (by kernel_rfl) (by kernel_rfl) ?_
      refine To.again ?_
      exact ih (v5 ++ ([((v1)[Int.toNat v7]?.getD [])] : List (List UInt8))) (IntKind.wrap .i64 (v7 + 1)) _ h hQ
    · replace h := if_f hb h
      refine Wp.exit ?_
      refine To.thenX ?_
      refine To.thenX ?_
      refine To.keep (kk := [5]) (kl := [1005]) (K' := [(5, .row 1005)]) (L' := [(1005, 9, [.rowc false (α := List UInt8) [] E_string v5])]) (by kernel_rfl) (by kernel_rfl) ?_
      cases h
      exact hQ
def ref02_Both (n : Nat) (a0 : List (List UInt8)) (a1 : List (List UInt8)) : Option ((List (List UInt8))) :=
  (ref02_Both_l1 n a0 a1 n ([] : List (List UInt8)) 0).bind fun o1 =>
  (ref02_Both_l2 n a1 n o1 0).bind fun o2 =>
  (ref02_Sorted n o2).bind fun r3 =>
  some r3
theorem ok_ref02_Both (n : Nat) (a0 : List (List UInt8)) (a1 : List (List UInt8)) (r : (List (List UInt8))) (h : ref02_Both n a0 a1 = some r) : CallsX Try.prog 18 [.recs (α := List UInt8) [] E_string a0, .recs (α := List UInt8) [] E_string a1] (.recs (α := List UInt8) [] E_string r) := by
  unfold ref02_Both at h
  refine callsX_of (fn := Try.f18) (by kernel_rfl) rfl (by kernel_rfl) (Nat.le_of_ble_eq_true (by kernel_rfl)) fun F0 w0 _ => ?_
  refine Wp.keep (kk := [0, 1]) (kl := []) (K' := [(0, .recs (α := List UInt8) [] E_string a0), (1, .recs (α := List UInt8) [] E_string a1)]) (L' := []) (by kernel_rfl) (by kernel_rfl) ?_
  refine Wp.seq ?_
  refine Wp.region hΓ [] [] [] [0, 1] [] (K' := [(0, .recs (α := List UInt8) [] E_string a0), (1, .recs (α := List UInt8) [] E_string a1)]) (L' := []) (ob := []) (by kernel_rfl) AllP.nil ?_
  refine To.thenN ?_
  refine Wp.seq ?_
  refine Wp.region hΓ [] [(0, .recs (α := List UInt8) [] E_string [])] [] [0, 1, 5] [8] (K' := [(0, .recs (α := List UInt8) [] E_string a0), (1, .recs (α := List UInt8) [] E_string a1), (5, .row 8)]) (L' := [(8, 9, [.rowc false (α := List UInt8) [] E_string []])]) (ob := [(MkOb 1 [] 0 (.recs (α := List UInt8) [] E_string []) ∧ GoodR (.recs (α := List UInt8) [] E_string []))]) (by kernel_rfl) (AllP.cons (mkOb (by kernel_rfl) rfl (by kernel_rfl) (good_E_string _)) AllP.nil) ?_
  refine To.thenN ?_
  refine Wp.seq ?_
  refine Wp.seq ?_
  refine Wp.region hΓ [] [] [] [0, 1, 5, 6] [8] (K' := [(0, .recs (α := List UInt8) [] E_string a0), (1, .recs (α := List UInt8) [] E_string a1), (5, .row 8), (6, .val (.int .i64 0))]) (L' := [(8, 9, [.rowc false (α := List UInt8) [] E_string []])]) (ob := []) (by kernel_rfl) AllP.nil ?_
  refine To.thenN ?_
  refine Wp.block ?_
  obtain ⟨o1, ho1, h⟩ := bind_of h
  refine Wp.keep (kk := [0, 1, 5, 6]) (kl := [8]) (K' := [(0, .recs (α := List UInt8) [] E_string a0), (1, .recs (α := List UInt8) [] E_string a1), (5, .row 8), (6, .val (.int .i64 0))]) (L' := [(8, 9, [.rowc false (α := List UInt8) [] E_string []])]) (by kernel_rfl) (by kernel_rfl) ?_
  refine Wp.pre (St.rename 8 1005 (by decide) (K' := [(0, .recs (α := List UInt8) [] E_string a0), (1, .recs (α := List UInt8) [] E_string a1), (5, .row 1005), (6, .val (.int .i64 0))]) (L' := [(1005, 9, [.rowc false (α := List UInt8) [] E_string []])]) (by kernel_rfl) (by kernel_rfl) (by kernel_rfl)) ?_
  refine Wp.keep (kk := [0, 1, 5, 6]) (kl := [1005]) (K' := [(0, .recs (α := List UInt8) [] E_string a0), (1, .recs (α := List UInt8) [] E_string a1), (5, .row 1005), (6, .val (.int .i64 0))]) (L' := [(1005, 9, [.rowc false (α := List UInt8) [] E_string []])]) (by kernel_rfl) (by kernel_rfl) ?_
  refine Wp.loopL ?_
  refine ok_ref02_Both_l1 n a0 a1 n ([] : List (List UInt8)) 0 o1 ho1 ?_
  refine To.blockX ?_
  refine To.thenN ?_
  refine Wp.seq ?_
  refine Wp.seq ?_
  refine Wp.region hΓ [] [] [] [1, 5, 7] [1005] (K' := [(1, .recs (α := List UInt8) [] E_string a1), (5, .row 1005), (7, .val (.int .i64 0))]) (L' := [(1005, 9, [.rowc false (α := List UInt8) [] E_string o1])]) (ob := []) (by kernel_rfl) AllP.nil ?_
  refine To.thenN ?_
  refine Wp.block ?_
  obtain ⟨o2, ho2, h⟩ := bind_of h
  refine Wp.keep (kk := [1, 5, 7]) (kl := [1005]) (K' := [(1, .recs (α := List UInt8) [] E_string a1), (5, .row 1005), (7, .val (.int .i64 0))]) (L' := [(1005, 9, [.rowc false (α := List UInt8) [] E_string o1])]) (by kernel_rfl) (by kernel_rfl) ?_
  refine Wp.loopL ?_
  refine ok_ref02_Both_l2 n a1 n o1 0 o2 ho2 ?_
  refine To.blockX ?_
  refine To.thenN ?_
  refine Wp.seq ?_
  obtain ⟨r3, hr3, h⟩ := bind_of h
  refine Wp.region hΓ [(1, [1005])] [(1, .recs (α := List UInt8) [] E_string r3)] [] [4] [] (K' := [(4, .recs (α := List UInt8) [] E_string r3)]) (L' := []) (ob := [(true = true → CX Try.prog 16 [.recs (α := List UInt8) [] E_string o2] (.recs (α := List UInt8) [] E_string r3))]) (by kernel_rfl) (AllP.cons (fun _ => cx (ok_ref02_Sorted n o2 _ hr3)) AllP.nil) ?_
  refine To.thenN ?_
  refine Wp.ret ?_
  refine To.keep (kk := [4]) (kl := []) (K' := [(4, .recs (α := List UInt8) [] E_string r3)]) (L' := []) (by kernel_rfl) (by kernel_rfl) ?_
  cases h
  exact To.done hΓ (by kernel_rfl)
def slices_Contains_string_string (n : Nat) (a0 : List (List UInt8)) (a1 : List UInt8) : Option (Bool) :=
  (slices_Index_string_string n a0 a1).bind fun r1 =>
  some (decide (r1 ≥ 0))
theorem ok_slices_Contains_string_string (n : Nat) (a0 : List (List UInt8)) (a1 : List UInt8) (r : Bool) (h : slices_Contains_string_string n a0 a1 = some r) : CallsX Try.prog 40 [.recs (α := List UInt8) [] E_string a0, .str a1] (.val (.bool r)) := by
  unfold slices_Contains_string_string at h
  refine callsX_of (fn := Try.f40) (by kernel_rfl) rfl (by kernel_rfl) (Nat.le_of_ble_eq_true (by kernel_rfl)) fun F0 w0 _ => ?_
  refine Wp.keep (kk := [0, 1]) (kl := []) (K' := [(0, .recs (α := List UInt8) [] E_string a0), (1, .str a1)]) (L' := []) (by kernel_rfl) (by kernel_rfl) ?_
  refine Wp.seq ?_
  refine Wp.region hΓ [] [] [] [0, 1] [] (K' := [(0, .recs (α := List UInt8) [] E_string a0), (1, .str a1)]) (L' := []) (ob := []) (by kernel_rfl) AllP.nil ?_
  refine To.thenN ?_
  refine Wp.seq ?_
  obtain ⟨r1, hr1, h⟩ := bind_of h
  refine Wp.region hΓ [] [(2, .val (.int .i64 r1))] [] [4] [] (K' := [(4, .val (.bool (decide (r1 ≥ 0))))]) (L' := []) (ob := [(true = true → CX Try.prog 42 [.recs (α := List UInt8) [] E_string a0, .str a1] (.val (.int .i64 r1)))]) (by kernel_rfl) (AllP.cons (fun _ => cx (ok_slices_Index_string_string n a0 a1 _ hr1)) AllP.nil) ?_
  refine To.thenN ?_
  refine Wp.ret ?_
  refine To.keep (kk := [4]) (kl := []) (K' := [(4, .val (.bool (decide (r1 ≥ 0))))]) (L' := []) (by kernel_rfl) (by kernel_rfl) ?_
  cases h
  exact To.done hΓ (by kernel_rfl)
def name_In (n : Nat) (a0 : List (List UInt8)) (a1 : List UInt8) : Option (Bool) :=
  (slices_Contains_string_string n a0 a1).bind fun r1 =>
  some r1
theorem ok_name_In (n : Nat) (a0 : List (List UInt8)) (a1 : List UInt8) (r : Bool) (h : name_In n a0 a1 = some r) : CallsX Try.prog 21 [.recs (α := List UInt8) [] E_string a0, .str a1] (.val (.bool r)) := by
  unfold name_In at h
  refine callsX_of (fn := Try.f21) (by kernel_rfl) rfl (by kernel_rfl) (Nat.le_of_ble_eq_true (by kernel_rfl)) fun F0 w0 _ => ?_
  refine Wp.keep (kk := [0, 1]) (kl := []) (K' := [(0, .recs (α := List UInt8) [] E_string a0), (1, .str a1)]) (L' := []) (by kernel_rfl) (by kernel_rfl) ?_
  refine Wp.seq ?_
  refine Wp.region hΓ [] [] [] [0, 1] [] (K' := [(0, .recs (α := List UInt8) [] E_string a0), (1, .str a1)]) (L' := []) (ob := []) (by kernel_rfl) AllP.nil ?_
  refine To.thenN ?_
  refine Wp.seq ?_
  obtain ⟨r1, hr1, h⟩ := bind_of h
  refine Wp.region hΓ [] [(2, .val (.bool r1))] [] [4] [] (K' := [(4, .val (.bool r1))]) (L' := []) (ob := [(true = true → CX Try.prog 40 [.recs (α := List UInt8) [] E_string a0, .str a1] (.val (.bool r1)))]) (by kernel_rfl) (AllP.cons (fun _ => cx (ok_slices_Contains_string_string n a0 a1 _ hr1)) AllP.nil) ?_
  refine To.thenN ?_
  refine Wp.ret ?_
  refine To.keep (kk := [4]) (kl := []) (K' := [(4, .val (.bool r1))]) (L' := []) (by kernel_rfl) (by kernel_rfl) ?_
  cases h
  exact To.done hΓ (by kernel_rfl)
def name_Without_j2 (n : Nat) (v1 : List (List UInt8)) (v5 : List (List UInt8)) (v9 : List (List UInt8)) (v10 : Int) (v11 : Int) : Option ((List (List UInt8))) :=
  if (decide (0 ≤ v11 ∧ v11 < (List.length v9 : Int))) = true then ((name_In n v1 ((v9)[Int.toNat v11]?.getD [])).bind fun r2 =>
  if (!r2) = true then (if (decide ((List.length v5 + List.length ([((v9)[Int.toNat v11]?.getD [])] : List (List UInt8))) * (16 + 1) ≤ limit)) = true then (some (v5 ++ ([((v9)[Int.toNat v11]?.getD [])] : List (List UInt8)))) else none)
  else some v5) else none
theorem ok_name_Without_j2 (n : Nat) (v1 : List (List UInt8)) (v5 : List (List UInt8)) (v9 : List (List UInt8)) (v10 : Int) (v11 : Int) (o : (List (List UInt8))) (h : name_Without_j2 n v1 v5 v9 v10 v11 = some o) {F0 : Fz} {w0 : Pt Try.prog} {Q : Exit → Act → World → Prop} (hQ : To 25 F0 w0 [(1, .recs (α := List UInt8) [] E_string v1), (5, .row 1005), (9, .recs (α := List UInt8) [] E_string v9), (10, .val (.int .i64 v10)), (11, .val (.int .i64 v11))] [(1005, 9, [.rowc false (α := List UInt8) [] E_string o])] .normal Q) : Wp Try.prog 25 F0 w0 [(1, .recs (α := List UInt8) [] E_string v1), (5, .row 1005), (9, .recs (α := List UInt8) [] E_string v9), (10, .val (.int .i64 v10)), (11, .val (.int .i64 v11))] [(1005, 9, [.rowc false (α := List UInt8) [] E_string v5])] (cA (cB (cB (cI (cI (cB (cA (cB (cB (cF Try.f19)))))))))) Q := by
  unfold name_Without_j2 at h
  refine Wp.block ?_
  refine Wp.seq ?_
  obtain ⟨hc4, h⟩ := chk_of h
  refine Wp.region hΓ [] [] [] [1, 5, 7, 9, 10, 11] [1005] (K' := [(1, .recs (α := List UInt8) [] E_string v1), (5, .row 1005), (7, .str ((v9)[Int.toNat v11]?.getD [])), (9, .recs (α := List UInt8) [] E_string v9), (10, .val (.int .i64 v10)), (11, .val (.int .i64 v11))]) (L' := [(1005, 9, [.rowc false (α := List UInt8) [] E_string v5])]) (ob := [(decide (0 ≤ v11 ∧ v11 < (List.length v9 : Int))) = true]) (by kernel_rfl) (AllP.cons hc4 AllP.nil) ?_
  refine To.thenN ?_
  refine Wp.seq ?_
  obtain ⟨r2, hr2, h⟩ := bind_of h
  refine Wp.region hΓ [] [(2, .val (.bool r2))] [] [1, 5, 7, 9, 10, 11, 18] [1005] (K' := [(1, .recs (α := List UInt8) [] E_string v1), (5, .row 1005), (7, .str ((v9)[Int.toNat v11]?.getD [])), (9, .recs (α := List UInt8) [] E_string v9), (10, .val (.int .i64 v10)), (11, .val (.int .i64 v11)), (18, .val (.bool (!r2)))]) (L' := [(1005, 9, [.rowc false (α := List UInt8) [] E_string v5])]) (ob := [(true = true → CX Try.prog 21 [.recs (α := List UInt8) [] E_string v1, .str ((v9)[Int.toNat v11]?.getD [])] (.val (.bool r2)))]) (by kernel_rfl) (AllP.cons (fun _ => cx (ok_name_In n v1 ((v9)[Int.toNat v11]?.getD []) _ hr2)) AllP.nil) ?_
  refine To.thenN ?_
  refine Wp.cond (b := (!r2)) (by kernel_rfl) (fun hb => ?_) (fun hb => ?_)
  · replace h := if_t hb h
    obtain ⟨hc3, h⟩ := chk_of h
    refine Wp.region hΓ [] [(2, .recs (α := List UInt8) [] E_string ([((v9)[Int.toNat v11]?.getD [])])), (3, .recs (α := List UInt8) [] E_string (v5 ++ ([((v9)[Int.toNat v11]?.getD [])] : List (List UInt8))))] [] [1, 5, 9, 10, 11] [22] (K' := [(1, .recs (α := List UInt8) [] E_string v1), (5, .row 22), (9, .recs (α := List UInt8) [] E_string v9), (10, .val (.int .i64 v10)), (11, .val (.int .i64 v11))]) (L' := [(22, 9, [.rowc false (α := List UInt8) [] E_string (v5 ++ ([((v9)[Int.toNat v11]?.getD [])] : List (List UInt8)))])]) (ob := [(MkOb 1 [.str ((v9)[Int.toNat v11]?.getD [])] 1 (.recs (α := List UInt8) [] E_string ([((v9)[Int.toNat v11]?.getD [])])) ∧ GoodR (.recs (α := List UInt8) [] E_string ([((v9)[Int.toNat v11]?.getD [])]))), (decide ((List.length v5 + List.length ([((v9)[Int.toNat v11]?.getD [])] : List (List UInt8))) * (16 + 1) ≤ limit)) = true, (AppOb [] E_string v5 (List.flatMap E_string ([((v9)[Int.toNat v11]?.getD [])] : List (List UInt8))) (List.length ([((v9)[Int.toNat v11]?.getD [])] : List (List UInt8))) (.recs (α := List UInt8) [] E_string (v5 ++ ([((v9)[Int.toNat v11]?.getD [])] : List (List UInt8)))) ∧ GoodR (.recs (α := List UInt8) [] E_string (v5 ++ ([((v9)[Int.toNat v11]?.getD [])] : List (List UInt8)))))]) (by kernel_rfl) (AllP.cons (mkOb (by kernel_rfl) rfl (by kernel_rfl) (good_E_string _)) (AllP.cons hc3 (AllP.cons (appOb rfl rfl (good_E_string _)) AllP.nil))) ?_
    refine To.blockN ?_
    refine To.keep (kk := [1, 5, 9, 10, 11]) (kl := [22]) (K' := [(1, .recs (α := List UInt8) [] E_string v1), (5, .row 22), (9, .recs (α := List UInt8) [] E_string v9), (10, .val (.int .i64 v10)), (11, .val (.int .i64 v11))]) (L' := [(22, 9, [.rowc false (α := List UInt8) [] E_string (v5 ++ ([((v9)[Int.toNat v11]?.getD [])] : List (List UInt8)))])]) (by kernel_rfl) (by kernel_rfl) ?_
    refine To.pre (St.rename 22 1005 (by decide) (K' := [(1, .recs (α := List UInt8) [] E_string v1), (5, .row 1005), (9, .recs (α := List UInt8) [] E_string v9), (10, .val (.int .i64 v10)), (11, .val (.int .i64 v11))]) (L' := [(1005, 9, [.rowc false (α := List UInt8) [] E_string (v5 ++ ([((v9)[Int.toNat v11]?.getD [])] : List (List UInt8)))])]) (by kernel_rfl) (by kernel_rfl) (by kernel_rfl)) ?_
    refine To.keep (kk := [1, 5, 9, 10, 11]) (kl := [1005]) (K' := [(1, .recs (α := List UInt8) [] E_string v1), (5, .row 1005), (9, .recs (α := List UInt8) [] E_string v9), (10, .val (.int .i64 v10)), (11, .val (.int .i64 v11))]) (L' := [(1005, 9, [.rowc false (α := List UInt8) [] E_string (v5 ++ ([((v9)[Int.toNat v11]?.getD [])] : List (List UInt8)))])]) (by kernel_rfl) (by kernel_rfl) ?_
    cases h
    exact hQ
  · replace h := if_f hb h
    refine Wp.skip ?_
    refine To.blockN ?_
    refine To.keep (kk := [1, 5, 9, 10, 11]) (kl := [1005]) (K' := [(1, .recs (α := List UInt8) [] E_string v1), (5, .row 1005), (9, .recs (α := List UInt8) [] E_string v9), (10, .val (.int .i64 v10)), (11, .val (.int .i64 v11))]) (L' := [(1005, 9, [.rowc false (α := List UInt8) [] E_string v5])]) (by kernel_rfl) (by kernel_rfl) ?_
    cases h
    exact hQ
def name_Without_l1 (n : Nat) (v1 : List (List UInt8)) (v9 : List (List UInt8)) (v10 : Int) : Nat → (List (List UInt8)) → Int → Option ((List (List UInt8)))
  | 0, _, _ => none
  | k + 1, v5, v11 => if (decide (v11 < v10)) = true then ((name_Without_j2 n v1 v5 v9 v10 v11).bind fun o2 =>
  name_Without_l1 n v1 v9 v10 k o2 (IntKind.wrap .i64 (v11 + 1)))
  else some v5
theorem ok_name_Without_l1 (n : Nat) (v1 : List (List UInt8)) (v9 : List (List UInt8)) (v10 : Int) {F0 : Fz} {w0 : Pt Try.prog} {Q : Exit → Act → World → Prop} (k : Nat) : ∀ (v5 : List (List UInt8)) (v11 : Int) (o : (List (List UInt8))), name_Without_l1 n v1 v9 v10 k v5 v11 = some o → To 25 F0 w0 [(5, .row 1005)] [(1005, 9, [.rowc false (α := List UInt8) [] E_string o])] (.exit 0) Q → WL Try.prog 25 F0 w0 [(1, .recs (α := List UInt8) [] E_string v1), (5, .row 1005), (9, .recs (α := List UInt8) [] E_string v9), (10, .val (.int .i64 v10)), (11, .val (.int .i64 v11))] [(1005, 9, [.rowc false (α := List UInt8) [] E_string v5])] (cI (cI (cB (cA (cB (cB (cF Try.f19))))))) Q := by
  induction k with
  | zero => intro v5 v11 o h; cases h
  | succ k ih =>
    intro v5 v11 o h hQ
    rw [name_Without_l1] at h
    refine WL.round ?_
    refine Wp.seq ?_
    refine Wp.region hΓ [] [] [] [1, 5, 9, 10, 11, 12] [1005] (K' := [(1, .recs (α := List UInt8) [] E_string v1), (5, .row 1005), (9, .recs (α := List UInt8) [] E_string v9), (10, .val (.int .i64 v10)), (11, .val (.int .i64 v11)), (12, .val (.bool (decide (v11 < v10))))]) (L' := [(1005, 9, [.rowc false (α := List UInt8) [] E_string v5])]) (ob := []) (by kernel_rfl) AllP.nil ?_
    refine To.thenN ?_
    refine Wp.seq ?_
    refine Wp.cond (b := (decide (v11 < v10))) (by kernel_rfl) (fun hb => ?_) (fun hb => ?_)
    · replace h := if_t hb h
      refine Wp.skip ?_
      refine To.thenN ?_
      refine Wp.seq ?_
      obtain ⟨o2, ho2, h⟩ := bind_of h
      refine Wp.keep (kk := [1, 5, 9, 10, 11]) (kl := [1005]) (K' := [(1, .recs (α := List UInt8) [] E_string v1), (5, .row 1005), (9, .recs (α := List UInt8) [] E_string v9), (10, .val (.int .i64 v10)), (11, .val (.int .i64 v11))]) (L' := [(1005, 9, [.rowc false (α := List UInt8) [] E_string v5])]) (by kernel_rfl) (by kernel_rfl) ?_
      refine ok_name_Without_j2 n v1 v5 v9 v10 v11 o2 ho2 ?_
      refine To.thenN ?_
      refine Wp.region hΓ [] [] [] [1, 5, 9, 10, 11] [1005] (K' := [(1, .recs (α := List UInt8) [] E_string v1), (5, .row 1005), (9, .recs (α := List UInt8) [] E_string v9), (10, .val (.int .i64 v10)), (11, .val (.int .i64 (IntKind.wrap .i64 (v11 + 1))))]) (L' := [(1005, 9, [.rowc false (α := List UInt8) [] E_string o2])]) (ob := []) (by kernel_rfl) AllP.nil ?_
      refine To.keep (kk := [1, 5, 9, 10, 11]) (kl := [1005]) (K' := [(1, .recs (α := List UInt8) [] E_string v1), (5, .row 1005), (9, .recs (α := List UInt8) [] E_string v9), (10, .val (.int .i64 v10)), (11, .val (.int .i64 (IntKind.wrap .i64 (v11 + 1))))]) (L' := [(1005, 9, [.rowc false (α := List UInt8) [] E_string o2])]) (by kernel_rfl) (by kernel_rfl) ?_
      refine To.again ?_
      exact ih o2 (IntKind.wrap .i64 (v11 + 1)) _ h hQ
    · replace h := if_f hb h
      refine Wp.exit ?_
      refine To.thenX ?_
      refine To.thenX ?_
      refine To.keep (kk := [5]) (kl := [1005]) (K' := [(5, .row 1005)]) (L' := [(1005, 9, [.rowc false (α := List UInt8) [] E_string v5])]) (by kernel_rfl) (by kernel_rfl) ?_
      cases h
      exact hQ
def name_Without (n : Nat) (a0 : List (List UInt8)) (a1 : List (List UInt8)) : Option ((List (List UInt8))) :=
  (name_Sorted n a0).bind fun r1 =>
  (name_Without_l1 n a1 r1 (List.length r1 : Int) n ([] : List (List UInt8)) 0).bind fun o2 =>
  some o2
theorem ok_name_Without (n : Nat) (a0 : List (List UInt8)) (a1 : List (List UInt8)) (r : (List (List UInt8))) (h : name_Without n a0 a1 = some r) : CallsX Try.prog 19 [.recs (α := List UInt8) [] E_string a0, .recs (α := List UInt8) [] E_string a1] (.recs (α := List UInt8) [] E_string r) := by
  unfold name_Without at h
  refine callsX_of (fn := Try.f19) (by kernel_rfl) rfl (by kernel_rfl) (Nat.le_of_ble_eq_true (by kernel_rfl)) fun F0 w0 _ => ?_
  refine Wp.keep (kk := [0, 1]) (kl := []) (K' := [(0, .recs (α := List UInt8) [] E_string a0), (1, .recs (α := List UInt8) [] E_string a1)]) (L' := []) (by kernel_rfl) (by kernel_rfl) ?_
  refine Wp.seq ?_
  refine Wp.region hΓ [] [] [] [0, 1] [] (K' := [(0, .recs (α := List UInt8) [] E_string a0), (1, .recs (α := List UInt8) [] E_string a1)]) (L' := []) (ob := []) (by kernel_rfl) AllP.nil ?_
  refine To.thenN ?_
  refine Wp.seq ?_
  refine Wp.region hΓ [] [] [] [0, 1, 5] [] (K' := [(0, .recs (α := List UInt8) [] E_string a0), (1, .recs (α := List UInt8) [] E_string a1), (5, .val (.slice none 0 0))]) (L' := []) (ob := []) (by kernel_rfl) AllP.nil ?_
  refine To.thenN ?_
  refine Wp.seq ?_
  refine Wp.seq ?_
  obtain ⟨r1, hr1, h⟩ := bind_of h
  refine Wp.region hΓ [] [(1, .recs (α := List UInt8) [] E_string r1)] [] [1, 5, 9, 10, 11] [] (K' := [(1, .recs (α := List UInt8) [] E_string a1), (5, .val (.slice none 0 0)), (9, .recs (α := List UInt8) [] E_string r1), (10, .val (.int .i64 (List.length r1 : Int))), (11, .val (.int .i64 0))]) (L' := []) (ob := [(true = true → CX Try.prog 15 [.recs (α := List UInt8) [] E_string a0] (.recs (α := List UInt8) [] E_string r1))]) (by kernel_rfl) (AllP.cons (fun _ => cx (ok_name_Sorted n a0 _ hr1)) AllP.nil) ?_
  refine To.thenN ?_
  refine Wp.block ?_
  obtain ⟨o2, ho2, h⟩ := bind_of h
  refine Wp.keep (kk := [1, 5, 9, 10, 11]) (kl := []) (K' := [(1, .recs (α := List UInt8) [] E_string a1), (5, .val (.slice none 0 0)), (9, .recs (α := List UInt8) [] E_string r1), (10, .val (.int .i64 (List.length r1 : Int))), (11, .val (.int .i64 0))]) (L' := []) (by kernel_rfl) (by kernel_rfl) ?_
  refine Wp.pre (St.vacant (t := 5) (k := 1005) (e := 9) (K' := [(1, .recs (α := List UInt8) [] E_string a1), (5, .row 1005), (9, .recs (α := List UInt8) [] E_string r1), (10, .val (.int .i64 (List.length r1 : Int))), (11, .val (.int .i64 0))]) (good_E_string _) (by decide) (by kernel_rfl) (by kernel_rfl)) ?_
  refine Wp.keep (kk := [1, 5, 9, 10, 11]) (kl := [1005]) (K' := [(1, .recs (α := List UInt8) [] E_string a1), (5, .row 1005), (9, .recs (α := List UInt8) [] E_string r1), (10, .val (.int .i64 (List.length r1 : Int))), (11, .val (.int .i64 0))]) (L' := [(1005, 9, [.rowc false (α := List UInt8) [] E_string []])]) (by kernel_rfl) (by kernel_rfl) ?_
  refine Wp.loopL ?_
  refine ok_name_Without_l1 n a1 r1 (List.length r1 : Int) n ([] : List (List UInt8)) 0 o2 ho2 ?_
  refine To.blockX ?_
  refine To.thenN ?_
  refine Wp.seq ?_
  refine Wp.region hΓ [] [] [] [4] [1005] (K' := [(4, .row 1005)]) (L' := [(1005, 9, [.rowc false (α := List UInt8) [] E_string o2])]) (ob := []) (by kernel_rfl) AllP.nil ?_
  refine To.thenN ?_
  refine Wp.ret ?_
  refine To.keep (kk := [4]) (kl := [1005]) (K' := [(4, .row 1005)]) (L' := [(1005, 9, [.rowc false (α := List UInt8) [] E_string o2])]) (by kernel_rfl) (by kernel_rfl) ?_
  refine To.pre (St.settle (ks := [1005]) (kk := [4]) (kl := [1005]) (K' := [(4, .row 1005)]) (L' := [(1005, 9, [.rowc true (α := List UInt8) [] E_string o2])]) (by kernel_rfl)) ?_
  refine To.pre (St.sealK [4] (K' := [(4, .recs (α := List UInt8) [] E_string o2)]) (by kernel_rfl)) ?_
  refine To.keep (kk := [4]) (kl := []) (K' := [(4, .recs (α := List UInt8) [] E_string o2)]) (L' := []) (by kernel_rfl) (by kernel_rfl) ?_
  cases h
  exact To.done hΓ (by kernel_rfl)
def ref02_In_l1 (n : Nat) (v0 : List (List UInt8)) (v1 : List UInt8) : Nat → Int → Option (Sum (Unit) (Bool))
  | 0, _ => none
  | k + 1, v5 => if (decide (v5 < (List.length v0 : Int))) = true then (if (decide (0 ≤ v5 ∧ v5 < (List.length v0 : Int))) = true then (if (((v0)[Int.toNat v5]?.getD []) == v1) = true then (some (.inr true))
  else (ref02_In_l1 n v0 v1 k (IntKind.wrap .i64 (v5 + 1)))) else none)
  else (some (.inl ()))
theorem ok_ref02_In_l1 (n : Nat) (v0 : List (List UInt8)) (v1 : List UInt8) {F0 : Fz} {w0 : Pt Try.prog} {Q : Exit → Act → World → Prop} (k : Nat) : ∀ (v5 : Int) (o : Sum (Unit) (Bool)), ref02_In_l1 n v0 v1 k v5 = some o → (Sum.elim (fun s => To 18 F0 w0 [] [] (.exit 0) Q) (fun s => To 18 F0 w0 [(4, .val (.bool s))] [] .ret Q)) o → WL Try.prog 18 F0 w0 [(0, .recs (α := List UInt8) [] E_string v0), (1, .str v1), (5, .val (.int .i64 v5))] [] (cI (cI (cB (cA (cB (cF Try.f22)))))) Q := by
  induction k with
  | zero => intro v5 o h; cases h
  | succ k ih =>
    intro v5 o h hQ
    rw [ref02_In_l1] at h
    refine WL.round ?_
    refine Wp.seq ?_
    refine Wp.seq ?_
    refine Wp.region hΓ [] [] [] [0, 1, 5, 9] [] (K' := [(0, .recs (α := List UInt8) [] E_string v0), (1, .str v1), (5, .val (.int .i64 v5)), (9, .val (.bool (decide (v5 < (List.length v0 : Int)))))]) (L' := []) (ob := []) (by kernel_rfl) AllP.nil ?_
    refine To.thenN ?_
    refine Wp.cond (b := (decide (v5 < (List.length v0 : Int)))) (by kernel_rfl) (fun hb => ?_) (fun hb => ?_)
    · replace h := if_t hb h
      refine Wp.skip ?_
      refine To.thenN ?_
      refine Wp.seq ?_
      refine Wp.block ?_
      refine Wp.seq ?_
      obtain ⟨hc1, h⟩ := chk_of h
      refine Wp.region hΓ [] [] [] [0, 1, 5, 17] [] (K' := [(0, .recs (α := List UInt8) [] E_string v0), (1, .str v1), (5, .val (.int .i64 v5)), (17, .val (.bool (((v0)[Int.toNat v5]?.getD []) == v1)))]) (L' := []) (ob := [(decide (0 ≤ v5 ∧ v5 < (List.length v0 : Int))) = true]) (by kernel_rfl) (AllP.cons hc1 AllP.nil) ?_
      refine To.thenN ?_
      refine Wp.cond (b := (((v0)[Int.toNat v5]?.getD []) == v1)) (by kernel_rfl) (fun hb => ?_) (fun hb => ?_)
      · replace h := if_t hb h
        refine Wp.seq ?_
        refine Wp.region hΓ [] [] [] [4] [] (K' := [(4, .val (.bool true))]) (L' := []) (ob := []) (by kernel_rfl) AllP.nil ?_
        refine To.thenN ?_
        refine Wp.ret ?_
        refine To.blockR ?_
        refine To.thenR ?_
        refine To.thenR ?_
        refine To.keep (kk := [4]) (kl := []) (K' := [(4, .val (.bool true))]) (L' := []) (by kernel_rfl) (by kernel_rfl) ?_
        cases h
        exact hQ
      · replace h := if_f hb h
        refine Wp.skip ?_
        refine To.blockN ?_
        refine To.thenN ?_
        refine Wp.region hΓ [] [] [] [0, 1, 5] [] (K' := [(0, .recs (α := List UInt8) [] E_string v0), (1, .str v1), (5, .val (.int .i64 (IntKind.wrap .i64 (v5 + 1))))]) (L' := []) (ob := []) (by kernel_rfl) AllP.nil ?_
        refine To.keep (kk := [0, 1, 5]) (kl := []) (K' := [(0, .recs (α := List UInt8) [] E_string v0), (1, .str v1), (5, .val (.int .i64 (IntKind.wrap .i64 (v5 + 1))))]) (L' := []) (by kernel_rfl) (by kernel_rfl) ?_
        refine To.again ?_
        exact ih (IntKind.wrap .i64 (v5 + 1)) _ h hQ
    · replace h := if_f hb h
      refine Wp.exit ?_
      refine To.thenX ?_
      refine To.thenX ?_
      refine To.keep (kk := []) (kl := []) (K' := []) (L' := []) (by kernel_rfl) (by kernel_rfl) ?_
      cases h
      exact hQ
def ref02_In (n : Nat) (a0 : List (List UInt8)) (a1 : List UInt8) : Option (Bool) :=
  (ref02_In_l1 n a0 a1 n 0).bind fun o1 =>
  (Sum.elim (fun o1 => some false) (fun o1 => some o1)) o1
theorem ok_ref02_In (n : Nat) (a0 : List (List UInt8)) (a1 : List UInt8) (r : Bool) (h : ref02_In n a0 a1 = some r) : CallsX Try.prog 22 [.recs (α := List UInt8) [] E_string a0, .str a1] (.val (.bool r)) := by
  unfold ref02_In at h
  refine callsX_of (fn := Try.f22) (by kernel_rfl) rfl (by kernel_rfl) (Nat.le_of_ble_eq_true (by kernel_rfl)) fun F0 w0 _ => ?_
  refine Wp.keep (kk := [0, 1]) (kl := []) (K' := [(0, .recs (α := List UInt8) [] E_string a0), (1, .str a1)]) (L' := []) (by kernel_rfl) (by kernel_rfl) ?_
  refine Wp.seq ?_
  refine Wp.region hΓ [] [] [] [0, 1] [] (K' := [(0, .recs (α := List UInt8) [] E_string a0), (1, .str a1)]) (L' := []) (ob := []) (by kernel_rfl) AllP.nil ?_
  refine To.thenN ?_
  refine Wp.seq ?_
  refine Wp.seq ?_
  refine Wp.region hΓ [] [] [] [0, 1, 5] [] (K' := [(0, .recs (α := List UInt8) [] E_string a0), (1, .str a1), (5, .val (.int .i64 0))]) (L' := []) (ob := []) (by kernel_rfl) AllP.nil ?_
  refine To.thenN ?_
  refine Wp.block ?_
  obtain ⟨o1, ho1, h⟩ := bind_of h
  refine Wp.keep (kk := [0, 1, 5]) (kl := []) (K' := [(0, .recs (α := List UInt8) [] E_string a0), (1, .str a1), (5, .val (.int .i64 0))]) (L' := []) (by kernel_rfl) (by kernel_rfl) ?_
  refine Wp.loopL ?_
  refine ok_ref02_In_l1 n a0 a1 n 0 o1 ho1 ?_
  rcases o1 with o1 | o1
  · replace h := sum_l h
    refine To.blockX ?_
    refine To.thenN ?_
    refine Wp.seq ?_
    refine Wp.region hΓ [] [] [] [4] [] (K' := [(4, .val (.bool false))]) (L' := []) (ob := []) (by kernel_rfl) AllP.nil ?_
    refine To.thenN ?_
    refine Wp.ret ?_
    refine To.keep (kk := [4]) (kl := []) (K' := [(4, .val (.bool false))]) (L' := []) (by kernel_rfl) (by kernel_rfl) ?_
    cases h
    exact To.done hΓ (by kernel_rfl)
  · replace h := sum_r h
    refine To.blockR ?_
    refine To.thenR ?_
    refine To.keep (kk := [4]) (kl := []) (K' := [(4, .val (.bool o1))]) (L' := []) (by kernel_rfl) (by kernel_rfl) ?_
    cases h
    exact To.done hΓ (by kernel_rfl)
def ref02_Without_j2 (n : Nat) (v1 : List (List UInt8)) (v5 : List (List UInt8)) (v6 : List (List UInt8)) (v7 : Int) : Option ((List (List UInt8))) :=
  if (decide (0 ≤ v7 ∧ v7 < (List.length v6 : Int))) = true then ((ref02_In n v1 ((v6)[Int.toNat v7]?.getD [])).bind fun r2 =>
  if (!r2) = true then (if (decide (0 ≤ v7 ∧ v7 < (List.length v6 : Int))) = true then (if (decide ((List.length v5 + List.length ([((v6)[Int.toNat v7]?.getD [])] : List (List UInt8))) * (16 + 1) ≤ limit)) = true then (some (v5 ++ ([((v6)[Int.toNat v7]?.getD [])] : List (List UInt8)))) else none) else none)
  else some v5) else none
theorem ok_ref02_Without_j2 (n : Nat) (v1 : List (List UInt8)) (v5 : List (List UInt8)) (v6 : List (List UInt8)) (v7 : Int) (o : (List (List UInt8))) (h : ref02_Without_j2 n v1 v5 v6 v7 = some o) {F0 : Fz} {w0 : Pt Try.prog} {Q : Exit → Act → World → Prop} (hQ : To 32 F0 w0 [(1, .recs (α := List UInt8) [] E_string v1), (5, .row 1005), (6, .recs (α := List UInt8) [] E_string v6), (7, .val (.int .i64 v7))] [(1005, 9, [.rowc false (α := List UInt8) [] E_string o])] .normal Q) : Wp Try.prog 32 F0 w0 [(1, .recs (α := List UInt8) [] E_string v1), (5, .row 1005), (6, .recs (α := List UInt8) [] E_string v6), (7, .val (.int .i64 v7))] [(1005, 9, [.rowc false (α := List UInt8) [] E_string v5])] (cA (cB (cI (cI (cB (cA (cB (cB (cB (cF Try.f20)))))))))) Q := by
  unfold ref02_Without_j2 at h
  refine Wp.block ?_
  refine Wp.seq ?_
  obtain ⟨hc5, h⟩ := chk_of h
  obtain ⟨r2, hr2, h⟩ := bind_of h
  refine Wp.region hΓ [] [(5, .val (.bool r2))] [] [1, 5, 6, 7, 23] [1005] (K' := [(1, .recs (α := List UInt8) [] E_string v1), (5, .row 1005), (6, .recs (α := List UInt8) [] E_string v6), (7, .val (.int .i64 v7)), (23, .val (.bool (!r2)))]) (L' := [(1005, 9, [.rowc false (α := List UInt8) [] E_string v5])]) (ob := [(decide (0 ≤ v7 ∧ v7 < (List.length v6 : Int))) = true, (true = true → CX Try.prog 22 [.recs (α := List UInt8) [] E_string v1, .str ((v6)[Int.toNat v7]?.getD [])] (.val (.bool r2)))]) (by kernel_rfl) (AllP.cons hc5 (AllP.cons (fun _ => cx (ok_ref02_In n v1 ((v6)[Int.toNat v7]?.getD []) _ hr2)) AllP.nil)) ?_
  refine To.thenN ?_
  refine Wp.cond (b := (!r2)) (by kernel_rfl) (fun hb => ?_) (fun hb => ?_)
  · replace h := if_t hb h
    obtain ⟨hc3, h⟩ := chk_of h
    obtain ⟨hc4, h⟩ := chk_of h
    refine Wp.region hΓ [] [(5, .recs (α := List UInt8) [] E_string ([((v6)[Int.toNat v7]?.getD [])])), (6, .recs (α := List UInt8) [] E_string (v5 ++ ([((v6)[Int.toNat v7]?.getD [])] : List (List UInt8))))] [] [1, 5, 6, 7] [30] (K' := [(1, .recs (α := List UInt8) [] E_string v1), (5, .row 30), (6, .recs (α := List UInt8) [] E_string v6), (7, .val (.int .i64 v7))]) (L' := [(30, 9, [.rowc false (α := List UInt8) [] E_string (v5 ++ ([((v6)[Int.toNat v7]?.getD [])] : List (List UInt8)))])]) (ob := [(decide (0 ≤ v7 ∧ v7 < (List.length v6 : Int))) = true, (MkOb 1 [.str ((v6)[Int.toNat v7]?.getD [])] 1 (.recs (α := List UInt8) [] E_string ([((v6)[Int.toNat v7]?.getD [])])) ∧ GoodR (.recs (α := List UInt8) [] E_string ([((v6)[Int.toNat v7]?.getD [])]))), (decide ((List.length v5 + List.length ([((v6)[Int.toNat v7]?.getD [])] : List (List UInt8))) * (16 + 1) ≤ limit)) = true, (AppOb [] E_string v5 (List.flatMap E_string ([((v6)[Int.toNat v7]?.getD [])] : List (List UInt8))) (List.length ([((v6)[Int.toNat v7]?.getD [])] : List (List UInt8))) (.recs (α := List UInt8) [] E_string (v5 ++ ([((v6)[Int.toNat v7]?.getD [])] : List (List UInt8)))) ∧ GoodR (.recs (α := List UInt8) [] E_string (v5 ++ ([((v6)[Int.toNat v7]?.getD [])] : List (List UInt8)))))]) (by kernel_rfl) (AllP.cons hc3 (AllP.cons (mkOb (by kernel_rfl) rfl (by kernel_rfl) (good_E_string _)) (AllP.cons hc4 (AllP.cons (appOb rfl rfl (good_E_string _)) AllP.nil)))) ?_
    refine To.blockN ?_
    refine To.keep (kk := [1, 5, 6, 7]) (kl := [30]) (K' := [(1, .recs (α := List UInt8) [] E_string v1), (5, .row 30), (6, .recs (α := List UInt8) [] E_string v6), (7, .val (.int .i64 v7))]) (L' := [(30, 9, [.rowc false (α := List UInt8) [] E_string (v5 ++ ([((v6)[Int.toNat v7]?.getD [])] : List (List UInt8)))])]) (by kernel_rfl) (by kernel_rfl) ?_
    refine To.pre (St.rename 30 1005 (by decide) (K' := [(1, .recs (α := List UInt8) [] E_string v1), (5, .row 1005), (6, .recs (α := List UInt8) [] E_string v6), (7, .val (.int .i64 v7))]) (L' := [(1005, 9, [.rowc false (α := List UInt8) [] E_string (v5 ++ ([((v6)[Int.toNat v7]?.getD [])] : List (List UInt8)))])]) (by kernel_rfl) (by kernel_rfl) (by kernel_rfl)) ?_
    refine To.keep (kk := [1, 5, 6, 7]) (kl := [1005]) (K' := [(1, .recs (α := List UInt8) [] E_string v1), (5, .row 1005), (6, .recs (α := List UInt8) [] E_string v6), (7, .val (.int .i64 v7))]) (L' := [(1005, 9, [.rowc false (α := List UInt8) [] E_string (v5 ++ ([((v6)[Int.toNat v7]?.getD [])] : List (List UInt8)))])]) (by kernel_rfl) (by kernel_rfl) ?_
    cases h
    exact hQ
  · replace h := if_f hb h
    refine Wp.skip ?_
    refine To.blockN ?_
    refine To.keep (kk := [1, 5, 6, 7]) (kl := [1005]) (K' := [(1, .recs (α := List UInt8) [] E_string v1), (5, .row 1005), (6, .recs (α := List UInt8) [] E_string v6), (7, .val (.int .i64 v7))]) (L' := [(1005, 9, [.rowc false (α := List UInt8) [] E_string v5])]) (by kernel_rfl) (by kernel_rfl) ?_
    cases h
    exact hQ
def ref02_Without_l1 (n : Nat) (v1 : List (List UInt8)) (v6 : List (List UInt8)) : Nat → (List (List UInt8)) → Int → Option ((List (List UInt8)))
  | 0, _, _ => none
  | k + 1, v5, v7 => if (decide (v7 < (List.length v6 : Int))) = true then ((ref02_Without_j2 n v1 v5 v6 v7).bind fun o2 =>
  ref02_Without_l1 n v1 v6 k o2 (IntKind.wrap .i64 (v7 + 1)))
  else some v5
theorem ok_ref02_Without_l1 (n : Nat) (v1 : List (List UInt8)) (v6 : List (List UInt8)) {F0 : Fz} {w0 : Pt Try.prog} {Q : Exit → Act → World → Prop} (k : Nat) : ∀ (v5 : List (List UInt8)) (v7 : Int) (o : (List (List UInt8))), ref02_Without_l1 n v1 v6 k v5 v7 = some o → To 32 F0 w0 [(5, .row 1005)] [(1005, 9, [.rowc false (α := List UInt8) [] E_string o])] (.exit 0) Q → WL Try.prog 32 F0 w0 [(1, .recs (α := List UInt8) [] E_string v1), (5, .row 1005), (6, .recs (α := List UInt8) [] E_string v6), (7, .val (.int .i64 v7))] [(1005, 9, [.rowc false (α := List UInt8) [] E_string v5])] (cI (cI (cB (cA (cB (cB (cB (cF Try.f20)))))))) Q := by
  induction k with
  | zero => intro v5 v7 o h; cases h
  | succ k ih =>
    intro v5 v7 o h hQ
    rw [ref02_Without_l1] at h
    refine WL.round ?_
    refine Wp.seq ?_
    refine Wp.seq ?_
    refine Wp.region hΓ [] [] [] [1, 5, 6, 7, 14] [1005] (K' := [(1, .recs (α := List UInt8) [] E_string v1), (5, .row 1005), (6, .recs (α := List UInt8) [] E_string v6), (7, .val (.int .i64 v7)), (14, .val (.bool (decide (v7 < (List.length v6 : Int)))))]) (L' := [(1005, 9, [.rowc false (α := List UInt8) [] E_string v5])]) (ob := []) (by kernel_rfl) AllP.nil ?_
    refine To.thenN ?_
    refine Wp.cond (b := (decide (v7 < (List.length v6 : Int)))) (by kernel_rfl) (fun hb => ?_) (fun hb => ?_)
    · replace h := if_t hb h
      refine Wp.skip ?_
      refine To.thenN ?_
      refine Wp.seq ?_
      obtain ⟨o2, ho2, h⟩ := bind_of h
      refine Wp.keep (kk := [1, 5, 6, 7]) (kl := [1005]) (K' := [(1, .recs (α := List UInt8) [] E_string v1), (5, .row 1005), (6, .recs (α := List UInt8) [] E_string v6), (7, .val (.int .i64 v7))]) (L' := [(1005, 9, [.rowc false (α := List UInt8) [] E_string v5])]) (by kernel_rfl) (by kernel_rfl) ?_
      refine ok_ref02_Without_j2 n v1 v5 v6 v7 o2 ho2 ?_
      refine To.thenN ?_
      refine Wp.region hΓ [] [] [] [1, 5, 6, 7] [1005] (K' := [(1, .recs (α := List UInt8) [] E_string v1), (5, .row 1005), (6, .recs (α := List UInt8) [] E_string v6), (7, .val (.int .i64 (IntKind.wrap .i64 (v7 + 1))))]) (L' := [(1005, 9, [.rowc false (α := List UInt8) [] E_string o2])]) (ob := []) (by kernel_rfl) AllP.nil ?_
      refine To.keep (kk := [1, 5, 6, 7]) (kl := [1005]) (K' := [(1, .recs (α := List UInt8) [] E_string v1), (5, .row 1005), (6, .recs (α := List UInt8) [] E_string v6), (7, .val (.int .i64 (IntKind.wrap .i64 (v7 + 1))))]) (L' := [(1005, 9, [.rowc false (α := List UInt8) [] E_string o2])]) (by kernel_rfl) (by kernel_rfl) ?_
      refine To.again ?_
      exact ih o2 (IntKind.wrap .i64 (v7 + 1)) _ h hQ
    · replace h := if_f hb h
      refine Wp.exit ?_
      refine To.thenX ?_
      refine To.thenX ?_
      refine To.keep (kk := [5]) (kl := [1005]) (K' := [(5, .row 1005)]) (L' := [(1005, 9, [.rowc false (α := List UInt8) [] E_string v5])]) (by kernel_rfl) (by kernel_rfl) ?_
      cases h
      exact hQ
def ref02_Without (n : Nat) (a0 : List (List UInt8)) (a1 : List (List UInt8)) : Option ((List (List UInt8))) :=
  (ref02_Sorted n a0).bind fun r1 =>
  (ref02_Without_l1 n a1 r1 n ([] : List (List UInt8)) 0).bind fun o2 =>
  some o2
theorem ok_ref02_Without (n : Nat) (a0 : List (List UInt8)) (a1 : List (List UInt8)) (r : (List (List UInt8))) (h : ref02_Without n a0 a1 = some r) : CallsX Try.prog 20 [.recs (α := List UInt8) [] E_string a0, .recs (α := List UInt8) [] E_string a1] (.recs (α := List UInt8) [] E_string r) := by
  unfold ref02_Without at h
  refine callsX_of (fn := Try.f20) (by kernel_rfl) rfl (by kernel_rfl) (Nat.le_of_ble_eq_true (by kernel_rfl)) fun F0 w0 _ => ?_
  refine Wp.keep (kk := [0, 1]) (kl := []) (K' := [(0, .recs (α := List UInt8) [] E_string a0), (1, .recs (α := List UInt8) [] E_string a1)]) (L' := []) (by kernel_rfl) (by kernel_rfl) ?_
  refine Wp.seq ?_
  refine Wp.region hΓ [] [] [] [0, 1] [] (K' := [(0, .recs (α := List UInt8) [] E_string a0), (1, .recs (α := List UInt8) [] E_string a1)]) (L' := []) (ob := []) (by kernel_rfl) AllP.nil ?_
  refine To.thenN ?_
  refine Wp.seq ?_
  refine Wp.region hΓ [] [(0, .recs (α := List UInt8) [] E_string [])] [] [0, 1, 5] [8] (K' := [(0, .recs (α := List UInt8) [] E_string a0), (1, .recs (α := List UInt8) [] E_string a1), (5, .row 8)]) (L' := [(8, 9, [.rowc false (α := List UInt8) [] E_string []])]) (ob := [(MkOb 1 [] 0 (.recs (α := List UInt8) [] E_string []) ∧ GoodR (.recs (α := List UInt8) [] E_string []))]) (by kernel_rfl) (AllP.cons (mkOb (by kernel_rfl) rfl (by kernel_rfl) (good_E_string _)) AllP.nil) ?_
  refine To.thenN ?_
  refine Wp.seq ?_
  obtain ⟨r1, hr1, h⟩ := bind_of h
  refine Wp.region hΓ [] [(1, .recs (α := List UInt8) [] E_string r1)] [] [1, 5, 6] [8] (K' := [(1, .recs (α := List UInt8) [] E_string a1), (5, .row 8), (6, .recs (α := List UInt8) [] E_string r1)]) (L' := [(8, 9, [.rowc false (α := List UInt8) [] E_string []])]) (ob := [(true = true → CX Try.prog 16 [.recs (α := List UInt8) [] E_string a0] (.recs (α := List UInt8) [] E_string r1))]) (by kernel_rfl) (AllP.cons (fun _ => cx (ok_ref02_Sorted n a0 _ hr1)) AllP.nil) ?_
  refine To.thenN ?_
  refine Wp.seq ?_
  refine Wp.seq ?_
  refine Wp.region hΓ [] [] [] [1, 5, 6, 7] [8] (K' := [(1, .recs (α := List UInt8) [] E_string a1), (5, .row 8), (6, .recs (α := List UInt8) [] E_string r1), (7, .val (.int .i64 0))]) (L' := [(8, 9, [.rowc false (α := List UInt8) [] E_string []])]) (ob := []) (by kernel_rfl) AllP.nil ?_
  refine To.thenN ?_
  refine Wp.block ?_
  obtain ⟨o2, ho2, h⟩ := bind_of h
  refine Wp.keep (kk := [1, 5, 6, 7]) (kl := [8]) (K' := [(1, .recs (α := List UInt8) [] E_string a1), (5, .row 8), (6, .recs (α := List UInt8) [] E_string r1), (7, .val (.int .i64 0))]) (L' := [(8, 9, [.rowc false (α := List UInt8) [] E_string []])]) (by kernel_rfl) (by kernel_rfl) ?_
  refine Wp.pre (St.rename 8 1005 (by decide) (K' := [(1, .recs (α := List UInt8) [] E_string a1), (5, .row 1005), (6, .recs (α := List UInt8) [] E_string r1), (7, .val (.int .i64 0))]) (L' := [(1005, 9, [.rowc false (α := List UInt8) [] E_string []])]) (by kernel_rfl) (by kernel_rfl) (by kernel_rfl)) ?_
  refine Wp.keep (kk := [1, 5, 6, 7]) (kl := [1005]) (K' := [(1, .recs (α := List UInt8) [] E_string a1), (5, .row 1005), (6, .recs (α := List UInt8) [] E_string r1), (7, .val (.int .i64 0))]) (L' := [(1005, 9, [.rowc false (α := List UInt8) [] E_string []])]) (by kernel_rfl) (by kernel_rfl) ?_
  refine Wp.loopL ?_
  refine ok_ref02_Without_l1 n a1 r1 n ([] : List (List UInt8)) 0 o2 ho2 ?_
  refine To.blockX ?_
  refine To.thenN ?_
  refine Wp.seq ?_
  refine Wp.region hΓ [] [] [] [4] [1005] (K' := [(4, .row 1005)]) (L' := [(1005, 9, [.rowc false (α := List UInt8) [] E_string o2])]) (ob := []) (by kernel_rfl) AllP.nil ?_
  refine To.thenN ?_
  refine Wp.ret ?_
  refine To.keep (kk := [4]) (kl := [1005]) (K' := [(4, .row 1005)]) (L' := [(1005, 9, [.rowc false (α := List UInt8) [] E_string o2])]) (by kernel_rfl) (by kernel_rfl) ?_
  refine To.pre (St.settle (ks := [1005]) (kk := [4]) (kl := [1005]) (K' := [(4, .row 1005)]) (L' := [(1005, 9, [.rowc true (α := List UInt8) [] E_string o2])]) (by kernel_rfl)) ?_
  refine To.pre (St.sealK [4] (K' := [(4, .recs (α := List UInt8) [] E_string o2)]) (by kernel_rfl)) ?_
  refine To.keep (kk := [4]) (kl := []) (K' := [(4, .recs (α := List UInt8) [] E_string o2)]) (L' := []) (by kernel_rfl) (by kernel_rfl) ?_
  cases h
  exact To.done hΓ (by kernel_rfl)
def slices_Equal_string_string_l1 (n : Nat) (v0 : List (List UInt8)) (v1 : List (List UInt8)) (v12 : Int) : Nat → Int → Option (Sum (Unit) (Bool))
  | 0, _ => none
  | k + 1, v13 => if (decide (v13 < v12)) = true then (if (decide (0 ≤ v13 ∧ v13 < (List.length v0 : Int))) = true then (if (decide (0 ≤ v13 ∧ v13 < (List.length v1 : Int))) = true then (if (!(((v0)[Int.toNat v13]?.getD []) == ((v1)[Int.toNat v13]?.getD []))) = true then (some (.inr false))
  else (slices_Equal_string_string_l1 n v0 v1 v12 k (IntKind.wrap .i64 (v13 + 1)))) else none) else none)
  else (some (.inl ()))
theorem ok_slices_Equal_string_string_l1 (n : Nat) (v0 : List (List UInt8)) (v1 : List (List UInt8)) (v12 : Int) {F0 : Fz} {w0 : Pt Try.prog} {Q : Exit → Act → World → Prop} (k : Nat) : ∀ (v13 : Int) (o : Sum (Unit) (Bool)), slices_Equal_string_string_l1 n v0 v1 v12 k v13 = some o → (Sum.elim (fun s => To 26 F0 w0 [] [] (.exit 0) Q) (fun s => To 26 F0 w0 [(4, .val (.bool s))] [] .ret Q)) o → WL Try.prog 26 F0 w0 [(0, .recs (α := List UInt8) [] E_string v0), (1, .recs (α := List UInt8) [] E_string v1), (12, .val (.int .i64 v12)), (13, .val (.int .i64 v13))] [] (cI (cI (cB (cA (cB (cB (cF Try.f41))))))) Q := by
  induction k with
  | zero => intro v13 o h; cases h
  | succ k ih =>
    intro v13 o h hQ
    rw [slices_Equal_string_string_l1] at h
    refine WL.round ?_
    refine Wp.seq ?_
    refine Wp.region hΓ [] [] [] [0, 1, 12, 13, 14] [] (K' := [(0, .recs (α := List UInt8) [] E_string v0), (1, .recs (α := List UInt8) [] E_string v1), (12, .val (.int .i64 v12)), (13, .val (.int .i64 v13)), (14, .val (.bool (decide (v13 < v12))))]) (L' := []) (ob := []) (by kernel_rfl) AllP.nil ?_
    refine To.thenN ?_
    refine Wp.seq ?_
    refine Wp.cond (b := (decide (v13 < v12))) (by kernel_rfl) (fun hb => ?_) (fun hb => ?_)
    · replace h := if_t hb h
      refine Wp.skip ?_
      refine To.thenN ?_
      refine Wp.seq ?_
      refine Wp.block ?_
      refine Wp.seq ?_
      refine Wp.region hΓ [] [] [] [0, 1, 5, 12, 13] [] (K' := [(0, .recs (α := List UInt8) [] E_string v0), (1, .recs (α := List UInt8) [] E_string v1), (5, .val (.int .i64 v13)), (12, .val (.int .i64 v12)), (13, .val (.int .i64 v13))]) (L' := []) (ob := []) (by kernel_rfl) AllP.nil ?_
      refine To.thenN ?_
      refine Wp.seq ?_
      obtain ⟨hc1, h⟩ := chk_of h
      obtain ⟨hc2, h⟩ := chk_of h
      refine Wp.regionD hm hΓ [] [0, 1, 12, 13, 24] [] (K' := [(0, .recs (α := List UInt8) [] E_string v0), (1, .recs (α := List UInt8) [] E_string v1), (12, .val (.int .i64 v12)), (13, .val (.int .i64 v13)), (24, .val (.bool (!(((v0)[Int.toNat v13]?.getD []) == ((v1)[Int.toNat v13]?.getD [])))))]) (L' := []) (ob := [(decide (0 ≤ v13 ∧ v13 < (List.length v0 : Int))) = true, (decide (0 ≤ v13 ∧ v13 < (List.length v1 : Int))) = true]) (by kernel_rfl) (AllP.cons hc1 (AllP.cons hc2 AllP.nil)) ?_
      refine To.thenN ?_
      refine Wp.cond (b := (!(((v0)[Int.toNat v13]?.getD []) == ((v1)[Int.toNat v13]?.getD [])))) (by kernel_rfl) (fun hb => ?_) (fun hb => ?_)
      · replace h := if_t hb h
        refine Wp.seq ?_
        refine Wp.region hΓ [] [] [] [4] [] (K' := [(4, .val (.bool false))]) (L' := []) (ob := []) (by kernel_rfl) AllP.nil ?_
        refine To.thenN ?_
        refine Wp.ret ?_
        refine To.blockR ?_
        refine To.thenR ?_
        refine To.thenR ?_
        refine To.keep (kk := [4]) (kl := []) (K' := [(4, .val (.bool false))]) (L' := []) (by kernel_rfl) (by kernel_rfl) ?_
        cases h
        exact hQ
      · replace h := if_f hb h
        refine Wp.skip ?_
        refine To.blockN ?_
        refine To.thenN ?_
        refine Wp.region hΓ [] [] [] [0, 1, 12, 13] [] (K' := [(0, .recs (α := List UInt8) [] E_string v0), (1, .recs (α := List UInt8) [] E_string v1), (12, .val (.int .i64 v12)), (13, .val (.int .i64 (IntKind.wrap .i64 (v13 + 1))))]) (L' := []) (ob := []) (by kernel_rfl) AllP.nil ?_
        refine To.keep (kk := [0, 1, 12, 13]) (kl := []) (K' := [(0, .recs (α := List UInt8) [] E_string v0), (1, .recs (α := List UInt8) [] E_string v1), (12, .val (.int .i64 v12)), (13, .val (.int .i64 (IntKind.wrap .i64 (v13 + 1))))]) (L' := []) (by kernel_rfl) (by kernel_rfl) ?_
        refine To.again ?_
        exact ih (IntKind.wrap .i64 (v13 + 1)) _ h hQ
    · replace h := if_f hb h
      refine Wp.exit ?_
      refine To.thenX ?_
      refine To.thenX ?_
      refine To.keep (kk := []) (kl := []) (K' := []) (L' := []) (by kernel_rfl) (by kernel_rfl) ?_
      cases h
      exact hQ
def slices_Equal_string_string (n : Nat) (a0 : List (List UInt8)) (a1 : List (List UInt8)) : Option (Bool) :=
  if ((List.length a0 : Int) != (List.length a1 : Int)) = true then some false
  else ((slices_Equal_string_string_l1 n a0 a1 (List.length a0 : Int) n 0).bind fun o1 =>
  (Sum.elim (fun o1 => some true) (fun o1 => some o1)) o1)
theorem ok_slices_Equal_string_string (n : Nat) (a0 : List (List UInt8)) (a1 : List (List UInt8)) (r : Bool) (h : slices_Equal_string_string n a0 a1 = some r) : CallsX Try.prog 41 [.recs (α := List UInt8) [] E_string a0, .recs (α := List UInt8) [] E_string a1] (.val (.bool r)) := by
  unfold slices_Equal_string_string at h
  refine callsX_of (fn := Try.f41) (by kernel_rfl) rfl (by kernel_rfl) (Nat.le_of_ble_eq_true (by kernel_rfl)) fun F0 w0 _ => ?_
  refine Wp.keep (kk := [0, 1]) (kl := []) (K' := [(0, .recs (α := List UInt8) [] E_string a0), (1, .recs (α := List UInt8) [] E_string a1)]) (L' := []) (by kernel_rfl) (by kernel_rfl) ?_
  refine Wp.seq ?_
  refine Wp.region hΓ [] [] [] [0, 1] [] (K' := [(0, .recs (α := List UInt8) [] E_string a0), (1, .recs (α := List UInt8) [] E_string a1)]) (L' := []) (ob := []) (by kernel_rfl) AllP.nil ?_
  refine To.thenN ?_
  refine Wp.seq ?_
  refine Wp.seq ?_
  refine Wp.region hΓ [] [] [] [0, 1, 10] [] (K' := [(0, .recs (α := List UInt8) [] E_string a0), (1, .recs (α := List UInt8) [] E_string a1), (10, .val (.bool ((List.length a0 : Int) != (List.length a1 : Int))))]) (L' := []) (ob := []) (by kernel_rfl) AllP.nil ?_
  refine To.thenN ?_
  refine Wp.cond (b := ((List.length a0 : Int) != (List.length a1 : Int))) (by kernel_rfl) (fun hb => ?_) (fun hb => ?_)
  · replace h := if_t hb h
    refine Wp.seq ?_
    refine Wp.region hΓ [] [] [] [4] [] (K' := [(4, .val (.bool false))]) (L' := []) (ob := []) (by kernel_rfl) AllP.nil ?_
    refine To.thenN ?_
    refine Wp.ret ?_
    refine To.thenR ?_
    refine To.keep (kk := [4]) (kl := []) (K' := [(4, .val (.bool false))]) (L' := []) (by kernel_rfl) (by kernel_rfl) ?_
    cases h
    exact To.done hΓ (by kernel_rfl)
  · replace h := if_f hb h
    refine Wp.skip ?_
    refine To.thenN ?_
    refine Wp.seq ?_
    refine Wp.seq ?_
    refine Wp.region hΓ [] [] [] [0, 1, 12, 13] [] (K' := [(0, .recs (α := List UInt8) [] E_string a0), (1, .recs (α := List UInt8) [] E_string a1), (12, .val (.int .i64 (List.length a0 : Int))), (13, .val (.int .i64 0))]) (L' := []) (ob := []) (by kernel_rfl) AllP.nil ?_
    refine To.thenN ?_
    refine Wp.block ?_
    obtain ⟨o1, ho1, h⟩ := bind_of h
    refine Wp.keep (kk := [0, 1, 12, 13]) (kl := []) (K' := [(0, .recs (α := List UInt8) [] E_string a0), (1, .recs (α := List UInt8) [] E_string a1), (12, .val (.int .i64 (List.length a0 : Int))), (13, .val (.int .i64 0))]) (L' := []) (by kernel_rfl) (by kernel_rfl) ?_
    refine Wp.loopL ?_
    refine ok_slices_Equal_string_string_l1 n a0 a1 (List.length a0 : Int) n 0 o1 ho1 ?_
    rcases o1 with o1 | o1
    · replace h := sum_l h
      refine To.blockX ?_
      refine To.thenN ?_
      refine Wp.seq ?_
      refine Wp.region hΓ [] [] [] [4] [] (K' := [(4, .val (.bool true))]) (L' := []) (ob := []) (by kernel_rfl) AllP.nil ?_
      refine To.thenN ?_
      refine Wp.ret ?_
      refine To.keep (kk := [4]) (kl := []) (K' := [(4, .val (.bool true))]) (L' := []) (by kernel_rfl) (by kernel_rfl) ?_
      cases h
      exact To.done hΓ (by kernel_rfl)
    · replace h := sum_r h
      refine To.blockR ?_
      refine To.thenR ?_
      refine To.keep (kk := [4]) (kl := []) (K' := [(4, .val (.bool o1))]) (L' := []) (by kernel_rfl) (by kernel_rfl) ?_
      cases h
      exact To.done hΓ (by kernel_rfl)
def name_Same (n : Nat) (a0 : List (List UInt8)) (a1 : List (List UInt8)) : Option (Bool) :=
  (slices_Equal_string_string n a0 a1).bind fun r1 =>
  some r1
theorem ok_name_Same (n : Nat) (a0 : List (List UInt8)) (a1 : List (List UInt8)) (r : Bool) (h : name_Same n a0 a1 = some r) : CallsX Try.prog 23 [.recs (α := List UInt8) [] E_string a0, .recs (α := List UInt8) [] E_string a1] (.val (.bool r)) := by
  unfold name_Same at h
  refine callsX_of (fn := Try.f23) (by kernel_rfl) rfl (by kernel_rfl) (Nat.le_of_ble_eq_true (by kernel_rfl)) fun F0 w0 _ => ?_
  refine Wp.keep (kk := [0, 1]) (kl := []) (K' := [(0, .recs (α := List UInt8) [] E_string a0), (1, .recs (α := List UInt8) [] E_string a1)]) (L' := []) (by kernel_rfl) (by kernel_rfl) ?_
  refine Wp.seq ?_
  refine Wp.region hΓ [] [] [] [0, 1] [] (K' := [(0, .recs (α := List UInt8) [] E_string a0), (1, .recs (α := List UInt8) [] E_string a1)]) (L' := []) (ob := []) (by kernel_rfl) AllP.nil ?_
  refine To.thenN ?_
  refine Wp.seq ?_
  obtain ⟨r1, hr1, h⟩ := bind_of h
  refine Wp.region hΓ [] [(2, .val (.bool r1))] [] [4] [] (K' := [(4, .val (.bool r1))]) (L' := []) (ob := [(true = true → CX Try.prog 41 [.recs (α := List UInt8) [] E_string a0, .recs (α := List UInt8) [] E_string a1] (.val (.bool r1)))]) (by kernel_rfl) (AllP.cons (fun _ => cx (ok_slices_Equal_string_string n a0 a1 _ hr1)) AllP.nil) ?_
  refine To.thenN ?_
  refine Wp.ret ?_
  refine To.keep (kk := [4]) (kl := []) (K' := [(4, .val (.bool r1))]) (L' := []) (by kernel_rfl) (by kernel_rfl) ?_
  cases h
  exact To.done hΓ (by kernel_rfl)
def ref02_At_l1 (n : Nat) (v0 : List (List UInt8)) (v1 : List UInt8) : Nat → Int → Option (Sum (Unit) (Int))
  | 0, _ => none
  | k + 1, v5 => if (decide (v5 < (List.length v0 : Int))) = true then (if (decide (0 ≤ v5 ∧ v5 < (List.length v0 : Int))) = true then (if (((v0)[Int.toNat v5]?.getD []) == v1) = true then (some (.inr v5))
  else (ref02_At_l1 n v0 v1 k (IntKind.wrap .i64 (v5 + 1)))) else none)
  else (some (.inl ()))
theorem ok_ref02_At_l1 (n : Nat) (v0 : List (List UInt8)) (v1 : List UInt8) {F0 : Fz} {w0 : Pt Try.prog} {Q : Exit → Act → World → Prop} (k : Nat) : ∀ (v5 : Int) (o : Sum (Unit) (Int)), ref02_At_l1 n v0 v1 k v5 = some o → (Sum.elim (fun s => To 19 F0 w0 [] [] (.exit 0) Q) (fun s => To 19 F0 w0 [(4, .val (.int .i64 s))] [] .ret Q)) o → WL Try.prog 19 F0 w0 [(0, .recs (α := List UInt8) [] E_string v0), (1, .str v1), (5, .val (.int .i64 v5))] [] (cI (cI (cB (cA (cB (cF Try.f25)))))) Q := by
  induction k with
  | zero => intro v5 o h; cases h
  | succ k ih =>
    intro v5 o h hQ
    rw [ref02_At_l1] at h
    refine WL.round ?_
    refine Wp.seq ?_
    refine Wp.seq ?_
    refine Wp.region hΓ [] [] [] [0, 1, 5, 9] [] (K' := [(0, .recs (α := List UInt8) [] E_string v0), (1, .str v1), (5, .val (.int .i64 v5)), (9, .val (.bool (decide (v5 < (List.length v0 : Int)))))]) (L' := []) (ob := []) (by kernel_rfl) AllP.nil ?_
    refine To.thenN ?_
    refine Wp.cond (b := (decide (v5 < (List.length v0 : Int)))) (by kernel_rfl) (fun hb => ?_) (fun hb => ?_)
    · replace h := if_t hb h
      refine Wp.skip ?_
      refine To.thenN ?_
      refine Wp.seq ?_
      refine Wp.block ?_
      refine Wp.seq ?_
      obtain ⟨hc1, h⟩ := chk_of h
      refine Wp.region hΓ [] [] [] [0, 1, 5, 17] [] (K' := [(0, .recs (α := List UInt8) [] E_string v0), (1, .str v1), (5, .val (.int .i64 v5)), (17, .val (.bool (((v0)[Int.toNat v5]?.getD []) == v1)))]) (L' := []) (ob := [(decide (0 ≤ v5 ∧ v5 < (List.length v0 : Int))) = true]) (by kernel_rfl) (AllP.cons hc1 AllP.nil) ?_
      refine To.thenN ?_
      refine Wp.cond (b := (((v0)[Int.toNat v5]?.getD []) == v1)) (by kernel_rfl) (fun hb => ?_) (fun hb => ?_)
      · replace h := if_t hb h
        refine Wp.seq ?_
        refine Wp.region hΓ [] [] [] [4] [] (K' := [(4, .val (.int .i64 v5))]) (L' := []) (ob := []) (by kernel_rfl) AllP.nil ?_
        refine To.thenN ?_
        refine Wp.ret ?_
        refine To.blockR ?_
        refine To.thenR ?_
        refine To.thenR ?_
        refine To.keep (kk := [4]) (kl := []) (K' := [(4, .val (.int .i64 v5))]) (L' := []) (by kernel_rfl) (by kernel_rfl) ?_
        cases h
        exact hQ
      · replace h := if_f hb h
        refine Wp.skip ?_
        refine To.blockN ?_
        refine To.thenN ?_
        refine Wp.region hΓ [] [] [] [0, 1, 5] [] (K' := [(0, .recs (α := List UInt8) [] E_string v0), (1, .str v1), (5, .val (.int .i64 (IntKind.wrap .i64 (v5 + 1))))]) (L' := []) (ob := []) (by kernel_rfl) AllP.nil ?_
        refine To.keep (kk := [0, 1, 5]) (kl := []) (K' := [(0, .recs (α := List UInt8) [] E_string v0), (1, .str v1), (5, .val (.int .i64 (IntKind.wrap .i64 (v5 + 1))))]) (L' := []) (by kernel_rfl) (by kernel_rfl) ?_
        refine To.again ?_
        exact ih (IntKind.wrap .i64 (v5 + 1)) _ h hQ
    · replace h := if_f hb h
      refine Wp.exit ?_
      refine To.thenX ?_
      refine To.thenX ?_
      refine To.keep (kk := []) (kl := []) (K' := []) (L' := []) (by kernel_rfl) (by kernel_rfl) ?_
      cases h
      exact hQ
def ref02_At (n : Nat) (a0 : List (List UInt8)) (a1 : List UInt8) : Option (Int) :=
  (ref02_At_l1 n a0 a1 n 0).bind fun o1 =>
  (Sum.elim (fun o1 => some (-1)) (fun o1 => some o1)) o1
theorem ok_ref02_At (n : Nat) (a0 : List (List UInt8)) (a1 : List UInt8) (r : Int) (h : ref02_At n a0 a1 = some r) : CallsX Try.prog 25 [.recs (α := List UInt8) [] E_string a0, .str a1] (.val (.int .i64 r)) := by
  unfold ref02_At at h
  refine callsX_of (fn := Try.f25) (by kernel_rfl) rfl (by kernel_rfl) (Nat.le_of_ble_eq_true (by kernel_rfl)) fun F0 w0 _ => ?_
  refine Wp.keep (kk := [0, 1]) (kl := []) (K' := [(0, .recs (α := List UInt8) [] E_string a0), (1, .str a1)]) (L' := []) (by kernel_rfl) (by kernel_rfl) ?_
  refine Wp.seq ?_
  refine Wp.region hΓ [] [] [] [0, 1] [] (K' := [(0, .recs (α := List UInt8) [] E_string a0), (1, .str a1)]) (L' := []) (ob := []) (by kernel_rfl) AllP.nil ?_
  refine To.thenN ?_
  refine Wp.seq ?_
  refine Wp.seq ?_
  refine Wp.region hΓ [] [] [] [0, 1, 5] [] (K' := [(0, .recs (α := List UInt8) [] E_string a0), (1, .str a1), (5, .val (.int .i64 0))]) (L' := []) (ob := []) (by kernel_rfl) AllP.nil ?_
  refine To.thenN ?_
  refine Wp.block ?_
  obtain ⟨o1, ho1, h⟩ := bind_of h
  refine Wp.keep (kk := [0, 1, 5]) (kl := []) (K' := [(0, .recs (α := List UInt8) [] E_string a0), (1, .str a1), (5, .val (.int .i64 0))]) (L' := []) (by kernel_rfl) (by kernel_rfl) ?_
  refine Wp.loopL ?_
  refine ok_ref02_At_l1 n a0 a1 n 0 o1 ho1 ?_
  rcases o1 with o1 | o1
  · replace h := sum_l h
    refine To.blockX ?_
    refine To.thenN ?_
    refine Wp.seq ?_
    refine Wp.region hΓ [] [] [] [4] [] (K' := [(4, .val (.int .i64 (-1)))]) (L' := []) (ob := []) (by kernel_rfl) AllP.nil ?_
    refine To.thenN ?_
    refine Wp.ret ?_
    refine To.keep (kk := [4]) (kl := []) (K' := [(4, .val (.int .i64 (-1)))]) (L' := []) (by kernel_rfl) (by kernel_rfl) ?_
    cases h
    exact To.done hΓ (by kernel_rfl)
  · replace h := sum_r h
    refine To.blockR ?_
    refine To.thenR ?_
    refine To.keep (kk := [4]) (kl := []) (K' := [(4, .val (.int .i64 o1))]) (L' := []) (by kernel_rfl) (by kernel_rfl) ?_
    cases h
    exact To.done hΓ (by kernel_rfl)
def law02_NameLists (n : Nat) (a0 : List (List UInt8)) (a1 : List (List UInt8)) (a2 : List UInt8) : Option (Bool) :=
  (law02_Few n a0 60).bind fun r1 =>
  ((if ((!r1) == false) = true then law02_Few n a1 60 else some false)).bind fun r2 =>
  if (bif (!r1) then true else (!r2)) = true then ((law02_awake n).bind fun r3 =>
  some r3)
  else ((name_Sorted n a0).bind fun r4 =>
  (ref02_Sorted n a0).bind fun r5 =>
  (ref02_Same n r4 r5).bind fun r6 =>
  ((if ((!r6) == false) = true then name_Both n a0 a1 else some [])).bind fun r7 =>
  ((if ((!r6) == false) = true then ref02_Both n a0 a1 else some [])).bind fun r8 =>
  ((if ((!r6) == false) = true then ref02_Same n r7 r8 else some false)).bind fun r9 =>
  ((if ((bif (!r6) then true else (!r9)) == false) = true then name_Without n a0 a1 else some [])).bind fun r10 =>
  ((if ((bif (!r6) then true else (!r9)) == false) = true then ref02_Without n a0 a1 else some [])).bind fun r11 =>
  ((if ((bif (!r6) then true else (!r9)) == false) = true then ref02_Same n r10 r11 else some false)).bind fun r12 =>
  if (bif (bif (!r6) then true else (!r9)) then true else (!r12)) = true then some false
  else ((name_In n a0 a2).bind fun r13 =>
  (ref02_In n a0 a2).bind fun r14 =>
  ((if ((r13 == r14) == true) = true then name_Same n a0 a1 else some false)).bind fun r15 =>
  ((if ((r13 == r14) == true) = true then ref02_Same n a0 a1 else some false)).bind fun r16 =>
  ((if ((bif (r13 == r14) then (r15 == r16) else false) == true) = true then name_At n a0 a2 else some 0)).bind fun r17 =>
  ((if ((bif (r13 == r14) then (r15 == r16) else false) == true) = true then ref02_At n a0 a2 else some 0)).bind fun r18 =>
  ((if ((bif (bif (r13 == r14) then (r15 == r16) else false) then (r17 == r18) else false) == true) = true then law02_awake n else some false)).bind fun r19 =>
  some (bif (bif (bif (r13 == r14) then (r15 == r16) else false) then (r17 == r18) else false) then r19 else false)))
end Go.Proofs.Ytljnmojkhajolaa.M