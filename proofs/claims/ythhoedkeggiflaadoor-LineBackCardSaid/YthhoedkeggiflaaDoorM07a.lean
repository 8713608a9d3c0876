/-
  Printed by wip/tools/gen.py: models and walks of functions.
-/
import Derived.Test.YthhoedkeggiflaaDoorRxAnyD
import Derived.Test.YthhoedkeggiflaaDoorRxArgs
import Derived.Test.YthhoedkeggiflaaDoorRxGoto
import Derived.Test.YthhoedkeggiflaaDoorSh07
import Derived.Test.YthhoedkeggiflaaDoorBld07
import Derived.Test.YthhoedkeggiflaaDoorProg
namespace Go.Proofs.YthhoedkeggiflaaDoor.M
open Go.RowKit Go.Proofs.YthhoedkeggiflaaDoor.RX
set_option maxRecDepth 100000
def tab : List (Nat × TI) := [
  (3, { agg := false, size := 1, zero := [.int .i64 0], kind := .int .i64, eqs := [] }),
  (5, { agg := false, size := 1, zero := [.int .u8 0], kind := .int .u8, eqs := [] }),
  (9, { agg := false, size := 1, zero := [.string ⟨#[]⟩], kind := .str, eqs := [] }),
  (23, { agg := false, size := 1, zero := [.slice none 0 0], kind := .slice 3 true, elt := 34, eb := 32, ez := [.int .i64 0, .int .i64 0, .string ⟨#[]⟩], ek := none, eqs := [] }),
  (27, { agg := false, size := 1, zero := [.slice none 0 0], kind := .slice 3 true, elt := 36, eb := 32, ez := [.int .i64 0, .int .i64 0, .string ⟨#[]⟩], ek := none, eqs := [] }),
  (34, { agg := true, size := 3, zero := [.int .i64 0, .int .i64 0, .string ⟨#[]⟩], kind := .struct [(0, 1, false), (1, 1, false), (2, 1, false)], eqs := [0, 0, 2] }),
  (36, { agg := true, size := 3, zero := [.int .i64 0, .int .i64 0, .string ⟨#[]⟩], kind := .struct [(0, 1, false), (1, 1, false), (2, 1, false)], eqs := [] }),
  (46, { agg := false, size := 1, zero := [.slice none 0 0], kind := .slice 1 false, elt := 5, eb := 1, ez := [.int .u8 0], ek := some .u8, eqs := [] }),
  (48, { agg := true, size := 2, zero := [.pointer none, .slice none 0 0], kind := .struct [(0, 1, false), (1, 1, false)], eqs := [] })]
theorem tabOK : TabOK Tryd.prog tab := ⟨⟨by kernel_rfl, fun h => absurd rfl h⟩, ⟨by kernel_rfl, fun h => absurd rfl h⟩, ⟨by kernel_rfl, fun h => absurd rfl h⟩, ⟨by kernel_rfl, fun h => absurd rfl h⟩, ⟨by kernel_rfl, fun h => absurd rfl h⟩, ⟨by kernel_rfl, fun _ => eqCells_of (by kernel_rfl)⟩, ⟨by kernel_rfl, fun h => absurd rfl h⟩, ⟨by kernel_rfl, fun h => absurd rfl h⟩, ⟨by kernel_rfl, fun h => absurd rfl h⟩, trivial⟩
theorem hΓ : ΓOK Tryd.prog (tabΓ tab) := ΓOK.of tabOK
theorem hm : Tryd.prog.follows .mixedOrders = true := by kernel_rfl
structure S_line_Line where
  f_No : Int
  f_Indent : Int
  f_Text : List UInt8
def E_line_Line : S_line_Line → List D := fun x => [.val (.int .i64 x.f_No), .val (.int .i64 x.f_Indent), .str x.f_Text]
theorem good_E_line_Line (l : List (S_line_Line)) : GoodR (.recs (S_line_Line.mk 0 0 []) E_line_Line l) := ⟨Nat.le_of_ble_eq_true (by kernel_rfl), fun _ => ⟨rfl, rfl⟩⟩
def quote_ok (a0 : Int) : Bool :=
  (bif (decide (a0 ≥ 32)) then (a0 != 127) else false)
theorem ok_quote_ok (a0 : Int) (r : Bool) (h : quote_ok a0 = r) : CallsX Tryd.prog 42 [.val (.int .u8 a0)] (.val (.bool r)) := by
  unfold quote_ok at h
  refine callsX_of (fn := Tryd.f42) (by kernel_rfl) rfl (by kernel_rfl) (Nat.le_of_ble_eq_true (by kernel_rfl)) fun F0 w0 _ => ?_
  refine Wp.keep (kk := [0]) (kl := []) (K' := [(0, .val (.int .u8 a0))]) (L' := []) (by kernel_rfl) (by kernel_rfl) ?_
  refine Wp.seq ?_
  refine Wp.region hΓ [] [] [] [0] [] (K' := [(0, .val (.int .u8 a0))]) (L' := []) (ob := []) (by kernel_rfl) AllP.nil ?_
  refine To.thenN ?_
  refine Wp.seq ?_
  refine Wp.region hΓ [] [] [] [2] [] (K' := [(2, .val (.bool (bif (decide (a0 ≥ 32)) then (a0 != 127) else false)))]) (L' := []) (ob := []) (by kernel_rfl) AllP.nil ?_
  refine To.thenN ?_
  refine Wp.ret ?_
  refine To.keep (kk := [2]) (kl := []) (K' := [(2, .val (.bool (bif (decide (a0 ≥ 32)) then (a0 != 127) else false)))]) (L' := []) (by kernel_rfl) (by kernel_rfl) ?_
  cases h
  exact To.done hΓ (by kernel_rfl)
def quote_hex (a0 : Int) : Int × Bool :=
  if (bif (decide (a0 ≥ 48)) then (decide (a0 ≤ 57)) else false) = true then (((IntKind.wrap .u8 (a0 - 48)), true))
  else (if (bif (decide (a0 ≥ 97)) then (decide (a0 ≤ 102)) else false) = true then (((IntKind.wrap .u8 ((IntKind.wrap .u8 (a0 - 97)) + 10)), true))
  else (if (bif (decide (a0 ≥ 65)) then (decide (a0 ≤ 70)) else false) = true then (((IntKind.wrap .u8 ((IntKind.wrap .u8 (a0 - 65)) + 10)), true))
  else ((0, false))))
theorem ok_quote_hex (a0 : Int) (r : Int × Bool) (h : quote_hex a0 = r) : CallsX Tryd.prog 57 [.val (.int .u8 a0)] (.tup [.val (.int .u8 r.1), .val (.bool r.2)]) := by
  unfold quote_hex at h
  refine callsX_of (fn := Tryd.f57) (by kernel_rfl) rfl (by kernel_rfl) (Nat.le_of_ble_eq_true (by kernel_rfl)) fun F0 w0 _ => ?_
  refine Wp.keep (kk := [0]) (kl := []) (K' := [(0, .val (.int .u8 a0))]) (L' := []) (by kernel_rfl) (by kernel_rfl) ?_
  refine Wp.seq ?_
  refine Wp.region hΓ [] [] [] [0] [] (K' := [(0, .val (.int .u8 a0))]) (L' := []) (ob := []) (by kernel_rfl) AllP.nil ?_
  refine To.thenN ?_
  refine Wp.seq ?_
  refine Wp.block ?_
  refine Wp.seq ?_
  refine Wp.region hΓ [] [] [] [0, 4] [] (K' := [(0, .val (.int .u8 a0)), (4, .val (.bool (bif (decide (a0 ≥ 48)) then (decide (a0 ≤ 57)) else false)))]) (L' := []) (ob := []) (by kernel_rfl) AllP.nil ?_
  refine To.thenN ?_
  refine Wp.cond (b := (bif (decide (a0 ≥ 48)) then (decide (a0 ≤ 57)) else false)) (by kernel_rfl) (fun hb => ?_) (fun hb => ?_)
  · replace h := if_t hb h
    refine Wp.seq ?_
    refine Wp.region hΓ [] [] [] [2, 3] [] (K' := [(2, .val (.int .u8 (IntKind.wrap .u8 (a0 - 48)))), (3, .val (.bool true))]) (L' := []) (ob := []) (by kernel_rfl) AllP.nil ?_
    refine To.thenN ?_
    refine Wp.ret ?_
    refine To.blockR ?_
    refine To.thenR ?_
    refine To.keep (kk := [2, 3]) (kl := []) (K' := [(2, .val (.int .u8 (IntKind.wrap .u8 (a0 - 48)))), (3, .val (.bool true))]) (L' := []) (by kernel_rfl) (by kernel_rfl) ?_
    cases h
    exact To.done hΓ (by kernel_rfl)
  · replace h := if_f hb h
    refine Wp.seq ?_
    refine Wp.region hΓ [] [] [] [0, 13] [] (K' := [(0, .val (.int .u8 a0)), (13, .val (.bool (bif (decide (a0 ≥ 97)) then (decide (a0 ≤ 102)) else false)))]) (L' := []) (ob := []) (by kernel_rfl) AllP.nil ?_
    refine To.thenN ?_
    refine Wp.cond (b := (bif (decide (a0 ≥ 97)) then (decide (a0 ≤ 102)) else false)) (by kernel_rfl) (fun hb => ?_) (fun hb => ?_)
    · replace h := if_t hb h
      refine Wp.seq ?_
      refine Wp.region hΓ [] [] [] [2, 3] [] (K' := [(2, .val (.int .u8 (IntKind.wrap .u8 ((IntKind.wrap .u8 (a0 - 97)) + 10)))), (3, .val (.bool true))]) (L' := []) (ob := []) (by kernel_rfl) AllP.nil ?_
      refine To.thenN ?_
      refine Wp.ret ?_
      refine To.blockR ?_
      refine To.thenR ?_
      refine To.keep (kk := [2, 3]) (kl := []) (K' := [(2, .val (.int .u8 (IntKind.wrap .u8 ((IntKind.wrap .u8 (a0 - 97)) + 10)))), (3, .val (.bool true))]) (L' := []) (by kernel_rfl) (by kernel_rfl) ?_
      cases h
      exact To.done hΓ (by kernel_rfl)
    · replace h := if_f hb h
      refine Wp.seq ?_
      refine Wp.region hΓ [] [] [] [0, 23] [] (K' := [(0, .val (.int .u8 a0)), (23, .val (.bool (bif (decide (a0 ≥ 65)) then (decide (a0 ≤ 70)) else false)))]) (L' := []) (ob := []) (by kernel_rfl) AllP.nil ?_
      refine To.thenN ?_
      refine Wp.cond (b := (bif (decide (a0 ≥ 65)) then (decide (a0 ≤ 70)) else false)) (by kernel_rfl) (fun hb => ?_) (fun hb => ?_)
      · replace h := if_t hb h
        refine Wp.seq ?_
        refine Wp.region hΓ [] [] [] [2, 3] [] (K' := [(2, .val (.int .u8 (IntKind.wrap .u8 ((IntKind.wrap .u8 (a0 - 65)) + 10)))), (3, .val (.bool true))]) (L' := []) (ob := []) (by kernel_rfl) AllP.nil ?_
        refine To.thenN ?_
        refine Wp.ret ?_
        refine To.blockR ?_
        refine To.thenR ?_
        refine To.keep (kk := [2, 3]) (kl := []) (K' := [(2, .val (.int .u8 (IntKind.wrap .u8 ((IntKind.wrap .u8 (a0 - 65)) + 10)))), (3, .val (.bool true))]) (L' := []) (by kernel_rfl) (by kernel_rfl) ?_
        cases h
        exact To.done hΓ (by kernel_rfl)
      · replace h := if_f hb h
        refine Wp.skip ?_
        refine To.blockN ?_
        refine To.thenN ?_
        refine Wp.seq ?_
        refine Wp.region hΓ [] [] [] [2, 3] [] (K' := [(2, .val (.int .u8 0)), (3, .val (.bool false))]) (L' := []) (ob := []) (by kernel_rfl) AllP.nil ?_
        refine To.thenN ?_
        refine Wp.ret ?_
        refine To.keep (kk := [2, 3]) (kl := []) (K' := [(2, .val (.int .u8 0)), (3, .val (.bool false))]) (L' := []) (by kernel_rfl) (by kernel_rfl) ?_
        cases h
        exact To.done hΓ (by kernel_rfl)
def quote_escape_j2 (n : Nat) (v0 : List UInt8) (v12 : Int) (v13 : Bool) : Option (Bool) :=
  if v13 = true then some v13
  else (some (v12 == 34))
theorem ok_quote_escape_j2 (n : Nat) (v0 : List UInt8) (v12 : Int) (v13 : Bool) (o : Bool) (h : quote_escape_j2 n v0 v12 v13 = some o) {F0 : Fz} {w0 : Pt Tryd.prog} {Q : Exit → Act → World → Prop} (hQ : To 47 F0 w0 [(0, .str v0), (12, .val (.int .u8 v12)), (13, .val (.bool o))] [] .normal Q) : Wp Tryd.prog 47 F0 w0 [(0, .str v0), (12, .val (.int .u8 v12)), (13, .val (.bool v13))] [] (cB (cA (cI (cB (cA (cB (cB (cF Tryd.f43)))))))) Q := by
  unfold quote_escape_j2 at h
  refine Wp.cond (b := v13) (by kernel_rfl) (fun hb => ?_) (fun hb => ?_)
  · replace h := if_t hb h
    refine Wp.skip ?_
    refine To.keep (kk := [0, 12, 13]) (kl := []) (K' := [(0, .str v0), (12, .val (.int .u8 v12)), (13, .val (.bool v13))]) (L' := []) (by kernel_rfl) (by kernel_rfl) ?_
    cases h
    exact hQ
  · replace h := if_f hb h
    refine Wp.region hΓ [] [] [] [0, 12, 13] [] (K' := [(0, .str v0), (12, .val (.int .u8 v12)), (13, .val (.bool (v12 == 34)))]) (L' := []) (ob := []) (by kernel_rfl) AllP.nil ?_
    refine To.keep (kk := [0, 12, 13]) (kl := []) (K' := [(0, .str v0), (12, .val (.int .u8 v12)), (13, .val (.bool (v12 == 34)))]) (L' := []) (by kernel_rfl) (by kernel_rfl) ?_
    cases h
    exact hQ
def quote_escape_j1 (n : Nat) (v0 : List UInt8) (v12 : Int) : Option (Sum (Unit) (Int × Int)) :=
  (quote_escape_j2 n v0 v12 (v12 == 92)).bind fun o1 =>
  if o1 = true then (if (decide (0 ≤ (1 : Int) ∧ (1 : Int) < (List.length v0 : Int))) = true then (some (.inr ((((v0)[Int.toNat 1]?.getD 0).toNat : Int), 2))) else none)
  else (if (v12 == 110) = true then (some (.inr (10, 2)))
  else (if (v12 == 116) = true then (some (.inr (9, 2)))
  else (if (v12 == 120) = true then (if (decide ((List.length v0 : Int) < 4)) = true then (some (.inr (0, 0)))
  else (if (decide (0 ≤ (2 : Int) ∧ (2 : Int) < (List.length v0 : Int))) = true then (lett (quote_hex (((v0)[Int.toNat 2]?.getD 0).toNat : Int)) fun r3 =>
  if (decide (0 ≤ (3 : Int) ∧ (3 : Int) < (List.length v0 : Int))) = true then (lett (quote_hex (((v0)[Int.toNat 3]?.getD 0).toNat : Int)) fun r4 =>
  if (bif r3.2 then r4.2 else false) = true then (if (decide (0 ≤ (4 : Int))) = true then (lett ((IntKind.wrap .u8 ((BitVec.ofInt (IntKind.bits .u8) (IntKind.wrap .u8 (r3.1 * 2 ^ (min (Int.toNat 4) (IntKind.bits .u8)))) ||| BitVec.ofInt (IntKind.bits .u8) r4.1).toNat)) : Int) fun x5 =>
  some (.inr (x5, 4))) else none)
  else (some (.inl ()))) else none) else none))
  else (some (.inl ())))))
theorem ok_quote_escape_j1 (n : Nat) (v0 : List UInt8) (v12 : Int) (o : Sum (Unit) (Int × Int)) (h : quote_escape_j1 n v0 v12 = some o) {F0 : Fz} {w0 : Pt Tryd.prog} {Q : Exit → Act → World → Prop} (hQ : (Sum.elim (fun s => To 47 F0 w0 [] [] .normal Q) (fun s => To 47 F0 w0 [(2, .val (.int .u8 s.1)), (3, .val (.int .i64 s.2))] [] .ret Q)) o) : Wp Tryd.prog 47 F0 w0 [(0, .str v0), (12, .val (.int .u8 v12))] [] (cB (cA (cB (cB (cF Tryd.f43))))) Q := by
  unfold quote_escape_j1 at h
  refine Wp.block ?_
  refine Wp.seq ?_
  refine Wp.seq ?_
  refine Wp.region hΓ [] [] [] [0, 12, 13] [] (K' := [(0, .str v0), (12, .val (.int .u8 v12)), (13, .val (.bool (v12 == 92)))]) (L' := []) (ob := []) (by kernel_rfl) AllP.nil ?_
  refine To.thenN ?_
  obtain ⟨o1, ho1, h⟩ := bind_of h
  refine Wp.keep (kk := [0, 12, 13]) (kl := []) (K' := [(0, .str v0), (12, .val (.int .u8 v12)), (13, .val (.bool (v12 == 92)))]) (L' := []) (by kernel_rfl) (by kernel_rfl) ?_
  refine ok_quote_escape_j2 n v0 v12 (v12 == 92) o1 ho1 ?_
  refine To.thenN ?_
  refine Wp.cond (b := o1) (by kernel_rfl) (fun hb => ?_) (fun hb => ?_)
  · replace h := if_t hb h
    refine Wp.seq ?_
    obtain ⟨hc2, h⟩ := chk_of h
    refine Wp.region hΓ [] [] [] [2, 3] [] (K' := [(2, .val (.int .u8 (((v0)[Int.toNat 1]?.getD 0).toNat : Int))), (3, .val (.int .i64 2))]) (L' := []) (ob := [(decide (0 ≤ (1 : Int) ∧ (1 : Int) < (List.length v0 : Int))) = true]) (by kernel_rfl) (AllP.cons hc2 AllP.nil) ?_
    refine To.thenN ?_
    refine Wp.ret ?_
    refine To.blockR ?_
    refine To.keep (kk := [2, 3]) (kl := []) (K' := [(2, .val (.int .u8 (((v0)[Int.toNat 1]?.getD 0).toNat : Int))), (3, .val (.int .i64 2))]) (L' := []) (by kernel_rfl) (by kernel_rfl) ?_
    cases h
    exact hQ
  · replace h := if_f hb h
    refine Wp.seq ?_
    refine Wp.region hΓ [] [] [] [0, 12, 18] [] (K' := [(0, .str v0), (12, .val (.int .u8 v12)), (18, .val (.bool (v12 == 110)))]) (L' := []) (ob := []) (by kernel_rfl) AllP.nil ?_
    refine To.thenN ?_
    refine Wp.cond (b := (v12 == 110)) (by kernel_rfl) (fun hb => ?_) (fun hb => ?_)
    · replace h := if_t hb h
      refine Wp.seq ?_
      refine Wp.region hΓ [] [] [] [2, 3] [] (K' := [(2, .val (.int .u8 10)), (3, .val (.int .i64 2))]) (L' := []) (ob := []) (by kernel_rfl) AllP.nil ?_
      refine To.thenN ?_
      refine Wp.ret ?_
      refine To.blockR ?_
      refine To.keep (kk := [2, 3]) (kl := []) (K' := [(2, .val (.int .u8 10)), (3, .val (.int .i64 2))]) (L' := []) (by kernel_rfl) (by kernel_rfl) ?_
      cases h
      exact hQ
    · replace h := if_f hb h
      refine Wp.seq ?_
      refine Wp.region hΓ [] [] [] [0, 12, 20] [] (K' := [(0, .str v0), (12, .val (.int .u8 v12)), (20, .val (.bool (v12 == 116)))]) (L' := []) (ob := []) (by kernel_rfl) AllP.nil ?_
      refine To.thenN ?_
      refine Wp.cond (b := (v12 == 116)) (by kernel_rfl) (fun hb => ?_) (fun hb => ?_)
      · replace h := if_t hb h
        refine Wp.seq ?_
        refine Wp.region hΓ [] [] [] [2, 3] [] (K' := [(2, .val (.int .u8 9)), (3, .val (.int .i64 2))]) (L' := []) (ob := []) (by kernel_rfl) AllP.nil ?_
        refine To.thenN ?_
        refine Wp.ret ?_
        refine To.blockR ?_
        refine To.keep (kk := [2, 3]) (kl := []) (K' := [(2, .val (.int .u8 9)), (3, .val (.int .i64 2))]) (L' := []) (by kernel_rfl) (by kernel_rfl) ?_
        cases h
        exact hQ
      · replace h := if_f hb h
        refine Wp.seq ?_
        refine Wp.region hΓ [] [] [] [0, 22] [] (K' := [(0, .str v0), (22, .val (.bool (v12 == 120)))]) (L' := []) (ob := []) (by kernel_rfl) AllP.nil ?_
        refine To.thenN ?_
        refine Wp.cond (b := (v12 == 120)) (by kernel_rfl) (fun hb => ?_) (fun hb => ?_)
        · replace h := if_t hb h
          refine Wp.seq ?_
          refine Wp.seq ?_
          refine Wp.region hΓ [] [] [] [0, 26] [] (K' := [(0, .str v0), (26, .val (.bool (decide ((List.length v0 : Int) < 4))))]) (L' := []) (ob := []) (by kernel_rfl) AllP.nil ?_
          refine To.thenN ?_
          refine Wp.cond (b := (decide ((List.length v0 : Int) < 4))) (by kernel_rfl) (fun hb => ?_) (fun hb => ?_)
          · replace h := if_t hb h
            refine Wp.seq ?_
            refine Wp.region hΓ [] [] [] [2, 3] [] (K' := [(2, .val (.int .u8 0)), (3, .val (.int .i64 0))]) (L' := []) (ob := []) (by kernel_rfl) AllP.nil ?_
            refine To.thenN ?_
            refine Wp.ret ?_
            refine To.thenR ?_
            refine To.blockR ?_
            refine To.keep (kk := [2, 3]) (kl := []) (K' := [(2, .val (.int .u8 0)), (3, .val (.int .i64 0))]) (L' := []) (by kernel_rfl) (by kernel_rfl) ?_
            cases h
            exact hQ
          · replace h := if_f hb h
            refine Wp.skip ?_
            refine To.thenN ?_
            refine Wp.seq ?_
            obtain ⟨hc8, h⟩ := chk_of h
            obtain ⟨r3, hr3, h⟩ := lett_of h
            refine Wp.region hΓ [] [(2, .tup [.val (.int .u8 r3.1), .val (.bool r3.2)])] [] [0, 4, 5] [] (K' := [(0, .str v0), (4, .val (.int .u8 r3.1)), (5, .val (.bool r3.2))]) (L' := []) (ob := [(decide (0 ≤ (2 : Int) ∧ (2 : Int) < (List.length v0 : Int))) = true, (true = true → CX Tryd.prog 57 [.val (.int .u8 (((v0)[Int.toNat 2]?.getD 0).toNat : Int))] (.tup [.val (.int .u8 r3.1), .val (.bool r3.2)]))]) (by kernel_rfl) (AllP.cons hc8 (AllP.cons (fun _ => cx (ok_quote_hex (((v0)[Int.toNat 2]?.getD 0).toNat : Int) _ hr3)) AllP.nil)) ?_
            refine To.thenN ?_
            refine Wp.seq ?_
            obtain ⟨hc7, h⟩ := chk_of h
            obtain ⟨r4, hr4, h⟩ := lett_of h
            refine Wp.region hΓ [] [(2, .tup [.val (.int .u8 r4.1), .val (.bool r4.2)])] [] [4, 5, 6, 7] [] (K' := [(4, .val (.int .u8 r3.1)), (5, .val (.bool r3.2)), (6, .val (.int .u8 r4.1)), (7, .val (.bool r4.2))]) (L' := []) (ob := [(decide (0 ≤ (3 : Int) ∧ (3 : Int) < (List.length v0 : Int))) = true, (true = true → CX Tryd.prog 57 [.val (.int .u8 (((v0)[Int.toNat 3]?.getD 0).toNat : Int))] (.tup [.val (.int .u8 r4.1), .val (.bool r4.2)]))]) (by kernel_rfl) (AllP.cons hc7 (AllP.cons (fun _ => cx (ok_quote_hex (((v0)[Int.toNat 3]?.getD 0).toNat : Int) _ hr4)) AllP.nil)) ?_
            refine To.thenN ?_
            refine Wp.seq ?_
            refine Wp.region hΓ [] [] [] [4, 6, 42] [] (K' := [(4, .val (.int .u8 r3.1)), (6, .val (.int .u8 r4.1)), (42, .val (.bool (bif r3.2 then r4.2 else false)))]) (L' := []) (ob := []) (by kernel_rfl) AllP.nil ?_
            refine To.thenN ?_
            refine Wp.cond (b := (bif r3.2 then r4.2 else false)) (by kernel_rfl) (fun hb => ?_) (fun hb => ?_)
            · replace h := if_t hb h
              refine Wp.seq ?_
              obtain ⟨hc6, h⟩ := chk_of h
              obtain ⟨x5, hx5, h⟩ := lett_of h
              refine Wp.region hΓ [] [] [] [2, 3] [] (K' := [(2, .val (.int .u8 (IntKind.wrap .u8 ((BitVec.ofInt (IntKind.bits .u8) (IntKind.wrap .u8 (r3.1 * 2 ^ (min (Int.toNat 4) (IntKind.bits .u8)))) ||| BitVec.ofInt (IntKind.bits .u8) r4.1).toNat)))), (3, .val (.int .i64 4))]) (L' := []) (ob := [(decide (0 ≤ (4 : Int))) = true]) (by kernel_rfl) (AllP.cons hc6 AllP.nil) ?_
              refine To.eq (K' := [(2, .val (.int .u8 x5)), (3, .val (.int .i64 4))]) (L' := []) (by cases hx5; rfl) (by cases hx5; rfl) ?_
              refine To.thenN ?_
              refine Wp.ret ?_
              refine To.blockR ?_
              refine To.keep (kk := [2, 3]) (kl := []) (K' := [(2, .val (.int .u8 x5)), (3, .val (.int .i64 4))]) (L' := []) (by kernel_rfl) (by kernel_rfl) ?_
              cases h
              exact hQ
            · replace h := if_f hb h
              refine Wp.skip ?_
              refine To.blockN ?_
              refine To.keep (kk := []) (kl := []) (K' := []) (L' := []) (by kernel_rfl) (by kernel_rfl) ?_
              cases h
              exact hQ
        · replace h := if_f hb h
          refine Wp.skip ?_
          refine To.blockN ?_
          refine To.keep (kk := []) (kl := []) (K' := []) (L' := []) (by kernel_rfl) (by kernel_rfl) ?_
          cases h
          exact hQ
def quote_escape (n : Nat) (a0 : List UInt8) : Option (Int × Int) :=
  if (decide ((List.length a0 : Int) < 2)) = true then (some (0, 0))
  else (if (decide (0 ≤ (1 : Int) ∧ (1 : Int) < (List.length a0 : Int))) = true then ((quote_escape_j1 n a0 (((a0)[Int.toNat 1]?.getD 0).toNat : Int)).bind fun o1 =>
  (Sum.elim (fun o1 => some (0, 0)) (fun o1 => some (o1.1, o1.2))) o1) else none)
theorem ok_quote_escape (n : Nat) (a0 : List UInt8) (r : Int × Int) (h : quote_escape n a0 = some r) : CallsX Tryd.prog 43 [.str a0] (.tup [.val (.int .u8 r.1), .val (.int .i64 r.2)]) := by
  unfold quote_escape at h
  refine callsX_of (fn := Tryd.f43) (by kernel_rfl) rfl (by kernel_rfl) (Nat.le_of_ble_eq_true (by kernel_rfl)) fun F0 w0 _ => ?_
  refine Wp.keep (kk := [0]) (kl := []) (K' := [(0, .str a0)]) (L' := []) (by kernel_rfl) (by kernel_rfl) ?_
  refine Wp.seq ?_
  refine Wp.region hΓ [] [] [] [0] [] (K' := [(0, .str a0)]) (L' := []) (ob := []) (by kernel_rfl) AllP.nil ?_
  refine To.thenN ?_
  refine Wp.seq ?_
  refine Wp.seq ?_
  refine Wp.region hΓ [] [] [] [0, 10] [] (K' := [(0, .str a0), (10, .val (.bool (decide ((List.length a0 : Int) < 2))))]) (L' := []) (ob := []) (by kernel_rfl) AllP.nil ?_
  refine To.thenN ?_
  refine Wp.cond (b := (decide ((List.length a0 : Int) < 2))) (by kernel_rfl) (fun hb => ?_) (fun hb => ?_)
  · replace h := if_t hb h
    refine Wp.seq ?_
    refine Wp.region hΓ [] [] [] [2, 3] [] (K' := [(2, .val (.int .u8 0)), (3, .val (.int .i64 0))]) (L' := []) (ob := []) (by kernel_rfl) AllP.nil ?_
    refine To.thenN ?_
    refine Wp.ret ?_
    refine To.thenR ?_
    refine To.keep (kk := [2, 3]) (kl := []) (K' := [(2, .val (.int .u8 0)), (3, .val (.int .i64 0))]) (L' := []) (by kernel_rfl) (by kernel_rfl) ?_
    cases h
    exact To.done hΓ (by kernel_rfl)
  · replace h := if_f hb h
    refine Wp.skip ?_
    refine To.thenN ?_
    refine Wp.seq ?_
    refine Wp.seq ?_
    obtain ⟨hc2, h⟩ := chk_of h
    refine Wp.region hΓ [] [] [] [0, 12] [] (K' := [(0, .str a0), (12, .val (.int .u8 (((a0)[Int.toNat 1]?.getD 0).toNat : Int)))]) (L' := []) (ob := [(decide (0 ≤ (1 : Int) ∧ (1 : Int) < (List.length a0 : Int))) = true]) (by kernel_rfl) (AllP.cons hc2 AllP.nil) ?_
    refine To.thenN ?_
    obtain ⟨o1, ho1, h⟩ := bind_of h
    refine Wp.keep (kk := [0, 12]) (kl := []) (K' := [(0, .str a0), (12, .val (.int .u8 (((a0)[Int.toNat 1]?.getD 0).toNat : Int)))]) (L' := []) (by kernel_rfl) (by kernel_rfl) ?_
    refine ok_quote_escape_j1 n a0 (((a0)[Int.toNat 1]?.getD 0).toNat : Int) o1 ho1 ?_
    rcases o1 with o1 | o1
    · replace h := sum_l h
      refine To.thenN ?_
      refine Wp.seq ?_
      refine Wp.region hΓ [] [] [] [2, 3] [] (K' := [(2, .val (.int .u8 0)), (3, .val (.int .i64 0))]) (L' := []) (ob := []) (by kernel_rfl) AllP.nil ?_
      refine To.thenN ?_
      refine Wp.ret ?_
      refine To.keep (kk := [2, 3]) (kl := []) (K' := [(2, .val (.int .u8 0)), (3, .val (.int .i64 0))]) (L' := []) (by kernel_rfl) (by kernel_rfl) ?_
      cases h
      exact To.done hΓ (by kernel_rfl)
    · replace h := sum_r h
      refine To.thenR ?_
      refine To.keep (kk := [2, 3]) (kl := []) (K' := [(2, .val (.int .u8 o1.1)), (3, .val (.int .i64 o1.2))]) (L' := []) (by kernel_rfl) (by kernel_rfl) ?_
      cases h
      exact To.done hΓ (by kernel_rfl)
def quote_Scan_l1 (n : Nat) (v0 : List UInt8) (v7 : Int) : Nat → Int → (List (UInt8)) → Option (Sum (Unit) ((List UInt8) × Int × Int))
  | 0, _, _ => none
  | k + 1, v1, v8 => if ((!((decide (v1 < (List.length v0 : Int))) == true) || decide (0 ≤ v1 ∧ v1 < (List.length v0 : Int)))) = true then (if (bif (decide (v1 < (List.length v0 : Int))) then (quote_ok (((v0)[Int.toNat v1]?.getD 0).toNat : Int)) else false) = true then (if (decide (0 ≤ v1 ∧ v1 < (List.length v0 : Int))) = true then (if ((!((bif (bif ((((v0)[Int.toNat v1]?.getD 0).toNat : Int) == 39) then (v7 == (((v0)[Int.toNat v1]?.getD 0).toNat : Int)) else false) then (decide ((IntKind.wrap .i64 (v1 + 1)) < (List.length v0 : Int))) else false) == true) || decide (0 ≤ (IntKind.wrap .i64 (v1 + 1)) ∧ (IntKind.wrap .i64 (v1 + 1)) < (List.length v0 : Int)))) = true then (lett ((bif (bif (bif ((((v0)[Int.toNat v1]?.getD 0).toNat : Int) == 39) then (v7 == (((v0)[Int.toNat v1]?.getD 0).toNat : Int)) else false) then (decide ((IntKind.wrap .i64 (v1 + 1)) < (List.length v0 : Int))) else false) then ((((v0)[Int.toNat (IntKind.wrap .i64 (v1 + 1))]?.getD 0).toNat : Int) == (((v0)[Int.toNat v1]?.getD 0).toNat : Int)) else false) : Bool) fun x2 =>
  if x2 = true then (if (decide ((List.length v8 + List.length ([((v0)[Int.toNat v1]?.getD 0)] : List (UInt8))) * (1 + 1) ≤ limit)) = true then (quote_Scan_l1 n v0 v7 k (IntKind.wrap .i64 (v1 + 2)) (v8 ++ ([((v0)[Int.toNat v1]?.getD 0)] : List (UInt8)))) else none)
  else (if ((((v0)[Int.toNat v1]?.getD 0).toNat : Int) == v7) = true then (some (.inr (v8, (IntKind.wrap .i64 (v1 + 1)), 0)))
  else (if (bif ((((v0)[Int.toNat v1]?.getD 0).toNat : Int) == 92) then (v7 == 34) else false) = true then (if (decide (0 ≤ v1 ∧ v1 ≤ (List.length v0 : Int))) = true then ((quote_escape n (List.drop (Int.toNat v1) v0)).bind fun r4 =>
  if (r4.2 == 0) = true then (some (.inr ([], 0, 3)))
  else (if (decide (0 ≤ r4.1 ∧ r4.1 < 256)) = true then (if (decide ((List.length v8 + List.length ([(UInt8.ofNat (Int.toNat r4.1))] : List (UInt8))) * (1 + 1) ≤ limit)) = true then (quote_Scan_l1 n v0 v7 k (IntKind.wrap .i64 (v1 + r4.2)) (v8 ++ ([(UInt8.ofNat (Int.toNat r4.1))] : List (UInt8)))) else none) else none)) else none)
  else (if (decide ((List.length v8 + List.length ([((v0)[Int.toNat v1]?.getD 0)] : List (UInt8))) * (1 + 1) ≤ limit)) = true then (quote_Scan_l1 n v0 v7 k (IntKind.wrap .i64 (v1 + 1)) (v8 ++ ([((v0)[Int.toNat v1]?.getD 0)] : List (UInt8)))) else none)))) else none) else none)
  else (some (.inl ()))) else none
theorem ok_quote_Scan_l1 (n : Nat) (v0 : List UInt8) (v7 : Int) {F0 : Fz} {w0 : Pt Tryd.prog} {Q : Exit → Act → World → Prop} (k : Nat) : ∀ (v1 : Int) (v8 : List (UInt8)) (o : Sum (Unit) ((List UInt8) × Int × Int)), quote_Scan_l1 n v0 v7 k v1 v8 = some o → (Sum.elim (fun s => To 116 F0 w0 [] [] (.exit 0) Q) (fun s => To 116 F0 w0 [(4, .str s.1), (5, .val (.int .i64 s.2.1)), (6, .val (.int .i64 s.2.2))] [] .ret Q)) o → WL Tryd.prog 116 F0 w0 [(0, .str v0), (1, .val (.int .i64 v1)), (7, .val (.int .u8 v7)), (8, .row 1008)] [(1008, 5, [.rowc false (α := UInt8) 0 e8 v8])] (cI (cI (cB (cA (cB (cB (cB (cB (cF Tryd.f28))))))))) Q := by
  induction k with
  | zero => intro v1 v8 o h; cases h
  | succ k ih =>
    intro v1 v8 o h hQ
    rw [quote_Scan_l1] at h
    refine WL.round ?_
    refine Wp.seq ?_
    refine Wp.seq ?_
    obtain ⟨hc11, h⟩ := chk_of h
    refine Wp.region hΓ [] [(8, .val (.bool (quote_ok (((v0)[Int.toNat v1]?.getD 0).toNat : Int))))] [] [0, 1, 7, 8, 46] [1008] (K' := [(0, .str v0), (1, .val (.int .i64 v1)), (7, .val (.int .u8 v7)), (8, .row 1008), (46, .val (.bool (bif (decide (v1 < (List.length v0 : Int))) then (quote_ok (((v0)[Int.toNat v1]?.getD 0).toNat : Int)) else false)))]) (L' := [(1008, 5, [.rowc false (α := UInt8) 0 e8 v8])]) (ob := [(!((decide (v1 < (List.length v0 : Int))) == true) || decide (0 ≤ v1 ∧ v1 < (List.length v0 : Int))) = true, (((decide (v1 < (List.length v0 : Int))) == true) = true → CX Tryd.prog 42 [.val (.int .u8 (((v0)[Int.toNat v1]?.getD 0).toNat : Int))] (.val (.bool (quote_ok (((v0)[Int.toNat v1]?.getD 0).toNat : Int)))))]) (by kernel_rfl) (AllP.cons hc11 (AllP.cons (fun _ => cx (ok_quote_ok (((v0)[Int.toNat v1]?.getD 0).toNat : Int) _ rfl)) AllP.nil)) ?_
    refine To.thenN ?_
    refine Wp.cond (b := (bif (decide (v1 < (List.length v0 : Int))) then (quote_ok (((v0)[Int.toNat v1]?.getD 0).toNat : Int)) else false)) (by kernel_rfl) (fun hb => ?_) (fun hb => ?_)
    · replace h := if_t hb h
      refine Wp.skip ?_
      refine To.thenN ?_
      refine Wp.block ?_
      refine Wp.seq ?_
      obtain ⟨hc10, h⟩ := chk_of h
      refine Wp.region hΓ [] [] [] [0, 1, 7, 8, 9] [1008] (K' := [(0, .str v0), (1, .val (.int .i64 v1)), (7, .val (.int .u8 v7)), (8, .row 1008), (9, .val (.int .u8 (((v0)[Int.toNat v1]?.getD 0).toNat : Int)))]) (L' := [(1008, 5, [.rowc false (α := UInt8) 0 e8 v8])]) (ob := [(decide (0 ≤ v1 ∧ v1 < (List.length v0 : Int))) = true]) (by kernel_rfl) (AllP.cons hc10 AllP.nil) ?_
      refine To.thenN ?_
      refine Wp.block ?_
      refine Wp.seq ?_
      obtain ⟨hc9, h⟩ := chk_of h
      obtain ⟨x2, hx2, h⟩ := lett_of h
      refine Wp.region hΓ [] [] [] [0, 1, 7, 8, 9, 56] [1008] (K' := [(0, .str v0), (1, .val (.int .i64 v1)), (7, .val (.int .u8 v7)), (8, .row 1008), (9, .val (.int .u8 (((v0)[Int.toNat v1]?.getD 0).toNat : Int))), (56, .val (.bool (bif (bif (bif ((((v0)[Int.toNat v1]?.getD 0).toNat : Int) == 39) then (v7 == (((v0)[Int.toNat v1]?.getD 0).toNat : Int)) else false) then (decide ((IntKind.wrap .i64 (v1 + 1)) < (List.length v0 : Int))) else false) then ((((v0)[Int.toNat (IntKind.wrap .i64 (v1 + 1))]?.getD 0).toNat : Int) == (((v0)[Int.toNat v1]?.getD 0).toNat : Int)) else false)))]) (L' := [(1008, 5, [.rowc false (α := UInt8) 0 e8 v8])]) (ob := [(!((bif (bif ((((v0)[Int.toNat v1]?.getD 0).toNat : Int) == 39) then (v7 == (((v0)[Int.toNat v1]?.getD 0).toNat : Int)) else false) then (decide ((IntKind.wrap .i64 (v1 + 1)) < (List.length v0 : Int))) else false) == true) || decide (0 ≤ (IntKind.wrap .i64 (v1 + 1)) ∧ (IntKind.wrap .i64 (v1 + 1)) < (List.length v0 : Int))) = true]) (by kernel_rfl) (AllP.cons hc9 AllP.nil) ?_
      refine To.eq (K' := [(0, .str v0), (1, .val (.int .i64 v1)), (7, .val (.int .u8 v7)), (8, .row 1008), (9, .val (.int .u8 (((v0)[Int.toNat v1]?.getD 0).toNat : Int))), (56, .val (.bool x2))]) (L' := [(1008, 5, [.rowc false (α := UInt8) 0 e8 v8])]) (by cases hx2; rfl) (by cases hx2; rfl) ?_
      refine To.thenN ?_
      refine Wp.cond (b := x2) (by kernel_rfl) (fun hb => ?_) (fun hb => ?_)
      · replace h := if_t hb h
        refine Wp.seq ?_
        obtain ⟨hc3, h⟩ := chk_of h
        refine Wp.region hΓ [] [(2, .recs (α := UInt8) 0 e8 ([((v0)[Int.toNat v1]?.getD 0)])), (3, .recs (α := UInt8) 0 e8 (v8 ++ ([((v0)[Int.toNat v1]?.getD 0)] : List (UInt8))))] [] [0, 1, 7, 8] [82] (K' := [(0, .str v0), (1, .val (.int .i64 v1)), (7, .val (.int .u8 v7)), (8, .row 82)]) (L' := [(82, 5, [.rowc false (α := UInt8) 0 e8 (v8 ++ ([((v0)[Int.toNat v1]?.getD 0)] : List (UInt8)))])]) (ob := [(MkOb 1 [.val (.int .u8 (((v0)[Int.toNat v1]?.getD 0).toNat : Int))] 1 (.recs (α := UInt8) 0 e8 ([((v0)[Int.toNat v1]?.getD 0)])) ∧ GoodR (.recs (α := UInt8) 0 e8 ([((v0)[Int.toNat v1]?.getD 0)]))), (decide ((List.length v8 + List.length ([((v0)[Int.toNat v1]?.getD 0)] : List (UInt8))) * (1 + 1) ≤ limit)) = true, (AppOb 0 e8 v8 (List.flatMap e8 ([((v0)[Int.toNat v1]?.getD 0)] : List (UInt8))) (List.length ([((v0)[Int.toNat v1]?.getD 0)] : List (UInt8))) (.recs (α := UInt8) 0 e8 (v8 ++ ([((v0)[Int.toNat v1]?.getD 0)] : List (UInt8)))) ∧ GoodR (.recs (α := UInt8) 0 e8 (v8 ++ ([((v0)[Int.toNat v1]?.getD 0)] : List (UInt8)))))]) (by kernel_rfl) (AllP.cons (mkOb (All8.cells (ns := [(((v0)[Int.toNat v1]?.getD 0).toNat : Int)]) (.cons rfl .nil)) rfl rfl (good8 _)) (AllP.cons hc3 (AllP.cons (appOb rfl rfl (good8 _)) AllP.nil))) ?_
        refine To.thenN ?_
        refine Wp.region hΓ [] [] [] [0, 1, 7, 8] [82] (K' := [(0, .str v0), (1, .val (.int .i64 (IntKind.wrap .i64 (v1 + 2)))), (7, .val (.int .u8 v7)), (8, .row 82)]) (L' := [(82, 5, [.rowc false (α := UInt8) 0 e8 (v8 ++ ([((v0)[Int.toNat v1]?.getD 0)] : List (UInt8)))])]) (ob := []) (by kernel_rfl) AllP.nil ?_
        refine To.blockN ?_
        refine To.blockN ?_
        refine To.keep (kk := [0, 1, 7, 8]) (kl := [82]) (K' := [(0, .str v0), (1, .val (.int .i64 (IntKind.wrap .i64 (v1 + 2)))), (7, .val (.int .u8 v7)), (8, .row 82)]) (L' := [(82, 5, [.rowc false (α := UInt8) 0 e8 (v8 ++ ([((v0)[Int.toNat v1]?.getD 0)] : List (UInt8)))])]) (by kernel_rfl) (by kernel_rfl) ?_
        refine To.pre (St.rename 82 1008 (by decide) (K' := [(0, .str v0), (1, .val (.int .i64 (IntKind.wrap .i64 (v1 + 2)))), (7, .val (.int .u8 v7)), (8, .row 1008)]) (L' := [(1008, 5, [.rowc false (α := UInt8) 0 e8 (v8 ++ ([((v0)[Int.toNat v1]?.getD 0)] : List (UInt8)))])]) (by kernel_rfl) (by kernel_rfl) (by kernel_rfl)) ?_
        refine To.keep (kk := [0, 1, 7, 8]) (kl := [1008]) (K' := [(0, .str v0), (1, .val (.int .i64 (IntKind.wrap .i64 (v1 + 2)))), (7, .val (.int .u8 v7)), (8, .row 1008)]) (L' := [(1008, 5, [.rowc false (α := UInt8) 0 e8 (v8 ++ ([((v0)[Int.toNat v1]?.getD 0)] : List (UInt8)))])]) (by kernel_rfl) (by kernel_rfl) ?_
        refine To.again ?_
        exact ih (IntKind.wrap .i64 (v1 + 2)) (v8 ++ ([((v0)[Int.toNat v1]?.getD 0)] : List (UInt8))) _ h hQ
      · replace h := if_f hb h
        refine Wp.seq ?_
        refine Wp.region hΓ [] [] [] [0, 1, 7, 8, 9, 85] [1008] (K' := [(0, .str v0), (1, .val (.int .i64 v1)), (7, .val (.int .u8 v7)), (8, .row 1008), (9, .val (.int .u8 (((v0)[Int.toNat v1]?.getD 0).toNat : Int))), (85, .val (.bool ((((v0)[Int.toNat v1]?.getD 0).toNat : Int) == v7)))]) (L' := [(1008, 5, [.rowc false (α := UInt8) 0 e8 v8])]) (ob := []) (by kernel_rfl) AllP.nil ?_
        refine To.thenN ?_
        refine Wp.cond (b := ((((v0)[Int.toNat v1]?.getD 0).toNat : Int) == v7)) (by kernel_rfl) (fun hb => ?_) (fun hb => ?_)
        · replace h := if_t hb h
          refine Wp.seq ?_
          refine Wp.region hΓ [] [(1, .str v8)] [] [4, 5, 6] [] (K' := [(4, .str v8), (5, .val (.int .i64 (IntKind.wrap .i64 (v1 + 1)))), (6, .val (.int .i64 0))]) (L' := []) (ob := [(true = true → StrOb (List.flatMap e8 v8) (.str v8))]) (by kernel_rfl) (AllP.cons (fun _ => strOb (flat8 _)) AllP.nil) ?_
          refine To.thenN ?_
          refine Wp.ret ?_
          refine To.blockR ?_
          refine To.blockR ?_
          refine To.thenR ?_
          refine To.keep (kk := [4, 5, 6]) (kl := []) (K' := [(4, .str v8), (5, .val (.int .i64 (IntKind.wrap .i64 (v1 + 1)))), (6, .val (.int .i64 0))]) (L' := []) (by kernel_rfl) (by kernel_rfl) ?_
          cases h
          exact hQ
        · replace h := if_f hb h
          refine Wp.seq ?_
          refine Wp.region hΓ [] [] [] [0, 1, 7, 8, 9, 93] [1008] (K' := [(0, .str v0), (1, .val (.int .i64 v1)), (7, .val (.int .u8 v7)), (8, .row 1008), (9, .val (.int .u8 (((v0)[Int.toNat v1]?.getD 0).toNat : Int))), (93, .val (.bool (bif ((((v0)[Int.toNat v1]?.getD 0).toNat : Int) == 92) then (v7 == 34) else false)))]) (L' := [(1008, 5, [.rowc false (α := UInt8) 0 e8 v8])]) (ob := []) (by kernel_rfl) AllP.nil ?_
          refine To.thenN ?_
          refine Wp.cond (b := (bif ((((v0)[Int.toNat v1]?.getD 0).toNat : Int) == 92) then (v7 == 34) else false)) (by kernel_rfl) (fun hb => ?_) (fun hb => ?_)
          · replace h := if_t hb h
            refine Wp.seq ?_
            obtain ⟨hc7, h⟩ := chk_of h
            obtain ⟨r4, hr4, h⟩ := bind_of h
            refine Wp.region hΓ [] [(3, .tup [.val (.int .u8 r4.1), .val (.int .i64 r4.2)])] [] [0, 1, 7, 8, 10, 11] [1008] (K' := [(0, .str v0), (1, .val (.int .i64 v1)), (7, .val (.int .u8 v7)), (8, .row 1008), (10, .val (.int .u8 r4.1)), (11, .val (.int .i64 r4.2))]) (L' := [(1008, 5, [.rowc false (α := UInt8) 0 e8 v8])]) (ob := [(decide (0 ≤ v1 ∧ v1 ≤ (List.length v0 : Int))) = true, (true = true → CX Tryd.prog 43 [.str (List.drop (Int.toNat v1) v0)] (.tup [.val (.int .u8 r4.1), .val (.int .i64 r4.2)]))]) (by kernel_rfl) (AllP.cons hc7 (AllP.cons (fun _ => cx (ok_quote_escape n (List.drop (Int.toNat v1) v0) _ hr4)) AllP.nil)) ?_
            refine To.thenN ?_
            refine Wp.seq ?_
            refine Wp.seq ?_
            refine Wp.region hΓ [] [] [] [0, 1, 7, 8, 10, 11, 108] [1008] (K' := [(0, .str v0), (1, .val (.int .i64 v1)), (7, .val (.int .u8 v7)), (8, .row 1008), (10, .val (.int .u8 r4.1)), (11, .val (.int .i64 r4.2)), (108, .val (.bool (r4.2 == 0)))]) (L' := [(1008, 5, [.rowc false (α := UInt8) 0 e8 v8])]) (ob := []) (by kernel_rfl) AllP.nil ?_
            refine To.thenN ?_
            refine Wp.cond (b := (r4.2 == 0)) (by kernel_rfl) (fun hb => ?_) (fun hb => ?_)
            · replace h := if_t hb h
              refine Wp.seq ?_
              refine Wp.region hΓ [] [] [] [4, 5, 6] [] (K' := [(4, .str []), (5, .val (.int .i64 0)), (6, .val (.int .i64 3))]) (L' := []) (ob := []) (by kernel_rfl) AllP.nil ?_
              refine To.thenN ?_
              refine Wp.ret ?_
              refine To.thenR ?_
              refine To.blockR ?_
              refine To.blockR ?_
              refine To.thenR ?_
              refine To.keep (kk := [4, 5, 6]) (kl := []) (K' := [(4, .str []), (5, .val (.int .i64 0)), (6, .val (.int .i64 3))]) (L' := []) (by kernel_rfl) (by kernel_rfl) ?_
              cases h
              exact hQ
            · replace h := if_f hb h
              refine Wp.skip ?_
              refine To.thenN ?_
              refine Wp.seq ?_
              obtain ⟨u5, h⟩ := chk_of h
              obtain ⟨hc6, h⟩ := chk_of h
              refine Wp.region hΓ [] [(2, .recs (α := UInt8) 0 e8 [(UInt8.ofNat (Int.toNat r4.1))]), (3, .recs (α := UInt8) 0 e8 (v8 ++ ([(UInt8.ofNat (Int.toNat r4.1))] : List (UInt8))))] [] [0, 1, 7, 8, 11] [112] (K' := [(0, .str v0), (1, .val (.int .i64 v1)), (7, .val (.int .u8 v7)), (8, .row 112), (11, .val (.int .i64 r4.2))]) (L' := [(112, 5, [.rowc false (α := UInt8) 0 e8 (v8 ++ ([(UInt8.ofNat (Int.toNat r4.1))] : List (UInt8)))])]) (ob := [(MkOb 1 [.val (.int .u8 r4.1)] 1 (.recs (α := UInt8) 0 e8 [(UInt8.ofNat (Int.toNat r4.1))]) ∧ GoodR (.recs (α := UInt8) 0 e8 [(UInt8.ofNat (Int.toNat r4.1))])), (decide ((List.length v8 + List.length ([(UInt8.ofNat (Int.toNat r4.1))] : List (UInt8))) * (1 + 1) ≤ limit)) = true, (AppOb 0 e8 v8 (List.flatMap e8 ([(UInt8.ofNat (Int.toNat r4.1))] : List (UInt8))) (List.length ([(UInt8.ofNat (Int.toNat r4.1))] : List (UInt8))) (.recs (α := UInt8) 0 e8 (v8 ++ ([(UInt8.ofNat (Int.toNat r4.1))] : List (UInt8)))) ∧ GoodR (.recs (α := UInt8) 0 e8 (v8 ++ ([(UInt8.ofNat (Int.toNat r4.1))] : List (UInt8)))))]) (by kernel_rfl) (AllP.cons (mkOb (All8.cells (ns := [r4.1]) (.cons (u8_of u5) .nil)) rfl rfl (good8 _)) (AllP.cons hc6 (AllP.cons (appOb rfl rfl (good8 _)) AllP.nil))) ?_
              refine To.thenN ?_
              refine Wp.region hΓ [] [] [] [0, 1, 7, 8] [112] (K' := [(0, .str v0), (1, .val (.int .i64 (IntKind.wrap .i64 (v1 + r4.2)))), (7, .val (.int .u8 v7)), (8, .row 112)]) (L' := [(112, 5, [.rowc false (α := UInt8) 0 e8 (v8 ++ ([(UInt8.ofNat (Int.toNat r4.1))] : List (UInt8)))])]) (ob := []) (by kernel_rfl) AllP.nil ?_
              refine To.blockN ?_
              refine To.blockN ?_
              refine To.keep (kk := [0, 1, 7, 8]) (kl := [112]) (K' := [(0, .str v0), (1, .val (.int .i64 (IntKind.wrap .i64 (v1 + r4.2)))), (7, .val (.int .u8 v7)), (8, .row 112)]) (L' := [(112, 5, [.rowc false (α := UInt8) 0 e8 (v8 ++ ([(UInt8.ofNat (Int.toNat r4.1))] : List (UInt8)))])]) (by kernel_rfl) (by kernel_rfl) ?_
              refine To.pre (St.rename 112 1008 (by decide) (K' := [(0, .str v0), (1, .val (.int .i64 (IntKind.wrap .i64 (v1 + r4.2)))), (7, .val (.int .u8 v7)), (8, .row 1008)]) (L' := [(1008, 5, [.rowc false (α := UInt8) 0 e8 (v8 ++ ([(UInt8.ofNat (Int.toNat r4.1))] : List (UInt8)))])]) (by kernel_rfl) (by kernel_rfl) (by kernel_rfl)) ?_
              refine To.keep (kk := [0, 1, 7, 8]) (kl := [1008]) (K' := [(0, .str v0), (1, .val (.int .i64 (IntKind.wrap .i64 (v1 + r4.2)))), (7, .val (.int .u8 v7)), (8, .row 1008)]) (L' := [(1008, 5, [.rowc false (α := UInt8) 0 e8 (v8 ++ ([(UInt8.ofNat (Int.toNat r4.1))] : List (UInt8)))])]) (by kernel_rfl) (by kernel_rfl) ?_
              refine To.again ?_
              exact ih (IntKind.wrap .i64 (v1 + r4.2)) (v8 ++ ([(UInt8.ofNat (Int.toNat r4.1))] : List (UInt8))) _ h hQ
          · replace h := if_f hb h
            refine Wp.seq ?_
            obtain ⟨hc8, h⟩ := chk_of h
            refine Wp.region hΓ [] [(2, .recs (α := UInt8) 0 e8 ([((v0)[Int.toNat v1]?.getD 0)])), (3, .recs (α := UInt8) 0 e8 (v8 ++ ([((v0)[Int.toNat v1]?.getD 0)] : List (UInt8))))] [] [0, 1, 7, 8] [53] (K' := [(0, .str v0), (1, .val (.int .i64 v1)), (7, .val (.int .u8 v7)), (8, .row 53)]) (L' := [(53, 5, [.rowc false (α := UInt8) 0 e8 (v8 ++ ([((v0)[Int.toNat v1]?.getD 0)] : List (UInt8)))])]) (ob := [(MkOb 1 [.val (.int .u8 (((v0)[Int.toNat v1]?.getD 0).toNat : Int))] 1 (.recs (α := UInt8) 0 e8 ([((v0)[Int.toNat v1]?.getD 0)])) ∧ GoodR (.recs (α := UInt8) 0 e8 ([((v0)[Int.toNat v1]?.getD 0)]))), (decide ((List.length v8 + List.length ([((v0)[Int.toNat v1]?.getD 0)] : List (UInt8))) * (1 + 1) ≤ limit)) = true, (AppOb 0 e8 v8 (List.flatMap e8 ([((v0)[Int.toNat v1]?.getD 0)] : List (UInt8))) (List.length ([((v0)[Int.toNat v1]?.getD 0)] : List (UInt8))) (.recs (α := UInt8) 0 e8 (v8 ++ ([((v0)[Int.toNat v1]?.getD 0)] : List (UInt8)))) ∧ GoodR (.recs (α := UInt8) 0 e8 (v8 ++ ([((v0)[Int.toNat v1]?.getD 0)] : List (UInt8)))))]) (by kernel_rfl) (AllP.cons (mkOb (All8.cells (ns := [(((v0)[Int.toNat v1]?.getD 0).toNat : Int)]) (.cons rfl .nil)) rfl rfl (good8 _)) (AllP.cons hc8 (AllP.cons (appOb rfl rfl (good8 _)) AllP.nil))) ?_
            refine To.thenN ?_
            refine Wp.region hΓ [] [] [] [0, 1, 7, 8] [53] (K' := [(0, .str v0), (1, .val (.int .i64 (IntKind.wrap .i64 (v1 + 1)))), (7, .val (.int .u8 v7)), (8, .row 53)]) (L' := [(53, 5, [.rowc false (α := UInt8) 0 e8 (v8 ++ ([((v0)[Int.toNat v1]?.getD 0)] : List (UInt8)))])]) (ob := []) (by kernel_rfl) AllP.nil ?_
            refine To.blockN ?_
            refine To.blockN ?_
            refine To.keep (kk := [0, 1, 7, 8]) (kl := [53]) (K' := [(0, .str v0), (1, .val (.int .i64 (IntKind.wrap .i64 (v1 + 1)))), (7, .val (.int .u8 v7)), (8, .row 53)]) (L' := [(53, 5, [.rowc false (α := UInt8) 0 e8 (v8 ++ ([((v0)[Int.toNat v1]?.getD 0)] : List (UInt8)))])]) (by kernel_rfl) (by kernel_rfl) ?_
            refine To.pre (St.rename 53 1008 (by decide) (K' := [(0, .str v0), (1, .val (.int .i64 (IntKind.wrap .i64 (v1 + 1)))), (7, .val (.int .u8 v7)), (8, .row 1008)]) (L' := [(1008, 5, [.rowc false (α := UInt8) 0 e8 (v8 ++ ([((v0)[Int.toNat v1]?.getD 0)] : List (UInt8)))])]) (by kernel_rfl) (by kernel_rfl) (by kernel_rfl)) ?_
            refine To.keep (kk := [0, 1, 7, 8]) (kl := [1008]) (K' := [(0, .str v0), (1, .val (.int .i64 (IntKind.wrap .i64 (v1 + 1)))), (7, .val (.int .u8 v7)), (8, .row 1008)]) (L' := [(1008, 5, [.rowc false (α := UInt8) 0 e8 (v8 ++ ([((v0)[Int.toNat v1]?.getD 0)] : List (UInt8)))])]) (by kernel_rfl) (by kernel_rfl) ?_
            refine To.again ?_
            exact ih (IntKind.wrap .i64 (v1 + 1)) (v8 ++ ([((v0)[Int.toNat v1]?.getD 0)] : List (UInt8))) _ h hQ
    · replace h := if_f hb h
      refine Wp.exit ?_
      refine To.thenX ?_
      refine To.thenX ?_
      refine To.keep (kk := []) (kl := []) (K' := []) (L' := []) (by kernel_rfl) (by kernel_rfl) ?_
      cases h
      exact hQ
def quote_Scan (n : Nat) (a0 : List UInt8) (a1 : Int) : Option ((List UInt8) × Int × Int) :=
  if ((!((bif (decide (a1 < 0)) then true else (decide (a1 ≥ (List.length a0 : Int)))) == false) || decide (0 ≤ a1 ∧ a1 < (List.length a0 : Int)))) = true then (if ((!((((((a0)[Int.toNat a1]?.getD 0).toNat : Int) != 34) == true) && ((bif (decide (a1 < 0)) then true else (decide (a1 ≥ (List.length a0 : Int)))) == false)) || decide (0 ≤ a1 ∧ a1 < (List.length a0 : Int)))) = true then (lett ((bif (bif (decide (a1 < 0)) then true else (decide (a1 ≥ (List.length a0 : Int)))) then true else (bif ((((a0)[Int.toNat a1]?.getD 0).toNat : Int) != 34) then ((((a0)[Int.toNat a1]?.getD 0).toNat : Int) != 39) else false)) : Bool) fun x1 =>
  if x1 = true then (some ([], 0, 2))
  else (if (decide (0 ≤ a1 ∧ a1 < (List.length a0 : Int))) = true then ((quote_Scan_l1 n a0 (((a0)[Int.toNat a1]?.getD 0).toNat : Int) n (IntKind.wrap .i64 (a1 + 1)) ([] : List (UInt8))).bind fun o2 =>
  (Sum.elim (fun o2 => some ([], 0, 3)) (fun o2 => some (o2.1, o2.2.1, o2.2.2))) o2) else none)) else none) else none
theorem ok_quote_Scan (n : Nat) (a0 : List UInt8) (a1 : Int) (r : (List UInt8) × Int × Int) (h : quote_Scan n a0 a1 = some r) : CallsX Tryd.prog 28 [.str a0, .val (.int .i64 a1)] (.tup [.str r.1, .val (.int .i64 r.2.1), .val (.int .i64 r.2.2)]) := by
  unfold quote_Scan at h
  refine callsX_of (fn := Tryd.f28) (by kernel_rfl) rfl (by kernel_rfl) (Nat.le_of_ble_eq_true (by kernel_rfl)) fun F0 w0 _ => ?_
  refine Wp.keep (kk := [0, 1]) (kl := []) (K' := [(0, .str a0), (1, .val (.int .i64 a1))]) (L' := []) (by kernel_rfl) (by kernel_rfl) ?_
  refine Wp.seq ?_
  refine Wp.region hΓ [] [] [] [0, 1] [] (K' := [(0, .str a0), (1, .val (.int .i64 a1))]) (L' := []) (ob := []) (by kernel_rfl) AllP.nil ?_
  refine To.thenN ?_
  refine Wp.seq ?_
  refine Wp.seq ?_
  obtain ⟨hc4, h⟩ := chk_of h
  obtain ⟨hc5, h⟩ := chk_of h
  obtain ⟨x1, hx1, h⟩ := lett_of h
  refine Wp.region hΓ [] [] [] [0, 1, 31] [] (K' := [(0, .str a0), (1, .val (.int .i64 a1)), (31, .val (.bool (bif (bif (decide (a1 < 0)) then true else (decide (a1 ≥ (List.length a0 : Int)))) then true else (bif ((((a0)[Int.toNat a1]?.getD 0).toNat : Int) != 34) then ((((a0)[Int.toNat a1]?.getD 0).toNat : Int) != 39) else false))))]) (L' := []) (ob := [(!((bif (decide (a1 < 0)) then true else (decide (a1 ≥ (List.length a0 : Int)))) == false) || decide (0 ≤ a1 ∧ a1 < (List.length a0 : Int))) = true, (!((((((a0)[Int.toNat a1]?.getD 0).toNat : Int) != 34) == true) && ((bif (decide (a1 < 0)) then true else (decide (a1 ≥ (List.length a0 : Int)))) == false)) || decide (0 ≤ a1 ∧ a1 < (List.length a0 : Int))) = true]) (by kernel_rfl) (AllP.cons hc4 (AllP.cons hc5 AllP.nil)) ?_
  refine To.eq (K' := [(0, .str a0), (1, .val (.int .i64 a1)), (31, .val (.bool x1))]) (L' := []) (by cases hx1; rfl) (by cases hx1; rfl) ?_
  refine To.thenN ?_
  refine Wp.cond (b := x1) (by kernel_rfl) (fun hb => ?_) (fun hb => ?_)
  · replace h := if_t hb h
    refine Wp.seq ?_
    refine Wp.region hΓ [] [] [] [4, 5, 6] [] (K' := [(4, .str []), (5, .val (.int .i64 0)), (6, .val (.int .i64 2))]) (L' := []) (ob := []) (by kernel_rfl) AllP.nil ?_
    refine To.thenN ?_
    refine Wp.ret ?_
    refine To.thenR ?_
    refine To.keep (kk := [4, 5, 6]) (kl := []) (K' := [(4, .str []), (5, .val (.int .i64 0)), (6, .val (.int .i64 2))]) (L' := []) (by kernel_rfl) (by kernel_rfl) ?_
    cases h
    exact To.done hΓ (by kernel_rfl)
  · replace h := if_f hb h
    refine Wp.skip ?_
    refine To.thenN ?_
    refine Wp.seq ?_
    obtain ⟨hc3, h⟩ := chk_of h
    refine Wp.region hΓ [] [] [] [0, 1, 7] [] (K' := [(0, .str a0), (1, .val (.int .i64 a1)), (7, .val (.int .u8 (((a0)[Int.toNat a1]?.getD 0).toNat : Int)))]) (L' := []) (ob := [(decide (0 ≤ a1 ∧ a1 < (List.length a0 : Int))) = true]) (by kernel_rfl) (AllP.cons hc3 AllP.nil) ?_
    refine To.thenN ?_
    refine Wp.seq ?_
    refine Wp.region hΓ [] [] [] [0, 1, 7, 8] [] (K' := [(0, .str a0), (1, .val (.int .i64 a1)), (7, .val (.int .u8 (((a0)[Int.toNat a1]?.getD 0).toNat : Int))), (8, .val (.slice none 0 0))]) (L' := []) (ob := []) (by kernel_rfl) AllP.nil ?_
    refine To.thenN ?_
    refine Wp.seq ?_
    refine Wp.seq ?_
    refine Wp.region hΓ [] [] [] [0, 1, 7, 8] [] (K' := [(0, .str a0), (1, .val (.int .i64 (IntKind.wrap .i64 (a1 + 1)))), (7, .val (.int .u8 (((a0)[Int.toNat a1]?.getD 0).toNat : Int))), (8, .val (.slice none 0 0))]) (L' := []) (ob := []) (by kernel_rfl) AllP.nil ?_
    refine To.thenN ?_
    refine Wp.block ?_
    obtain ⟨o2, ho2, h⟩ := bind_of h
    refine Wp.keep (kk := [0, 1, 7, 8]) (kl := []) (K' := [(0, .str a0), (1, .val (.int .i64 (IntKind.wrap .i64 (a1 + 1)))), (7, .val (.int .u8 (((a0)[Int.toNat a1]?.getD 0).toNat : Int))), (8, .val (.slice none 0 0))]) (L' := []) (by kernel_rfl) (by kernel_rfl) ?_
    refine Wp.pre (St.vacant (t := 8) (k := 1008) (e := 5) (K' := [(0, .str a0), (1, .val (.int .i64 (IntKind.wrap .i64 (a1 + 1)))), (7, .val (.int .u8 (((a0)[Int.toNat a1]?.getD 0).toNat : Int))), (8, .row 1008)]) (good8 _) (by decide) (by kernel_rfl) (by kernel_rfl)) ?_
    refine Wp.keep (kk := [0, 1, 7, 8]) (kl := [1008]) (K' := [(0, .str a0), (1, .val (.int .i64 (IntKind.wrap .i64 (a1 + 1)))), (7, .val (.int .u8 (((a0)[Int.toNat a1]?.getD 0).toNat : Int))), (8, .row 1008)]) (L' := [(1008, 5, [.rowc false (α := UInt8) 0 e8 []])]) (by kernel_rfl) (by kernel_rfl) ?_
    refine Wp.loopL ?_
    refine ok_quote_Scan_l1 n a0 (((a0)[Int.toNat a1]?.getD 0).toNat : Int) n (IntKind.wrap .i64 (a1 + 1)) ([] : List (UInt8)) o2 ho2 ?_
    rcases o2 with o2 | o2
    · replace h := sum_l h
      refine To.blockX ?_
      refine To.thenN ?_
      refine Wp.seq ?_
      refine Wp.region hΓ [] [] [] [4, 5, 6] [] (K' := [(4, .str []), (5, .val (.int .i64 0)), (6, .val (.int .i64 3))]) (L' := []) (ob := []) (by kernel_rfl) AllP.nil ?_
      refine To.thenN ?_
      refine Wp.ret ?_
      refine To.keep (kk := [4, 5, 6]) (kl := []) (K' := [(4, .str []), (5, .val (.int .i64 0)), (6, .val (.int .i64 3))]) (L' := []) (by kernel_rfl) (by kernel_rfl) ?_
      cases h
      exact To.done hΓ (by kernel_rfl)
    · replace h := sum_r h
      refine To.blockR ?_
      refine To.thenR ?_
      refine To.keep (kk := [4, 5, 6]) (kl := []) (K' := [(4, .str o2.1), (5, .val (.int .i64 o2.2.1)), (6, .val (.int .i64 o2.2.2))]) (L' := []) (by kernel_rfl) (by kernel_rfl) ?_
      cases h
      exact To.done hΓ (by kernel_rfl)
def line_say_j2 (n : Nat) (v0 : List UInt8) (v4 : Int) (v5 : Int) (v6 : Bool) (v7 : Int) : Option (Sum (Int × Int) (Sum (Int × Int) ((List UInt8) × Bool))) :=
  if (bif (v7 == 35) then v6 else false) = true then (if (decide (0 ≤ v5 ∧ v5 ≤ (List.length v0 : Int))) = true then (some (.inr (.inr ((List.take (Int.toNat v5) v0), true)))) else none)
  else (if ((!((v6 == false) && ((bif (v7 == 34) then true else (v7 == 39)) == true)) || decide (0 ≤ (IntKind.wrap .i64 (v4 - 1)) ∧ (IntKind.wrap .i64 (v4 - 1)) < (List.length v0 : Int)))) = true then (lett ((bif (bif (v7 == 34) then true else (v7 == 39)) then (bif v6 then true else (decide ((Lib.indexByte ([91, 123, 44] : List UInt8) (Int.toNat (((v0)[Int.toNat (IntKind.wrap .i64 (v4 - 1))]?.getD 0).toNat : Int)).toUInt8) ≥ 0))) else false) : Bool) fun x3 =>
  if x3 = true then ((quote_Scan n v0 v4).bind fun r4 =>
  if (r4.2.2 != 0) = true then (some (.inr (.inr ([], false))))
  else (some (.inr (.inl (r4.2.1, r4.2.1)))))
  else (if (bif (decide (v7 < 32)) then true else (v7 == 127)) = true then (some (.inr (.inr ([], false))))
  else (if (v7 != 32) = true then (some (.inl (v4, (IntKind.wrap .i64 (v4 + 1)))))
  else (some (.inl (v4, v5)))))) else none)
theorem ok_line_say_j2 (n : Nat) (v0 : List UInt8) (v4 : Int) (v5 : Int) (v6 : Bool) (v7 : Int) (o : Sum (Int × Int) (Sum (Int × Int) ((List UInt8) × Bool))) (h : line_say_j2 n v0 v4 v5 v6 v7 = some o) {F0 : Fz} {w0 : Pt Tryd.prog} {Q : Exit → Act → World → Prop} (hQ : (Sum.elim (fun s => To 82 F0 w0 [(0, .str v0), (4, .val (.int .i64 s.1)), (5, .val (.int .i64 s.2))] [] .normal Q) (Sum.elim (fun s => To 82 F0 w0 [(0, .str v0), (4, .val (.int .i64 s.1)), (5, .val (.int .i64 s.2))] [] (.goto 0) Q) (fun s => To 82 F0 w0 [(2, .str s.1), (3, .val (.bool s.2))] [] .ret Q))) o) : Wp Tryd.prog 82 F0 w0 [(0, .str v0), (4, .val (.int .i64 v4)), (5, .val (.int .i64 v5)), (6, .val (.bool v6)), (7, .val (.int .u8 v7))] [] (cB (cA (cB (cB (cB (cB (cI (cB (cF Tryd.f16))))))))) Q := by
  unfold line_say_j2 at h
  refine Wp.block ?_
  refine Wp.seq ?_
  refine Wp.region hΓ [] [] [] [0, 4, 5, 6, 7, 30] [] (K' := [(0, .str v0), (4, .val (.int .i64 v4)), (5, .val (.int .i64 v5)), (6, .val (.bool v6)), (7, .val (.int .u8 v7)), (30, .val (.bool (bif (v7 == 35) then v6 else false)))]) (L' := []) (ob := []) (by kernel_rfl) AllP.nil ?_
  refine To.thenN ?_
  refine Wp.cond (b := (bif (v7 == 35) then v6 else false)) (by kernel_rfl) (fun hb => ?_) (fun hb => ?_)
  · replace h := if_t hb h
    refine Wp.seq ?_
    obtain ⟨hc2, h⟩ := chk_of h
    refine Wp.region hΓ [] [] [] [2, 3] [] (K' := [(2, .str (List.take (Int.toNat v5) v0)), (3, .val (.bool true))]) (L' := []) (ob := [(decide (0 ≤ v5 ∧ v5 ≤ (List.length v0 : Int))) = true]) (by kernel_rfl) (AllP.cons hc2 AllP.nil) ?_
    refine To.thenN ?_
    refine Wp.ret ?_
    refine To.blockR ?_
    refine To.keep (kk := [2, 3]) (kl := []) (K' := [(2, .str (List.take (Int.toNat v5) v0)), (3, .val (.bool true))]) (L' := []) (by kernel_rfl) (by kernel_rfl) ?_
    cases h
    exact hQ
  · replace h := if_f hb h
    refine Wp.seq ?_
    obtain ⟨hc5, h⟩ := chk_of h
    obtain ⟨x3, hx3, h⟩ := lett_of h
    refine Wp.region hΓ [] [(13, .val (.int .i64 (Lib.indexByte ([91, 123, 44] : List UInt8) (Int.toNat (((v0)[Int.toNat (IntKind.wrap .i64 (v4 - 1))]?.getD 0).toNat : Int)).toUInt8)))] [] [0, 4, 5, 7, 39] [] (K' := [(0, .str v0), (4, .val (.int .i64 v4)), (5, .val (.int .i64 v5)), (7, .val (.int .u8 v7)), (39, .val (.bool (bif (bif (v7 == 34) then true else (v7 == 39)) then (bif v6 then true else (decide ((Lib.indexByte ([91, 123, 44] : List UInt8) (Int.toNat (((v0)[Int.toNat (IntKind.wrap .i64 (v4 - 1))]?.getD 0).toNat : Int)).toUInt8) ≥ 0))) else false)))]) (L' := []) (ob := [(!((v6 == false) && ((bif (v7 == 34) then true else (v7 == 39)) == true)) || decide (0 ≤ (IntKind.wrap .i64 (v4 - 1)) ∧ (IntKind.wrap .i64 (v4 - 1)) < (List.length v0 : Int))) = true, (((v6 == false) && ((bif (v7 == 34) then true else (v7 == 39)) == true)) = true → CX Tryd.prog 27 [.str [91, 123, 44], .val (.int .u8 (((v0)[Int.toNat (IntKind.wrap .i64 (v4 - 1))]?.getD 0).toNat : Int))] (.val (.int .i64 (Lib.indexByte ([91, 123, 44] : List UInt8) (Int.toNat (((v0)[Int.toNat (IntKind.wrap .i64 (v4 - 1))]?.getD 0).toNat : Int)).toUInt8))))]) (by kernel_rfl) (AllP.cons hc5 (AllP.cons (fun _ => cx (Sh.indexByte27)) AllP.nil)) ?_
    refine To.eq (K' := [(0, .str v0), (4, .val (.int .i64 v4)), (5, .val (.int .i64 v5)), (7, .val (.int .u8 v7)), (39, .val (.bool x3))]) (L' := []) (by cases hx3; rfl) (by cases hx3; rfl) ?_
    refine To.thenN ?_
    refine Wp.cond (b := x3) (by kernel_rfl) (fun hb => ?_) (fun hb => ?_)
    · replace h := if_t hb h
      refine Wp.seq ?_
      obtain ⟨r4, hr4, h⟩ := bind_of h
      refine Wp.region hΓ [] [(2, .tup [.str r4.1, .val (.int .i64 r4.2.1), .val (.int .i64 r4.2.2)])] [] [0, 9, 10] [] (K' := [(0, .str v0), (9, .val (.int .i64 r4.2.1)), (10, .val (.int .i64 r4.2.2))]) (L' := []) (ob := [(true = true → CX Tryd.prog 28 [.str v0, .val (.int .i64 v4)] (.tup [.str r4.1, .val (.int .i64 r4.2.1), .val (.int .i64 r4.2.2)]))]) (by kernel_rfl) (AllP.cons (fun _ => cx (ok_quote_Scan n v0 v4 _ hr4)) AllP.nil) ?_
      refine To.thenN ?_
      refine Wp.seq ?_
      refine Wp.seq ?_
      refine Wp.region hΓ [] [] [] [0, 9, 65] [] (K' := [(0, .str v0), (9, .val (.int .i64 r4.2.1)), (65, .val (.bool (r4.2.2 != 0)))]) (L' := []) (ob := []) (by kernel_rfl) AllP.nil ?_
      refine To.thenN ?_
      refine Wp.cond (b := (r4.2.2 != 0)) (by kernel_rfl) (fun hb => ?_) (fun hb => ?_)
      · replace h := if_t hb h
        refine Wp.seq ?_
        refine Wp.region hΓ [] [] [] [2, 3] [] (K' := [(2, .str []), (3, .val (.bool false))]) (L' := []) (ob := []) (by kernel_rfl) AllP.nil ?_
        refine To.thenN ?_
        refine Wp.ret ?_
        refine To.thenR ?_
        refine To.blockR ?_
        refine To.keep (kk := [2, 3]) (kl := []) (K' := [(2, .str []), (3, .val (.bool false))]) (L' := []) (by kernel_rfl) (by kernel_rfl) ?_
        cases h
        exact hQ
      · replace h := if_f hb h
        refine Wp.skip ?_
        refine To.thenN ?_
        refine Wp.seq ?_
        refine Wp.region hΓ [] [] [] [0, 4, 5] [] (K' := [(0, .str v0), (4, .val (.int .i64 r4.2.1)), (5, .val (.int .i64 r4.2.1))]) (L' := []) (ob := []) (by kernel_rfl) AllP.nil ?_
        refine To.thenN ?_
        refine Wp.goto ?_
        refine To.blockG ?_
        refine To.keep (kk := [0, 4, 5]) (kl := []) (K' := [(0, .str v0), (4, .val (.int .i64 r4.2.1)), (5, .val (.int .i64 r4.2.1))]) (L' := []) (by kernel_rfl) (by kernel_rfl) ?_
        cases h
        exact hQ
    · replace h := if_f hb h
      refine Wp.seq ?_
      refine Wp.region hΓ [] [] [] [0, 4, 5, 7, 68] [] (K' := [(0, .str v0), (4, .val (.int .i64 v4)), (5, .val (.int .i64 v5)), (7, .val (.int .u8 v7)), (68, .val (.bool (bif (decide (v7 < 32)) then true else (v7 == 127))))]) (L' := []) (ob := []) (by kernel_rfl) AllP.nil ?_
      refine To.thenN ?_
      refine Wp.cond (b := (bif (decide (v7 < 32)) then true else (v7 == 127))) (by kernel_rfl) (fun hb => ?_) (fun hb => ?_)
      · replace h := if_t hb h
        refine Wp.seq ?_
        refine Wp.region hΓ [] [] [] [2, 3] [] (K' := [(2, .str []), (3, .val (.bool false))]) (L' := []) (ob := []) (by kernel_rfl) AllP.nil ?_
        refine To.thenN ?_
        refine Wp.ret ?_
        refine To.blockR ?_
        refine To.keep (kk := [2, 3]) (kl := []) (K' := [(2, .str []), (3, .val (.bool false))]) (L' := []) (by kernel_rfl) (by kernel_rfl) ?_
        cases h
        exact hQ
      · replace h := if_f hb h
        refine Wp.seq ?_
        refine Wp.region hΓ [] [] [] [0, 4, 5, 75] [] (K' := [(0, .str v0), (4, .val (.int .i64 v4)), (5, .val (.int .i64 v5)), (75, .val (.bool (v7 != 32)))]) (L' := []) (ob := []) (by kernel_rfl) AllP.nil ?_
        refine To.thenN ?_
        refine Wp.cond (b := (v7 != 32)) (by kernel_rfl) (fun hb => ?_) (fun hb => ?_)
        · replace h := if_t hb h
          refine Wp.region hΓ [] [] [] [0, 4, 5] [] (K' := [(0, .str v0), (4, .val (.int .i64 v4)), (5, .val (.int .i64 (IntKind.wrap .i64 (v4 + 1))))]) (L' := []) (ob := []) (by kernel_rfl) AllP.nil ?_
          refine To.blockN ?_
          refine To.keep (kk := [0, 4, 5]) (kl := []) (K' := [(0, .str v0), (4, .val (.int .i64 v4)), (5, .val (.int .i64 (IntKind.wrap .i64 (v4 + 1))))]) (L' := []) (by kernel_rfl) (by kernel_rfl) ?_
          cases h
          exact hQ
        · replace h := if_f hb h
          refine Wp.skip ?_
          refine To.blockN ?_
          refine To.keep (kk := [0, 4, 5]) (kl := []) (K' := [(0, .str v0), (4, .val (.int .i64 v4)), (5, .val (.int .i64 v5))]) (L' := []) (by kernel_rfl) (by kernel_rfl) ?_
          cases h
          exact hQ
def line_say_j3 (n : Nat) (v0 : List UInt8) (v4 : Int) (v5 : Int) (v6 : Bool) (v7 : Int) : Option (Sum (Int × Int) (Sum (Int × Int) ((List UInt8) × Bool))) :=
  if (bif (v7 == 35) then v6 else false) = true then (if (decide (0 ≤ v5 ∧ v5 ≤ (List.length v0 : Int))) = true then (some (.inr (.inr ((List.take (Int.toNat v5) v0), true)))) else none)
  else (if ((!((v6 == false) && ((bif (v7 == 34) then true else (v7 == 39)) == true)) || decide (0 ≤ (IntKind.wrap .i64 (v4 - 1)) ∧ (IntKind.wrap .i64 (v4 - 1)) < (List.length v0 : Int)))) = true then (lett ((bif (bif (v7 == 34) then true else (v7 == 39)) then (bif v6 then true else (decide ((Lib.indexByte ([91, 123, 44] : List UInt8) (Int.toNat (((v0)[Int.toNat (IntKind.wrap .i64 (v4 - 1))]?.getD 0).toNat : Int)).toUInt8) ≥ 0))) else false) : Bool) fun x3 =>
  if x3 = true then ((quote_Scan n v0 v4).bind fun r4 =>
  if (r4.2.2 != 0) = true then (some (.inr (.inr ([], false))))
  else (some (.inr (.inl (r4.2.1, r4.2.1)))))
  else (if (bif (decide (v7 < 32)) then true else (v7 == 127)) = true then (some (.inr (.inr ([], false))))
  else (if (v7 != 32) = true then (some (.inl (v4, (IntKind.wrap .i64 (v4 + 1)))))
  else (some (.inl (v4, v5)))))) else none)
theorem ok_line_say_j3 (n : Nat) (v0 : List UInt8) (v4 : Int) (v5 : Int) (v6 : Bool) (v7 : Int) (o : Sum (Int × Int) (Sum (Int × Int) ((List UInt8) × Bool))) (h : line_say_j3 n v0 v4 v5 v6 v7 = some o) {F0 : Fz} {w0 : Pt Tryd.prog} {Q : Exit → Act → World → Prop} (hQ : (Sum.elim (fun s => To 82 F0 w0 [(0, .str v0), (4, .val (.int .i64 s.1)), (5, .val (.int .i64 s.2))] [] .normal Q) (Sum.elim (fun s => To 82 F0 w0 [(0, .str v0), (4, .val (.int .i64 s.1)), (5, .val (.int .i64 s.2))] [] (.goto 0) Q) (fun s => To 82 F0 w0 [(2, .str s.1), (3, .val (.bool s.2))] [] .ret Q))) o) : Wp Tryd.prog 82 F0 w0 [(0, .str v0), (4, .val (.int .i64 v4)), (5, .val (.int .i64 v5)), (6, .val (.bool v6)), (7, .val (.int .u8 v7))] [] (cB (cA (cB (cB (cB (cB (cI (cB (cF Tryd.f16))))))))) Q := by
  unfold line_say_j3 at h
  refine Wp.block ?_
  refine Wp.seq ?_
  refine Wp.region hΓ [] [] [] [0, 4, 5, 6, 7, 30] [] (K' := [(0, .str v0), (4, .val (.int .i64 v4)), (5, .val (.int .i64 v5)), (6, .val (.bool v6)), (7, .val (.int .u8 v7)), (30, .val (.bool (bif (v7 == 35) then v6 else false)))]) (L' := []) (ob := []) (by kernel_rfl) AllP.nil ?_
  refine To.thenN ?_
  refine Wp.cond (b := (bif (v7 == 35) then v6 else false)) (by kernel_rfl) (fun hb => ?_) (fun hb => ?_)
  · replace h := if_t hb h
    refine Wp.seq ?_
    obtain ⟨hc2, h⟩ := chk_of h
    refine Wp.region hΓ [] [] [] [2, 3] [] (K' := [(2, .str (List.take (Int.toNat v5) v0)), (3, .val (.bool true))]) (L' := []) (ob := [(decide (0 ≤ v5 ∧ v5 ≤ (List.length v0 : Int))) = true]) (by kernel_rfl) (AllP.cons hc2 AllP.nil) ?_
    refine To.thenN ?_
    refine Wp.ret ?_
    refine To.blockR ?_
    refine To.keep (kk := [2, 3]) (kl := []) (K' := [(2, .str (List.take (Int.toNat v5) v0)), (3, .val (.bool true))]) (L' := []) (by kernel_rfl) (by kernel_rfl) ?_
    cases h
    exact hQ
  · replace h := if_f hb h
    refine Wp.seq ?_
    obtain ⟨hc5, h⟩ := chk_of h
    obtain ⟨x3, hx3, h⟩ := lett_of h
    refine Wp.region hΓ [] [(13, .val (.int .i64 (Lib.indexByte ([91, 123, 44] : List UInt8) (Int.toNat (((v0)[Int.toNat (IntKind.wrap .i64 (v4 - 1))]?.getD 0).toNat : Int)).toUInt8)))] [] [0, 4, 5, 7, 39] [] (K' := [(0, .str v0), (4, .val (.int .i64 v4)), (5, .val (.int .i64 v5)), (7, .val (.int .u8 v7)), (39, .val (.bool (bif (bif (v7 == 34) then true else (v7 == 39)) then (bif v6 then true else (decide ((Lib.indexByte ([91, 123, 44] : List UInt8) (Int.toNat (((v0)[Int.toNat (IntKind.wrap .i64 (v4 - 1))]?.getD 0).toNat : Int)).toUInt8) ≥ 0))) else false)))]) (L' := []) (ob := [(!((v6 == false) && ((bif (v7 == 34) then true else (v7 == 39)) == true)) || decide (0 ≤ (IntKind.wrap .i64 (v4 - 1)) ∧ (IntKind.wrap .i64 (v4 - 1)) < (List.length v0 : Int))) = true, (((v6 == false) && ((bif (v7 == 34) then true else (v7 == 39)) == true)) = true → CX Tryd.prog 27 [.str [91, 123, 44], .val (.int .u8 (((v0)[Int.toNat (IntKind.wrap .i64 (v4 - 1))]?.getD 0).toNat : Int))] (.val (.int .i64 (Lib.indexByte ([91, 123, 44] : List UInt8) (Int.toNat (((v0)[Int.toNat (IntKind.wrap .i64 (v4 - 1))]?.getD 0).toNat : Int)).toUInt8))))]) (by kernel_rfl) (AllP.cons hc5 (AllP.cons (fun _ => cx (Sh.indexByte27)) AllP.nil)) ?_
    refine To.eq (K' := [(0, .str v0), (4, .val (.int .i64 v4)), (5, .val (.int .i64 v5)), (7, .val (.int .u8 v7)), (39, .val (.bool x3))]) (L' := []) (by cases hx3; rfl) (by cases hx3; rfl) ?_
    refine To.thenN ?_
    refine Wp.cond (b := x3) (by kernel_rfl) (fun hb => ?_) (fun hb => ?_)
    · replace h := if_t hb h
      refine Wp.seq ?_
      obtain ⟨r4, hr4, h⟩ := bind_of h
      refine Wp.region hΓ [] [(2, .tup [.str r4.1, .val (.int .i64 r4.2.1), .val (.int .i64 r4.2.2)])] [] [0, 9, 10] [] (K' := [(0, .str v0), (9, .val (.int .i64 r4.2.1)), (10, .val (.int .i64 r4.2.2))]) (L' := []) (ob := [(true = true → CX Tryd.prog 28 [.str v0, .val (.int .i64 v4)] (.tup [.str r4.1, .val (.int .i64 r4.2.1), .val (.int .i64 r4.2.2)]))]) (by kernel_rfl) (AllP.cons (fun _ => cx (ok_quote_Scan n v0 v4 _ hr4)) AllP.nil) ?_
      refine To.thenN ?_
      refine Wp.seq ?_
      refine Wp.seq ?_
      refine Wp.region hΓ [] [] [] [0, 9, 65] [] (K' := [(0, .str v0), (9, .val (.int .i64 r4.2.1)), (65, .val (.bool (r4.2.2 != 0)))]) (L' := []) (ob := []) (by kernel_rfl) AllP.nil ?_
      refine To.thenN ?_
      refine Wp.cond (b := (r4.2.2 != 0)) (by kernel_rfl) (fun hb => ?_) (fun hb => ?_)
      · replace h := if_t hb h
        refine Wp.seq ?_
        refine Wp.region hΓ [] [] [] [2, 3] [] (K' := [(2, .str []), (3, .val (.bool false))]) (L' := []) (ob := []) (by kernel_rfl) AllP.nil ?_
        refine To.thenN ?_
        refine Wp.ret ?_
        refine To.thenR ?_
        refine To.blockR ?_
        refine To.keep (kk := [2, 3]) (kl := []) (K' := [(2, .str []), (3, .val (.bool false))]) (L' := []) (by kernel_rfl) (by kernel_rfl) ?_
        cases h
        exact hQ
      · replace h := if_f hb h
        refine Wp.skip ?_
        refine To.thenN ?_
        refine Wp.seq ?_
        refine Wp.region hΓ [] [] [] [0, 4, 5] [] (K' := [(0, .str v0), (4, .val (.int .i64 r4.2.1)), (5, .val (.int .i64 r4.2.1))]) (L' := []) (ob := []) (by kernel_rfl) AllP.nil ?_
        refine To.thenN ?_
        refine Wp.goto ?_
        refine To.blockG ?_
        refine To.keep (kk := [0, 4, 5]) (kl := []) (K' := [(0, .str v0), (4, .val (.int .i64 r4.2.1)), (5, .val (.int .i64 r4.2.1))]) (L' := []) (by kernel_rfl) (by kernel_rfl) ?_
        cases h
        exact hQ
    · replace h := if_f hb h
      refine Wp.seq ?_
      refine Wp.region hΓ [] [] [] [0, 4, 5, 7, 68] [] (K' := [(0, .str v0), (4, .val (.int .i64 v4)), (5, .val (.int .i64 v5)), (7, .val (.int .u8 v7)), (68, .val (.bool (bif (decide (v7 < 32)) then true else (v7 == 127))))]) (L' := []) (ob := []) (by kernel_rfl) AllP.nil ?_
      refine To.thenN ?_
      refine Wp.cond (b := (bif (decide (v7 < 32)) then true else (v7 == 127))) (by kernel_rfl) (fun hb => ?_) (fun hb => ?_)
      · replace h := if_t hb h
        refine Wp.seq ?_
        refine Wp.region hΓ [] [] [] [2, 3] [] (K' := [(2, .str []), (3, .val (.bool false))]) (L' := []) (ob := []) (by kernel_rfl) AllP.nil ?_
        refine To.thenN ?_
        refine Wp.ret ?_
        refine To.blockR ?_
        refine To.keep (kk := [2, 3]) (kl := []) (K' := [(2, .str []), (3, .val (.bool false))]) (L' := []) (by kernel_rfl) (by kernel_rfl) ?_
        cases h
        exact hQ
      · replace h := if_f hb h
        refine Wp.seq ?_
        refine Wp.region hΓ [] [] [] [0, 4, 5, 75] [] (K' := [(0, .str v0), (4, .val (.int .i64 v4)), (5, .val (.int .i64 v5)), (75, .val (.bool (v7 != 32)))]) (L' := []) (ob := []) (by kernel_rfl) AllP.nil ?_
        refine To.thenN ?_
        refine Wp.cond (b := (v7 != 32)) (by kernel_rfl) (fun hb => ?_) (fun hb => ?_)
        · replace h := if_t hb h
          refine Wp.region hΓ [] [] [] [0, 4, 5] [] (K' := [(0, .str v0), (4, .val (.int .i64 v4)), (5, .val (.int .i64 (IntKind.wrap .i64 (v4 + 1))))]) (L' := []) (ob := []) (by kernel_rfl) AllP.nil ?_
          refine To.blockN ?_
          refine To.keep (kk := [0, 4, 5]) (kl := []) (K' := [(0, .str v0), (4, .val (.int .i64 v4)), (5, .val (.int .i64 (IntKind.wrap .i64 (v4 + 1))))]) (L' := []) (by kernel_rfl) (by kernel_rfl) ?_
          cases h
          exact hQ
        · replace h := if_f hb h
          refine Wp.skip ?_
          refine To.blockN ?_
          refine To.keep (kk := [0, 4, 5]) (kl := []) (K' := [(0, .str v0), (4, .val (.int .i64 v4)), (5, .val (.int .i64 v5))]) (L' := []) (by kernel_rfl) (by kernel_rfl) ?_
          cases h
          exact hQ
mutual
def line_say_g1_e (n : Nat) : Nat → (List UInt8) → Option ((List UInt8) × Bool)
  | 0, _ => none
  | k + 1, v0 => if ((0 : Int) == (List.length v0 : Int)) = true then (if (decide (0 ≤ (0 : Int) ∧ (0 : Int) ≤ (List.length v0 : Int))) = true then (some ((List.take (Int.toNat 0) v0), true)) else none)
  else (if ((!(((0 : Int) == 0) == false) || decide (0 ≤ (IntKind.wrap .i64 (0 - 1)) ∧ (IntKind.wrap .i64 (0 - 1)) < (List.length v0 : Int)))) = true then (if (decide (0 ≤ (0 : Int) ∧ (0 : Int) < (List.length v0 : Int))) = true then ((line_say_j2 n v0 0 0 (bif ((0 : Int) == 0) then true else ((((v0)[Int.toNat (IntKind.wrap .i64 (0 - 1))]?.getD 0).toNat : Int) == 32)) (((v0)[Int.toNat 0]?.getD 0).toNat : Int)).bind fun o2 =>
  (Sum.elim (fun o2 => line_say_g1_0 n k v0 (IntKind.wrap .i64 (o2.1 + 1)) o2.2) (Sum.elim (fun o2 => line_say_g1_0 n k v0 o2.1 o2.2) (fun o2 => some (o2.1, o2.2)))) o2) else none) else none)
def line_say_g1_0 (n : Nat) : Nat → (List UInt8) → Int → Int → Option ((List UInt8) × Bool)
  | 0, _, _, _ => none
  | k + 1, v0, v4, v5 => if (v4 == (List.length v0 : Int)) = true then (if (decide (0 ≤ v5 ∧ v5 ≤ (List.length v0 : Int))) = true then (some ((List.take (Int.toNat v5) v0), true)) else none)
  else (if ((!((v4 == 0) == false) || decide (0 ≤ (IntKind.wrap .i64 (v4 - 1)) ∧ (IntKind.wrap .i64 (v4 - 1)) < (List.length v0 : Int)))) = true then (if (decide (0 ≤ v4 ∧ v4 < (List.length v0 : Int))) = true then ((line_say_j3 n v0 v4 v5 (bif (v4 == 0) then true else ((((v0)[Int.toNat (IntKind.wrap .i64 (v4 - 1))]?.getD 0).toNat : Int) == 32)) (((v0)[Int.toNat v4]?.getD 0).toNat : Int)).bind fun o2 =>
  (Sum.elim (fun o2 => line_say_g1_0 n k v0 (IntKind.wrap .i64 (o2.1 + 1)) o2.2) (Sum.elim (fun o2 => line_say_g1_0 n k v0 o2.1 o2.2) (fun o2 => some (o2.1, o2.2)))) o2) else none) else none)
end
theorem ok_line_say_g1 (n : Nat) {F0 : Fz} {w0 : Pt Tryd.prog} {Q : Exit → Act → World → Prop} (k : Nat) : (∀ (v0 : List UInt8) (o : (List UInt8) × Bool), line_say_g1_e n k v0 = some o → To 82 F0 w0 [(2, .str o.1), (3, .val (.bool o.2))] [] .ret Q → WG Tryd.prog 82 F0 w0 [(0, .str v0)] [] (cI (cB (cF Tryd.f16))) (cI (cB (cF Tryd.f16))) Q) ∧
  (∀ (v0 : List UInt8) (v4 : Int) (v5 : Int) (o : (List UInt8) × Bool), line_say_g1_0 n k v0 v4 v5 = some o → To 82 F0 w0 [(2, .str o.1), (3, .val (.bool o.2))] [] .ret Q → WG Tryd.prog 82 F0 w0 [(0, .str v0), (4, .val (.int .i64 v4)), (5, .val (.int .i64 v5))] [] (cI (cB (cF Tryd.f16))) (cG 0 (cB (cF Tryd.f16))) Q) := by
  induction k with
  | zero => exact ⟨(by intro v0 o h; cases h), (by intro v0 v4 v5 o h; cases h)⟩
  | succ k ih =>
    refine ⟨?_, ?_⟩
    · intro v0 o h hQ
      rw [line_say_g1_e] at h
      refine WG.pass ?_
      refine Wp.seq ?_
      refine Wp.region hΓ [] [] [] [0, 4, 5] [] (K' := [(0, .str v0), (4, .val (.int .i64 0)), (5, .val (.int .i64 0))]) (L' := []) (ob := []) (by kernel_rfl) AllP.nil ?_
      refine To.thenN ?_
      refine Wp.seq ?_
      refine Wp.label ?_
      refine To.thenN ?_
      refine Wp.seq ?_
      refine Wp.seq ?_
      refine Wp.region hΓ [] [] [] [0, 4, 5, 14] [] (K' := [(0, .str v0), (4, .val (.int .i64 0)), (5, .val (.int .i64 0)), (14, .val (.bool ((0 : Int) == (List.length v0 : Int))))]) (L' := []) (ob := []) (by kernel_rfl) AllP.nil ?_
      refine To.thenN ?_
      refine Wp.cond (b := ((0 : Int) == (List.length v0 : Int))) (by kernel_rfl) (fun hb => ?_) (fun hb => ?_)
      · replace h := if_t hb h
        refine Wp.seq ?_
        obtain ⟨hc1, h⟩ := chk_of h
        refine Wp.region hΓ [] [] [] [2, 3] [] (K' := [(2, .str (List.take (Int.toNat 0) v0)), (3, .val (.bool true))]) (L' := []) (ob := [(decide (0 ≤ (0 : Int) ∧ (0 : Int) ≤ (List.length v0 : Int))) = true]) (by kernel_rfl) (AllP.cons hc1 AllP.nil) ?_
        refine To.thenN ?_
        refine Wp.ret ?_
        refine To.thenR ?_
        refine To.goesO (.inr (.inl rfl)) ?_
        refine To.keep (kk := [2, 3]) (kl := []) (K' := [(2, .str (List.take (Int.toNat 0) v0)), (3, .val (.bool true))]) (L' := []) (by kernel_rfl) (by kernel_rfl) ?_
        cases h
        exact hQ
      · replace h := if_f hb h
        refine Wp.skip ?_
        refine To.thenN ?_
        refine Wp.seq ?_
        obtain ⟨hc4, h⟩ := chk_of h
        refine Wp.region hΓ [] [] [] [0, 4, 5, 6] [] (K' := [(0, .str v0), (4, .val (.int .i64 0)), (5, .val (.int .i64 0)), (6, .val (.bool (bif ((0 : Int) == 0) then true else ((((v0)[Int.toNat (IntKind.wrap .i64 (0 - 1))]?.getD 0).toNat : Int) == 32))))]) (L' := []) (ob := [(!(((0 : Int) == 0) == false) || decide (0 ≤ (IntKind.wrap .i64 (0 - 1)) ∧ (IntKind.wrap .i64 (0 - 1)) < (List.length v0 : Int))) = true]) (by kernel_rfl) (AllP.cons hc4 AllP.nil) ?_
        refine To.thenN ?_
        refine Wp.seq ?_
        refine Wp.seq ?_
        obtain ⟨hc3, h⟩ := chk_of h
        refine Wp.region hΓ [] [] [] [0, 4, 5, 6, 7] [] (K' := [(0, .str v0), (4, .val (.int .i64 0)), (5, .val (.int .i64 0)), (6, .val (.bool (bif ((0 : Int) == 0) then true else ((((v0)[Int.toNat (IntKind.wrap .i64 (0 - 1))]?.getD 0).toNat : Int) == 32)))), (7, .val (.int .u8 (((v0)[Int.toNat 0]?.getD 0).toNat : Int)))]) (L' := []) (ob := [(decide (0 ≤ (0 : Int) ∧ (0 : Int) < (List.length v0 : Int))) = true]) (by kernel_rfl) (AllP.cons hc3 AllP.nil) ?_
        refine To.thenN ?_
        obtain ⟨o2, ho2, h⟩ := bind_of h
        refine Wp.keep (kk := [0, 4, 5, 6, 7]) (kl := []) (K' := [(0, .str v0), (4, .val (.int .i64 0)), (5, .val (.int .i64 0)), (6, .val (.bool (bif ((0 : Int) == 0) then true else ((((v0)[Int.toNat (IntKind.wrap .i64 (0 - 1))]?.getD 0).toNat : Int) == 32)))), (7, .val (.int .u8 (((v0)[Int.toNat 0]?.getD 0).toNat : Int)))]) (L' := []) (by kernel_rfl) (by kernel_rfl) ?_
        refine ok_line_say_j2 n v0 0 0 (bif ((0 : Int) == 0) then true else ((((v0)[Int.toNat (IntKind.wrap .i64 (0 - 1))]?.getD 0).toNat : Int) == 32)) (((v0)[Int.toNat 0]?.getD 0).toNat : Int) o2 ho2 ?_
        rcases o2 with o2 | o2
        · replace h := sum_l h
          refine To.thenN ?_
          refine Wp.seq ?_
          refine Wp.region hΓ [] [] [] [0, 4, 5] [] (K' := [(0, .str v0), (4, .val (.int .i64 (IntKind.wrap .i64 (o2.1 + 1)))), (5, .val (.int .i64 o2.2))]) (L' := []) (ob := []) (by kernel_rfl) AllP.nil ?_
          refine To.thenN ?_
          refine Wp.goto ?_
          refine To.keep (kk := [0, 4, 5]) (kl := []) (K' := [(0, .str v0), (4, .val (.int .i64 (IntKind.wrap .i64 (o2.1 + 1)))), (5, .val (.int .i64 o2.2))]) (L' := []) (by kernel_rfl) (by kernel_rfl) ?_
          refine To.goto (rest := cG 0 (cB (cF Tryd.f16))) (by kernel_rfl) ?_
          exact ih.2 v0 (IntKind.wrap .i64 (o2.1 + 1)) o2.2 _ h hQ
        · replace h := sum_r h
          rcases o2 with o2 | o2
          · replace h := sum_l h
            refine To.thenG ?_
            refine To.keep (kk := [0, 4, 5]) (kl := []) (K' := [(0, .str v0), (4, .val (.int .i64 o2.1)), (5, .val (.int .i64 o2.2))]) (L' := []) (by kernel_rfl) (by kernel_rfl) ?_
            refine To.goto (rest := cG 0 (cB (cF Tryd.f16))) (by kernel_rfl) ?_
            exact ih.2 v0 o2.1 o2.2 _ h hQ
          · replace h := sum_r h
            refine To.thenR ?_
            refine To.goesO (.inr (.inl rfl)) ?_
            refine To.keep (kk := [2, 3]) (kl := []) (K' := [(2, .str o2.1), (3, .val (.bool o2.2))]) (L' := []) (by kernel_rfl) (by kernel_rfl) ?_
            cases h
            exact hQ
    · intro v0 v4 v5 o h hQ
      rw [line_say_g1_0] at h
      refine WG.pass ?_
      refine Wp.seq ?_
      refine Wp.skip ?_
      refine To.thenN ?_
      refine Wp.seq ?_
      refine Wp.seq ?_
      refine Wp.region hΓ [] [] [] [0, 4, 5, 14] [] (K' := [(0, .str v0), (4, .val (.int .i64 v4)), (5, .val (.int .i64 v5)), (14, .val (.bool (v4 == (List.length v0 : Int))))]) (L' := []) (ob := []) (by kernel_rfl) AllP.nil ?_
      refine To.thenN ?_
      refine Wp.cond (b := (v4 == (List.length v0 : Int))) (by kernel_rfl) (fun hb => ?_) (fun hb => ?_)
      · replace h := if_t hb h
        refine Wp.seq ?_
        obtain ⟨hc1, h⟩ := chk_of h
        refine Wp.region hΓ [] [] [] [2, 3] [] (K' := [(2, .str (List.take (Int.toNat v5) v0)), (3, .val (.bool true))]) (L' := []) (ob := [(decide (0 ≤ v5 ∧ v5 ≤ (List.length v0 : Int))) = true]) (by kernel_rfl) (AllP.cons hc1 AllP.nil) ?_
        refine To.thenN ?_
        refine Wp.ret ?_
        refine To.thenR ?_
        refine To.goesO (.inr (.inl rfl)) ?_
        refine To.keep (kk := [2, 3]) (kl := []) (K' := [(2, .str (List.take (Int.toNat v5) v0)), (3, .val (.bool true))]) (L' := []) (by kernel_rfl) (by kernel_rfl) ?_
        cases h
        exact hQ
      · replace h := if_f hb h
        refine Wp.skip ?_
        refine To.thenN ?_
        refine Wp.seq ?_
        obtain ⟨hc4, h⟩ := chk_of h
        refine Wp.region hΓ [] [] [] [0, 4, 5, 6] [] (K' := [(0, .str v0), (4, .val (.int .i64 v4)), (5, .val (.int .i64 v5)), (6, .val (.bool (bif (v4 == 0) then true else ((((v0)[Int.toNat (IntKind.wrap .i64 (v4 - 1))]?.getD 0).toNat : Int) == 32))))]) (L' := []) (ob := [(!((v4 == 0) == false) || decide (0 ≤ (IntKind.wrap .i64 (v4 - 1)) ∧ (IntKind.wrap .i64 (v4 - 1)) < (List.length v0 : Int))) = true]) (by kernel_rfl) (AllP.cons hc4 AllP.nil) ?_
        refine To.thenN ?_
        refine Wp.seq ?_
        refine Wp.seq ?_
        obtain ⟨hc3, h⟩ := chk_of h
        refine Wp.region hΓ [] [] [] [0, 4, 5, 6, 7] [] (K' := [(0, .str v0), (4, .val (.int .i64 v4)), (5, .val (.int .i64 v5)), (6, .val (.bool (bif (v4 == 0) then true else ((((v0)[Int.toNat (IntKind.wrap .i64 (v4 - 1))]?.getD 0).toNat : Int) == 32)))), (7, .val (.int .u8 (((v0)[Int.toNat v4]?.getD 0).toNat : Int)))]) (L' := []) (ob := [(decide (0 ≤ v4 ∧ v4 < (List.length v0 : Int))) = true]) (by kernel_rfl) (AllP.cons hc3 AllP.nil) ?_
        refine To.thenN ?_
        obtain ⟨o2, ho2, h⟩ := bind_of h
        refine Wp.keep (kk := [0, 4, 5, 6, 7]) (kl := []) (K' := [(0, .str v0), (4, .val (.int .i64 v4)), (5, .val (.int .i64 v5)), (6, .val (.bool (bif (v4 == 0) then true else ((((v0)[Int.toNat (IntKind.wrap .i64 (v4 - 1))]?.getD 0).toNat : Int) == 32)))), (7, .val (.int .u8 (((v0)[Int.toNat v4]?.getD 0).toNat : Int)))]) (L' := []) (by kernel_rfl) (by kernel_rfl) ?_
        refine ok_line_say_j3 n v0 v4 v5 (bif (v4 == 0) then true else ((((v0)[Int.toNat (IntKind.wrap .i64 (v4 - 1))]?.getD 0).toNat : Int) == 32)) (((v0)[Int.toNat v4]?.getD 0).toNat : Int) o2 ho2 ?_
        rcases o2 with o2 | o2
        · replace h := sum_l h
          refine To.thenN ?_
          refine Wp.seq ?_
          refine Wp.region hΓ [] [] [] [0, 4, 5] [] (K' := [(0, .str v0), (4, .val (.int .i64 (IntKind.wrap .i64 (o2.1 + 1)))), (5, .val (.int .i64 o2.2))]) (L' := []) (ob := []) (by kernel_rfl) AllP.nil ?_
          refine To.thenN ?_
          refine Wp.goto ?_
          refine To.keep (kk := [0, 4, 5]) (kl := []) (K' := [(0, .str v0), (4, .val (.int .i64 (IntKind.wrap .i64 (o2.1 + 1)))), (5, .val (.int .i64 o2.2))]) (L' := []) (by kernel_rfl) (by kernel_rfl) ?_
          refine To.goto (rest := cG 0 (cB (cF Tryd.f16))) (by kernel_rfl) ?_
          exact ih.2 v0 (IntKind.wrap .i64 (o2.1 + 1)) o2.2 _ h hQ
        · replace h := sum_r h
          rcases o2 with o2 | o2
          · replace h := sum_l h
            refine To.thenG ?_
            refine To.keep (kk := [0, 4, 5]) (kl := []) (K' := [(0, .str v0), (4, .val (.int .i64 o2.1)), (5, .val (.int .i64 o2.2))]) (L' := []) (by kernel_rfl) (by kernel_rfl) ?_
            refine To.goto (rest := cG 0 (cB (cF Tryd.f16))) (by kernel_rfl) ?_
            exact ih.2 v0 o2.1 o2.2 _ h hQ
          · replace h := sum_r h
            refine To.thenR ?_
            refine To.goesO (.inr (.inl rfl)) ?_
            refine To.keep (kk := [2, 3]) (kl := []) (K' := [(2, .str o2.1), (3, .val (.bool o2.2))]) (L' := []) (by kernel_rfl) (by kernel_rfl) ?_
            cases h
            exact hQ
def line_say (n : Nat) (a0 : List UInt8) : Option ((List UInt8) × Bool) :=
  (line_say_g1_e n n a0).bind fun o1 =>
  some (o1.1, o1.2)
theorem ok_line_say (n : Nat) (a0 : List UInt8) (r : (List UInt8) × Bool) (h : line_say n a0 = some r) : CallsX Tryd.prog 16 [.str a0] (.tup [.str r.1, .val (.bool r.2)]) := by
  unfold line_say at h
  refine callsX_of (fn := Tryd.f16) (by kernel_rfl) rfl (by kernel_rfl) (Nat.le_of_ble_eq_true (by kernel_rfl)) fun F0 w0 _ => ?_
  refine Wp.keep (kk := [0]) (kl := []) (K' := [(0, .str a0)]) (L' := []) (by kernel_rfl) (by kernel_rfl) ?_
  refine Wp.seq ?_
  refine Wp.region hΓ [] [] [] [0] [] (K' := [(0, .str a0)]) (L' := []) (ob := []) (by kernel_rfl) AllP.nil ?_
  refine To.thenN ?_
  obtain ⟨o1, ho1, h⟩ := bind_of h
  refine Wp.keep (kk := [0]) (kl := []) (K' := [(0, .str a0)]) (L' := []) (by kernel_rfl) (by kernel_rfl) ?_
  refine Wp.scopeG ?_
  refine (ok_line_say_g1 n n).1 a0 o1 ho1 ?_
  refine To.keep (kk := [2, 3]) (kl := []) (K' := [(2, .str o1.1), (3, .val (.bool o1.2))]) (L' := []) (by kernel_rfl) (by kernel_rfl) ?_
  cases h
  exact To.done hΓ (by kernel_rfl)
def line_Split_j2 (n : Nat) (v0 : List UInt8) (v5 : List (S_line_Line)) (v6 : Int) : Option (Sum ((List UInt8) × (List (S_line_Line))) (Int × Int)) :=
  if (decide (List.length v0 < 4294967281)) = true then (lett ((IntKind.wrap .i64 ((List.length ((Lib.cut v0 ([10] : List UInt8)).1) : Int) - (List.length (Lib.trimLeftB ((Lib.cut v0 ([10] : List UInt8)).1) 32) : Int))) : Int) fun x2 =>
  if (decide (0 ≤ x2 ∧ x2 ≤ (List.length ((Lib.cut v0 ([10] : List UInt8)).1) : Int))) = true then ((line_say n (List.drop (Int.toNat x2) ((Lib.cut v0 ([10] : List UInt8)).1))).bind fun r3 =>
  lett ((bif (!r3.2) then true else (bif (x2 == 0) then (bif (r3.1 == [45, 45, 45]) then true else (r3.1 == [46, 46, 46])) else false)) : Bool) fun x4 =>
  if x4 = true then (some (.inr (v6, 3)))
  else (if (!(r3.1 == [])) = true then (if (decide ((List.length v5 + List.length ([(S_line_Line.mk v6 x2 r3.1)] : List (S_line_Line))) * (32 + 1) ≤ limit)) = true then (some (.inl ((Lib.cut v0 ([10] : List UInt8)).2.1, (v5 ++ ([(S_line_Line.mk v6 x2 r3.1)] : List (S_line_Line)))))) else none)
  else (some (.inl ((Lib.cut v0 ([10] : List UInt8)).2.1, v5))))) else none) else none
theorem ok_line_Split_j2 (n : Nat) (v0 : List UInt8) (v5 : List (S_line_Line)) (v6 : Int) (o : Sum ((List UInt8) × (List (S_line_Line))) (Int × Int)) (h : line_Split_j2 n v0 v5 v6 = some o) {F0 : Fz} {w0 : Pt Tryd.prog} {Q : Exit → Act → World → Prop} (hQ : (Sum.elim (fun s => To 65 F0 w0 [(0, .str s.1), (5, .row 1005), (6, .val (.int .i64 v6))] [(1005, 34, [.rowc false (α := S_line_Line) (S_line_Line.mk 0 0 []) E_line_Line s.2])] .normal Q) (fun s => To 65 F0 w0 [(2, .val (.slice none 0 0)), (3, .val (.int .i64 s.1)), (4, .val (.int .i64 s.2))] [] .ret Q)) o) : Wp Tryd.prog 65 F0 w0 [(0, .str v0), (5, .row 1005), (6, .val (.int .i64 v6))] [(1005, 34, [.rowc false (α := S_line_Line) (S_line_Line.mk 0 0 []) E_line_Line v5])] (cA (cB (cI (cI (cB (cA (cB (cB (cB (cF Tryd.f7)))))))))) Q := by
  unfold line_Split_j2 at h
  refine Wp.block ?_
  refine Wp.seq ?_
  obtain ⟨u1, h⟩ := chk_of h
  refine Wp.region hΓ [] [(1, .tup [.str ((Lib.cut v0 ([10] : List UInt8)).1), .str ((Lib.cut v0 ([10] : List UInt8)).2.1), .val (.bool ((Lib.cut v0 ([10] : List UInt8)).2.2))])] [] [5, 6, 7, 8] [1005] (K' := [(5, .row 1005), (6, .val (.int .i64 v6)), (7, .str ((Lib.cut v0 ([10] : List UInt8)).1)), (8, .str ((Lib.cut v0 ([10] : List UInt8)).2.1))]) (L' := [(1005, 34, [.rowc false (α := S_line_Line) (S_line_Line.mk 0 0 []) E_line_Line v5])]) (ob := [(true = true → CX Tryd.prog 14 [.str v0, .str [10]] (.tup [.str ((Lib.cut v0 ([10] : List UInt8)).1), .str ((Lib.cut v0 ([10] : List UInt8)).2.1), .val (.bool ((Lib.cut v0 ([10] : List UInt8)).2.2))]))]) (by kernel_rfl) (AllP.cons (fun _ => cx (Sh.cut14 u1)) AllP.nil) ?_
  refine To.thenN ?_
  refine Wp.seq ?_
  refine Wp.region hΓ [] [] [] [0, 5, 6, 7] [1005] (K' := [(0, .str ((Lib.cut v0 ([10] : List UInt8)).2.1)), (5, .row 1005), (6, .val (.int .i64 v6)), (7, .str ((Lib.cut v0 ([10] : List UInt8)).1))]) (L' := [(1005, 34, [.rowc false (α := S_line_Line) (S_line_Line.mk 0 0 []) E_line_Line v5])]) (ob := []) (by kernel_rfl) AllP.nil ?_
  refine To.thenN ?_
  refine Wp.seq ?_
  obtain ⟨x2, hx2, h⟩ := lett_of h
  refine Wp.region hΓ [] [(3, .str (Lib.trimLeftB ((Lib.cut v0 ([10] : List UInt8)).1) 32))] [] [0, 5, 6, 7, 10] [1005] (K' := [(0, .str ((Lib.cut v0 ([10] : List UInt8)).2.1)), (5, .row 1005), (6, .val (.int .i64 v6)), (7, .str ((Lib.cut v0 ([10] : List UInt8)).1)), (10, .val (.int .i64 (IntKind.wrap .i64 ((List.length ((Lib.cut v0 ([10] : List UInt8)).1) : Int) - (List.length (Lib.trimLeftB ((Lib.cut v0 ([10] : List UInt8)).1) 32) : Int)))))]) (L' := [(1005, 34, [.rowc false (α := S_line_Line) (S_line_Line.mk 0 0 []) E_line_Line v5])]) (ob := [(true = true → CX Tryd.prog 15 [.str ((Lib.cut v0 ([10] : List UInt8)).1), .str [32]] (.str (Lib.trimLeftB ((Lib.cut v0 ([10] : List UInt8)).1) 32)))]) (by kernel_rfl) (AllP.cons (fun _ => cx (Sh.trimLeft115 (by decide))) AllP.nil) ?_
  refine To.eq (K' := [(0, .str ((Lib.cut v0 ([10] : List UInt8)).2.1)), (5, .row 1005), (6, .val (.int .i64 v6)), (7, .str ((Lib.cut v0 ([10] : List UInt8)).1)), (10, .val (.int .i64 x2))]) (L' := [(1005, 34, [.rowc false (α := S_line_Line) (S_line_Line.mk 0 0 []) E_line_Line v5])]) (by cases hx2; rfl) (by cases hx2; rfl) ?_
  refine To.thenN ?_
  refine Wp.seq ?_
  obtain ⟨hc6, h⟩ := chk_of h
  obtain ⟨r3, hr3, h⟩ := bind_of h
  refine Wp.region hΓ [] [(3, .tup [.str r3.1, .val (.bool r3.2)])] [] [0, 5, 6, 10, 11, 12] [1005] (K' := [(0, .str ((Lib.cut v0 ([10] : List UInt8)).2.1)), (5, .row 1005), (6, .val (.int .i64 v6)), (10, .val (.int .i64 x2)), (11, .str r3.1), (12, .val (.bool r3.2))]) (L' := [(1005, 34, [.rowc false (α := S_line_Line) (S_line_Line.mk 0 0 []) E_line_Line v5])]) (ob := [(decide (0 ≤ x2 ∧ x2 ≤ (List.length ((Lib.cut v0 ([10] : List UInt8)).1) : Int))) = true, (true = true → CX Tryd.prog 16 [.str (List.drop (Int.toNat x2) ((Lib.cut v0 ([10] : List UInt8)).1))] (.tup [.str r3.1, .val (.bool r3.2)]))]) (by kernel_rfl) (AllP.cons hc6 (AllP.cons (fun _ => cx (ok_line_say n (List.drop (Int.toNat x2) ((Lib.cut v0 ([10] : List UInt8)).1)) _ hr3)) AllP.nil)) ?_
  refine To.thenN ?_
  refine Wp.seq ?_
  refine Wp.seq ?_
  obtain ⟨x4, hx4, h⟩ := lett_of h
  refine Wp.region hΓ [] [] [] [0, 5, 6, 10, 11, 53] [1005] (K' := [(0, .str ((Lib.cut v0 ([10] : List UInt8)).2.1)), (5, .row 1005), (6, .val (.int .i64 v6)), (10, .val (.int .i64 x2)), (11, .str r3.1), (53, .val (.bool (bif (!r3.2) then true else (bif (x2 == 0) then (bif (r3.1 == [45, 45, 45]) then true else (r3.1 == [46, 46, 46])) else false))))]) (L' := [(1005, 34, [.rowc false (α := S_line_Line) (S_line_Line.mk 0 0 []) E_line_Line v5])]) (ob := []) (by kernel_rfl) AllP.nil ?_
  refine To.eq (K' := [(0, .str ((Lib.cut v0 ([10] : List UInt8)).2.1)), (5, .row 1005), (6, .val (.int .i64 v6)), (10, .val (.int .i64 x2)), (11, .str r3.1), (53, .val (.bool x4))]) (L' := [(1005, 34, [.rowc false (α := S_line_Line) (S_line_Line.mk 0 0 []) E_line_Line v5])]) (by cases hx4; rfl) (by cases hx4; rfl) ?_
  refine To.thenN ?_
  refine Wp.cond (b := x4) (by kernel_rfl) (fun hb => ?_) (fun hb => ?_)
  · replace h := if_t hb h
    refine Wp.seq ?_
    refine Wp.region hΓ [] [] [] [2, 3, 4] [] (K' := [(2, .val (.slice none 0 0)), (3, .val (.int .i64 v6)), (4, .val (.int .i64 3))]) (L' := []) (ob := []) (by kernel_rfl) AllP.nil ?_
    refine To.thenN ?_
    refine Wp.ret ?_
    refine To.thenR ?_
    refine To.blockR ?_
    refine To.keep (kk := [2, 3, 4]) (kl := []) (K' := [(2, .val (.slice none 0 0)), (3, .val (.int .i64 v6)), (4, .val (.int .i64 3))]) (L' := []) (by kernel_rfl) (by kernel_rfl) ?_
    cases h
    exact hQ
  · replace h := if_f hb h
    refine Wp.skip ?_
    refine To.thenN ?_
    refine Wp.seq ?_
    refine Wp.region hΓ [] [] [] [0, 5, 6, 10, 11, 56] [1005] (K' := [(0, .str ((Lib.cut v0 ([10] : List UInt8)).2.1)), (5, .row 1005), (6, .val (.int .i64 v6)), (10, .val (.int .i64 x2)), (11, .str r3.1), (56, .val (.bool (!(r3.1 == []))))]) (L' := [(1005, 34, [.rowc false (α := S_line_Line) (S_line_Line.mk 0 0 []) E_line_Line v5])]) (ob := []) (by kernel_rfl) AllP.nil ?_
    refine To.thenN ?_
    refine Wp.cond (b := (!(r3.1 == []))) (by kernel_rfl) (fun hb => ?_) (fun hb => ?_)
    · replace h := if_t hb h
      obtain ⟨hc5, h⟩ := chk_of h
      refine Wp.region hΓ [] [(5, .recs (α := S_line_Line) (S_line_Line.mk 0 0 []) E_line_Line [(S_line_Line.mk v6 x2 r3.1)]), (6, .recs (α := S_line_Line) (S_line_Line.mk 0 0 []) E_line_Line (v5 ++ ([(S_line_Line.mk v6 x2 r3.1)] : List (S_line_Line))))] [] [0, 5, 6] [63] (K' := [(0, .str ((Lib.cut v0 ([10] : List UInt8)).2.1)), (5, .row 63), (6, .val (.int .i64 v6))]) (L' := [(63, 34, [.rowc false (α := S_line_Line) (S_line_Line.mk 0 0 []) E_line_Line (v5 ++ ([(S_line_Line.mk v6 x2 r3.1)] : List (S_line_Line)))])]) (ob := [(MkOb 3 [.val (.int .i64 v6), .val (.int .i64 x2), .str r3.1] 1 (.recs (α := S_line_Line) (S_line_Line.mk 0 0 []) E_line_Line [(S_line_Line.mk v6 x2 r3.1)]) ∧ GoodR (.recs (α := S_line_Line) (S_line_Line.mk 0 0 []) E_line_Line [(S_line_Line.mk v6 x2 r3.1)])), (decide ((List.length v5 + List.length ([(S_line_Line.mk v6 x2 r3.1)] : List (S_line_Line))) * (32 + 1) ≤ limit)) = true, (AppOb (S_line_Line.mk 0 0 []) E_line_Line v5 (List.flatMap E_line_Line ([(S_line_Line.mk v6 x2 r3.1)] : List (S_line_Line))) (List.length ([(S_line_Line.mk v6 x2 r3.1)] : List (S_line_Line))) (.recs (α := S_line_Line) (S_line_Line.mk 0 0 []) E_line_Line (v5 ++ ([(S_line_Line.mk v6 x2 r3.1)] : List (S_line_Line)))) ∧ GoodR (.recs (α := S_line_Line) (S_line_Line.mk 0 0 []) E_line_Line (v5 ++ ([(S_line_Line.mk v6 x2 r3.1)] : List (S_line_Line)))))]) (by kernel_rfl) (AllP.cons (mkOb (by kernel_rfl) rfl (by kernel_rfl) (good_E_line_Line _)) (AllP.cons hc5 (AllP.cons (appOb rfl rfl (good_E_line_Line _)) AllP.nil))) ?_
      refine To.blockN ?_
      refine To.keep (kk := [0, 5, 6]) (kl := [63]) (K' := [(0, .str ((Lib.cut v0 ([10] : List UInt8)).2.1)), (5, .row 63), (6, .val (.int .i64 v6))]) (L' := [(63, 34, [.rowc false (α := S_line_Line) (S_line_Line.mk 0 0 []) E_line_Line (v5 ++ ([(S_line_Line.mk v6 x2 r3.1)] : List (S_line_Line)))])]) (by kernel_rfl) (by kernel_rfl) ?_
      refine To.pre (St.rename 63 1005 (by decide) (K' := [(0, .str ((Lib.cut v0 ([10] : List UInt8)).2.1)), (5, .row 1005), (6, .val (.int .i64 v6))]) (L' := [(1005, 34, [.rowc false (α := S_line_Line) (S_line_Line.mk 0 0 []) E_line_Line (v5 ++ ([(S_line_Line.mk v6 x2 r3.1)] : List (S_line_Line)))])]) (by kernel_rfl) (by kernel_rfl) (by kernel_rfl)) ?_
      refine To.keep (kk := [0, 5, 6]) (kl := [1005]) (K' := [(0, .str ((Lib.cut v0 ([10] : List UInt8)).2.1)), (5, .row 1005), (6, .val (.int .i64 v6))]) (L' := [(1005, 34, [.rowc false (α := S_line_Line) (S_line_Line.mk 0 0 []) E_line_Line (v5 ++ ([(S_line_Line.mk v6 x2 r3.1)] : List (S_line_Line)))])]) (by kernel_rfl) (by kernel_rfl) ?_
      cases h
      exact hQ
    · replace h := if_f hb h
      refine Wp.skip ?_
      refine To.blockN ?_
      refine To.keep (kk := [0, 5, 6]) (kl := [1005]) (K' := [(0, .str ((Lib.cut v0 ([10] : List UInt8)).2.1)), (5, .row 1005), (6, .val (.int .i64 v6))]) (L' := [(1005, 34, [.rowc false (α := S_line_Line) (S_line_Line.mk 0 0 []) E_line_Line v5])]) (by kernel_rfl) (by kernel_rfl) ?_
      cases h
      exact hQ
def line_Split_l1 (n : Nat) : Nat → (List UInt8) → (List (S_line_Line)) → Int → Option (Sum ((List (S_line_Line))) (Int × Int))
  | 0, _, _, _ => none
  | k + 1, v0, v5, v6 => if (!(v0 == [])) = true then ((line_Split_j2 n v0 v5 v6).bind fun o1 =>
  (Sum.elim (fun o1 => line_Split_l1 n k o1.1 o1.2 (IntKind.wrap .i64 (v6 + 1))) (fun o1 => some (.inr (o1.1, o1.2)))) o1)
  else (some (.inl v5))
theorem ok_line_Split_l1 (n : Nat) {F0 : Fz} {w0 : Pt Tryd.prog} {Q : Exit → Act → World → Prop} (k : Nat) : ∀ (v0 : List UInt8) (v5 : List (S_line_Line)) (v6 : Int) (o : Sum ((List (S_line_Line))) (Int × Int)), line_Split_l1 n k v0 v5 v6 = some o → (Sum.elim (fun s => To 65 F0 w0 [(5, .row 1005)] [(1005, 34, [.rowc false (α := S_line_Line) (S_line_Line.mk 0 0 []) E_line_Line s])] (.exit 0) Q) (fun s => To 65 F0 w0 [(2, .val (.slice none 0 0)), (3, .val (.int .i64 s.1)), (4, .val (.int .i64 s.2))] [] .ret Q)) o → WL Tryd.prog 65 F0 w0 [(0, .str v0), (5, .row 1005), (6, .val (.int .i64 v6))] [(1005, 34, [.rowc false (α := S_line_Line) (S_line_Line.mk 0 0 []) E_line_Line v5])] (cI (cI (cB (cA (cB (cB (cB (cF Tryd.f7)))))))) Q := by
  induction k with
  | zero => intro v0 v5 v6 o h; cases h
  | succ k ih =>
    intro v0 v5 v6 o h hQ
    rw [line_Split_l1] at h
    refine WL.round ?_
    refine Wp.seq ?_
    refine Wp.seq ?_
    refine Wp.region hΓ [] [] [] [0, 5, 6, 17] [1005] (K' := [(0, .str v0), (5, .row 1005), (6, .val (.int .i64 v6)), (17, .val (.bool (!(v0 == []))))]) (L' := [(1005, 34, [.rowc false (α := S_line_Line) (S_line_Line.mk 0 0 []) E_line_Line v5])]) (ob := []) (by kernel_rfl) AllP.nil ?_
    refine To.thenN ?_
    refine Wp.cond (b := (!(v0 == []))) (by kernel_rfl) (fun hb => ?_) (fun hb => ?_)
    · replace h := if_t hb h
      refine Wp.skip ?_
      refine To.thenN ?_
      refine Wp.seq ?_
      obtain ⟨o1, ho1, h⟩ := bind_of h
      refine Wp.keep (kk := [0, 5, 6]) (kl := [1005]) (K' := [(0, .str v0), (5, .row 1005), (6, .val (.int .i64 v6))]) (L' := [(1005, 34, [.rowc false (α := S_line_Line) (S_line_Line.mk 0 0 []) E_line_Line v5])]) (by kernel_rfl) (by kernel_rfl) ?_
      refine ok_line_Split_j2 n v0 v5 v6 o1 ho1 ?_
      rcases o1 with o1 | o1
      · replace h := sum_l h
        refine To.thenN ?_
        refine Wp.region hΓ [] [] [] [0, 5, 6] [1005] (K' := [(0, .str o1.1), (5, .row 1005), (6, .val (.int .i64 (IntKind.wrap .i64 (v6 + 1))))]) (L' := [(1005, 34, [.rowc false (α := S_line_Line) (S_line_Line.mk 0 0 []) E_line_Line o1.2])]) (ob := []) (by kernel_rfl) AllP.nil ?_
        refine To.keep (kk := [0, 5, 6]) (kl := [1005]) (K' := [(0, .str o1.1), (5, .row 1005), (6, .val (.int .i64 (IntKind.wrap .i64 (v6 + 1))))]) (L' := [(1005, 34, [.rowc false (α := S_line_Line) (S_line_Line.mk 0 0 []) E_line_Line o1.2])]) (by kernel_rfl) (by kernel_rfl) ?_
        refine To.again ?_
        exact ih o1.1 o1.2 (IntKind.wrap .i64 (v6 + 1)) _ h hQ
      · replace h := sum_r h
        refine To.thenR ?_
        refine To.thenR ?_
        refine To.keep (kk := [2, 3, 4]) (kl := []) (K' := [(2, .val (.slice none 0 0)), (3, .val (.int .i64 o1.1)), (4, .val (.int .i64 o1.2))]) (L' := []) (by kernel_rfl) (by kernel_rfl) ?_
        cases h
        exact hQ
    · replace h := if_f hb h
      refine Wp.exit ?_
      refine To.thenX ?_
      refine To.thenX ?_
      refine To.keep (kk := [5]) (kl := [1005]) (K' := [(5, .row 1005)]) (L' := [(1005, 34, [.rowc false (α := S_line_Line) (S_line_Line.mk 0 0 []) E_line_Line v5])]) (by kernel_rfl) (by kernel_rfl) ?_
      cases h
      exact hQ
def line_Split (n : Nat) (a0 : List UInt8) : Option ((List (S_line_Line)) × Int × Int) :=
  if (decide ((List.length a0 : Int) > 8192)) = true then (some ([], 0, 9))
  else ((line_Split_l1 n n a0 ([] : List (S_line_Line)) 1).bind fun o1 =>
  (Sum.elim (fun o1 => some (o1, 0, 0)) (fun o1 => some ([], o1.1, o1.2))) o1)
theorem ok_line_Split (n : Nat) (a0 : List UInt8) (r : (List (S_line_Line)) × Int × Int) (h : line_Split n a0 = some r) : CallsX Tryd.prog 7 [.str a0] (.tup [.recs (α := S_line_Line) (S_line_Line.mk 0 0 []) E_line_Line r.1, .val (.int .i64 r.2.1), .val (.int .i64 r.2.2)]) := by
  unfold line_Split at h
  refine callsX_of (fn := Tryd.f7) (by kernel_rfl) rfl (by kernel_rfl) (Nat.le_of_ble_eq_true (by kernel_rfl)) fun F0 w0 _ => ?_
  refine Wp.keep (kk := [0]) (kl := []) (K' := [(0, .str a0)]) (L' := []) (by kernel_rfl) (by kernel_rfl) ?_
  refine Wp.seq ?_
  refine Wp.region hΓ [] [] [] [0] [] (K' := [(0, .str a0)]) (L' := []) (ob := []) (by kernel_rfl) AllP.nil ?_
  refine To.thenN ?_
  refine Wp.seq ?_
  refine Wp.seq ?_
  refine Wp.region hΓ [] [] [] [0, 15] [] (K' := [(0, .str a0), (15, .val (.bool (decide ((List.length a0 : Int) > 8192))))]) (L' := []) (ob := []) (by kernel_rfl) AllP.nil ?_
  refine To.thenN ?_
  refine Wp.cond (b := (decide ((List.length a0 : Int) > 8192))) (by kernel_rfl) (fun hb => ?_) (fun hb => ?_)
  · replace h := if_t hb h
    refine Wp.seq ?_
    refine Wp.region hΓ [] [] [] [2, 3, 4] [] (K' := [(2, .val (.slice none 0 0)), (3, .val (.int .i64 0)), (4, .val (.int .i64 9))]) (L' := []) (ob := []) (by kernel_rfl) AllP.nil ?_
    refine To.thenN ?_
    refine Wp.ret ?_
    refine To.thenR ?_
    refine To.keep (kk := [2, 3, 4]) (kl := []) (K' := [(2, .val (.slice none 0 0)), (3, .val (.int .i64 0)), (4, .val (.int .i64 9))]) (L' := []) (by kernel_rfl) (by kernel_rfl) ?_
    refine To.weak (K' := [(2, .recs (α := S_line_Line) (S_line_Line.mk 0 0 []) E_line_Line []), (3, .val (.int .i64 0)), (4, .val (.int .i64 9))]) (L' := []) (.cons (.zero _ _) (.cons (.refl _) (.cons (.refl _) .nil))) .nil ?_
    cases h
    exact To.done hΓ (by kernel_rfl)
  · replace h := if_f hb h
    refine Wp.skip ?_
    refine To.thenN ?_
    refine Wp.seq ?_
    refine Wp.region hΓ [] [] [] [0, 5] [] (K' := [(0, .str a0), (5, .val (.slice none 0 0))]) (L' := []) (ob := []) (by kernel_rfl) AllP.nil ?_
    refine To.thenN ?_
    refine Wp.seq ?_
    refine Wp.seq ?_
    refine Wp.region hΓ [] [] [] [0, 5, 6] [] (K' := [(0, .str a0), (5, .val (.slice none 0 0)), (6, .val (.int .i64 1))]) (L' := []) (ob := []) (by kernel_rfl) AllP.nil ?_
    refine To.thenN ?_
    refine Wp.block ?_
    obtain ⟨o1, ho1, h⟩ := bind_of h
    refine Wp.keep (kk := [0, 5, 6]) (kl := []) (K' := [(0, .str a0), (5, .val (.slice none 0 0)), (6, .val (.int .i64 1))]) (L' := []) (by kernel_rfl) (by kernel_rfl) ?_
    refine Wp.pre (St.vacant (t := 5) (k := 1005) (e := 34) (K' := [(0, .str a0), (5, .row 1005), (6, .val (.int .i64 1))]) (good_E_line_Line _) (by decide) (by kernel_rfl) (by kernel_rfl)) ?_
    refine Wp.keep (kk := [0, 5, 6]) (kl := [1005]) (K' := [(0, .str a0), (5, .row 1005), (6, .val (.int .i64 1))]) (L' := [(1005, 34, [.rowc false (α := S_line_Line) (S_line_Line.mk 0 0 []) E_line_Line []])]) (by kernel_rfl) (by kernel_rfl) ?_
    refine Wp.loopL ?_
    refine ok_line_Split_l1 n n a0 ([] : List (S_line_Line)) 1 o1 ho1 ?_
    rcases o1 with o1 | o1
    · replace h := sum_l h
      refine To.blockX ?_
      refine To.thenN ?_
      refine Wp.seq ?_
      refine Wp.region hΓ [] [] [] [2, 3, 4] [1005] (K' := [(2, .row 1005), (3, .val (.int .i64 0)), (4, .val (.int .i64 0))]) (L' := [(1005, 34, [.rowc false (α := S_line_Line) (S_line_Line.mk 0 0 []) E_line_Line o1])]) (ob := []) (by kernel_rfl) AllP.nil ?_
      refine To.thenN ?_
      refine Wp.ret ?_
      refine To.keep (kk := [2, 3, 4]) (kl := [1005]) (K' := [(2, .row 1005), (3, .val (.int .i64 0)), (4, .val (.int .i64 0))]) (L' := [(1005, 34, [.rowc false (α := S_line_Line) (S_line_Line.mk 0 0 []) E_line_Line o1])]) (by kernel_rfl) (by kernel_rfl) ?_
      refine To.pre (St.settle (ks := [1005]) (kk := [2, 3, 4]) (kl := [1005]) (K' := [(2, .row 1005), (3, .val (.int .i64 0)), (4, .val (.int .i64 0))]) (L' := [(1005, 34, [.rowc true (α := S_line_Line) (S_line_Line.mk 0 0 []) E_line_Line o1])]) (by kernel_rfl)) ?_
      refine To.pre (St.sealK [2] (K' := [(2, .recs (α := S_line_Line) (S_line_Line.mk 0 0 []) E_line_Line o1), (3, .val (.int .i64 0)), (4, .val (.int .i64 0))]) (by kernel_rfl)) ?_
      refine To.keep (kk := [2, 3, 4]) (kl := []) (K' := [(2, .recs (α := S_line_Line) (S_line_Line.mk 0 0 []) E_line_Line o1), (3, .val (.int .i64 0)), (4, .val (.int .i64 0))]) (L' := []) (by kernel_rfl) (by kernel_rfl) ?_
      cases h
      exact To.done hΓ (by kernel_rfl)
    · replace h := sum_r h
      refine To.blockR ?_
      refine To.thenR ?_
      refine To.keep (kk := [2, 3, 4]) (kl := []) (K' := [(2, .val (.slice none 0 0)), (3, .val (.int .i64 o1.1)), (4, .val (.int .i64 o1.2))]) (L' := []) (by kernel_rfl) (by kernel_rfl) ?_
      refine To.weak (K' := [(2, .recs (α := S_line_Line) (S_line_Line.mk 0 0 []) E_line_Line []), (3, .val (.int .i64 o1.1)), (4, .val (.int .i64 o1.2))]) (L' := []) (.cons (.zero _ _) (.cons (.refl _) (.cons (.refl _) .nil))) .nil ?_
      cases h
      exact To.done hΓ (by kernel_rfl)
def E_ref07_Line : S_line_Line → List D := fun x => [.val (.int .i64 x.f_No), .val (.int .i64 x.f_Indent), .str x.f_Text]
theorem good_E_ref07_Line (l : List (S_line_Line)) : GoodR (.recs (S_line_Line.mk 0 0 []) E_ref07_Line l) := ⟨Nat.le_of_ble_eq_true (by kernel_rfl), fun _ => ⟨rfl, rfl⟩⟩
def law07_taken_l1 (n : Nat) (v0 : List (S_line_Line)) : Nat → (List (S_line_Line)) → Int → Option ((List (S_line_Line)))
  | 0, _, _ => none
  | k + 1, v3, v4 => if (decide (v4 < (List.length v0 : Int))) = true then (if (decide (0 ≤ v4 ∧ v4 < (List.length v0 : Int))) = true then (if (decide ((List.length v3 + List.length ([(S_line_Line.mk (((v0)[Int.toNat v4]?.getD (S_line_Line.mk 0 0 [])).f_No) (((v0)[Int.toNat v4]?.getD (S_line_Line.mk 0 0 [])).f_Indent) (((v0)[Int.toNat v4]?.getD (S_line_Line.mk 0 0 [])).f_Text))] : List (S_line_Line))) * (32 + 1) ≤ limit)) = true then (lett ((v3 ++ ([(S_line_Line.mk (((v0)[Int.toNat v4]?.getD (S_line_Line.mk 0 0 [])).f_No) (((v0)[Int.toNat v4]?.getD (S_line_Line.mk 0 0 [])).f_Indent) (((v0)[Int.toNat v4]?.getD (S_line_Line.mk 0 0 [])).f_Text))] : List (S_line_Line))) : List (S_line_Line)) fun x1 =>
  law07_taken_l1 n v0 k x1 (IntKind.wrap .i64 (v4 + 1))) else none) else none)
  else some v3
theorem ok_law07_taken_l1 (n : Nat) (v0 : List (S_line_Line)) {F0 : Fz} {w0 : Pt Tryd.prog} {Q : Exit → Act → World → Prop} (k : Nat) : ∀ (v3 : List (S_line_Line)) (v4 : Int) (o : (List (S_line_Line))), law07_taken_l1 n v0 k v3 v4 = some o → To 32 F0 w0 [(3, .row 1003)] [(1003, 36, [.rowc false (α := S_line_Line) (S_line_Line.mk 0 0 []) E_ref07_Line o])] (.exit 0) Q → WL Tryd.prog 32 F0 w0 [(0, .recs (α := S_line_Line) (S_line_Line.mk 0 0 []) E_line_Line v0), (3, .row 1003), (4, .val (.int .i64 v4))] [(1003, 36, [.rowc false (α := S_line_Line) (S_line_Line.mk 0 0 []) E_ref07_Line v3])] (cI (cI (cB (cA (cB (cB (cF Tryd.f10))))))) Q := by
  induction k with
  | zero => intro v3 v4 o h; cases h
  | succ k ih =>
    intro v3 v4 o h hQ
    rw [law07_taken_l1] at h
    refine WL.round ?_
    refine Wp.seq ?_
    refine Wp.seq ?_
    refine Wp.region hΓ [] [] [] [0, 3, 4, 9] [1003] (K' := [(0, .recs (α := S_line_Line) (S_line_Line.mk 0 0 []) E_line_Line v0), (3, .row 1003), (4, .val (.int .i64 v4)), (9, .val (.bool (decide (v4 < (List.length v0 : Int)))))]) (L' := [(1003, 36, [.rowc false (α := S_line_Line) (S_line_Line.mk 0 0 []) E_ref07_Line v3])]) (ob := []) (by kernel_rfl) AllP.nil ?_
    refine To.thenN ?_
    refine Wp.cond (b := (decide (v4 < (List.length v0 : Int)))) (by kernel_rfl) (fun hb => ?_) (fun hb => ?_)
    · replace h := if_t hb h
      refine Wp.skip ?_
      refine To.thenN ?_
      refine Wp.seq ?_
      refine Wp.block ?_
      obtain ⟨hc2, h⟩ := chk_of h
      obtain ⟨hc3, h⟩ := chk_of h
      obtain ⟨x1, hx1, h⟩ := lett_of h
      refine Wp.regionD hm hΓ [(17, .recs (α := S_line_Line) (S_line_Line.mk 0 0 []) E_ref07_Line ([(S_line_Line.mk (((v0)[Int.toNat v4]?.getD (S_line_Line.mk 0 0 [])).f_No) (((v0)[Int.toNat v4]?.getD (S_line_Line.mk 0 0 [])).f_Indent) (((v0)[Int.toNat v4]?.getD (S_line_Line.mk 0 0 [])).f_Text))])), (18, .row 30), (1018, .recs (α := S_line_Line) (S_line_Line.mk 0 0 []) E_ref07_Line (v3 ++ ([(S_line_Line.mk (((v0)[Int.toNat v4]?.getD (S_line_Line.mk 0 0 [])).f_No) (((v0)[Int.toNat v4]?.getD (S_line_Line.mk 0 0 [])).f_Indent) (((v0)[Int.toNat v4]?.getD (S_line_Line.mk 0 0 [])).f_Text))] : List (S_line_Line))))] [0, 3, 4] [30] (K' := [(0, .recs (α := S_line_Line) (S_line_Line.mk 0 0 []) E_line_Line v0), (3, .row 30), (4, .val (.int .i64 v4))]) (L' := [(30, 36, [.rowc false (α := S_line_Line) (S_line_Line.mk 0 0 []) E_ref07_Line (v3 ++ ([(S_line_Line.mk (((v0)[Int.toNat v4]?.getD (S_line_Line.mk 0 0 [])).f_No) (((v0)[Int.toNat v4]?.getD (S_line_Line.mk 0 0 [])).f_Indent) (((v0)[Int.toNat v4]?.getD (S_line_Line.mk 0 0 [])).f_Text))] : List (S_line_Line)))])]) (ob := [(decide (0 ≤ v4 ∧ v4 < (List.length v0 : Int))) = true, (decide (0 ≤ v4 ∧ v4 < (List.length v0 : Int))) = true, (decide (0 ≤ v4 ∧ v4 < (List.length v0 : Int))) = true, (true = true → MkOb 3 [.val (.int .i64 (((v0)[Int.toNat v4]?.getD (S_line_Line.mk 0 0 [])).f_No)), .val (.int .i64 (((v0)[Int.toNat v4]?.getD (S_line_Line.mk 0 0 [])).f_Indent)), .str (((v0)[Int.toNat v4]?.getD (S_line_Line.mk 0 0 [])).f_Text)] 1 (.recs (α := S_line_Line) (S_line_Line.mk 0 0 []) E_ref07_Line ([(S_line_Line.mk (((v0)[Int.toNat v4]?.getD (S_line_Line.mk 0 0 [])).f_No) (((v0)[Int.toNat v4]?.getD (S_line_Line.mk 0 0 [])).f_Indent) (((v0)[Int.toNat v4]?.getD (S_line_Line.mk 0 0 [])).f_Text))])) ∧ GoodR (.recs (α := S_line_Line) (S_line_Line.mk 0 0 []) E_ref07_Line ([(S_line_Line.mk (((v0)[Int.toNat v4]?.getD (S_line_Line.mk 0 0 [])).f_No) (((v0)[Int.toNat v4]?.getD (S_line_Line.mk 0 0 [])).f_Indent) (((v0)[Int.toNat v4]?.getD (S_line_Line.mk 0 0 [])).f_Text))]))), (decide ((List.length v3 + List.length ([(S_line_Line.mk (((v0)[Int.toNat v4]?.getD (S_line_Line.mk 0 0 [])).f_No) (((v0)[Int.toNat v4]?.getD (S_line_Line.mk 0 0 [])).f_Indent) (((v0)[Int.toNat v4]?.getD (S_line_Line.mk 0 0 [])).f_Text))] : List (S_line_Line))) * (32 + 1) ≤ limit)) = true, (AppOb (S_line_Line.mk 0 0 []) E_ref07_Line v3 (List.flatMap E_ref07_Line ([(S_line_Line.mk (((v0)[Int.toNat v4]?.getD (S_line_Line.mk 0 0 [])).f_No) (((v0)[Int.toNat v4]?.getD (S_line_Line.mk 0 0 [])).f_Indent) (((v0)[Int.toNat v4]?.getD (S_line_Line.mk 0 0 [])).f_Text))] : List (S_line_Line))) (List.length ([(S_line_Line.mk (((v0)[Int.toNat v4]?.getD (S_line_Line.mk 0 0 [])).f_No) (((v0)[Int.toNat v4]?.getD (S_line_Line.mk 0 0 [])).f_Indent) (((v0)[Int.toNat v4]?.getD (S_line_Line.mk 0 0 [])).f_Text))] : List (S_line_Line))) (.recs (α := S_line_Line) (S_line_Line.mk 0 0 []) E_ref07_Line (v3 ++ ([(S_line_Line.mk (((v0)[Int.toNat v4]?.getD (S_line_Line.mk 0 0 [])).f_No) (((v0)[Int.toNat v4]?.getD (S_line_Line.mk 0 0 [])).f_Indent) (((v0)[Int.toNat v4]?.getD (S_line_Line.mk 0 0 [])).f_Text))] : List (S_line_Line)))) ∧ GoodR (.recs (α := S_line_Line) (S_line_Line.mk 0 0 []) E_ref07_Line (v3 ++ ([(S_line_Line.mk (((v0)[Int.toNat v4]?.getD (S_line_Line.mk 0 0 [])).f_No) (((v0)[Int.toNat v4]?.getD (S_line_Line.mk 0 0 [])).f_Indent) (((v0)[Int.toNat v4]?.getD (S_line_Line.mk 0 0 [])).f_Text))] : List (S_line_Line)))))]) (by kernel_rfl) (AllP.cons hc2 (AllP.cons hc2 (AllP.cons hc2 (AllP.cons (fun _ => mkOb (by kernel_rfl) rfl (by kernel_rfl) (good_E_ref07_Line _)) (AllP.cons hc3 (AllP.cons (appOb rfl rfl (good_E_ref07_Line _)) AllP.nil)))))) ?_
      refine To.eq (K' := [(0, .recs (α := S_line_Line) (S_line_Line.mk 0 0 []) E_line_Line v0), (3, .row 30), (4, .val (.int .i64 v4))]) (L' := [(30, 36, [.rowc false (α := S_line_Line) (S_line_Line.mk 0 0 []) E_ref07_Line x1])]) (by cases hx1; rfl) (by cases hx1; rfl) ?_
      refine To.blockN ?_
      refine To.thenN ?_
      refine Wp.region hΓ [] [] [] [0, 3, 4] [30] (K' := [(0, .recs (α := S_line_Line) (S_line_Line.mk 0 0 []) E_line_Line v0), (3, .row 30), (4, .val (.int .i64 (IntKind.wrap .i64 (v4 + 1))))]) (L' := [(30, 36, [.rowc false (α := S_line_Line) (S_line_Line.mk 0 0 []) E_ref07_Line x1])]) (ob := []) (by kernel_rfl) AllP.nil ?_
      refine To.keep (kk := [0, 3, 4]) (kl := [30]) (K' := [(0, .recs (α := S_line_Line) (S_line_Line.mk 0 0 []) E_line_Line v0), (3, .row 30), (4, .val (.int .i64 (IntKind.wrap .i64 (v4 + 1))))]) (L' := [(30, 36, [.rowc false (α := S_line_Line) (S_line_Line.mk 0 0 []) E_ref07_Line x1])]) (by kernel_rfl) (by kernel_rfl) ?_
      refine To.pre (St.rename 30 1003 (by decide) (K' := [(0, .recs (α := S_line_Line) (S_line_Line.mk 0 0 []) E_line_Line v0), (3, .row 1003), (4, .val (.int .i64 (IntKind.wrap .i64 (v4 + 1))))]) (L' := [(1003, 36, [.rowc false (α := S_line_Line) (S_line_Line.mk 0 0 []) E_ref07_Line x1])]) (by kernel_rfl) (by kernel_rfl) (by kernel_rfl)) ?_
      refine To.keep (kk := [0, 3, 4]) (kl := [1003]) (K' := [(0, .recs (α := S_line_Line) (S_line_Line.mk 0 0 []) E_line_Line v0), (3, .row 1003), (4, .val (.int .i64 (IntKind.wrap .i64 (v4 + 1))))]) (L' := [(1003, 36, [.rowc false (α := S_line_Line) (S_line_Line.mk 0 0 []) E_ref07_Line x1])]) (by kernel_rfl) (by kernel_rfl) ?_
      refine To.again ?_
      exact ih x1 (IntKind.wrap .i64 (v4 + 1)) _ h hQ
    · replace h := if_f hb h
      refine Wp.exit ?_
      refine To.thenX ?_
      refine To.thenX ?_
      refine To.keep (kk := [3]) (kl := [1003]) (K' := [(3, .row 1003)]) (L' := [(1003, 36, [.rowc false (α := S_line_Line) (S_line_Line.mk 0 0 []) E_ref07_Line v3])]) (by kernel_rfl) (by kernel_rfl) ?_
      cases h
      exact hQ
def law07_taken (n : Nat) (a0 : List (S_line_Line)) : Option ((List (S_line_Line))) :=
  (law07_taken_l1 n a0 n ([] : List (S_line_Line)) 0).bind fun o1 =>
  some o1
theorem ok_law07_taken (n : Nat) (a0 : List (S_line_Line)) (r : (List (S_line_Line))) (h : law07_taken n a0 = some r) : CallsX Tryd.prog 10 [.recs (α := S_line_Line) (S_line_Line.mk 0 0 []) E_line_Line a0] (.recs (α := S_line_Line) (S_line_Line.mk 0 0 []) E_ref07_Line r) := by
  unfold law07_taken at h
  refine callsX_of (fn := Tryd.f10) (by kernel_rfl) rfl (by kernel_rfl) (Nat.le_of_ble_eq_true (by kernel_rfl)) fun F0 w0 _ => ?_
  refine Wp.keep (kk := [0]) (kl := []) (K' := [(0, .recs (α := S_line_Line) (S_line_Line.mk 0 0 []) E_line_Line a0)]) (L' := []) (by kernel_rfl) (by kernel_rfl) ?_
  refine Wp.seq ?_
  refine Wp.region hΓ [] [] [] [0] [] (K' := [(0, .recs (α := S_line_Line) (S_line_Line.mk 0 0 []) E_line_Line a0)]) (L' := []) (ob := []) (by kernel_rfl) AllP.nil ?_
  refine To.thenN ?_
  refine Wp.seq ?_
  refine Wp.region hΓ [] [(0, .recs (α := S_line_Line) (S_line_Line.mk 0 0 []) E_ref07_Line [])] [] [0, 3] [5] (K' := [(0, .recs (α := S_line_Line) (S_line_Line.mk 0 0 []) E_line_Line a0), (3, .row 5)]) (L' := [(5, 36, [.rowc false (α := S_line_Line) (S_line_Line.mk 0 0 []) E_ref07_Line []])]) (ob := [(MkOb 3 [] 0 (.recs (α := S_line_Line) (S_line_Line.mk 0 0 []) E_ref07_Line []) ∧ GoodR (.recs (α := S_line_Line) (S_line_Line.mk 0 0 []) E_ref07_Line []))]) (by kernel_rfl) (AllP.cons (mkOb (by kernel_rfl) rfl (by kernel_rfl) (good_E_ref07_Line _)) AllP.nil) ?_
  refine To.thenN ?_
  refine Wp.seq ?_
  refine Wp.seq ?_
  refine Wp.region hΓ [] [] [] [0, 3, 4] [5] (K' := [(0, .recs (α := S_line_Line) (S_line_Line.mk 0 0 []) E_line_Line a0), (3, .row 5), (4, .val (.int .i64 0))]) (L' := [(5, 36, [.rowc false (α := S_line_Line) (S_line_Line.mk 0 0 []) E_ref07_Line []])]) (ob := []) (by kernel_rfl) AllP.nil ?_
  refine To.thenN ?_
  refine Wp.block ?_
  obtain ⟨o1, ho1, h⟩ := bind_of h
  refine Wp.keep (kk := [0, 3, 4]) (kl := [5]) (K' := [(0, .recs (α := S_line_Line) (S_line_Line.mk 0 0 []) E_line_Line a0), (3, .row 5), (4, .val (.int .i64 0))]) (L' := [(5, 36, [.rowc false (α := S_line_Line) (S_line_Line.mk 0 0 []) E_ref07_Line []])]) (by kernel_rfl) (by kernel_rfl) ?_
  refine Wp.pre (St.rename 5 1003 (by decide) (K' := [(0, .recs (α := S_line_Line) (S_line_Line.mk 0 0 []) E_line_Line a0), (3, .row 1003), (4, .val (.int .i64 0))]) (L' := [(1003, 36, [.rowc false (α := S_line_Line) (S_line_Line.mk 0 0 []) E_ref07_Line []])]) (by kernel_rfl) (by kernel_rfl) (by kernel_rfl)) ?_
  refine Wp.keep (kk := [0, 3, 4]) (kl := [1003]) (K' := [(0, .recs (α := S_line_Line) (S_line_Line.mk 0 0 []) E_line_Line a0), (3, .row 1003), (4, .val (.int .i64 0))]) (L' := [(1003, 36, [.rowc false (α := S_line_Line) (S_line_Line.mk 0 0 []) E_ref07_Line []])]) (by kernel_rfl) (by kernel_rfl) ?_
  refine Wp.loopL ?_
  refine ok_law07_taken_l1 n a0 n ([] : List (S_line_Line)) 0 o1 ho1 ?_
  refine To.blockX ?_
  refine To.thenN ?_
  refine Wp.seq ?_
  refine Wp.region hΓ [] [] [] [2] [1003] (K' := [(2, .row 1003)]) (L' := [(1003, 36, [.rowc false (α := S_line_Line) (S_line_Line.mk 0 0 []) E_ref07_Line o1])]) (ob := []) (by kernel_rfl) AllP.nil ?_
  refine To.thenN ?_
  refine Wp.ret ?_
  refine To.keep (kk := [2]) (kl := [1003]) (K' := [(2, .row 1003)]) (L' := [(1003, 36, [.rowc false (α := S_line_Line) (S_line_Line.mk 0 0 []) E_ref07_Line o1])]) (by kernel_rfl) (by kernel_rfl) ?_
  refine To.pre (St.settle (ks := [1003]) (kk := [2]) (kl := [1003]) (K' := [(2, .row 1003)]) (L' := [(1003, 36, [.rowc true (α := S_line_Line) (S_line_Line.mk 0 0 []) E_ref07_Line o1])]) (by kernel_rfl)) ?_
  refine To.pre (St.sealK [2] (K' := [(2, .recs (α := S_line_Line) (S_line_Line.mk 0 0 []) E_ref07_Line o1)]) (by kernel_rfl)) ?_
  refine To.keep (kk := [2]) (kl := []) (K' := [(2, .recs (α := S_line_Line) (S_line_Line.mk 0 0 []) E_ref07_Line o1)]) (L' := []) (by kernel_rfl) (by kernel_rfl) ?_
  cases h
  exact To.done hΓ (by kernel_rfl)
def ref07_Same_l1 (n : Nat) (v0 : List (S_line_Line)) (v1 : List (S_line_Line)) (v2 : Bool) : Nat → Int → Option (Sum (Unit) (Bool))
  | 0, _ => none
  | k + 1, v7 => if (decide (v7 < (List.length v0 : Int))) = true then (if (decide (0 ≤ v7 ∧ v7 < (List.length v0 : Int))) = true then (if (decide (0 ≤ v7 ∧ v7 < (List.length v1 : Int))) = true then (if ((!((!((((v0)[Int.toNat v7]?.getD (S_line_Line.mk 0 0 [])).f_Text) == (((v1)[Int.toNat v7]?.getD (S_line_Line.mk 0 0 [])).f_Text))) == false) || decide (0 ≤ v7 ∧ v7 < (List.length v0 : Int)))) = true then (if ((!((!((((v0)[Int.toNat v7]?.getD (S_line_Line.mk 0 0 [])).f_Text) == (((v1)[Int.toNat v7]?.getD (S_line_Line.mk 0 0 [])).f_Text))) == false) || decide (0 ≤ v7 ∧ v7 < (List.length v1 : Int)))) = true then (if ((!((v2 == true) && ((bif (!((((v0)[Int.toNat v7]?.getD (S_line_Line.mk 0 0 [])).f_Text) == (((v1)[Int.toNat v7]?.getD (S_line_Line.mk 0 0 [])).f_Text))) then true else ((((v0)[Int.toNat v7]?.getD (S_line_Line.mk 0 0 [])).f_Indent) != (((v1)[Int.toNat v7]?.getD (S_line_Line.mk 0 0 [])).f_Indent))) == false)) || decide (0 ≤ v7 ∧ v7 < (List.length v0 : Int)))) = true then (if ((!((v2 == true) && ((bif (!((((v0)[Int.toNat v7]?.getD (S_line_Line.mk 0 0 [])).f_Text) == (((v1)[Int.toNat v7]?.getD (S_line_Line.mk 0 0 [])).f_Text))) then true else ((((v0)[Int.toNat v7]?.getD (S_line_Line.mk 0 0 [])).f_Indent) != (((v1)[Int.toNat v7]?.getD (S_line_Line.mk 0 0 [])).f_Indent))) == false)) || decide (0 ≤ v7 ∧ v7 < (List.length v1 : Int)))) = true then (lett ((bif (bif (!((((v0)[Int.toNat v7]?.getD (S_line_Line.mk 0 0 [])).f_Text) == (((v1)[Int.toNat v7]?.getD (S_line_Line.mk 0 0 [])).f_Text))) then true else ((((v0)[Int.toNat v7]?.getD (S_line_Line.mk 0 0 [])).f_Indent) != (((v1)[Int.toNat v7]?.getD (S_line_Line.mk 0 0 [])).f_Indent))) then true else (bif v2 then ((((v0)[Int.toNat v7]?.getD (S_line_Line.mk 0 0 [])).f_No) != (((v1)[Int.toNat v7]?.getD (S_line_Line.mk 0 0 [])).f_No)) else false)) : Bool) fun x1 =>
  if x1 = true then (some (.inr false))
  else (ref07_Same_l1 n v0 v1 v2 k (IntKind.wrap .i64 (v7 + 1)))) else none) else none) else none) else none) else none) else none)
  else (some (.inl ()))
theorem ok_ref07_Same_l1 (n : Nat) (v0 : List (S_line_Line)) (v1 : List (S_line_Line)) (v2 : Bool) {F0 : Fz} {w0 : Pt Tryd.prog} {Q : Exit → Act → World → Prop} (k : Nat) : ∀ (v7 : Int) (o : Sum (Unit) (Bool)), ref07_Same_l1 n v0 v1 v2 k v7 = some o → (Sum.elim (fun s => To 59 F0 w0 [] [] (.exit 0) Q) (fun s => To 59 F0 w0 [(6, .val (.bool s))] [] .ret Q)) o → WL Tryd.prog 59 F0 w0 [(0, .recs (α := S_line_Line) (S_line_Line.mk 0 0 []) E_ref07_Line v0), (1, .recs (α := S_line_Line) (S_line_Line.mk 0 0 []) E_ref07_Line v1), (2, .val (.bool v2)), (7, .val (.int .i64 v7))] [] (cI (cI (cB (cA (cB (cB (cF Tryd.f9))))))) Q := by
  induction k with
  | zero => intro v7 o h; cases h
  | succ k ih =>
    intro v7 o h hQ
    rw [ref07_Same_l1] at h
    refine WL.round ?_
    refine Wp.seq ?_
    refine Wp.seq ?_
    refine Wp.region hΓ [] [] [] [0, 1, 2, 7, 16] [] (K' := [(0, .recs (α := S_line_Line) (S_line_Line.mk 0 0 []) E_ref07_Line v0), (1, .recs (α := S_line_Line) (S_line_Line.mk 0 0 []) E_ref07_Line v1), (2, .val (.bool v2)), (7, .val (.int .i64 v7)), (16, .val (.bool (decide (v7 < (List.length v0 : Int)))))]) (L' := []) (ob := []) (by kernel_rfl) AllP.nil ?_
    refine To.thenN ?_
    refine Wp.cond (b := (decide (v7 < (List.length v0 : Int)))) (by kernel_rfl) (fun hb => ?_) (fun hb => ?_)
    · replace h := if_t hb h
      refine Wp.skip ?_
      refine To.thenN ?_
      refine Wp.seq ?_
      refine Wp.block ?_
      refine Wp.seq ?_
      obtain ⟨hc2, h⟩ := chk_of h
      obtain ⟨hc3, h⟩ := chk_of h
      obtain ⟨hc4, h⟩ := chk_of h
      obtain ⟨hc5, h⟩ := chk_of h
      obtain ⟨hc6, h⟩ := chk_of h
      obtain ⟨hc7, h⟩ := chk_of h
      obtain ⟨x1, hx1, h⟩ := lett_of h
      refine Wp.regionD hm hΓ [] [0, 1, 2, 7, 58] [] (K' := [(0, .recs (α := S_line_Line) (S_line_Line.mk 0 0 []) E_ref07_Line v0), (1, .recs (α := S_line_Line) (S_line_Line.mk 0 0 []) E_ref07_Line v1), (2, .val (.bool v2)), (7, .val (.int .i64 v7)), (58, .val (.bool (bif (bif (!((((v0)[Int.toNat v7]?.getD (S_line_Line.mk 0 0 [])).f_Text) == (((v1)[Int.toNat v7]?.getD (S_line_Line.mk 0 0 [])).f_Text))) then true else ((((v0)[Int.toNat v7]?.getD (S_line_Line.mk 0 0 [])).f_Indent) != (((v1)[Int.toNat v7]?.getD (S_line_Line.mk 0 0 [])).f_Indent))) then true else (bif v2 then ((((v0)[Int.toNat v7]?.getD (S_line_Line.mk 0 0 [])).f_No) != (((v1)[Int.toNat v7]?.getD (S_line_Line.mk 0 0 [])).f_No)) else false))))]) (L' := []) (ob := [(decide (0 ≤ v7 ∧ v7 < (List.length v0 : Int))) = true, (decide (0 ≤ v7 ∧ v7 < (List.length v1 : Int))) = true, (!((!((((v0)[Int.toNat v7]?.getD (S_line_Line.mk 0 0 [])).f_Text) == (((v1)[Int.toNat v7]?.getD (S_line_Line.mk 0 0 [])).f_Text))) == false) || decide (0 ≤ v7 ∧ v7 < (List.length v0 : Int))) = true, (!((!((((v0)[Int.toNat v7]?.getD (S_line_Line.mk 0 0 [])).f_Text) == (((v1)[Int.toNat v7]?.getD (S_line_Line.mk 0 0 [])).f_Text))) == false) || decide (0 ≤ v7 ∧ v7 < (List.length v1 : Int))) = true, (!((v2 == true) && ((bif (!((((v0)[Int.toNat v7]?.getD (S_line_Line.mk 0 0 [])).f_Text) == (((v1)[Int.toNat v7]?.getD (S_line_Line.mk 0 0 [])).f_Text))) then true else ((((v0)[Int.toNat v7]?.getD (S_line_Line.mk 0 0 [])).f_Indent) != (((v1)[Int.toNat v7]?.getD (S_line_Line.mk 0 0 [])).f_Indent))) == false)) || decide (0 ≤ v7 ∧ v7 < (List.length v0 : Int))) = true, (!((v2 == true) && ((bif (!((((v0)[Int.toNat v7]?.getD (S_line_Line.mk 0 0 [])).f_Text) == (((v1)[Int.toNat v7]?.getD (S_line_Line.mk 0 0 [])).f_Text))) then true else ((((v0)[Int.toNat v7]?.getD (S_line_Line.mk 0 0 [])).f_Indent) != (((v1)[Int.toNat v7]?.getD (S_line_Line.mk 0 0 [])).f_Indent))) == false)) || decide (0 ≤ v7 ∧ v7 < (List.length v1 : Int))) = true]) (by kernel_rfl) (AllP.cons hc2 (AllP.cons hc3 (AllP.cons hc4 (AllP.cons hc5 (AllP.cons hc6 (AllP.cons hc7 AllP.nil)))))) ?_
      refine To.eq (K' := [(0, .recs (α := S_line_Line) (S_line_Line.mk 0 0 []) E_ref07_Line v0), (1, .recs (α := S_line_Line) (S_line_Line.mk 0 0 []) E_ref07_Line v1), (2, .val (.bool v2)), (7, .val (.int .i64 v7)), (58, .val (.bool x1))]) (L' := []) (by cases hx1; rfl) (by cases hx1; rfl) ?_
      refine To.thenN ?_
      refine Wp.cond (b := x1) (by kernel_rfl) (fun hb => ?_) (fun hb => ?_)
      · replace h := if_t hb h
        refine Wp.seq ?_
        refine Wp.region hΓ [] [] [] [6] [] (K' := [(6, .val (.bool false))]) (L' := []) (ob := []) (by kernel_rfl) AllP.nil ?_
        refine To.thenN ?_
        refine Wp.ret ?_
        refine To.blockR ?_
        refine To.thenR ?_
        refine To.thenR ?_
        refine To.keep (kk := [6]) (kl := []) (K' := [(6, .val (.bool false))]) (L' := []) (by kernel_rfl) (by kernel_rfl) ?_
        cases h
        exact hQ
      · replace h := if_f hb h
        refine Wp.skip ?_
        refine To.blockN ?_
        refine To.thenN ?_
        refine Wp.region hΓ [] [] [] [0, 1, 2, 7] [] (K' := [(0, .recs (α := S_line_Line) (S_line_Line.mk 0 0 []) E_ref07_Line v0), (1, .recs (α := S_line_Line) (S_line_Line.mk 0 0 []) E_ref07_Line v1), (2, .val (.bool v2)), (7, .val (.int .i64 (IntKind.wrap .i64 (v7 + 1))))]) (L' := []) (ob := []) (by kernel_rfl) AllP.nil ?_
        refine To.keep (kk := [0, 1, 2, 7]) (kl := []) (K' := [(0, .recs (α := S_line_Line) (S_line_Line.mk 0 0 []) E_ref07_Line v0), (1, .recs (α := S_line_Line) (S_line_Line.mk 0 0 []) E_ref07_Line v1), (2, .val (.bool v2)), (7, .val (.int .i64 (IntKind.wrap .i64 (v7 + 1))))]) (L' := []) (by kernel_rfl) (by kernel_rfl) ?_
        refine To.again ?_
        exact ih (IntKind.wrap .i64 (v7 + 1)) _ h hQ
    · replace h := if_f hb h
      refine Wp.exit ?_
      refine To.thenX ?_
      refine To.thenX ?_
      refine To.keep (kk := []) (kl := []) (K' := []) (L' := []) (by kernel_rfl) (by kernel_rfl) ?_
      cases h
      exact hQ
def ref07_Same (n : Nat) (a0 : List (S_line_Line)) (a1 : List (S_line_Line)) (a2 : Bool) : Option (Bool) :=
  if ((List.length a0 : Int) != (List.length a1 : Int)) = true then some false
  else ((ref07_Same_l1 n a0 a1 a2 n 0).bind fun o1 =>
  (Sum.elim (fun o1 => some true) (fun o1 => some o1)) o1)
theorem ok_ref07_Same (n : Nat) (a0 : List (S_line_Line)) (a1 : List (S_line_Line)) (a2 : Bool) (r : Bool) (h : ref07_Same n a0 a1 a2 = some r) : CallsX Tryd.prog 9 [.recs (α := S_line_Line) (S_line_Line.mk 0 0 []) E_ref07_Line a0, .recs (α := S_line_Line) (S_line_Line.mk 0 0 []) E_ref07_Line a1, .val (.bool a2)] (.val (.bool r)) := by
  unfold ref07_Same at h
  refine callsX_of (fn := Tryd.f9) (by kernel_rfl) rfl (by kernel_rfl) (Nat.le_of_ble_eq_true (by kernel_rfl)) fun F0 w0 _ => ?_
  refine Wp.keep (kk := [0, 1, 2]) (kl := []) (K' := [(0, .recs (α := S_line_Line) (S_line_Line.mk 0 0 []) E_ref07_Line a0), (1, .recs (α := S_line_Line) (S_line_Line.mk 0 0 []) E_ref07_Line a1), (2, .val (.bool a2))]) (L' := []) (by kernel_rfl) (by kernel_rfl) ?_
  refine Wp.seq ?_
  refine Wp.region hΓ [] [] [] [0, 1, 2] [] (K' := [(0, .recs (α := S_line_Line) (S_line_Line.mk 0 0 []) E_ref07_Line a0), (1, .recs (α := S_line_Line) (S_line_Line.mk 0 0 []) E_ref07_Line a1), (2, .val (.bool a2))]) (L' := []) (ob := []) (by kernel_rfl) AllP.nil ?_
  refine To.thenN ?_
  refine Wp.seq ?_
  refine Wp.seq ?_
  refine Wp.region hΓ [] [] [] [0, 1, 2, 12] [] (K' := [(0, .recs (α := S_line_Line) (S_line_Line.mk 0 0 []) E_ref07_Line a0), (1, .recs (α := S_line_Line) (S_line_Line.mk 0 0 []) E_ref07_Line a1), (2, .val (.bool a2)), (12, .val (.bool ((List.length a0 : Int) != (List.length a1 : Int))))]) (L' := []) (ob := []) (by kernel_rfl) AllP.nil ?_
  refine To.thenN ?_
  refine Wp.cond (b := ((List.length a0 : Int) != (List.length a1 : Int))) (by kernel_rfl) (fun hb => ?_) (fun hb => ?_)
  · replace h := if_t hb h
    refine Wp.seq ?_
    refine Wp.region hΓ [] [] [] [6] [] (K' := [(6, .val (.bool false))]) (L' := []) (ob := []) (by kernel_rfl) AllP.nil ?_
    refine To.thenN ?_
    refine Wp.ret ?_
    refine To.thenR ?_
    refine To.keep (kk := [6]) (kl := []) (K' := [(6, .val (.bool false))]) (L' := []) (by kernel_rfl) (by kernel_rfl) ?_
    cases h
    exact To.done hΓ (by kernel_rfl)
  · replace h := if_f hb h
    refine Wp.skip ?_
    refine To.thenN ?_
    refine Wp.seq ?_
    refine Wp.seq ?_
    refine Wp.region hΓ [] [] [] [0, 1, 2, 7] [] (K' := [(0, .recs (α := S_line_Line) (S_line_Line.mk 0 0 []) E_ref07_Line a0), (1, .recs (α := S_line_Line) (S_line_Line.mk 0 0 []) E_ref07_Line a1), (2, .val (.bool a2)), (7, .val (.int .i64 0))]) (L' := []) (ob := []) (by kernel_rfl) AllP.nil ?_
    refine To.thenN ?_
    refine Wp.block ?_
    obtain ⟨o1, ho1, h⟩ := bind_of h
    refine Wp.keep (kk := [0, 1, 2, 7]) (kl := []) (K' := [(0, .recs (α := S_line_Line) (S_line_Line.mk 0 0 []) E_ref07_Line a0), (1, .recs (α := S_line_Line) (S_line_Line.mk 0 0 []) E_ref07_Line a1), (2, .val (.bool a2)), (7, .val (.int .i64 0))]) (L' := []) (by kernel_rfl) (by kernel_rfl) ?_
    refine Wp.loopL ?_
    refine ok_ref07_Same_l1 n a0 a1 a2 n 0 o1 ho1 ?_
    rcases o1 with o1 | o1
    · replace h := sum_l h
      refine To.blockX ?_
      refine To.thenN ?_
      refine Wp.seq ?_
      refine Wp.region hΓ [] [] [] [6] [] (K' := [(6, .val (.bool true))]) (L' := []) (ob := []) (by kernel_rfl) AllP.nil ?_
      refine To.thenN ?_
      refine Wp.ret ?_
      refine To.keep (kk := [6]) (kl := []) (K' := [(6, .val (.bool true))]) (L' := []) (by kernel_rfl) (by kernel_rfl) ?_
      cases h
      exact To.done hΓ (by kernel_rfl)
    · replace h := sum_r h
      refine To.blockR ?_
      refine To.thenR ?_
      refine To.keep (kk := [6]) (kl := []) (K' := [(6, .val (.bool o1))]) (L' := []) (by kernel_rfl) (by kernel_rfl) ?_
      cases h
      exact To.done hΓ (by kernel_rfl)
def law07_awake (n : Nat) : Option (Bool) :=
  (line_Split n [97, 58, 32, 32, 35, 32, 120, 10, 32, 32, 98, 58, 32, 39, 35, 39]).bind fun r1 =>
  (line_Split n [97, 10, 9, 98]).bind fun r2 =>
  ((if ((r1.2.2 == 0) == true) = true then law07_taken n r1.1 else some [])).bind fun r3 =>
  ((if ((r1.2.2 == 0) == true) = true then ref07_Same n r3 ([(S_line_Line.mk 1 0 [97, 58]), (S_line_Line.mk 2 2 [98, 58, 32, 39, 35, 39])]) true else some false)).bind fun r4 =>
  some (bif (bif (bif (r1.2.2 == 0) then r4 else false) then (r2.2.1 == 2) else false) then (r2.2.2 == 3) else false)
theorem ok_law07_awake (n : Nat) (r : Bool) (h : law07_awake n = some r) : CallsX Tryd.prog 6 [] (.val (.bool r)) := by
  unfold law07_awake at h
  refine callsX_of (fn := Tryd.f6) (by kernel_rfl) rfl (by kernel_rfl) (Nat.le_of_ble_eq_true (by kernel_rfl)) fun F0 w0 _ => ?_
  refine Wp.keep (kk := []) (kl := []) (K' := []) (L' := []) (by kernel_rfl) (by kernel_rfl) ?_
  refine Wp.seq ?_
  refine Wp.region hΓ [] [] [] [] [] (K' := []) (L' := []) (ob := []) (by kernel_rfl) AllP.nil ?_
  refine To.thenN ?_
  refine Wp.seq ?_
  obtain ⟨r1, hr1, h⟩ := bind_of h
  refine Wp.region hΓ [] [(0, .tup [.recs (α := S_line_Line) (S_line_Line.mk 0 0 []) E_line_Line r1.1, .val (.int .i64 r1.2.1), .val (.int .i64 r1.2.2)])] [] [1, 3] [] (K' := [(1, .recs (α := S_line_Line) (S_line_Line.mk 0 0 []) E_line_Line r1.1), (3, .val (.int .i64 r1.2.2))]) (L' := []) (ob := [(true = true → CX Tryd.prog 7 [.str [97, 58, 32, 32, 35, 32, 120, 10, 32, 32, 98, 58, 32, 39, 35, 39]] (.tup [.recs (α := S_line_Line) (S_line_Line.mk 0 0 []) E_line_Line r1.1, .val (.int .i64 r1.2.1), .val (.int .i64 r1.2.2)]))]) (by kernel_rfl) (AllP.cons (fun _ => cx (ok_line_Split n [97, 58, 32, 32, 35, 32, 120, 10, 32, 32, 98, 58, 32, 39, 35, 39] _ hr1)) AllP.nil) ?_
  refine To.thenN ?_
  refine Wp.seq ?_
  obtain ⟨r2, hr2, h⟩ := bind_of h
  refine Wp.region hΓ [] [(0, .tup [.recs (α := S_line_Line) (S_line_Line.mk 0 0 []) E_line_Line r2.1, .val (.int .i64 r2.2.1), .val (.int .i64 r2.2.2)])] [] [1, 3, 5, 6] [] (K' := [(1, .recs (α := S_line_Line) (S_line_Line.mk 0 0 []) E_line_Line r1.1), (3, .val (.int .i64 r1.2.2)), (5, .val (.int .i64 r2.2.1)), (6, .val (.int .i64 r2.2.2))]) (L' := []) (ob := [(true = true → CX Tryd.prog 7 [.str [97, 10, 9, 98]] (.tup [.recs (α := S_line_Line) (S_line_Line.mk 0 0 []) E_line_Line r2.1, .val (.int .i64 r2.2.1), .val (.int .i64 r2.2.2)]))]) (by kernel_rfl) (AllP.cons (fun _ => cx (ok_line_Split n [97, 10, 9, 98] _ hr2)) AllP.nil) ?_
  refine To.thenN ?_
  refine Wp.seq ?_
  obtain ⟨r3, hr3, h⟩ := bind_of h
  obtain ⟨r4, hr4, h⟩ := bind_of h
  refine Wp.region hΓ [] [(4, .recs (α := S_line_Line) (S_line_Line.mk 0 0 []) E_ref07_Line r3), (7, .recs (α := S_line_Line) (S_line_Line.mk 0 0 []) E_ref07_Line ([(S_line_Line.mk 1 0 [97, 58]), (S_line_Line.mk 2 2 [98, 58, 32, 39, 35, 39])])), (8, .val (.bool r4))] [] [0] [] (K' := [(0, .val (.bool (bif (bif (bif (r1.2.2 == 0) then r4 else false) then (r2.2.1 == 2) else false) then (r2.2.2 == 3) else false)))]) (L' := []) (ob := [(((r1.2.2 == 0) == true) = true → CX Tryd.prog 10 [.recs (α := S_line_Line) (S_line_Line.mk 0 0 []) E_line_Line r1.1] (.recs (α := S_line_Line) (S_line_Line.mk 0 0 []) E_ref07_Line r3)), (((r1.2.2 == 0) == true) = true → MkOb 3 [.val (.int .i64 1), .val (.int .i64 0), .str [97, 58], .val (.int .i64 2), .val (.int .i64 2), .str [98, 58, 32, 39, 35, 39]] 2 (.recs (α := S_line_Line) (S_line_Line.mk 0 0 []) E_ref07_Line ([(S_line_Line.mk 1 0 [97, 58]), (S_line_Line.mk 2 2 [98, 58, 32, 39, 35, 39])])) ∧ GoodR (.recs (α := S_line_Line) (S_line_Line.mk 0 0 []) E_ref07_Line ([(S_line_Line.mk 1 0 [97, 58]), (S_line_Line.mk 2 2 [98, 58, 32, 39, 35, 39])]))), (((r1.2.2 == 0) == true) = true → CX Tryd.prog 9 [.recs (α := S_line_Line) (S_line_Line.mk 0 0 []) E_ref07_Line r3, .recs (α := S_line_Line) (S_line_Line.mk 0 0 []) E_ref07_Line ([(S_line_Line.mk 1 0 [97, 58]), (S_line_Line.mk 2 2 [98, 58, 32, 39, 35, 39])]), .val (.bool true)] (.val (.bool r4)))]) (by kernel_rfl) (AllP.cons (fun hg => cx (ok_law07_taken n r1.1 _ (if_t hg hr3))) (AllP.cons (fun _ => mkOb (by kernel_rfl) rfl (by kernel_rfl) (good_E_ref07_Line _)) (AllP.cons (fun hg => cx (ok_ref07_Same n r3 ([(S_line_Line.mk 1 0 [97, 58]), (S_line_Line.mk 2 2 [98, 58, 32, 39, 35, 39])]) true _ (if_t hg hr4))) AllP.nil))) ?_
  refine To.thenN ?_
  refine Wp.ret ?_
  refine To.keep (kk := [0]) (kl := []) (K' := [(0, .val (.bool (bif (bif (bif (r1.2.2 == 0) then r4 else false) then (r2.2.1 == 2) else false) then (r2.2.2 == 3) else false)))]) (L' := []) (by kernel_rfl) (by kernel_rfl) ?_
  cases h
  exact To.done hΓ (by kernel_rfl)
def ref07_begins_j1 (n : Nat) (v0 : List UInt8) (v1 : Int) (v5 : Int) (v7 : Bool) : Option (Int) :=
  if v7 = true then (if (decide (0 ≤ (IntKind.wrap .i64 (v1 - 1)) ∧ (IntKind.wrap .i64 (v1 - 1)) < (List.length v0 : Int))) = true then (some (((v0)[Int.toNat (IntKind.wrap .i64 (v1 - 1))]?.getD 0).toNat : Int)) else none)
  else some v5
theorem ok_ref07_begins_j1 (n : Nat) (v0 : List UInt8) (v1 : Int) (v5 : Int) (v7 : Bool) (o : Int) (h : ref07_begins_j1 n v0 v1 v5 v7 = some o) {F0 : Fz} {w0 : Pt Tryd.prog} {Q : Exit → Act → World → Prop} (hQ : To 44 F0 w0 [(0, .str v0), (1, .val (.int .i64 v1)), (5, .val (.int .u8 o))] [] .normal Q) : Wp Tryd.prog 44 F0 w0 [(0, .str v0), (1, .val (.int .i64 v1)), (5, .val (.int .u8 v5)), (7, .val (.bool v7))] [] (cB (cA (cB (cB (cF Tryd.f29))))) Q := by
  unfold ref07_begins_j1 at h
  refine Wp.cond (b := v7) (by kernel_rfl) (fun hb => ?_) (fun hb => ?_)
  · replace h := if_t hb h
    obtain ⟨hc1, h⟩ := chk_of h
    refine Wp.region hΓ [] [] [] [0, 1, 5] [] (K' := [(0, .str v0), (1, .val (.int .i64 v1)), (5, .val (.int .u8 (((v0)[Int.toNat (IntKind.wrap .i64 (v1 - 1))]?.getD 0).toNat : Int)))]) (L' := []) (ob := [(decide (0 ≤ (IntKind.wrap .i64 (v1 - 1)) ∧ (IntKind.wrap .i64 (v1 - 1)) < (List.length v0 : Int))) = true]) (by kernel_rfl) (AllP.cons hc1 AllP.nil) ?_
    refine To.keep (kk := [0, 1, 5]) (kl := []) (K' := [(0, .str v0), (1, .val (.int .i64 v1)), (5, .val (.int .u8 (((v0)[Int.toNat (IntKind.wrap .i64 (v1 - 1))]?.getD 0).toNat : Int)))]) (L' := []) (by kernel_rfl) (by kernel_rfl) ?_
    cases h
    exact hQ
  · replace h := if_f hb h
    refine Wp.skip ?_
    refine To.keep (kk := [0, 1, 5]) (kl := []) (K' := [(0, .str v0), (1, .val (.int .i64 v1)), (5, .val (.int .u8 v5))]) (L' := []) (by kernel_rfl) (by kernel_rfl) ?_
    cases h
    exact hQ
def ref07_begins (n : Nat) (a0 : List UInt8) (a1 : Int) : Option (Int) :=
  (ref07_begins_j1 n a0 a1 32 (decide (a1 > 0))).bind fun o1 =>
  if (decide (0 ≤ a1 ∧ a1 < (List.length a0 : Int))) = true then (if (bif ((((a0)[Int.toNat a1]?.getD 0).toNat : Int) == 35) then (o1 == 32) else false) = true then some 2
  else (if (decide (0 ≤ a1 ∧ a1 < (List.length a0 : Int))) = true then (if ((!(((((a0)[Int.toNat a1]?.getD 0).toNat : Int) != 34) == true) || decide (0 ≤ a1 ∧ a1 < (List.length a0 : Int)))) = true then (lett ((bif ((((a0)[Int.toNat a1]?.getD 0).toNat : Int) != 34) then ((((a0)[Int.toNat a1]?.getD 0).toNat : Int) != 39) else false) : Bool) fun x2 =>
  if x2 = true then some 0
  else (if (bif (bif (bif (o1 == 32) then true else (o1 == 91)) then true else (o1 == 123)) then true else (o1 == 44)) = true then some 1
  else some 0)) else none) else none)) else none
theorem ok_ref07_begins (n : Nat) (a0 : List UInt8) (a1 : Int) (r : Int) (h : ref07_begins n a0 a1 = some r) : CallsX Tryd.prog 29 [.str a0, .val (.int .i64 a1)] (.val (.int .i64 r)) := by
  unfold ref07_begins at h
  refine callsX_of (fn := Tryd.f29) (by kernel_rfl) rfl (by kernel_rfl) (Nat.le_of_ble_eq_true (by kernel_rfl)) fun F0 w0 _ => ?_
  refine Wp.keep (kk := [0, 1]) (kl := []) (K' := [(0, .str a0), (1, .val (.int .i64 a1))]) (L' := []) (by kernel_rfl) (by kernel_rfl) ?_
  refine Wp.seq ?_
  refine Wp.region hΓ [] [] [] [0, 1] [] (K' := [(0, .str a0), (1, .val (.int .i64 a1))]) (L' := []) (ob := []) (by kernel_rfl) AllP.nil ?_
  refine To.thenN ?_
  refine Wp.seq ?_
  refine Wp.region hΓ [] [] [] [0, 1, 5] [] (K' := [(0, .str a0), (1, .val (.int .i64 a1)), (5, .val (.int .u8 32))]) (L' := []) (ob := []) (by kernel_rfl) AllP.nil ?_
  refine To.thenN ?_
  refine Wp.seq ?_
  refine Wp.seq ?_
  refine Wp.region hΓ [] [] [] [0, 1, 5, 7] [] (K' := [(0, .str a0), (1, .val (.int .i64 a1)), (5, .val (.int .u8 32)), (7, .val (.bool (decide (a1 > 0))))]) (L' := []) (ob := []) (by kernel_rfl) AllP.nil ?_
  refine To.thenN ?_
  obtain ⟨o1, ho1, h⟩ := bind_of h
  refine Wp.keep (kk := [0, 1, 5, 7]) (kl := []) (K' := [(0, .str a0), (1, .val (.int .i64 a1)), (5, .val (.int .u8 32)), (7, .val (.bool (decide (a1 > 0))))]) (L' := []) (by kernel_rfl) (by kernel_rfl) ?_
  refine ok_ref07_begins_j1 n a0 a1 32 (decide (a1 > 0)) o1 ho1 ?_
  refine To.thenN ?_
  refine Wp.seq ?_
  refine Wp.seq ?_
  obtain ⟨hc5, h⟩ := chk_of h
  refine Wp.region hΓ [] [] [] [0, 1, 5, 19] [] (K' := [(0, .str a0), (1, .val (.int .i64 a1)), (5, .val (.int .u8 o1)), (19, .val (.bool (bif ((((a0)[Int.toNat a1]?.getD 0).toNat : Int) == 35) then (o1 == 32) else false)))]) (L' := []) (ob := [(decide (0 ≤ a1 ∧ a1 < (List.length a0 : Int))) = true]) (by kernel_rfl) (AllP.cons hc5 AllP.nil) ?_
  refine To.thenN ?_
  refine Wp.cond (b := (bif ((((a0)[Int.toNat a1]?.getD 0).toNat : Int) == 35) then (o1 == 32) else false)) (by kernel_rfl) (fun hb => ?_) (fun hb => ?_)
  · replace h := if_t hb h
    refine Wp.seq ?_
    refine Wp.region hΓ [] [] [] [4] [] (K' := [(4, .val (.int .i64 2))]) (L' := []) (ob := []) (by kernel_rfl) AllP.nil ?_
    refine To.thenN ?_
    refine Wp.ret ?_
    refine To.thenR ?_
    refine To.keep (kk := [4]) (kl := []) (K' := [(4, .val (.int .i64 2))]) (L' := []) (by kernel_rfl) (by kernel_rfl) ?_
    cases h
    exact To.done hΓ (by kernel_rfl)
  · replace h := if_f hb h
    refine Wp.skip ?_
    refine To.thenN ?_
    refine Wp.seq ?_
    refine Wp.seq ?_
    obtain ⟨hc3, h⟩ := chk_of h
    obtain ⟨hc4, h⟩ := chk_of h
    obtain ⟨x2, hx2, h⟩ := lett_of h
    refine Wp.region hΓ [] [] [] [5, 29] [] (K' := [(5, .val (.int .u8 o1)), (29, .val (.bool (bif ((((a0)[Int.toNat a1]?.getD 0).toNat : Int) != 34) then ((((a0)[Int.toNat a1]?.getD 0).toNat : Int) != 39) else false)))]) (L' := []) (ob := [(decide (0 ≤ a1 ∧ a1 < (List.length a0 : Int))) = true, (!(((((a0)[Int.toNat a1]?.getD 0).toNat : Int) != 34) == true) || decide (0 ≤ a1 ∧ a1 < (List.length a0 : Int))) = true]) (by kernel_rfl) (AllP.cons hc3 (AllP.cons hc4 AllP.nil)) ?_
    refine To.eq (K' := [(5, .val (.int .u8 o1)), (29, .val (.bool x2))]) (L' := []) (by cases hx2; rfl) (by cases hx2; rfl) ?_
    refine To.thenN ?_
    refine Wp.cond (b := x2) (by kernel_rfl) (fun hb => ?_) (fun hb => ?_)
    · replace h := if_t hb h
      refine Wp.seq ?_
      refine Wp.region hΓ [] [] [] [4] [] (K' := [(4, .val (.int .i64 0))]) (L' := []) (ob := []) (by kernel_rfl) AllP.nil ?_
      refine To.thenN ?_
      refine Wp.ret ?_
      refine To.thenR ?_
      refine To.keep (kk := [4]) (kl := []) (K' := [(4, .val (.int .i64 0))]) (L' := []) (by kernel_rfl) (by kernel_rfl) ?_
      cases h
      exact To.done hΓ (by kernel_rfl)
    · replace h := if_f hb h
      refine Wp.skip ?_
      refine To.thenN ?_
      refine Wp.seq ?_
      refine Wp.seq ?_
      refine Wp.region hΓ [] [] [] [43] [] (K' := [(43, .val (.bool (bif (bif (bif (o1 == 32) then true else (o1 == 91)) then true else (o1 == 123)) then true else (o1 == 44))))]) (L' := []) (ob := []) (by kernel_rfl) AllP.nil ?_
      refine To.thenN ?_
      refine Wp.cond (b := (bif (bif (bif (o1 == 32) then true else (o1 == 91)) then true else (o1 == 123)) then true else (o1 == 44))) (by kernel_rfl) (fun hb => ?_) (fun hb => ?_)
      · replace h := if_t hb h
        refine Wp.seq ?_
        refine Wp.region hΓ [] [] [] [4] [] (K' := [(4, .val (.int .i64 1))]) (L' := []) (ob := []) (by kernel_rfl) AllP.nil ?_
        refine To.thenN ?_
        refine Wp.ret ?_
        refine To.thenR ?_
        refine To.keep (kk := [4]) (kl := []) (K' := [(4, .val (.int .i64 1))]) (L' := []) (by kernel_rfl) (by kernel_rfl) ?_
        cases h
        exact To.done hΓ (by kernel_rfl)
      · replace h := if_f hb h
        refine Wp.skip ?_
        refine To.thenN ?_
        refine Wp.seq ?_
        refine Wp.region hΓ [] [] [] [4] [] (K' := [(4, .val (.int .i64 0))]) (L' := []) (ob := []) (by kernel_rfl) AllP.nil ?_
        refine To.thenN ?_
        refine Wp.ret ?_
        refine To.keep (kk := [4]) (kl := []) (K' := [(4, .val (.int .i64 0))]) (L' := []) (by kernel_rfl) (by kernel_rfl) ?_
        cases h
        exact To.done hΓ (by kernel_rfl)
def ref06_Good (a0 : Int) : Bool :=
  (bif (bif (decide (a0 ≥ 32)) then (decide (a0 ≤ 126)) else false) then true else (decide (a0 ≥ 128)))
theorem ok_ref06_Good (a0 : Int) (r : Bool) (h : ref06_Good a0 = r) : CallsX Tryd.prog 31 [.val (.int .u8 a0)] (.val (.bool r)) := by
  unfold ref06_Good at h
  refine callsX_of (fn := Tryd.f31) (by kernel_rfl) rfl (by kernel_rfl) (Nat.le_of_ble_eq_true (by kernel_rfl)) fun F0 w0 _ => ?_
  refine Wp.keep (kk := [0]) (kl := []) (K' := [(0, .val (.int .u8 a0))]) (L' := []) (by kernel_rfl) (by kernel_rfl) ?_
  refine Wp.seq ?_
  refine Wp.region hΓ [] [] [] [0] [] (K' := [(0, .val (.int .u8 a0))]) (L' := []) (ob := []) (by kernel_rfl) AllP.nil ?_
  refine To.thenN ?_
  refine Wp.seq ?_
  refine Wp.region hΓ [] [] [] [2] [] (K' := [(2, .val (.bool (bif (bif (decide (a0 ≥ 32)) then (decide (a0 ≤ 126)) else false) then true else (decide (a0 ≥ 128)))))]) (L' := []) (ob := []) (by kernel_rfl) AllP.nil ?_
  refine To.thenN ?_
  refine Wp.ret ?_
  refine To.keep (kk := [2]) (kl := []) (K' := [(2, .val (.bool (bif (bif (decide (a0 ≥ 32)) then (decide (a0 ≤ 126)) else false) then true else (decide (a0 ≥ 128)))))]) (L' := []) (by kernel_rfl) (by kernel_rfl) ?_
  cases h
  exact To.done hΓ (by kernel_rfl)
def ref06_value (a0 : Int) : Int :=
  if (bif (decide (a0 ≥ 48)) then (decide (a0 ≤ 57)) else false) = true then ((IntKind.wrap .i64 ((IntKind.wrap .i64 (a0)) - 48)))
  else (if (bif (decide (a0 ≥ 97)) then (decide (a0 ≤ 102)) else false) = true then ((IntKind.wrap .i64 ((IntKind.wrap .i64 (a0)) - 87)))
  else (if (bif (decide (a0 ≥ 65)) then (decide (a0 ≤ 70)) else false) = true then ((IntKind.wrap .i64 ((IntKind.wrap .i64 (a0)) - 55)))
  else 16))
theorem ok_ref06_value (a0 : Int) (r : Int) (h : ref06_value a0 = r) : CallsX Tryd.prog 58 [.val (.int .u8 a0)] (.val (.int .i64 r)) := by
  unfold ref06_value at h
  refine callsX_of (fn := Tryd.f58) (by kernel_rfl) rfl (by kernel_rfl) (Nat.le_of_ble_eq_true (by kernel_rfl)) fun F0 w0 _ => ?_
  refine Wp.keep (kk := [0]) (kl := []) (K' := [(0, .val (.int .u8 a0))]) (L' := []) (by kernel_rfl) (by kernel_rfl) ?_
  refine Wp.seq ?_
  refine Wp.region hΓ [] [] [] [0] [] (K' := [(0, .val (.int .u8 a0))]) (L' := []) (ob := []) (by kernel_rfl) AllP.nil ?_
  refine To.thenN ?_
  refine Wp.seq ?_
  refine Wp.seq ?_
  refine Wp.region hΓ [] [] [] [0, 8] [] (K' := [(0, .val (.int .u8 a0)), (8, .val (.bool (bif (decide (a0 ≥ 48)) then (decide (a0 ≤ 57)) else false)))]) (L' := []) (ob := []) (by kernel_rfl) AllP.nil ?_
  refine To.thenN ?_
  refine Wp.cond (b := (bif (decide (a0 ≥ 48)) then (decide (a0 ≤ 57)) else false)) (by kernel_rfl) (fun hb => ?_) (fun hb => ?_)
  · replace h := if_t hb h
    refine Wp.seq ?_
    refine Wp.region hΓ [] [] [] [2] [] (K' := [(2, .val (.int .i64 (IntKind.wrap .i64 ((IntKind.wrap .i64 (a0)) - 48))))]) (L' := []) (ob := []) (by kernel_rfl) AllP.nil ?_
    refine To.thenN ?_
    refine Wp.ret ?_
    refine To.thenR ?_
    refine To.keep (kk := [2]) (kl := []) (K' := [(2, .val (.int .i64 (IntKind.wrap .i64 ((IntKind.wrap .i64 (a0)) - 48))))]) (L' := []) (by kernel_rfl) (by kernel_rfl) ?_
    cases h
    exact To.done hΓ (by kernel_rfl)
  · replace h := if_f hb h
    refine Wp.skip ?_
    refine To.thenN ?_
    refine Wp.seq ?_
    refine Wp.seq ?_
    refine Wp.region hΓ [] [] [] [0, 17] [] (K' := [(0, .val (.int .u8 a0)), (17, .val (.bool (bif (decide (a0 ≥ 97)) then (decide (a0 ≤ 102)) else false)))]) (L' := []) (ob := []) (by kernel_rfl) AllP.nil ?_
    refine To.thenN ?_
    refine Wp.cond (b := (bif (decide (a0 ≥ 97)) then (decide (a0 ≤ 102)) else false)) (by kernel_rfl) (fun hb => ?_) (fun hb => ?_)
    · replace h := if_t hb h
      refine Wp.seq ?_
      refine Wp.region hΓ [] [] [] [2] [] (K' := [(2, .val (.int .i64 (IntKind.wrap .i64 ((IntKind.wrap .i64 (a0)) - 87))))]) (L' := []) (ob := []) (by kernel_rfl) AllP.nil ?_
      refine To.thenN ?_
      refine Wp.ret ?_
      refine To.thenR ?_
      refine To.keep (kk := [2]) (kl := []) (K' := [(2, .val (.int .i64 (IntKind.wrap .i64 ((IntKind.wrap .i64 (a0)) - 87))))]) (L' := []) (by kernel_rfl) (by kernel_rfl) ?_
      cases h
      exact To.done hΓ (by kernel_rfl)
    · replace h := if_f hb h
      refine Wp.skip ?_
      refine To.thenN ?_
      refine Wp.seq ?_
      refine Wp.seq ?_
      refine Wp.region hΓ [] [] [] [0, 26] [] (K' := [(0, .val (.int .u8 a0)), (26, .val (.bool (bif (decide (a0 ≥ 65)) then (decide (a0 ≤ 70)) else false)))]) (L' := []) (ob := []) (by kernel_rfl) AllP.nil ?_
      refine To.thenN ?_
      refine Wp.cond (b := (bif (decide (a0 ≥ 65)) then (decide (a0 ≤ 70)) else false)) (by kernel_rfl) (fun hb => ?_) (fun hb => ?_)
      · replace h := if_t hb h
        refine Wp.seq ?_
        refine Wp.region hΓ [] [] [] [2] [] (K' := [(2, .val (.int .i64 (IntKind.wrap .i64 ((IntKind.wrap .i64 (a0)) - 55))))]) (L' := []) (ob := []) (by kernel_rfl) AllP.nil ?_
        refine To.thenN ?_
        refine Wp.ret ?_
        refine To.thenR ?_
        refine To.keep (kk := [2]) (kl := []) (K' := [(2, .val (.int .i64 (IntKind.wrap .i64 ((IntKind.wrap .i64 (a0)) - 55))))]) (L' := []) (by kernel_rfl) (by kernel_rfl) ?_
        cases h
        exact To.done hΓ (by kernel_rfl)
      · replace h := if_f hb h
        refine Wp.skip ?_
        refine To.thenN ?_
        refine Wp.seq ?_
        refine Wp.region hΓ [] [] [] [2] [] (K' := [(2, .val (.int .i64 16))]) (L' := []) (ob := []) (by kernel_rfl) AllP.nil ?_
        refine To.thenN ?_
        refine Wp.ret ?_
        refine To.keep (kk := [2]) (kl := []) (K' := [(2, .val (.int .i64 16))]) (L' := []) (by kernel_rfl) (by kernel_rfl) ?_
        cases h
        exact To.done hΓ (by kernel_rfl)
def ref06_double_l1 (n : Nat) (v0 : List UInt8) : Nat → Int → (List (UInt8)) → Option (Sum (Unit) ((List UInt8) × Int × Bool))
  | 0, _, _ => none
  | k + 1, v1, v7 => if (decide (v1 < (List.length v0 : Int))) = true then (if (decide (0 ≤ v1 ∧ v1 < (List.length v0 : Int))) = true then (if (!(ref06_Good (((v0)[Int.toNat v1]?.getD 0).toNat : Int))) = true then (some (.inr ([], 0, false)))
  else (if ((((v0)[Int.toNat v1]?.getD 0).toNat : Int) == 34) = true then (some (.inr (v7, (IntKind.wrap .i64 (v1 + 1)), true)))
  else (if ((((v0)[Int.toNat v1]?.getD 0).toNat : Int) != 92) = true then (if (decide ((List.length v7 + List.length ([((v0)[Int.toNat v1]?.getD 0)] : List (UInt8))) * (1 + 1) ≤ limit)) = true then (ref06_double_l1 n v0 k (IntKind.wrap .i64 (v1 + 1)) (v7 ++ ([((v0)[Int.toNat v1]?.getD 0)] : List (UInt8)))) else none)
  else (if (decide ((IntKind.wrap .i64 (v1 + 1)) ≥ (List.length v0 : Int))) = true then (some (.inr ([], 0, false)))
  else (if (decide (0 ≤ (IntKind.wrap .i64 (v1 + 1)) ∧ (IntKind.wrap .i64 (v1 + 1)) < (List.length v0 : Int))) = true then (lett ((bif ((((v0)[Int.toNat (IntKind.wrap .i64 (v1 + 1))]?.getD 0).toNat : Int) == 92) then true else ((((v0)[Int.toNat (IntKind.wrap .i64 (v1 + 1))]?.getD 0).toNat : Int) == 34)) : Bool) fun x2 =>
  if x2 = true then (if (decide ((List.length v7 + List.length ([((v0)[Int.toNat (IntKind.wrap .i64 (v1 + 1))]?.getD 0)] : List (UInt8))) * (1 + 1) ≤ limit)) = true then (ref06_double_l1 n v0 k (IntKind.wrap .i64 (v1 + 2)) (v7 ++ ([((v0)[Int.toNat (IntKind.wrap .i64 (v1 + 1))]?.getD 0)] : List (UInt8)))) else none)
  else (if ((((v0)[Int.toNat (IntKind.wrap .i64 (v1 + 1))]?.getD 0).toNat : Int) == 110) = true then (if (decide ((List.length v7 + List.length ([10] : List (UInt8))) * (1 + 1) ≤ limit)) = true then (ref06_double_l1 n v0 k (IntKind.wrap .i64 (v1 + 2)) (v7 ++ ([10] : List (UInt8)))) else none)
  else (if ((((v0)[Int.toNat (IntKind.wrap .i64 (v1 + 1))]?.getD 0).toNat : Int) == 116) = true then (if (decide ((List.length v7 + List.length ([9] : List (UInt8))) * (1 + 1) ≤ limit)) = true then (ref06_double_l1 n v0 k (IntKind.wrap .i64 (v1 + 2)) (v7 ++ ([9] : List (UInt8)))) else none)
  else (if ((!((bif ((((v0)[Int.toNat (IntKind.wrap .i64 (v1 + 1))]?.getD 0).toNat : Int) == 120) then (decide ((IntKind.wrap .i64 (v1 + 3)) < (List.length v0 : Int))) else false) == true) || decide (0 ≤ (IntKind.wrap .i64 (v1 + 2)) ∧ (IntKind.wrap .i64 (v1 + 2)) < (List.length v0 : Int)))) = true then (lett (ref06_value (((v0)[Int.toNat (IntKind.wrap .i64 (v1 + 2))]?.getD 0).toNat : Int)) fun r6 =>
  if ((!((bif (bif ((((v0)[Int.toNat (IntKind.wrap .i64 (v1 + 1))]?.getD 0).toNat : Int) == 120) then (decide ((IntKind.wrap .i64 (v1 + 3)) < (List.length v0 : Int))) else false) then (decide (r6 < 16)) else false) == true) || decide (0 ≤ (IntKind.wrap .i64 (v1 + 3)) ∧ (IntKind.wrap .i64 (v1 + 3)) < (List.length v0 : Int)))) = true then (lett (ref06_value (((v0)[Int.toNat (IntKind.wrap .i64 (v1 + 3))]?.getD 0).toNat : Int)) fun r7 =>
  lett ((bif (bif (bif ((((v0)[Int.toNat (IntKind.wrap .i64 (v1 + 1))]?.getD 0).toNat : Int) == 120) then (decide ((IntKind.wrap .i64 (v1 + 3)) < (List.length v0 : Int))) else false) then (decide (r6 < 16)) else false) then (decide (r7 < 16)) else false) : Bool) fun x8 =>
  if x8 = true then (if (decide (0 ≤ (IntKind.wrap .i64 (v1 + 2)) ∧ (IntKind.wrap .i64 (v1 + 2)) < (List.length v0 : Int))) = true then (lett (ref06_value (((v0)[Int.toNat (IntKind.wrap .i64 (v1 + 2))]?.getD 0).toNat : Int)) fun r9 =>
  if (decide (0 ≤ (IntKind.wrap .i64 (v1 + 3)) ∧ (IntKind.wrap .i64 (v1 + 3)) < (List.length v0 : Int))) = true then (lett (ref06_value (((v0)[Int.toNat (IntKind.wrap .i64 (v1 + 3))]?.getD 0).toNat : Int)) fun r10 =>
  if (decide (0 ≤ (IntKind.wrap .u8 ((IntKind.wrap .i64 ((IntKind.wrap .i64 (r9 * 16)) + r10)))) ∧ (IntKind.wrap .u8 ((IntKind.wrap .i64 ((IntKind.wrap .i64 (r9 * 16)) + r10)))) < 256)) = true then (if (decide ((List.length v7 + List.length ([(UInt8.ofNat (Int.toNat (IntKind.wrap .u8 ((IntKind.wrap .i64 ((IntKind.wrap .i64 (r9 * 16)) + r10))))))] : List (UInt8))) * (1 + 1) ≤ limit)) = true then (lett ((v7 ++ ([(UInt8.ofNat (Int.toNat (IntKind.wrap .u8 ((IntKind.wrap .i64 ((IntKind.wrap .i64 (r9 * 16)) + r10))))))] : List (UInt8))) : List (UInt8)) fun x12 =>
  ref06_double_l1 n v0 k (IntKind.wrap .i64 (v1 + 4)) x12) else none) else none) else none) else none)
  else (some (.inr ([], 0, false)))) else none) else none)))) else none))))) else none)
  else (some (.inl ()))
theorem ok_ref06_double_l1 (n : Nat) (v0 : List UInt8) {F0 : Fz} {w0 : Pt Tryd.prog} {Q : Exit → Act → World → Prop} (k : Nat) : ∀ (v1 : Int) (v7 : List (UInt8)) (o : Sum (Unit) ((List UInt8) × Int × Bool)), ref06_double_l1 n v0 k v1 v7 = some o → (Sum.elim (fun s => To 113 F0 w0 [] [] (.exit 0) Q) (fun s => To 113 F0 w0 [(4, .str s.1), (5, .val (.int .i64 s.2.1)), (6, .val (.bool s.2.2))] [] .ret Q)) o → WL Tryd.prog 113 F0 w0 [(0, .str v0), (1, .val (.int .i64 v1)), (7, .row 1007)] [(1007, 5, [.rowc false (α := UInt8) 0 e8 v7])] (cI (cI (cA (cB (cB (cF Tryd.f44)))))) Q := by
  induction k with
  | zero => intro v1 v7 o h; cases h
  | succ k ih =>
    intro v1 v7 o h hQ
    rw [ref06_double_l1] at h
    refine WL.round ?_
    refine Wp.seq ?_
    refine Wp.seq ?_
    refine Wp.region hΓ [] [] [] [0, 1, 7, 14] [1007] (K' := [(0, .str v0), (1, .val (.int .i64 v1)), (7, .row 1007), (14, .val (.bool (decide (v1 < (List.length v0 : Int)))))]) (L' := [(1007, 5, [.rowc false (α := UInt8) 0 e8 v7])]) (ob := []) (by kernel_rfl) AllP.nil ?_
    refine To.thenN ?_
    refine Wp.cond (b := (decide (v1 < (List.length v0 : Int)))) (by kernel_rfl) (fun hb => ?_) (fun hb => ?_)
    · replace h := if_t hb h
      refine Wp.skip ?_
      refine To.thenN ?_
      refine Wp.block ?_
      refine Wp.seq ?_
      obtain ⟨hc19, h⟩ := chk_of h
      refine Wp.region hΓ [] [] [] [0, 1, 7, 8] [1007] (K' := [(0, .str v0), (1, .val (.int .i64 v1)), (7, .row 1007), (8, .val (.int .u8 (((v0)[Int.toNat v1]?.getD 0).toNat : Int)))]) (L' := [(1007, 5, [.rowc false (α := UInt8) 0 e8 v7])]) (ob := [(decide (0 ≤ v1 ∧ v1 < (List.length v0 : Int))) = true]) (by kernel_rfl) (AllP.cons hc19 AllP.nil) ?_
      refine To.thenN ?_
      refine Wp.seq ?_
      refine Wp.seq ?_
      refine Wp.region hΓ [] [(1, .val (.bool (ref06_Good (((v0)[Int.toNat v1]?.getD 0).toNat : Int))))] [] [0, 1, 7, 8, 20] [1007] (K' := [(0, .str v0), (1, .val (.int .i64 v1)), (7, .row 1007), (8, .val (.int .u8 (((v0)[Int.toNat v1]?.getD 0).toNat : Int))), (20, .val (.bool (!(ref06_Good (((v0)[Int.toNat v1]?.getD 0).toNat : Int)))))]) (L' := [(1007, 5, [.rowc false (α := UInt8) 0 e8 v7])]) (ob := [(true = true → CX Tryd.prog 31 [.val (.int .u8 (((v0)[Int.toNat v1]?.getD 0).toNat : Int))] (.val (.bool (ref06_Good (((v0)[Int.toNat v1]?.getD 0).toNat : Int)))))]) (by kernel_rfl) (AllP.cons (fun _ => cx (ok_ref06_Good (((v0)[Int.toNat v1]?.getD 0).toNat : Int) _ rfl)) AllP.nil) ?_
      refine To.thenN ?_
      refine Wp.cond (b := (!(ref06_Good (((v0)[Int.toNat v1]?.getD 0).toNat : Int)))) (by kernel_rfl) (fun hb => ?_) (fun hb => ?_)
      · replace h := if_t hb h
        refine Wp.seq ?_
        refine Wp.region hΓ [] [] [] [4, 5, 6] [] (K' := [(4, .str []), (5, .val (.int .i64 0)), (6, .val (.bool false))]) (L' := []) (ob := []) (by kernel_rfl) AllP.nil ?_
        refine To.thenN ?_
        refine Wp.ret ?_
        refine To.thenR ?_
        refine To.blockR ?_
        refine To.thenR ?_
        refine To.keep (kk := [4, 5, 6]) (kl := []) (K' := [(4, .str []), (5, .val (.int .i64 0)), (6, .val (.bool false))]) (L' := []) (by kernel_rfl) (by kernel_rfl) ?_
        cases h
        exact hQ
      · replace h := if_f hb h
        refine Wp.skip ?_
        refine To.thenN ?_
        refine Wp.seq ?_
        refine Wp.seq ?_
        refine Wp.region hΓ [] [] [] [0, 1, 7, 8, 22] [1007] (K' := [(0, .str v0), (1, .val (.int .i64 v1)), (7, .row 1007), (8, .val (.int .u8 (((v0)[Int.toNat v1]?.getD 0).toNat : Int))), (22, .val (.bool ((((v0)[Int.toNat v1]?.getD 0).toNat : Int) == 34)))]) (L' := [(1007, 5, [.rowc false (α := UInt8) 0 e8 v7])]) (ob := []) (by kernel_rfl) AllP.nil ?_
        refine To.thenN ?_
        refine Wp.cond (b := ((((v0)[Int.toNat v1]?.getD 0).toNat : Int) == 34)) (by kernel_rfl) (fun hb => ?_) (fun hb => ?_)
        · replace h := if_t hb h
          refine Wp.seq ?_
          refine Wp.region hΓ [] [(1, .str v7)] [] [4, 5, 6] [] (K' := [(4, .str v7), (5, .val (.int .i64 (IntKind.wrap .i64 (v1 + 1)))), (6, .val (.bool true))]) (L' := []) (ob := [(true = true → StrOb (List.flatMap e8 v7) (.str v7))]) (by kernel_rfl) (AllP.cons (fun _ => strOb (flat8 _)) AllP.nil) ?_
          refine To.thenN ?_
          refine Wp.ret ?_
          refine To.thenR ?_
          refine To.blockR ?_
          refine To.thenR ?_
          refine To.keep (kk := [4, 5, 6]) (kl := []) (K' := [(4, .str v7), (5, .val (.int .i64 (IntKind.wrap .i64 (v1 + 1)))), (6, .val (.bool true))]) (L' := []) (by kernel_rfl) (by kernel_rfl) ?_
          cases h
          exact hQ
        · replace h := if_f hb h
          refine Wp.skip ?_
          refine To.thenN ?_
          refine Wp.seq ?_
          refine Wp.seq ?_
          refine Wp.region hΓ [] [] [] [0, 1, 7, 8, 28] [1007] (K' := [(0, .str v0), (1, .val (.int .i64 v1)), (7, .row 1007), (8, .val (.int .u8 (((v0)[Int.toNat v1]?.getD 0).toNat : Int))), (28, .val (.bool ((((v0)[Int.toNat v1]?.getD 0).toNat : Int) != 92)))]) (L' := [(1007, 5, [.rowc false (α := UInt8) 0 e8 v7])]) (ob := []) (by kernel_rfl) AllP.nil ?_
          refine To.thenN ?_
          refine Wp.cond (b := ((((v0)[Int.toNat v1]?.getD 0).toNat : Int) != 92)) (by kernel_rfl) (fun hb => ?_) (fun hb => ?_)
          · replace h := if_t hb h
            refine Wp.seq ?_
            obtain ⟨hc1, h⟩ := chk_of h
            refine Wp.region hΓ [] [(2, .recs (α := UInt8) 0 e8 ([((v0)[Int.toNat v1]?.getD 0)])), (3, .recs (α := UInt8) 0 e8 (v7 ++ ([((v0)[Int.toNat v1]?.getD 0)] : List (UInt8))))] [] [0, 1, 7] [32] (K' := [(0, .str v0), (1, .val (.int .i64 v1)), (7, .row 32)]) (L' := [(32, 5, [.rowc false (α := UInt8) 0 e8 (v7 ++ ([((v0)[Int.toNat v1]?.getD 0)] : List (UInt8)))])]) (ob := [(MkOb 1 [.val (.int .u8 (((v0)[Int.toNat v1]?.getD 0).toNat : Int))] 1 (.recs (α := UInt8) 0 e8 ([((v0)[Int.toNat v1]?.getD 0)])) ∧ GoodR (.recs (α := UInt8) 0 e8 ([((v0)[Int.toNat v1]?.getD 0)]))), (decide ((List.length v7 + List.length ([((v0)[Int.toNat v1]?.getD 0)] : List (UInt8))) * (1 + 1) ≤ limit)) = true, (AppOb 0 e8 v7 (List.flatMap e8 ([((v0)[Int.toNat v1]?.getD 0)] : List (UInt8))) (List.length ([((v0)[Int.toNat v1]?.getD 0)] : List (UInt8))) (.recs (α := UInt8) 0 e8 (v7 ++ ([((v0)[Int.toNat v1]?.getD 0)] : List (UInt8)))) ∧ GoodR (.recs (α := UInt8) 0 e8 (v7 ++ ([((v0)[Int.toNat v1]?.getD 0)] : List (UInt8)))))]) (by kernel_rfl) (AllP.cons (mkOb (All8.cells (ns := [(((v0)[Int.toNat v1]?.getD 0).toNat : Int)]) (.cons rfl .nil)) rfl rfl (good8 _)) (AllP.cons hc1 (AllP.cons (appOb rfl rfl (good8 _)) AllP.nil))) ?_
            refine To.thenN ?_
            refine Wp.seq ?_
            refine Wp.region hΓ [] [] [] [0, 1, 7] [32] (K' := [(0, .str v0), (1, .val (.int .i64 (IntKind.wrap .i64 (v1 + 1)))), (7, .row 32)]) (L' := [(32, 5, [.rowc false (α := UInt8) 0 e8 (v7 ++ ([((v0)[Int.toNat v1]?.getD 0)] : List (UInt8)))])]) (ob := []) (by kernel_rfl) AllP.nil ?_
            refine To.thenN ?_
            refine Wp.exit ?_
            refine To.thenX ?_
            refine To.blockX ?_
            refine To.keep (kk := [0, 1, 7]) (kl := [32]) (K' := [(0, .str v0), (1, .val (.int .i64 (IntKind.wrap .i64 (v1 + 1)))), (7, .row 32)]) (L' := [(32, 5, [.rowc false (α := UInt8) 0 e8 (v7 ++ ([((v0)[Int.toNat v1]?.getD 0)] : List (UInt8)))])]) (by kernel_rfl) (by kernel_rfl) ?_
            refine To.pre (St.rename 32 1007 (by decide) (K' := [(0, .str v0), (1, .val (.int .i64 (IntKind.wrap .i64 (v1 + 1)))), (7, .row 1007)]) (L' := [(1007, 5, [.rowc false (α := UInt8) 0 e8 (v7 ++ ([((v0)[Int.toNat v1]?.getD 0)] : List (UInt8)))])]) (by kernel_rfl) (by kernel_rfl) (by kernel_rfl)) ?_
            refine To.keep (kk := [0, 1, 7]) (kl := [1007]) (K' := [(0, .str v0), (1, .val (.int .i64 (IntKind.wrap .i64 (v1 + 1)))), (7, .row 1007)]) (L' := [(1007, 5, [.rowc false (α := UInt8) 0 e8 (v7 ++ ([((v0)[Int.toNat v1]?.getD 0)] : List (UInt8)))])]) (by kernel_rfl) (by kernel_rfl) ?_
            refine To.again ?_
            exact ih (IntKind.wrap .i64 (v1 + 1)) (v7 ++ ([((v0)[Int.toNat v1]?.getD 0)] : List (UInt8))) _ h hQ
          · replace h := if_f hb h
            refine Wp.skip ?_
            refine To.thenN ?_
            refine Wp.seq ?_
            refine Wp.seq ?_
            refine Wp.region hΓ [] [] [] [0, 1, 7, 39] [1007] (K' := [(0, .str v0), (1, .val (.int .i64 v1)), (7, .row 1007), (39, .val (.bool (decide ((IntKind.wrap .i64 (v1 + 1)) ≥ (List.length v0 : Int)))))]) (L' := [(1007, 5, [.rowc false (α := UInt8) 0 e8 v7])]) (ob := []) (by kernel_rfl) AllP.nil ?_
            refine To.thenN ?_
            refine Wp.cond (b := (decide ((IntKind.wrap .i64 (v1 + 1)) ≥ (List.length v0 : Int)))) (by kernel_rfl) (fun hb => ?_) (fun hb => ?_)
            · replace h := if_t hb h
              refine Wp.seq ?_
              refine Wp.region hΓ [] [] [] [4, 5, 6] [] (K' := [(4, .str []), (5, .val (.int .i64 0)), (6, .val (.bool false))]) (L' := []) (ob := []) (by kernel_rfl) AllP.nil ?_
              refine To.thenN ?_
              refine Wp.ret ?_
              refine To.thenR ?_
              refine To.blockR ?_
              refine To.thenR ?_
              refine To.keep (kk := [4, 5, 6]) (kl := []) (K' := [(4, .str []), (5, .val (.int .i64 0)), (6, .val (.bool false))]) (L' := []) (by kernel_rfl) (by kernel_rfl) ?_
              cases h
              exact hQ
            · replace h := if_f hb h
              refine Wp.skip ?_
              refine To.thenN ?_
              refine Wp.seq ?_
              obtain ⟨hc18, h⟩ := chk_of h
              refine Wp.region hΓ [] [] [] [0, 1, 7, 9] [1007] (K' := [(0, .str v0), (1, .val (.int .i64 v1)), (7, .row 1007), (9, .val (.int .u8 (((v0)[Int.toNat (IntKind.wrap .i64 (v1 + 1))]?.getD 0).toNat : Int)))]) (L' := [(1007, 5, [.rowc false (α := UInt8) 0 e8 v7])]) (ob := [(decide (0 ≤ (IntKind.wrap .i64 (v1 + 1)) ∧ (IntKind.wrap .i64 (v1 + 1)) < (List.length v0 : Int))) = true]) (by kernel_rfl) (AllP.cons hc18 AllP.nil) ?_
              refine To.thenN ?_
              refine Wp.seq ?_
              obtain ⟨x2, hx2, h⟩ := lett_of h
              refine Wp.region hΓ [] [] [] [0, 1, 7, 9, 49] [1007] (K' := [(0, .str v0), (1, .val (.int .i64 v1)), (7, .row 1007), (9, .val (.int .u8 (((v0)[Int.toNat (IntKind.wrap .i64 (v1 + 1))]?.getD 0).toNat : Int))), (49, .val (.bool (bif ((((v0)[Int.toNat (IntKind.wrap .i64 (v1 + 1))]?.getD 0).toNat : Int) == 92) then true else ((((v0)[Int.toNat (IntKind.wrap .i64 (v1 + 1))]?.getD 0).toNat : Int) == 34))))]) (L' := [(1007, 5, [.rowc false (α := UInt8) 0 e8 v7])]) (ob := []) (by kernel_rfl) AllP.nil ?_
              refine To.eq (K' := [(0, .str v0), (1, .val (.int .i64 v1)), (7, .row 1007), (9, .val (.int .u8 (((v0)[Int.toNat (IntKind.wrap .i64 (v1 + 1))]?.getD 0).toNat : Int))), (49, .val (.bool x2))]) (L' := [(1007, 5, [.rowc false (α := UInt8) 0 e8 v7])]) (by cases hx2; rfl) (by cases hx2; rfl) ?_
              refine To.thenN ?_
              refine Wp.cond (b := x2) (by kernel_rfl) (fun hb => ?_) (fun hb => ?_)
              · replace h := if_t hb h
                refine Wp.seq ?_
                obtain ⟨hc3, h⟩ := chk_of h
                refine Wp.region hΓ [] [(2, .recs (α := UInt8) 0 e8 ([((v0)[Int.toNat (IntKind.wrap .i64 (v1 + 1))]?.getD 0)])), (3, .recs (α := UInt8) 0 e8 (v7 ++ ([((v0)[Int.toNat (IntKind.wrap .i64 (v1 + 1))]?.getD 0)] : List (UInt8))))] [] [0, 1, 7] [53] (K' := [(0, .str v0), (1, .val (.int .i64 v1)), (7, .row 53)]) (L' := [(53, 5, [.rowc false (α := UInt8) 0 e8 (v7 ++ ([((v0)[Int.toNat (IntKind.wrap .i64 (v1 + 1))]?.getD 0)] : List (UInt8)))])]) (ob := [(MkOb 1 [.val (.int .u8 (((v0)[Int.toNat (IntKind.wrap .i64 (v1 + 1))]?.getD 0).toNat : Int))] 1 (.recs (α := UInt8) 0 e8 ([((v0)[Int.toNat (IntKind.wrap .i64 (v1 + 1))]?.getD 0)])) ∧ GoodR (.recs (α := UInt8) 0 e8 ([((v0)[Int.toNat (IntKind.wrap .i64 (v1 + 1))]?.getD 0)]))), (decide ((List.length v7 + List.length ([((v0)[Int.toNat (IntKind.wrap .i64 (v1 + 1))]?.getD 0)] : List (UInt8))) * (1 + 1) ≤ limit)) = true, (AppOb 0 e8 v7 (List.flatMap e8 ([((v0)[Int.toNat (IntKind.wrap .i64 (v1 + 1))]?.getD 0)] : List (UInt8))) (List.length ([((v0)[Int.toNat (IntKind.wrap .i64 (v1 + 1))]?.getD 0)] : List (UInt8))) (.recs (α := UInt8) 0 e8 (v7 ++ ([((v0)[Int.toNat (IntKind.wrap .i64 (v1 + 1))]?.getD 0)] : List (UInt8)))) ∧ GoodR (.recs (α := UInt8) 0 e8 (v7 ++ ([((v0)[Int.toNat (IntKind.wrap .i64 (v1 + 1))]?.getD 0)] : List (UInt8)))))]) (by kernel_rfl) (AllP.cons (mkOb (All8.cells (ns := [(((v0)[Int.toNat (IntKind.wrap .i64 (v1 + 1))]?.getD 0).toNat : Int)]) (.cons rfl .nil)) rfl rfl (good8 _)) (AllP.cons hc3 (AllP.cons (appOb rfl rfl (good8 _)) AllP.nil))) ?_
                refine To.thenN ?_
                refine Wp.region hΓ [] [] [] [0, 1, 7] [53] (K' := [(0, .str v0), (1, .val (.int .i64 (IntKind.wrap .i64 (v1 + 2)))), (7, .row 53)]) (L' := [(53, 5, [.rowc false (α := UInt8) 0 e8 (v7 ++ ([((v0)[Int.toNat (IntKind.wrap .i64 (v1 + 1))]?.getD 0)] : List (UInt8)))])]) (ob := []) (by kernel_rfl) AllP.nil ?_
                refine To.blockN ?_
                refine To.keep (kk := [0, 1, 7]) (kl := [53]) (K' := [(0, .str v0), (1, .val (.int .i64 (IntKind.wrap .i64 (v1 + 2)))), (7, .row 53)]) (L' := [(53, 5, [.rowc false (α := UInt8) 0 e8 (v7 ++ ([((v0)[Int.toNat (IntKind.wrap .i64 (v1 + 1))]?.getD 0)] : List (UInt8)))])]) (by kernel_rfl) (by kernel_rfl) ?_
                refine To.pre (St.rename 53 1007 (by decide) (K' := [(0, .str v0), (1, .val (.int .i64 (IntKind.wrap .i64 (v1 + 2)))), (7, .row 1007)]) (L' := [(1007, 5, [.rowc false (α := UInt8) 0 e8 (v7 ++ ([((v0)[Int.toNat (IntKind.wrap .i64 (v1 + 1))]?.getD 0)] : List (UInt8)))])]) (by kernel_rfl) (by kernel_rfl) (by kernel_rfl)) ?_
                refine To.keep (kk := [0, 1, 7]) (kl := [1007]) (K' := [(0, .str v0), (1, .val (.int .i64 (IntKind.wrap .i64 (v1 + 2)))), (7, .row 1007)]) (L' := [(1007, 5, [.rowc false (α := UInt8) 0 e8 (v7 ++ ([((v0)[Int.toNat (IntKind.wrap .i64 (v1 + 1))]?.getD 0)] : List (UInt8)))])]) (by kernel_rfl) (by kernel_rfl) ?_
                refine To.again ?_
                exact ih (IntKind.wrap .i64 (v1 + 2)) (v7 ++ ([((v0)[Int.toNat (IntKind.wrap .i64 (v1 + 1))]?.getD 0)] : List (UInt8))) _ h hQ
              · replace h := if_f hb h
                refine Wp.seq ?_
                refine Wp.region hΓ [] [] [] [0, 1, 7, 9, 57] [1007] (K' := [(0, .str v0), (1, .val (.int .i64 v1)), (7, .row 1007), (9, .val (.int .u8 (((v0)[Int.toNat (IntKind.wrap .i64 (v1 + 1))]?.getD 0).toNat : Int))), (57, .val (.bool ((((v0)[Int.toNat (IntKind.wrap .i64 (v1 + 1))]?.getD 0).toNat : Int) == 110)))]) (L' := [(1007, 5, [.rowc false (α := UInt8) 0 e8 v7])]) (ob := []) (by kernel_rfl) AllP.nil ?_
                refine To.thenN ?_
                refine Wp.cond (b := ((((v0)[Int.toNat (IntKind.wrap .i64 (v1 + 1))]?.getD 0).toNat : Int) == 110)) (by kernel_rfl) (fun hb => ?_) (fun hb => ?_)
                · replace h := if_t hb h
                  refine Wp.seq ?_
                  obtain ⟨hc4, h⟩ := chk_of h
                  refine Wp.region hΓ [] [(1, .recs (α := UInt8) 0 e8 [10]), (2, .recs (α := UInt8) 0 e8 (v7 ++ ([10] : List (UInt8))))] [] [0, 1, 7] [60] (K' := [(0, .str v0), (1, .val (.int .i64 v1)), (7, .row 60)]) (L' := [(60, 5, [.rowc false (α := UInt8) 0 e8 (v7 ++ ([10] : List (UInt8)))])]) (ob := [(MkOb 1 [.val (.int .u8 10)] 1 (.recs (α := UInt8) 0 e8 [10]) ∧ GoodR (.recs (α := UInt8) 0 e8 [10])), (decide ((List.length v7 + List.length ([10] : List (UInt8))) * (1 + 1) ≤ limit)) = true, (AppOb 0 e8 v7 (List.flatMap e8 ([10] : List (UInt8))) (List.length ([10] : List (UInt8))) (.recs (α := UInt8) 0 e8 (v7 ++ ([10] : List (UInt8)))) ∧ GoodR (.recs (α := UInt8) 0 e8 (v7 ++ ([10] : List (UInt8)))))]) (by kernel_rfl) (AllP.cons (mkOb (All8.cells (ns := [10]) (.cons rfl .nil)) rfl rfl (good8 _)) (AllP.cons hc4 (AllP.cons (appOb rfl rfl (good8 _)) AllP.nil))) ?_
                  refine To.thenN ?_
                  refine Wp.region hΓ [] [] [] [0, 1, 7] [60] (K' := [(0, .str v0), (1, .val (.int .i64 (IntKind.wrap .i64 (v1 + 2)))), (7, .row 60)]) (L' := [(60, 5, [.rowc false (α := UInt8) 0 e8 (v7 ++ ([10] : List (UInt8)))])]) (ob := []) (by kernel_rfl) AllP.nil ?_
                  refine To.blockN ?_
                  refine To.keep (kk := [0, 1, 7]) (kl := [60]) (K' := [(0, .str v0), (1, .val (.int .i64 (IntKind.wrap .i64 (v1 + 2)))), (7, .row 60)]) (L' := [(60, 5, [.rowc false (α := UInt8) 0 e8 (v7 ++ ([10] : List (UInt8)))])]) (by kernel_rfl) (by kernel_rfl) ?_
                  refine To.pre (St.rename 60 1007 (by decide) (K' := [(0, .str v0), (1, .val (.int .i64 (IntKind.wrap .i64 (v1 + 2)))), (7, .row 1007)]) (L' := [(1007, 5, [.rowc false (α := UInt8) 0 e8 (v7 ++ ([10] : List (UInt8)))])]) (by kernel_rfl) (by kernel_rfl) (by kernel_rfl)) ?_
                  refine To.keep (kk := [0, 1, 7]) (kl := [1007]) (K' := [(0, .str v0), (1, .val (.int .i64 (IntKind.wrap .i64 (v1 + 2)))), (7, .row 1007)]) (L' := [(1007, 5, [.rowc false (α := UInt8) 0 e8 (v7 ++ ([10] : List (UInt8)))])]) (by kernel_rfl) (by kernel_rfl) ?_
                  refine To.again ?_
                  exact ih (IntKind.wrap .i64 (v1 + 2)) (v7 ++ ([10] : List (UInt8))) _ h hQ
                · replace h := if_f hb h
                  refine Wp.seq ?_
                  refine Wp.region hΓ [] [] [] [0, 1, 7, 9, 64] [1007] (K' := [(0, .str v0), (1, .val (.int .i64 v1)), (7, .row 1007), (9, .val (.int .u8 (((v0)[Int.toNat (IntKind.wrap .i64 (v1 + 1))]?.getD 0).toNat : Int))), (64, .val (.bool ((((v0)[Int.toNat (IntKind.wrap .i64 (v1 + 1))]?.getD 0).toNat : Int) == 116)))]) (L' := [(1007, 5, [.rowc false (α := UInt8) 0 e8 v7])]) (ob := []) (by kernel_rfl) AllP.nil ?_
                  refine To.thenN ?_
                  refine Wp.cond (b := ((((v0)[Int.toNat (IntKind.wrap .i64 (v1 + 1))]?.getD 0).toNat : Int) == 116)) (by kernel_rfl) (fun hb => ?_) (fun hb => ?_)
                  · replace h := if_t hb h
                    refine Wp.seq ?_
                    obtain ⟨hc5, h⟩ := chk_of h
                    refine Wp.region hΓ [] [(1, .recs (α := UInt8) 0 e8 [9]), (2, .recs (α := UInt8) 0 e8 (v7 ++ ([9] : List (UInt8))))] [] [0, 1, 7] [67] (K' := [(0, .str v0), (1, .val (.int .i64 v1)), (7, .row 67)]) (L' := [(67, 5, [.rowc false (α := UInt8) 0 e8 (v7 ++ ([9] : List (UInt8)))])]) (ob := [(MkOb 1 [.val (.int .u8 9)] 1 (.recs (α := UInt8) 0 e8 [9]) ∧ GoodR (.recs (α := UInt8) 0 e8 [9])), (decide ((List.length v7 + List.length ([9] : List (UInt8))) * (1 + 1) ≤ limit)) = true, (AppOb 0 e8 v7 (List.flatMap e8 ([9] : List (UInt8))) (List.length ([9] : List (UInt8))) (.recs (α := UInt8) 0 e8 (v7 ++ ([9] : List (UInt8)))) ∧ GoodR (.recs (α := UInt8) 0 e8 (v7 ++ ([9] : List (UInt8)))))]) (by kernel_rfl) (AllP.cons (mkOb (All8.cells (ns := [9]) (.cons rfl .nil)) rfl rfl (good8 _)) (AllP.cons hc5 (AllP.cons (appOb rfl rfl (good8 _)) AllP.nil))) ?_
                    refine To.thenN ?_
                    refine Wp.region hΓ [] [] [] [0, 1, 7] [67] (K' := [(0, .str v0), (1, .val (.int .i64 (IntKind.wrap .i64 (v1 + 2)))), (7, .row 67)]) (L' := [(67, 5, [.rowc false (α := UInt8) 0 e8 (v7 ++ ([9] : List (UInt8)))])]) (ob := []) (by kernel_rfl) AllP.nil ?_
                    refine To.blockN ?_
                    refine To.keep (kk := [0, 1, 7]) (kl := [67]) (K' := [(0, .str v0), (1, .val (.int .i64 (IntKind.wrap .i64 (v1 + 2)))), (7, .row 67)]) (L' := [(67, 5, [.rowc false (α := UInt8) 0 e8 (v7 ++ ([9] : List (UInt8)))])]) (by kernel_rfl) (by kernel_rfl) ?_
                    refine To.pre (St.rename 67 1007 (by decide) (K' := [(0, .str v0), (1, .val (.int .i64 (IntKind.wrap .i64 (v1 + 2)))), (7, .row 1007)]) (L' := [(1007, 5, [.rowc false (α := UInt8) 0 e8 (v7 ++ ([9] : List (UInt8)))])]) (by kernel_rfl) (by kernel_rfl) (by kernel_rfl)) ?_
                    refine To.keep (kk := [0, 1, 7]) (kl := [1007]) (K' := [(0, .str v0), (1, .val (.int .i64 (IntKind.wrap .i64 (v1 + 2)))), (7, .row 1007)]) (L' := [(1007, 5, [.rowc false (α := UInt8) 0 e8 (v7 ++ ([9] : List (UInt8)))])]) (by kernel_rfl) (by kernel_rfl) ?_
                    refine To.again ?_
                    exact ih (IntKind.wrap .i64 (v1 + 2)) (v7 ++ ([9] : List (UInt8))) _ h hQ
                  · replace h := if_f hb h
                    refine Wp.seq ?_
                    obtain ⟨hc16, h⟩ := chk_of h
                    obtain ⟨r6, hr6, h⟩ := lett_of h
                    obtain ⟨hc17, h⟩ := chk_of h
                    obtain ⟨r7, hr7, h⟩ := lett_of h
                    obtain ⟨x8, hx8, h⟩ := lett_of h
                    refine Wp.region hΓ [] [(14, .val (.int .i64 r6)), (22, .val (.int .i64 r7))] [] [0, 1, 7, 94] [1007] (K' := [(0, .str v0), (1, .val (.int .i64 v1)), (7, .row 1007), (94, .val (.bool (bif (bif (bif ((((v0)[Int.toNat (IntKind.wrap .i64 (v1 + 1))]?.getD 0).toNat : Int) == 120) then (decide ((IntKind.wrap .i64 (v1 + 3)) < (List.length v0 : Int))) else false) then (decide (r6 < 16)) else false) then (decide (r7 < 16)) else false)))]) (L' := [(1007, 5, [.rowc false (α := UInt8) 0 e8 v7])]) (ob := [(!((bif ((((v0)[Int.toNat (IntKind.wrap .i64 (v1 + 1))]?.getD 0).toNat : Int) == 120) then (decide ((IntKind.wrap .i64 (v1 + 3)) < (List.length v0 : Int))) else false) == true) || decide (0 ≤ (IntKind.wrap .i64 (v1 + 2)) ∧ (IntKind.wrap .i64 (v1 + 2)) < (List.length v0 : Int))) = true, (((bif ((((v0)[Int.toNat (IntKind.wrap .i64 (v1 + 1))]?.getD 0).toNat : Int) == 120) then (decide ((IntKind.wrap .i64 (v1 + 3)) < (List.length v0 : Int))) else false) == true) = true → CX Tryd.prog 58 [.val (.int .u8 (((v0)[Int.toNat (IntKind.wrap .i64 (v1 + 2))]?.getD 0).toNat : Int))] (.val (.int .i64 r6))), (!((bif (bif ((((v0)[Int.toNat (IntKind.wrap .i64 (v1 + 1))]?.getD 0).toNat : Int) == 120) then (decide ((IntKind.wrap .i64 (v1 + 3)) < (List.length v0 : Int))) else false) then (decide (r6 < 16)) else false) == true) || decide (0 ≤ (IntKind.wrap .i64 (v1 + 3)) ∧ (IntKind.wrap .i64 (v1 + 3)) < (List.length v0 : Int))) = true, (((bif (bif ((((v0)[Int.toNat (IntKind.wrap .i64 (v1 + 1))]?.getD 0).toNat : Int) == 120) then (decide ((IntKind.wrap .i64 (v1 + 3)) < (List.length v0 : Int))) else false) then (decide (r6 < 16)) else false) == true) = true → CX Tryd.prog 58 [.val (.int .u8 (((v0)[Int.toNat (IntKind.wrap .i64 (v1 + 3))]?.getD 0).toNat : Int))] (.val (.int .i64 r7)))]) (by kernel_rfl) (AllP.cons hc16 (AllP.cons (fun _ => cx (ok_ref06_value (((v0)[Int.toNat (IntKind.wrap .i64 (v1 + 2))]?.getD 0).toNat : Int) _ hr6)) (AllP.cons hc17 (AllP.cons (fun _ => cx (ok_ref06_value (((v0)[Int.toNat (IntKind.wrap .i64 (v1 + 3))]?.getD 0).toNat : Int) _ hr7)) AllP.nil)))) ?_
                    refine To.eq (K' := [(0, .str v0), (1, .val (.int .i64 v1)), (7, .row 1007), (94, .val (.bool x8))]) (L' := [(1007, 5, [.rowc false (α := UInt8) 0 e8 v7])]) (by cases hx8; rfl) (by cases hx8; rfl) ?_
                    refine To.thenN ?_
                    refine Wp.cond (b := x8) (by kernel_rfl) (fun hb => ?_) (fun hb => ?_)
                    · replace h := if_t hb h
                      refine Wp.seq ?_
                      obtain ⟨hc13, h⟩ := chk_of h
                      obtain ⟨r9, hr9, h⟩ := lett_of h
                      obtain ⟨hc14, h⟩ := chk_of h
                      obtain ⟨r10, hr10, h⟩ := lett_of h
                      obtain ⟨u11, h⟩ := chk_of h
                      obtain ⟨hc15, h⟩ := chk_of h
                      obtain ⟨x12, hx12, h⟩ := lett_of h
                      refine Wp.regionD hm hΓ [(5, .val (.int .i64 r9)), (11, .val (.int .i64 r10)), (14, .recs (α := UInt8) 0 e8 [(UInt8.ofNat (Int.toNat (IntKind.wrap .u8 ((IntKind.wrap .i64 ((IntKind.wrap .i64 (r9 * 16)) + r10))))))]), (15, .row 110), (1015, .recs (α := UInt8) 0 e8 (v7 ++ ([(UInt8.ofNat (Int.toNat (IntKind.wrap .u8 ((IntKind.wrap .i64 ((IntKind.wrap .i64 (r9 * 16)) + r10))))))] : List (UInt8))))] [0, 1, 7] [110] (K' := [(0, .str v0), (1, .val (.int .i64 v1)), (7, .row 110)]) (L' := [(110, 5, [.rowc false (α := UInt8) 0 e8 (v7 ++ ([(UInt8.ofNat (Int.toNat (IntKind.wrap .u8 ((IntKind.wrap .i64 ((IntKind.wrap .i64 (r9 * 16)) + r10))))))] : List (UInt8)))])]) (ob := [(decide (0 ≤ (IntKind.wrap .i64 (v1 + 2)) ∧ (IntKind.wrap .i64 (v1 + 2)) < (List.length v0 : Int))) = true, (true = true → CX Tryd.prog 58 [.val (.int .u8 (((v0)[Int.toNat (IntKind.wrap .i64 (v1 + 2))]?.getD 0).toNat : Int))] (.val (.int .i64 r9))), (decide (0 ≤ (IntKind.wrap .i64 (v1 + 3)) ∧ (IntKind.wrap .i64 (v1 + 3)) < (List.length v0 : Int))) = true, (true = true → CX Tryd.prog 58 [.val (.int .u8 (((v0)[Int.toNat (IntKind.wrap .i64 (v1 + 3))]?.getD 0).toNat : Int))] (.val (.int .i64 r10))), (true = true → MkOb 1 [.val (.int .u8 (IntKind.wrap .u8 ((IntKind.wrap .i64 ((IntKind.wrap .i64 (r9 * 16)) + r10)))))] 1 (.recs (α := UInt8) 0 e8 [(UInt8.ofNat (Int.toNat (IntKind.wrap .u8 ((IntKind.wrap .i64 ((IntKind.wrap .i64 (r9 * 16)) + r10))))))]) ∧ GoodR (.recs (α := UInt8) 0 e8 [(UInt8.ofNat (Int.toNat (IntKind.wrap .u8 ((IntKind.wrap .i64 ((IntKind.wrap .i64 (r9 * 16)) + r10))))))])), (decide ((List.length v7 + List.length ([(UInt8.ofNat (Int.toNat (IntKind.wrap .u8 ((IntKind.wrap .i64 ((IntKind.wrap .i64 (r9 * 16)) + r10))))))] : List (UInt8))) * (1 + 1) ≤ limit)) = true, (AppOb 0 e8 v7 (List.flatMap e8 ([(UInt8.ofNat (Int.toNat (IntKind.wrap .u8 ((IntKind.wrap .i64 ((IntKind.wrap .i64 (r9 * 16)) + r10))))))] : List (UInt8))) (List.length ([(UInt8.ofNat (Int.toNat (IntKind.wrap .u8 ((IntKind.wrap .i64 ((IntKind.wrap .i64 (r9 * 16)) + r10))))))] : List (UInt8))) (.recs (α := UInt8) 0 e8 (v7 ++ ([(UInt8.ofNat (Int.toNat (IntKind.wrap .u8 ((IntKind.wrap .i64 ((IntKind.wrap .i64 (r9 * 16)) + r10))))))] : List (UInt8)))) ∧ GoodR (.recs (α := UInt8) 0 e8 (v7 ++ ([(UInt8.ofNat (Int.toNat (IntKind.wrap .u8 ((IntKind.wrap .i64 ((IntKind.wrap .i64 (r9 * 16)) + r10))))))] : List (UInt8)))))]) (by kernel_rfl) (AllP.cons hc13 (AllP.cons (fun _ => cx (ok_ref06_value (((v0)[Int.toNat (IntKind.wrap .i64 (v1 + 2))]?.getD 0).toNat : Int) _ hr9)) (AllP.cons hc14 (AllP.cons (fun _ => cx (ok_ref06_value (((v0)[Int.toNat (IntKind.wrap .i64 (v1 + 3))]?.getD 0).toNat : Int) _ hr10)) (AllP.cons (fun _ => mkOb (All8.cells (ns := [(IntKind.wrap .u8 ((IntKind.wrap .i64 ((IntKind.wrap .i64 (r9 * 16)) + r10))))]) (.cons (u8_of u11) .nil)) rfl rfl (good8 _)) (AllP.cons hc15 (AllP.cons (appOb rfl rfl (good8 _)) AllP.nil))))))) ?_
                      refine To.eq (K' := [(0, .str v0), (1, .val (.int .i64 v1)), (7, .row 110)]) (L' := [(110, 5, [.rowc false (α := UInt8) 0 e8 x12])]) (by cases hx12; rfl) (by cases hx12; rfl) ?_
                      refine To.thenN ?_
                      refine Wp.region hΓ [] [] [] [0, 1, 7] [110] (K' := [(0, .str v0), (1, .val (.int .i64 (IntKind.wrap .i64 (v1 + 4)))), (7, .row 110)]) (L' := [(110, 5, [.rowc false (α := UInt8) 0 e8 x12])]) (ob := []) (by kernel_rfl) AllP.nil ?_
                      refine To.blockN ?_
                      refine To.keep (kk := [0, 1, 7]) (kl := [110]) (K' := [(0, .str v0), (1, .val (.int .i64 (IntKind.wrap .i64 (v1 + 4)))), (7, .row 110)]) (L' := [(110, 5, [.rowc false (α := UInt8) 0 e8 x12])]) (by kernel_rfl) (by kernel_rfl) ?_
                      refine To.pre (St.rename 110 1007 (by decide) (K' := [(0, .str v0), (1, .val (.int .i64 (IntKind.wrap .i64 (v1 + 4)))), (7, .row 1007)]) (L' := [(1007, 5, [.rowc false (α := UInt8) 0 e8 x12])]) (by kernel_rfl) (by kernel_rfl) (by kernel_rfl)) ?_
                      refine To.keep (kk := [0, 1, 7]) (kl := [1007]) (K' := [(0, .str v0), (1, .val (.int .i64 (IntKind.wrap .i64 (v1 + 4)))), (7, .row 1007)]) (L' := [(1007, 5, [.rowc false (α := UInt8) 0 e8 x12])]) (by kernel_rfl) (by kernel_rfl) ?_
                      refine To.again ?_
                      exact ih (IntKind.wrap .i64 (v1 + 4)) x12 _ h hQ
                    · replace h := if_f hb h
                      refine Wp.seq ?_
                      refine Wp.region hΓ [] [] [] [4, 5, 6] [] (K' := [(4, .str []), (5, .val (.int .i64 0)), (6, .val (.bool false))]) (L' := []) (ob := []) (by kernel_rfl) AllP.nil ?_
                      refine To.thenN ?_
                      refine Wp.ret ?_
                      refine To.blockR ?_
                      refine To.thenR ?_
                      refine To.keep (kk := [4, 5, 6]) (kl := []) (K' := [(4, .str []), (5, .val (.int .i64 0)), (6, .val (.bool false))]) (L' := []) (by kernel_rfl) (by kernel_rfl) ?_
                      cases h
                      exact hQ
    · replace h := if_f hb h
      refine Wp.exit ?_
      refine To.thenX ?_
      refine To.thenX ?_
      refine To.keep (kk := []) (kl := []) (K' := []) (L' := []) (by kernel_rfl) (by kernel_rfl) ?_
      cases h
      exact hQ
def ref06_double (n : Nat) (a0 : List UInt8) (a1 : Int) : Option ((List UInt8) × Int × Bool) :=
  (ref06_double_l1 n a0 n a1 ([] : List (UInt8))).bind fun o1 =>
  (Sum.elim (fun o1 => some ([], 0, false)) (fun o1 => some (o1.1, o1.2.1, o1.2.2))) o1
theorem ok_ref06_double (n : Nat) (a0 : List UInt8) (a1 : Int) (r : (List UInt8) × Int × Bool) (h : ref06_double n a0 a1 = some r) : CallsX Tryd.prog 44 [.str a0, .val (.int .i64 a1)] (.tup [.str r.1, .val (.int .i64 r.2.1), .val (.bool r.2.2)]) := by
  unfold ref06_double at h
  refine callsX_of (fn := Tryd.f44) (by kernel_rfl) rfl (by kernel_rfl) (Nat.le_of_ble_eq_true (by kernel_rfl)) fun F0 w0 _ => ?_
  refine Wp.keep (kk := [0, 1]) (kl := []) (K' := [(0, .str a0), (1, .val (.int .i64 a1))]) (L' := []) (by kernel_rfl) (by kernel_rfl) ?_
  refine Wp.seq ?_
  refine Wp.region hΓ [] [] [] [0, 1] [] (K' := [(0, .str a0), (1, .val (.int .i64 a1))]) (L' := []) (ob := []) (by kernel_rfl) AllP.nil ?_
  refine To.thenN ?_
  refine Wp.seq ?_
  refine Wp.region hΓ [] [(0, .recs (α := UInt8) 0 e8 [])] [] [0, 1, 7] [10] (K' := [(0, .str a0), (1, .val (.int .i64 a1)), (7, .row 10)]) (L' := [(10, 5, [.rowc false (α := UInt8) 0 e8 []])]) (ob := [(MkOb 1 [] 0 (.recs (α := UInt8) 0 e8 []) ∧ GoodR (.recs (α := UInt8) 0 e8 []))]) (by kernel_rfl) (AllP.cons (mkOb (All8.cells (ns := []) .nil) rfl rfl (good8 _)) AllP.nil) ?_
  refine To.thenN ?_
  refine Wp.seq ?_
  refine Wp.block ?_
  obtain ⟨o1, ho1, h⟩ := bind_of h
  refine Wp.keep (kk := [0, 1, 7]) (kl := [10]) (K' := [(0, .str a0), (1, .val (.int .i64 a1)), (7, .row 10)]) (L' := [(10, 5, [.rowc false (α := UInt8) 0 e8 []])]) (by kernel_rfl) (by kernel_rfl) ?_
  refine Wp.pre (St.rename 10 1007 (by decide) (K' := [(0, .str a0), (1, .val (.int .i64 a1)), (7, .row 1007)]) (L' := [(1007, 5, [.rowc false (α := UInt8) 0 e8 []])]) (by kernel_rfl) (by kernel_rfl) (by kernel_rfl)) ?_
  refine Wp.keep (kk := [0, 1, 7]) (kl := [1007]) (K' := [(0, .str a0), (1, .val (.int .i64 a1)), (7, .row 1007)]) (L' := [(1007, 5, [.rowc false (α := UInt8) 0 e8 []])]) (by kernel_rfl) (by kernel_rfl) ?_
  refine Wp.loopL ?_
  refine ok_ref06_double_l1 n a0 n a1 ([] : List (UInt8)) o1 ho1 ?_
  rcases o1 with o1 | o1
  · replace h := sum_l h
    refine To.blockX ?_
    refine To.thenN ?_
    refine Wp.seq ?_
    refine Wp.region hΓ [] [] [] [4, 5, 6] [] (K' := [(4, .str []), (5, .val (.int .i64 0)), (6, .val (.bool false))]) (L' := []) (ob := []) (by kernel_rfl) AllP.nil ?_
    refine To.thenN ?_
    refine Wp.ret ?_
    refine To.keep (kk := [4, 5, 6]) (kl := []) (K' := [(4, .str []), (5, .val (.int .i64 0)), (6, .val (.bool false))]) (L' := []) (by kernel_rfl) (by kernel_rfl) ?_
    cases h
    exact To.done hΓ (by kernel_rfl)
  · replace h := sum_r h
    refine To.blockR ?_
    refine To.thenR ?_
    refine To.keep (kk := [4, 5, 6]) (kl := []) (K' := [(4, .str o1.1), (5, .val (.int .i64 o1.2.1)), (6, .val (.bool o1.2.2))]) (L' := []) (by kernel_rfl) (by kernel_rfl) ?_
    cases h
    exact To.done hΓ (by kernel_rfl)
def ref06_single_j2 (n : Nat) (v0 : List UInt8) (v1 : Int) (v7 : List (UInt8)) (v21 : Bool) : Option (Sum (Int) ((List UInt8) × Int × Bool)) :=
  if v21 = true then (if ((!((decide ((IntKind.wrap .i64 (v1 + 1)) ≥ (List.length v0 : Int))) == false) || decide (0 ≤ (IntKind.wrap .i64 (v1 + 1)) ∧ (IntKind.wrap .i64 (v1 + 1)) < (List.length v0 : Int)))) = true then (lett ((bif (decide ((IntKind.wrap .i64 (v1 + 1)) ≥ (List.length v0 : Int))) then true else ((((v0)[Int.toNat (IntKind.wrap .i64 (v1 + 1))]?.getD 0).toNat : Int) != 39)) : Bool) fun x1 =>
  if x1 = true then (some (.inr (v7, (IntKind.wrap .i64 (v1 + 1)), true)))
  else (some (.inl (IntKind.wrap .i64 (v1 + 1))))) else none)
  else (some (.inl v1))
theorem ok_ref06_single_j2 (n : Nat) (v0 : List UInt8) (v1 : Int) (v7 : List (UInt8)) (v21 : Bool) (o : Sum (Int) ((List UInt8) × Int × Bool)) (h : ref06_single_j2 n v0 v1 v7 v21 = some o) {F0 : Fz} {w0 : Pt Tryd.prog} {Q : Exit → Act → World → Prop} (hQ : (Sum.elim (fun s => To 48 F0 w0 [(0, .str v0), (1, .val (.int .i64 s)), (7, .row 1007)] [(1007, 5, [.rowc false (α := UInt8) 0 e8 v7])] .normal Q) (fun s => To 48 F0 w0 [(4, .str s.1), (5, .val (.int .i64 s.2.1)), (6, .val (.bool s.2.2))] [] .ret Q)) o) : Wp Tryd.prog 48 F0 w0 [(0, .str v0), (1, .val (.int .i64 v1)), (7, .row 1007), (21, .val (.bool v21))] [(1007, 5, [.rowc false (α := UInt8) 0 e8 v7])] (cB (cA (cB (cI (cB (cI (cI (cA (cB (cB (cF Tryd.f45))))))))))) Q := by
  unfold ref06_single_j2 at h
  refine Wp.cond (b := v21) (by kernel_rfl) (fun hb => ?_) (fun hb => ?_)
  · replace h := if_t hb h
    refine Wp.seq ?_
    refine Wp.seq ?_
    obtain ⟨hc2, h⟩ := chk_of h
    obtain ⟨x1, hx1, h⟩ := lett_of h
    refine Wp.region hΓ [] [] [] [0, 1, 7, 33] [1007] (K' := [(0, .str v0), (1, .val (.int .i64 v1)), (7, .row 1007), (33, .val (.bool (bif (decide ((IntKind.wrap .i64 (v1 + 1)) ≥ (List.length v0 : Int))) then true else ((((v0)[Int.toNat (IntKind.wrap .i64 (v1 + 1))]?.getD 0).toNat : Int) != 39))))]) (L' := [(1007, 5, [.rowc false (α := UInt8) 0 e8 v7])]) (ob := [(!((decide ((IntKind.wrap .i64 (v1 + 1)) ≥ (List.length v0 : Int))) == false) || decide (0 ≤ (IntKind.wrap .i64 (v1 + 1)) ∧ (IntKind.wrap .i64 (v1 + 1)) < (List.length v0 : Int))) = true]) (by kernel_rfl) (AllP.cons hc2 AllP.nil) ?_
    refine To.eq (K' := [(0, .str v0), (1, .val (.int .i64 v1)), (7, .row 1007), (33, .val (.bool x1))]) (L' := [(1007, 5, [.rowc false (α := UInt8) 0 e8 v7])]) (by cases hx1; rfl) (by cases hx1; rfl) ?_
    refine To.thenN ?_
    refine Wp.cond (b := x1) (by kernel_rfl) (fun hb => ?_) (fun hb => ?_)
    · replace h := if_t hb h
      refine Wp.seq ?_
      refine Wp.region hΓ [] [(1, .str v7)] [] [4, 5, 6] [] (K' := [(4, .str v7), (5, .val (.int .i64 (IntKind.wrap .i64 (v1 + 1)))), (6, .val (.bool true))]) (L' := []) (ob := [(true = true → StrOb (List.flatMap e8 v7) (.str v7))]) (by kernel_rfl) (AllP.cons (fun _ => strOb (flat8 _)) AllP.nil) ?_
      refine To.thenN ?_
      refine Wp.ret ?_
      refine To.thenR ?_
      refine To.keep (kk := [4, 5, 6]) (kl := []) (K' := [(4, .str v7), (5, .val (.int .i64 (IntKind.wrap .i64 (v1 + 1)))), (6, .val (.bool true))]) (L' := []) (by kernel_rfl) (by kernel_rfl) ?_
      cases h
      exact hQ
    · replace h := if_f hb h
      refine Wp.skip ?_
      refine To.thenN ?_
      refine Wp.region hΓ [] [] [] [0, 1, 7] [1007] (K' := [(0, .str v0), (1, .val (.int .i64 (IntKind.wrap .i64 (v1 + 1)))), (7, .row 1007)]) (L' := [(1007, 5, [.rowc false (α := UInt8) 0 e8 v7])]) (ob := []) (by kernel_rfl) AllP.nil ?_
      refine To.keep (kk := [0, 1, 7]) (kl := [1007]) (K' := [(0, .str v0), (1, .val (.int .i64 (IntKind.wrap .i64 (v1 + 1)))), (7, .row 1007)]) (L' := [(1007, 5, [.rowc false (α := UInt8) 0 e8 v7])]) (by kernel_rfl) (by kernel_rfl) ?_
      cases h
      exact hQ
  · replace h := if_f hb h
    refine Wp.skip ?_
    refine To.keep (kk := [0, 1, 7]) (kl := [1007]) (K' := [(0, .str v0), (1, .val (.int .i64 v1)), (7, .row 1007)]) (L' := [(1007, 5, [.rowc false (α := UInt8) 0 e8 v7])]) (by kernel_rfl) (by kernel_rfl) ?_
    cases h
    exact hQ
def ref06_single_l1 (n : Nat) (v0 : List UInt8) : Nat → Int → (List (UInt8)) → Option (Sum (Unit) ((List UInt8) × Int × Bool))
  | 0, _, _ => none
  | k + 1, v1, v7 => if (decide (v1 < (List.length v0 : Int))) = true then (if (decide (0 ≤ v1 ∧ v1 < (List.length v0 : Int))) = true then (if (!(ref06_Good (((v0)[Int.toNat v1]?.getD 0).toNat : Int))) = true then (some (.inr ([], 0, false)))
  else (if (decide (0 ≤ v1 ∧ v1 < (List.length v0 : Int))) = true then ((ref06_single_j2 n v0 v1 v7 ((((v0)[Int.toNat v1]?.getD 0).toNat : Int) == 39)).bind fun o1 =>
  (Sum.elim (fun o1 => if (decide (0 ≤ o1 ∧ o1 < (List.length v0 : Int))) = true then (if (decide ((List.length v7 + List.length ([((v0)[Int.toNat o1]?.getD 0)] : List (UInt8))) * (1 + 1) ≤ limit)) = true then (ref06_single_l1 n v0 k (IntKind.wrap .i64 (o1 + 1)) (v7 ++ ([((v0)[Int.toNat o1]?.getD 0)] : List (UInt8)))) else none) else none) (fun o1 => some (.inr (o1.1, o1.2.1, o1.2.2)))) o1) else none)) else none)
  else (some (.inl ()))
theorem ok_ref06_single_l1 (n : Nat) (v0 : List UInt8) {F0 : Fz} {w0 : Pt Tryd.prog} {Q : Exit → Act → World → Prop} (k : Nat) : ∀ (v1 : Int) (v7 : List (UInt8)) (o : Sum (Unit) ((List UInt8) × Int × Bool)), ref06_single_l1 n v0 k v1 v7 = some o → (Sum.elim (fun s => To 48 F0 w0 [] [] (.exit 0) Q) (fun s => To 48 F0 w0 [(4, .str s.1), (5, .val (.int .i64 s.2.1)), (6, .val (.bool s.2.2))] [] .ret Q)) o → WL Tryd.prog 48 F0 w0 [(0, .str v0), (1, .val (.int .i64 v1)), (7, .row 1007)] [(1007, 5, [.rowc false (α := UInt8) 0 e8 v7])] (cI (cI (cA (cB (cB (cF Tryd.f45)))))) Q := by
  induction k with
  | zero => intro v1 v7 o h; cases h
  | succ k ih =>
    intro v1 v7 o h hQ
    rw [ref06_single_l1] at h
    refine WL.round ?_
    refine Wp.seq ?_
    refine Wp.seq ?_
    refine Wp.region hΓ [] [] [] [0, 1, 7, 12] [1007] (K' := [(0, .str v0), (1, .val (.int .i64 v1)), (7, .row 1007), (12, .val (.bool (decide (v1 < (List.length v0 : Int)))))]) (L' := [(1007, 5, [.rowc false (α := UInt8) 0 e8 v7])]) (ob := []) (by kernel_rfl) AllP.nil ?_
    refine To.thenN ?_
    refine Wp.cond (b := (decide (v1 < (List.length v0 : Int)))) (by kernel_rfl) (fun hb => ?_) (fun hb => ?_)
    · replace h := if_t hb h
      refine Wp.skip ?_
      refine To.thenN ?_
      refine Wp.block ?_
      refine Wp.seq ?_
      refine Wp.seq ?_
      obtain ⟨hc5, h⟩ := chk_of h
      refine Wp.region hΓ [] [(3, .val (.bool (ref06_Good (((v0)[Int.toNat v1]?.getD 0).toNat : Int))))] [] [0, 1, 7, 17] [1007] (K' := [(0, .str v0), (1, .val (.int .i64 v1)), (7, .row 1007), (17, .val (.bool (!(ref06_Good (((v0)[Int.toNat v1]?.getD 0).toNat : Int)))))]) (L' := [(1007, 5, [.rowc false (α := UInt8) 0 e8 v7])]) (ob := [(decide (0 ≤ v1 ∧ v1 < (List.length v0 : Int))) = true, (true = true → CX Tryd.prog 31 [.val (.int .u8 (((v0)[Int.toNat v1]?.getD 0).toNat : Int))] (.val (.bool (ref06_Good (((v0)[Int.toNat v1]?.getD 0).toNat : Int)))))]) (by kernel_rfl) (AllP.cons hc5 (AllP.cons (fun _ => cx (ok_ref06_Good (((v0)[Int.toNat v1]?.getD 0).toNat : Int) _ rfl)) AllP.nil)) ?_
      refine To.thenN ?_
      refine Wp.cond (b := (!(ref06_Good (((v0)[Int.toNat v1]?.getD 0).toNat : Int)))) (by kernel_rfl) (fun hb => ?_) (fun hb => ?_)
      · replace h := if_t hb h
        refine Wp.seq ?_
        refine Wp.region hΓ [] [] [] [4, 5, 6] [] (K' := [(4, .str []), (5, .val (.int .i64 0)), (6, .val (.bool false))]) (L' := []) (ob := []) (by kernel_rfl) AllP.nil ?_
        refine To.thenN ?_
        refine Wp.ret ?_
        refine To.thenR ?_
        refine To.blockR ?_
        refine To.thenR ?_
        refine To.keep (kk := [4, 5, 6]) (kl := []) (K' := [(4, .str []), (5, .val (.int .i64 0)), (6, .val (.bool false))]) (L' := []) (by kernel_rfl) (by kernel_rfl) ?_
        cases h
        exact hQ
      · replace h := if_f hb h
        refine Wp.skip ?_
        refine To.thenN ?_
        refine Wp.seq ?_
        refine Wp.seq ?_
        obtain ⟨hc4, h⟩ := chk_of h
        refine Wp.region hΓ [] [] [] [0, 1, 7, 21] [1007] (K' := [(0, .str v0), (1, .val (.int .i64 v1)), (7, .row 1007), (21, .val (.bool ((((v0)[Int.toNat v1]?.getD 0).toNat : Int) == 39)))]) (L' := [(1007, 5, [.rowc false (α := UInt8) 0 e8 v7])]) (ob := [(decide (0 ≤ v1 ∧ v1 < (List.length v0 : Int))) = true]) (by kernel_rfl) (AllP.cons hc4 AllP.nil) ?_
        refine To.thenN ?_
        obtain ⟨o1, ho1, h⟩ := bind_of h
        refine Wp.keep (kk := [0, 1, 7, 21]) (kl := [1007]) (K' := [(0, .str v0), (1, .val (.int .i64 v1)), (7, .row 1007), (21, .val (.bool ((((v0)[Int.toNat v1]?.getD 0).toNat : Int) == 39)))]) (L' := [(1007, 5, [.rowc false (α := UInt8) 0 e8 v7])]) (by kernel_rfl) (by kernel_rfl) ?_
        refine ok_ref06_single_j2 n v0 v1 v7 ((((v0)[Int.toNat v1]?.getD 0).toNat : Int) == 39) o1 ho1 ?_
        rcases o1 with o1 | o1
        · replace h := sum_l h
          refine To.thenN ?_
          refine Wp.seq ?_
          obtain ⟨hc2, h⟩ := chk_of h
          obtain ⟨hc3, h⟩ := chk_of h
          refine Wp.region hΓ [] [(4, .recs (α := UInt8) 0 e8 ([((v0)[Int.toNat o1]?.getD 0)])), (5, .recs (α := UInt8) 0 e8 (v7 ++ ([((v0)[Int.toNat o1]?.getD 0)] : List (UInt8))))] [] [0, 1, 7] [45] (K' := [(0, .str v0), (1, .val (.int .i64 o1)), (7, .row 45)]) (L' := [(45, 5, [.rowc false (α := UInt8) 0 e8 (v7 ++ ([((v0)[Int.toNat o1]?.getD 0)] : List (UInt8)))])]) (ob := [(decide (0 ≤ o1 ∧ o1 < (List.length v0 : Int))) = true, (MkOb 1 [.val (.int .u8 (((v0)[Int.toNat o1]?.getD 0).toNat : Int))] 1 (.recs (α := UInt8) 0 e8 ([((v0)[Int.toNat o1]?.getD 0)])) ∧ GoodR (.recs (α := UInt8) 0 e8 ([((v0)[Int.toNat o1]?.getD 0)]))), (decide ((List.length v7 + List.length ([((v0)[Int.toNat o1]?.getD 0)] : List (UInt8))) * (1 + 1) ≤ limit)) = true, (AppOb 0 e8 v7 (List.flatMap e8 ([((v0)[Int.toNat o1]?.getD 0)] : List (UInt8))) (List.length ([((v0)[Int.toNat o1]?.getD 0)] : List (UInt8))) (.recs (α := UInt8) 0 e8 (v7 ++ ([((v0)[Int.toNat o1]?.getD 0)] : List (UInt8)))) ∧ GoodR (.recs (α := UInt8) 0 e8 (v7 ++ ([((v0)[Int.toNat o1]?.getD 0)] : List (UInt8)))))]) (by kernel_rfl) (AllP.cons hc2 (AllP.cons (mkOb (All8.cells (ns := [(((v0)[Int.toNat o1]?.getD 0).toNat : Int)]) (.cons rfl .nil)) rfl rfl (good8 _)) (AllP.cons hc3 (AllP.cons (appOb rfl rfl (good8 _)) AllP.nil)))) ?_
          refine To.thenN ?_
          refine Wp.region hΓ [] [] [] [0, 1, 7] [45] (K' := [(0, .str v0), (1, .val (.int .i64 (IntKind.wrap .i64 (o1 + 1)))), (7, .row 45)]) (L' := [(45, 5, [.rowc false (α := UInt8) 0 e8 (v7 ++ ([((v0)[Int.toNat o1]?.getD 0)] : List (UInt8)))])]) (ob := []) (by kernel_rfl) AllP.nil ?_
          refine To.blockN ?_
          refine To.keep (kk := [0, 1, 7]) (kl := [45]) (K' := [(0, .str v0), (1, .val (.int .i64 (IntKind.wrap .i64 (o1 + 1)))), (7, .row 45)]) (L' := [(45, 5, [.rowc false (α := UInt8) 0 e8 (v7 ++ ([((v0)[Int.toNat o1]?.getD 0)] : List (UInt8)))])]) (by kernel_rfl) (by kernel_rfl) ?_
          refine To.pre (St.rename 45 1007 (by decide) (K' := [(0, .str v0), (1, .val (.int .i64 (IntKind.wrap .i64 (o1 + 1)))), (7, .row 1007)]) (L' := [(1007, 5, [.rowc false (α := UInt8) 0 e8 (v7 ++ ([((v0)[Int.toNat o1]?.getD 0)] : List (UInt8)))])]) (by kernel_rfl) (by kernel_rfl) (by kernel_rfl)) ?_
          refine To.keep (kk := [0, 1, 7]) (kl := [1007]) (K' := [(0, .str v0), (1, .val (.int .i64 (IntKind.wrap .i64 (o1 + 1)))), (7, .row 1007)]) (L' := [(1007, 5, [.rowc false (α := UInt8) 0 e8 (v7 ++ ([((v0)[Int.toNat o1]?.getD 0)] : List (UInt8)))])]) (by kernel_rfl) (by kernel_rfl) ?_
          refine To.again ?_
          exact ih (IntKind.wrap .i64 (o1 + 1)) (v7 ++ ([((v0)[Int.toNat o1]?.getD 0)] : List (UInt8))) _ h hQ
        · replace h := sum_r h
          refine To.thenR ?_
          refine To.blockR ?_
          refine To.thenR ?_
          refine To.keep (kk := [4, 5, 6]) (kl := []) (K' := [(4, .str o1.1), (5, .val (.int .i64 o1.2.1)), (6, .val (.bool o1.2.2))]) (L' := []) (by kernel_rfl) (by kernel_rfl) ?_
          cases h
          exact hQ
    · replace h := if_f hb h
      refine Wp.exit ?_
      refine To.thenX ?_
      refine To.thenX ?_
      refine To.keep (kk := []) (kl := []) (K' := []) (L' := []) (by kernel_rfl) (by kernel_rfl) ?_
      cases h
      exact hQ
def ref06_single (n : Nat) (a0 : List UInt8) (a1 : Int) : Option ((List UInt8) × Int × Bool) :=
  (ref06_single_l1 n a0 n a1 ([] : List (UInt8))).bind fun o1 =>
  (Sum.elim (fun o1 => some ([], 0, false)) (fun o1 => some (o1.1, o1.2.1, o1.2.2))) o1
theorem ok_ref06_single (n : Nat) (a0 : List UInt8) (a1 : Int) (r : (List UInt8) × Int × Bool) (h : ref06_single n a0 a1 = some r) : CallsX Tryd.prog 45 [.str a0, .val (.int .i64 a1)] (.tup [.str r.1, .val (.int .i64 r.2.1), .val (.bool r.2.2)]) := by
  unfold ref06_single at h
  refine callsX_of (fn := Tryd.f45) (by kernel_rfl) rfl (by kernel_rfl) (Nat.le_of_ble_eq_true (by kernel_rfl)) fun F0 w0 _ => ?_
  refine Wp.keep (kk := [0, 1]) (kl := []) (K' := [(0, .str a0), (1, .val (.int .i64 a1))]) (L' := []) (by kernel_rfl) (by kernel_rfl) ?_
  refine Wp.seq ?_
  refine Wp.region hΓ [] [] [] [0, 1] [] (K' := [(0, .str a0), (1, .val (.int .i64 a1))]) (L' := []) (ob := []) (by kernel_rfl) AllP.nil ?_
  refine To.thenN ?_
  refine Wp.seq ?_
  refine Wp.region hΓ [] [(0, .recs (α := UInt8) 0 e8 [])] [] [0, 1, 7] [8] (K' := [(0, .str a0), (1, .val (.int .i64 a1)), (7, .row 8)]) (L' := [(8, 5, [.rowc false (α := UInt8) 0 e8 []])]) (ob := [(MkOb 1 [] 0 (.recs (α := UInt8) 0 e8 []) ∧ GoodR (.recs (α := UInt8) 0 e8 []))]) (by kernel_rfl) (AllP.cons (mkOb (All8.cells (ns := []) .nil) rfl rfl (good8 _)) AllP.nil) ?_
  refine To.thenN ?_
  refine Wp.seq ?_
  refine Wp.block ?_
  obtain ⟨o1, ho1, h⟩ := bind_of h
  refine Wp.keep (kk := [0, 1, 7]) (kl := [8]) (K' := [(0, .str a0), (1, .val (.int .i64 a1)), (7, .row 8)]) (L' := [(8, 5, [.rowc false (α := UInt8) 0 e8 []])]) (by kernel_rfl) (by kernel_rfl) ?_
  refine Wp.pre (St.rename 8 1007 (by decide) (K' := [(0, .str a0), (1, .val (.int .i64 a1)), (7, .row 1007)]) (L' := [(1007, 5, [.rowc false (α := UInt8) 0 e8 []])]) (by kernel_rfl) (by kernel_rfl) (by kernel_rfl)) ?_
  refine Wp.keep (kk := [0, 1, 7]) (kl := [1007]) (K' := [(0, .str a0), (1, .val (.int .i64 a1)), (7, .row 1007)]) (L' := [(1007, 5, [.rowc false (α := UInt8) 0 e8 []])]) (by kernel_rfl) (by kernel_rfl) ?_
  refine Wp.loopL ?_
  refine ok_ref06_single_l1 n a0 n a1 ([] : List (UInt8)) o1 ho1 ?_
  rcases o1 with o1 | o1
  · replace h := sum_l h
    refine To.blockX ?_
    refine To.thenN ?_
    refine Wp.seq ?_
    refine Wp.region hΓ [] [] [] [4, 5, 6] [] (K' := [(4, .str []), (5, .val (.int .i64 0)), (6, .val (.bool false))]) (L' := []) (ob := []) (by kernel_rfl) AllP.nil ?_
    refine To.thenN ?_
    refine Wp.ret ?_
    refine To.keep (kk := [4, 5, 6]) (kl := []) (K' := [(4, .str []), (5, .val (.int .i64 0)), (6, .val (.bool false))]) (L' := []) (by kernel_rfl) (by kernel_rfl) ?_
    cases h
    exact To.done hΓ (by kernel_rfl)
  · replace h := sum_r h
    refine To.blockR ?_
    refine To.thenR ?_
    refine To.keep (kk := [4, 5, 6]) (kl := []) (K' := [(4, .str o1.1), (5, .val (.int .i64 o1.2.1)), (6, .val (.bool o1.2.2))]) (L' := []) (by kernel_rfl) (by kernel_rfl) ?_
    cases h
    exact To.done hΓ (by kernel_rfl)
def ref06_Scan_j1 (n : Nat) (v0 : List UInt8) (v1 : Int) (v33 : Bool) : Option ((List UInt8) × Int × Bool) :=
  if v33 = true then ((ref06_double n v0 (IntKind.wrap .i64 (v1 + 1))).bind fun r2 =>
  some (r2.1, r2.2.1, r2.2.2))
  else ((ref06_single n v0 (IntKind.wrap .i64 (v1 + 1))).bind fun r3 =>
  some (r3.1, r3.2.1, r3.2.2))
theorem ok_ref06_Scan_j1 (n : Nat) (v0 : List UInt8) (v1 : Int) (v33 : Bool) (o : (List UInt8) × Int × Bool) (h : ref06_Scan_j1 n v0 v1 v33 = some o) {F0 : Fz} {w0 : Pt Tryd.prog} {Q : Exit → Act → World → Prop} (hQ : To 54 F0 w0 [(7, .str o.1), (8, .val (.int .i64 o.2.1)), (9, .val (.bool o.2.2))] [] .normal Q) : Wp Tryd.prog 54 F0 w0 [(0, .str v0), (1, .val (.int .i64 v1)), (33, .val (.bool v33))] [] (cB (cA (cB (cB (cB (cB (cB (cF Tryd.f30)))))))) Q := by
  unfold ref06_Scan_j1 at h
  refine Wp.cond (b := v33) (by kernel_rfl) (fun hb => ?_) (fun hb => ?_)
  · replace h := if_t hb h
    obtain ⟨r2, hr2, h⟩ := bind_of h
    refine Wp.region hΓ [] [(3, .tup [.str r2.1, .val (.int .i64 r2.2.1), .val (.bool r2.2.2)])] [] [7, 8, 9] [] (K' := [(7, .str r2.1), (8, .val (.int .i64 r2.2.1)), (9, .val (.bool r2.2.2))]) (L' := []) (ob := [(true = true → CX Tryd.prog 44 [.str v0, .val (.int .i64 (IntKind.wrap .i64 (v1 + 1)))] (.tup [.str r2.1, .val (.int .i64 r2.2.1), .val (.bool r2.2.2)]))]) (by kernel_rfl) (AllP.cons (fun _ => cx (ok_ref06_double n v0 (IntKind.wrap .i64 (v1 + 1)) _ hr2)) AllP.nil) ?_
    refine To.keep (kk := [7, 8, 9]) (kl := []) (K' := [(7, .str r2.1), (8, .val (.int .i64 r2.2.1)), (9, .val (.bool r2.2.2))]) (L' := []) (by kernel_rfl) (by kernel_rfl) ?_
    cases h
    exact hQ
  · replace h := if_f hb h
    obtain ⟨r3, hr3, h⟩ := bind_of h
    refine Wp.region hΓ [] [(3, .tup [.str r3.1, .val (.int .i64 r3.2.1), .val (.bool r3.2.2)])] [] [7, 8, 9] [] (K' := [(7, .str r3.1), (8, .val (.int .i64 r3.2.1)), (9, .val (.bool r3.2.2))]) (L' := []) (ob := [(true = true → CX Tryd.prog 45 [.str v0, .val (.int .i64 (IntKind.wrap .i64 (v1 + 1)))] (.tup [.str r3.1, .val (.int .i64 r3.2.1), .val (.bool r3.2.2)]))]) (by kernel_rfl) (AllP.cons (fun _ => cx (ok_ref06_single n v0 (IntKind.wrap .i64 (v1 + 1)) _ hr3)) AllP.nil) ?_
    refine To.keep (kk := [7, 8, 9]) (kl := []) (K' := [(7, .str r3.1), (8, .val (.int .i64 r3.2.1)), (9, .val (.bool r3.2.2))]) (L' := []) (by kernel_rfl) (by kernel_rfl) ?_
    cases h
    exact hQ
def ref06_Scan (n : Nat) (a0 : List UInt8) (a1 : Int) : Option ((List UInt8) × Int × Int) :=
  if ((!((bif (decide (a1 < 0)) then true else (decide (a1 ≥ (List.length a0 : Int)))) == false) || decide (0 ≤ a1 ∧ a1 < (List.length a0 : Int)))) = true then (if ((!((((((a0)[Int.toNat a1]?.getD 0).toNat : Int) != 34) == true) && ((bif (decide (a1 < 0)) then true else (decide (a1 ≥ (List.length a0 : Int)))) == false)) || decide (0 ≤ a1 ∧ a1 < (List.length a0 : Int)))) = true then (lett ((bif (bif (decide (a1 < 0)) then true else (decide (a1 ≥ (List.length a0 : Int)))) then true else (bif ((((a0)[Int.toNat a1]?.getD 0).toNat : Int) != 34) then ((((a0)[Int.toNat a1]?.getD 0).toNat : Int) != 39) else false)) : Bool) fun x1 =>
  if x1 = true then (some ([], 0, 2))
  else (if (decide (0 ≤ a1 ∧ a1 < (List.length a0 : Int))) = true then ((ref06_Scan_j1 n a0 a1 ((((a0)[Int.toNat a1]?.getD 0).toNat : Int) == 34)).bind fun o2 =>
  if (!o2.2.2) = true then (some ([], 0, 3))
  else (some (o2.1, o2.2.1, 0))) else none)) else none) else none
theorem ok_ref06_Scan (n : Nat) (a0 : List UInt8) (a1 : Int) (r : (List UInt8) × Int × Int) (h : ref06_Scan n a0 a1 = some r) : CallsX Tryd.prog 30 [.str a0, .val (.int .i64 a1)] (.tup [.str r.1, .val (.int .i64 r.2.1), .val (.int .i64 r.2.2)]) := by
  unfold ref06_Scan at h
  refine callsX_of (fn := Tryd.f30) (by kernel_rfl) rfl (by kernel_rfl) (Nat.le_of_ble_eq_true (by kernel_rfl)) fun F0 w0 _ => ?_
  refine Wp.keep (kk := [0, 1]) (kl := []) (K' := [(0, .str a0), (1, .val (.int .i64 a1))]) (L' := []) (by kernel_rfl) (by kernel_rfl) ?_
  refine Wp.seq ?_
  refine Wp.region hΓ [] [] [] [0, 1] [] (K' := [(0, .str a0), (1, .val (.int .i64 a1))]) (L' := []) (ob := []) (by kernel_rfl) AllP.nil ?_
  refine To.thenN ?_
  refine Wp.seq ?_
  refine Wp.seq ?_
  obtain ⟨hc4, h⟩ := chk_of h
  obtain ⟨hc5, h⟩ := chk_of h
  obtain ⟨x1, hx1, h⟩ := lett_of h
  refine Wp.region hΓ [] [] [] [0, 1, 29] [] (K' := [(0, .str a0), (1, .val (.int .i64 a1)), (29, .val (.bool (bif (bif (decide (a1 < 0)) then true else (decide (a1 ≥ (List.length a0 : Int)))) then true else (bif ((((a0)[Int.toNat a1]?.getD 0).toNat : Int) != 34) then ((((a0)[Int.toNat a1]?.getD 0).toNat : Int) != 39) else false))))]) (L' := []) (ob := [(!((bif (decide (a1 < 0)) then true else (decide (a1 ≥ (List.length a0 : Int)))) == false) || decide (0 ≤ a1 ∧ a1 < (List.length a0 : Int))) = true, (!((((((a0)[Int.toNat a1]?.getD 0).toNat : Int) != 34) == true) && ((bif (decide (a1 < 0)) then true else (decide (a1 ≥ (List.length a0 : Int)))) == false)) || decide (0 ≤ a1 ∧ a1 < (List.length a0 : Int))) = true]) (by kernel_rfl) (AllP.cons hc4 (AllP.cons hc5 AllP.nil)) ?_
  refine To.eq (K' := [(0, .str a0), (1, .val (.int .i64 a1)), (29, .val (.bool x1))]) (L' := []) (by cases hx1; rfl) (by cases hx1; rfl) ?_
  refine To.thenN ?_
  refine Wp.cond (b := x1) (by kernel_rfl) (fun hb => ?_) (fun hb => ?_)
  · replace h := if_t hb h
    refine Wp.seq ?_
    refine Wp.region hΓ [] [] [] [4, 5, 6] [] (K' := [(4, .str []), (5, .val (.int .i64 0)), (6, .val (.int .i64 2))]) (L' := []) (ob := []) (by kernel_rfl) AllP.nil ?_
    refine To.thenN ?_
    refine Wp.ret ?_
    refine To.thenR ?_
    refine To.keep (kk := [4, 5, 6]) (kl := []) (K' := [(4, .str []), (5, .val (.int .i64 0)), (6, .val (.int .i64 2))]) (L' := []) (by kernel_rfl) (by kernel_rfl) ?_
    cases h
    exact To.done hΓ (by kernel_rfl)
  · replace h := if_f hb h
    refine Wp.skip ?_
    refine To.thenN ?_
    refine Wp.seq ?_
    refine Wp.region hΓ [] [] [] [0, 1] [] (K' := [(0, .str a0), (1, .val (.int .i64 a1))]) (L' := []) (ob := []) (by kernel_rfl) AllP.nil ?_
    refine To.thenN ?_
    refine Wp.seq ?_
    refine Wp.region hΓ [] [] [] [0, 1] [] (K' := [(0, .str a0), (1, .val (.int .i64 a1))]) (L' := []) (ob := []) (by kernel_rfl) AllP.nil ?_
    refine To.thenN ?_
    refine Wp.seq ?_
    refine Wp.region hΓ [] [] [] [0, 1] [] (K' := [(0, .str a0), (1, .val (.int .i64 a1))]) (L' := []) (ob := []) (by kernel_rfl) AllP.nil ?_
    refine To.thenN ?_
    refine Wp.seq ?_
    refine Wp.seq ?_
    obtain ⟨hc3, h⟩ := chk_of h
    refine Wp.region hΓ [] [] [] [0, 1, 33] [] (K' := [(0, .str a0), (1, .val (.int .i64 a1)), (33, .val (.bool ((((a0)[Int.toNat a1]?.getD 0).toNat : Int) == 34)))]) (L' := []) (ob := [(decide (0 ≤ a1 ∧ a1 < (List.length a0 : Int))) = true]) (by kernel_rfl) (AllP.cons hc3 AllP.nil) ?_
    refine To.thenN ?_
    obtain ⟨o2, ho2, h⟩ := bind_of h
    refine Wp.keep (kk := [0, 1, 33]) (kl := []) (K' := [(0, .str a0), (1, .val (.int .i64 a1)), (33, .val (.bool ((((a0)[Int.toNat a1]?.getD 0).toNat : Int) == 34)))]) (L' := []) (by kernel_rfl) (by kernel_rfl) ?_
    refine ok_ref06_Scan_j1 n a0 a1 ((((a0)[Int.toNat a1]?.getD 0).toNat : Int) == 34) o2 ho2 ?_
    refine To.thenN ?_
    refine Wp.seq ?_
    refine Wp.seq ?_
    refine Wp.region hΓ [] [] [] [7, 8, 51] [] (K' := [(7, .str o2.1), (8, .val (.int .i64 o2.2.1)), (51, .val (.bool (!o2.2.2)))]) (L' := []) (ob := []) (by kernel_rfl) AllP.nil ?_
    refine To.thenN ?_
    refine Wp.cond (b := (!o2.2.2)) (by kernel_rfl) (fun hb => ?_) (fun hb => ?_)
    · replace h := if_t hb h
      refine Wp.seq ?_
      refine Wp.region hΓ [] [] [] [4, 5, 6] [] (K' := [(4, .str []), (5, .val (.int .i64 0)), (6, .val (.int .i64 3))]) (L' := []) (ob := []) (by kernel_rfl) AllP.nil ?_
      refine To.thenN ?_
      refine Wp.ret ?_
      refine To.thenR ?_
      refine To.keep (kk := [4, 5, 6]) (kl := []) (K' := [(4, .str []), (5, .val (.int .i64 0)), (6, .val (.int .i64 3))]) (L' := []) (by kernel_rfl) (by kernel_rfl) ?_
      cases h
      exact To.done hΓ (by kernel_rfl)
    · replace h := if_f hb h
      refine Wp.skip ?_
      refine To.thenN ?_
      refine Wp.seq ?_
      refine Wp.region hΓ [] [] [] [4, 5, 6] [] (K' := [(4, .str o2.1), (5, .val (.int .i64 o2.2.1)), (6, .val (.int .i64 0))]) (L' := []) (ob := []) (by kernel_rfl) AllP.nil ?_
      refine To.thenN ?_
      refine Wp.ret ?_
      refine To.keep (kk := [4, 5, 6]) (kl := []) (K' := [(4, .str o2.1), (5, .val (.int .i64 o2.2.1)), (6, .val (.int .i64 0))]) (L' := []) (by kernel_rfl) (by kernel_rfl) ?_
      cases h
      exact To.done hΓ (by kernel_rfl)
def ref07_Say_l1 (n : Nat) : Nat → (List UInt8) → Int → Option (Sum ((List UInt8)) ((List UInt8) × Bool))
  | 0, _, _ => none
  | k + 1, v0, v4 => if (decide (v4 < (List.length v0 : Int))) = true then ((ref07_begins n v0 v4).bind fun r1 =>
  if (r1 == 2) = true then (if (decide (0 ≤ v4 ∧ v4 ≤ (List.length v0 : Int))) = true then (some (.inl (List.take (Int.toNat v4) v0))) else none)
  else (if (r1 == 1) = true then ((ref06_Scan n v0 v4).bind fun r3 =>
  if (r3.2.2 != 0) = true then (some (.inr ([], false)))
  else (ref07_Say_l1 n k v0 r3.2.1))
  else (if (decide (0 ≤ v4 ∧ v4 < (List.length v0 : Int))) = true then (if (!(ref06_Good (((v0)[Int.toNat v4]?.getD 0).toNat : Int))) = true then (some (.inr ([], false)))
  else (ref07_Say_l1 n k v0 (IntKind.wrap .i64 (v4 + 1)))) else none)))
  else (some (.inl v0))
theorem ok_ref07_Say_l1 (n : Nat) {F0 : Fz} {w0 : Pt Tryd.prog} {Q : Exit → Act → World → Prop} (k : Nat) : ∀ (v0 : List UInt8) (v4 : Int) (o : Sum ((List UInt8)) ((List UInt8) × Bool)), ref07_Say_l1 n k v0 v4 = some o → (Sum.elim (fun s => To 57 F0 w0 [(0, .str s)] [] (.exit 0) Q) (fun s => To 57 F0 w0 [(2, .str s.1), (3, .val (.bool s.2))] [] .ret Q)) o → WL Tryd.prog 57 F0 w0 [(0, .str v0), (4, .val (.int .i64 v4))] [] (cI (cI (cA (cB (cB (cF Tryd.f17)))))) Q := by
  induction k with
  | zero => intro v0 v4 o h; cases h
  | succ k ih =>
    intro v0 v4 o h hQ
    rw [ref07_Say_l1] at h
    refine WL.round ?_
    refine Wp.seq ?_
    refine Wp.seq ?_
    refine Wp.region hΓ [] [] [] [0, 4, 12] [] (K' := [(0, .str v0), (4, .val (.int .i64 v4)), (12, .val (.bool (decide (v4 < (List.length v0 : Int)))))]) (L' := []) (ob := []) (by kernel_rfl) AllP.nil ?_
    refine To.thenN ?_
    refine Wp.cond (b := (decide (v4 < (List.length v0 : Int)))) (by kernel_rfl) (fun hb => ?_) (fun hb => ?_)
    · replace h := if_t hb h
      refine Wp.skip ?_
      refine To.thenN ?_
      refine Wp.block ?_
      refine Wp.seq ?_
      obtain ⟨r1, hr1, h⟩ := bind_of h
      refine Wp.region hΓ [] [(2, .val (.int .i64 r1))] [] [0, 4, 5] [] (K' := [(0, .str v0), (4, .val (.int .i64 v4)), (5, .val (.int .i64 r1))]) (L' := []) (ob := [(true = true → CX Tryd.prog 29 [.str v0, .val (.int .i64 v4)] (.val (.int .i64 r1)))]) (by kernel_rfl) (AllP.cons (fun _ => cx (ok_ref07_begins n v0 v4 _ hr1)) AllP.nil) ?_
      refine To.thenN ?_
      refine Wp.seq ?_
      refine Wp.seq ?_
      refine Wp.region hΓ [] [] [] [0, 4, 5, 17] [] (K' := [(0, .str v0), (4, .val (.int .i64 v4)), (5, .val (.int .i64 r1)), (17, .val (.bool (r1 == 2)))]) (L' := []) (ob := []) (by kernel_rfl) AllP.nil ?_
      refine To.thenN ?_
      refine Wp.cond (b := (r1 == 2)) (by kernel_rfl) (fun hb => ?_) (fun hb => ?_)
      · replace h := if_t hb h
        refine Wp.seq ?_
        obtain ⟨hc2, h⟩ := chk_of h
        refine Wp.region hΓ [] [] [] [0] [] (K' := [(0, .str (List.take (Int.toNat v4) v0))]) (L' := []) (ob := [(decide (0 ≤ v4 ∧ v4 ≤ (List.length v0 : Int))) = true]) (by kernel_rfl) (AllP.cons hc2 AllP.nil) ?_
        refine To.thenN ?_
        refine Wp.exit ?_
        refine To.thenX ?_
        refine To.blockO (by decide) ?_
        refine To.thenX ?_
        refine To.keep (kk := [0]) (kl := []) (K' := [(0, .str (List.take (Int.toNat v4) v0))]) (L' := []) (by kernel_rfl) (by kernel_rfl) ?_
        cases h
        exact hQ
      · replace h := if_f hb h
        refine Wp.skip ?_
        refine To.thenN ?_
        refine Wp.seq ?_
        refine Wp.seq ?_
        refine Wp.region hΓ [] [] [] [0, 4, 22] [] (K' := [(0, .str v0), (4, .val (.int .i64 v4)), (22, .val (.bool (r1 == 1)))]) (L' := []) (ob := []) (by kernel_rfl) AllP.nil ?_
        refine To.thenN ?_
        refine Wp.cond (b := (r1 == 1)) (by kernel_rfl) (fun hb => ?_) (fun hb => ?_)
        · replace h := if_t hb h
          refine Wp.seq ?_
          obtain ⟨r3, hr3, h⟩ := bind_of h
          refine Wp.region hΓ [] [(2, .tup [.str r3.1, .val (.int .i64 r3.2.1), .val (.int .i64 r3.2.2)])] [] [0, 7, 8] [] (K' := [(0, .str v0), (7, .val (.int .i64 r3.2.1)), (8, .val (.int .i64 r3.2.2))]) (L' := []) (ob := [(true = true → CX Tryd.prog 30 [.str v0, .val (.int .i64 v4)] (.tup [.str r3.1, .val (.int .i64 r3.2.1), .val (.int .i64 r3.2.2)]))]) (by kernel_rfl) (AllP.cons (fun _ => cx (ok_ref06_Scan n v0 v4 _ hr3)) AllP.nil) ?_
          refine To.thenN ?_
          refine Wp.seq ?_
          refine Wp.seq ?_
          refine Wp.region hΓ [] [] [] [0, 7, 31] [] (K' := [(0, .str v0), (7, .val (.int .i64 r3.2.1)), (31, .val (.bool (r3.2.2 != 0)))]) (L' := []) (ob := []) (by kernel_rfl) AllP.nil ?_
          refine To.thenN ?_
          refine Wp.cond (b := (r3.2.2 != 0)) (by kernel_rfl) (fun hb => ?_) (fun hb => ?_)
          · replace h := if_t hb h
            refine Wp.seq ?_
            refine Wp.region hΓ [] [] [] [2, 3] [] (K' := [(2, .str []), (3, .val (.bool false))]) (L' := []) (ob := []) (by kernel_rfl) AllP.nil ?_
            refine To.thenN ?_
            refine Wp.ret ?_
            refine To.thenR ?_
            refine To.thenR ?_
            refine To.blockR ?_
            refine To.thenR ?_
            refine To.keep (kk := [2, 3]) (kl := []) (K' := [(2, .str []), (3, .val (.bool false))]) (L' := []) (by kernel_rfl) (by kernel_rfl) ?_
            cases h
            exact hQ
          · replace h := if_f hb h
            refine Wp.skip ?_
            refine To.thenN ?_
            refine Wp.seq ?_
            refine Wp.region hΓ [] [] [] [0, 4] [] (K' := [(0, .str v0), (4, .val (.int .i64 r3.2.1))]) (L' := []) (ob := []) (by kernel_rfl) AllP.nil ?_
            refine To.thenN ?_
            refine Wp.exit ?_
            refine To.thenX ?_
            refine To.blockX ?_
            refine To.keep (kk := [0, 4]) (kl := []) (K' := [(0, .str v0), (4, .val (.int .i64 r3.2.1))]) (L' := []) (by kernel_rfl) (by kernel_rfl) ?_
            refine To.again ?_
            exact ih v0 r3.2.1 _ h hQ
        · replace h := if_f hb h
          refine Wp.skip ?_
          refine To.thenN ?_
          refine Wp.seq ?_
          refine Wp.seq ?_
          obtain ⟨hc4, h⟩ := chk_of h
          refine Wp.region hΓ [] [(3, .val (.bool (ref06_Good (((v0)[Int.toNat v4]?.getD 0).toNat : Int))))] [] [0, 4, 37] [] (K' := [(0, .str v0), (4, .val (.int .i64 v4)), (37, .val (.bool (!(ref06_Good (((v0)[Int.toNat v4]?.getD 0).toNat : Int)))))]) (L' := []) (ob := [(decide (0 ≤ v4 ∧ v4 < (List.length v0 : Int))) = true, (true = true → CX Tryd.prog 31 [.val (.int .u8 (((v0)[Int.toNat v4]?.getD 0).toNat : Int))] (.val (.bool (ref06_Good (((v0)[Int.toNat v4]?.getD 0).toNat : Int)))))]) (by kernel_rfl) (AllP.cons hc4 (AllP.cons (fun _ => cx (ok_ref06_Good (((v0)[Int.toNat v4]?.getD 0).toNat : Int) _ rfl)) AllP.nil)) ?_
          refine To.thenN ?_
          refine Wp.cond (b := (!(ref06_Good (((v0)[Int.toNat v4]?.getD 0).toNat : Int)))) (by kernel_rfl) (fun hb => ?_) (fun hb => ?_)
          · replace h := if_t hb h
            refine Wp.seq ?_
            refine Wp.region hΓ [] [] [] [2, 3] [] (K' := [(2, .str []), (3, .val (.bool false))]) (L' := []) (ob := []) (by kernel_rfl) AllP.nil ?_
            refine To.thenN ?_
            refine Wp.ret ?_
            refine To.thenR ?_
            refine To.blockR ?_
            refine To.thenR ?_
            refine To.keep (kk := [2, 3]) (kl := []) (K' := [(2, .str []), (3, .val (.bool false))]) (L' := []) (by kernel_rfl) (by kernel_rfl) ?_
            cases h
            exact hQ
          · replace h := if_f hb h
            refine Wp.skip ?_
            refine To.thenN ?_
            refine Wp.region hΓ [] [] [] [0, 4] [] (K' := [(0, .str v0), (4, .val (.int .i64 (IntKind.wrap .i64 (v4 + 1))))]) (L' := []) (ob := []) (by kernel_rfl) AllP.nil ?_
            refine To.blockN ?_
            refine To.keep (kk := [0, 4]) (kl := []) (K' := [(0, .str v0), (4, .val (.int .i64 (IntKind.wrap .i64 (v4 + 1))))]) (L' := []) (by kernel_rfl) (by kernel_rfl) ?_
            refine To.again ?_
            exact ih v0 (IntKind.wrap .i64 (v4 + 1)) _ h hQ
    · replace h := if_f hb h
      refine Wp.exit ?_
      refine To.thenX ?_
      refine To.thenX ?_
      refine To.keep (kk := [0]) (kl := []) (K' := [(0, .str v0)]) (L' := []) (by kernel_rfl) (by kernel_rfl) ?_
      cases h
      exact hQ
def ref07_Say_l2 (n : Nat) : Nat → (List UInt8) → Option ((List UInt8))
  | 0, _ => none
  | k + 1, v0 => if ((!((decide ((List.length v0 : Int) > 0)) == true) || decide (0 ≤ (IntKind.wrap .i64 ((List.length v0 : Int) - 1)) ∧ (IntKind.wrap .i64 ((List.length v0 : Int) - 1)) < (List.length v0 : Int)))) = true then (lett ((bif (decide ((List.length v0 : Int) > 0)) then ((((v0)[Int.toNat (IntKind.wrap .i64 ((List.length v0 : Int) - 1))]?.getD 0).toNat : Int) == 32) else false) : Bool) fun x2 =>
  if x2 = true then (if (decide (0 ≤ (IntKind.wrap .i64 ((List.length v0 : Int) - 1)) ∧ (IntKind.wrap .i64 ((List.length v0 : Int) - 1)) ≤ (List.length v0 : Int))) = true then (ref07_Say_l2 n k (List.take (Int.toNat (IntKind.wrap .i64 ((List.length v0 : Int) - 1))) v0)) else none)
  else some v0) else none
theorem ok_ref07_Say_l2 (n : Nat) {F0 : Fz} {w0 : Pt Tryd.prog} {Q : Exit → Act → World → Prop} (k : Nat) : ∀ (v0 : List UInt8) (o : (List UInt8)), ref07_Say_l2 n k v0 = some o → To 57 F0 w0 [(0, .str o)] [] (.exit 2) Q → WL Tryd.prog 57 F0 w0 [(0, .str v0)] [] (cI (cI (cA (cB (cB (cB (cF Tryd.f17))))))) Q := by
  induction k with
  | zero => intro v0 o h; cases h
  | succ k ih =>
    intro v0 o h hQ
    rw [ref07_Say_l2] at h
    refine WL.round ?_
    refine Wp.seq ?_
    refine Wp.seq ?_
    obtain ⟨hc4, h⟩ := chk_of h
    obtain ⟨x2, hx2, h⟩ := lett_of h
    refine Wp.region hΓ [] [] [] [0, 50] [] (K' := [(0, .str v0), (50, .val (.bool (bif (decide ((List.length v0 : Int) > 0)) then ((((v0)[Int.toNat (IntKind.wrap .i64 ((List.length v0 : Int) - 1))]?.getD 0).toNat : Int) == 32) else false)))]) (L' := []) (ob := [(!((decide ((List.length v0 : Int) > 0)) == true) || decide (0 ≤ (IntKind.wrap .i64 ((List.length v0 : Int) - 1)) ∧ (IntKind.wrap .i64 ((List.length v0 : Int) - 1)) < (List.length v0 : Int))) = true]) (by kernel_rfl) (AllP.cons hc4 AllP.nil) ?_
    refine To.eq (K' := [(0, .str v0), (50, .val (.bool x2))]) (L' := []) (by cases hx2; rfl) (by cases hx2; rfl) ?_
    refine To.thenN ?_
    refine Wp.cond (b := x2) (by kernel_rfl) (fun hb => ?_) (fun hb => ?_)
    · replace h := if_t hb h
      refine Wp.skip ?_
      refine To.thenN ?_
      refine Wp.block ?_
      obtain ⟨hc3, h⟩ := chk_of h
      refine Wp.region hΓ [] [] [] [0] [] (K' := [(0, .str (List.take (Int.toNat (IntKind.wrap .i64 ((List.length v0 : Int) - 1))) v0))]) (L' := []) (ob := [(decide (0 ≤ (IntKind.wrap .i64 ((List.length v0 : Int) - 1)) ∧ (IntKind.wrap .i64 ((List.length v0 : Int) - 1)) ≤ (List.length v0 : Int))) = true]) (by kernel_rfl) (AllP.cons hc3 AllP.nil) ?_
      refine To.blockN ?_
      refine To.keep (kk := [0]) (kl := []) (K' := [(0, .str (List.take (Int.toNat (IntKind.wrap .i64 ((List.length v0 : Int) - 1))) v0))]) (L' := []) (by kernel_rfl) (by kernel_rfl) ?_
      refine To.again ?_
      exact ih (List.take (Int.toNat (IntKind.wrap .i64 ((List.length v0 : Int) - 1))) v0) _ h hQ
    · replace h := if_f hb h
      refine Wp.exit ?_
      refine To.thenX ?_
      refine To.thenX ?_
      refine To.keep (kk := [0]) (kl := []) (K' := [(0, .str v0)]) (L' := []) (by kernel_rfl) (by kernel_rfl) ?_
      cases h
      exact hQ
def ref07_Say (n : Nat) (a0 : List UInt8) : Option ((List UInt8) × Bool) :=
  (ref07_Say_l1 n n a0 0).bind fun o1 =>
  (Sum.elim (fun o1 => (ref07_Say_l2 n n o1).bind fun o2 =>
  some (o2, true)) (fun o1 => some (o1.1, o1.2))) o1
theorem ok_ref07_Say (n : Nat) (a0 : List UInt8) (r : (List UInt8) × Bool) (h : ref07_Say n a0 = some r) : CallsX Tryd.prog 17 [.str a0] (.tup [.str r.1, .val (.bool r.2)]) := by
  unfold ref07_Say at h
  refine callsX_of (fn := Tryd.f17) (by kernel_rfl) rfl (by kernel_rfl) (Nat.le_of_ble_eq_true (by kernel_rfl)) fun F0 w0 _ => ?_
  refine Wp.keep (kk := [0]) (kl := []) (K' := [(0, .str a0)]) (L' := []) (by kernel_rfl) (by kernel_rfl) ?_
  refine Wp.seq ?_
  refine Wp.region hΓ [] [] [] [0] [] (K' := [(0, .str a0)]) (L' := []) (ob := []) (by kernel_rfl) AllP.nil ?_
  refine To.thenN ?_
  refine Wp.seq ?_
  refine Wp.region hΓ [] [] [] [0, 4] [] (K' := [(0, .str a0), (4, .val (.int .i64 0))]) (L' := []) (ob := []) (by kernel_rfl) AllP.nil ?_
  refine To.thenN ?_
  refine Wp.seq ?_
  refine Wp.block ?_
  obtain ⟨o1, ho1, h⟩ := bind_of h
  refine Wp.keep (kk := [0, 4]) (kl := []) (K' := [(0, .str a0), (4, .val (.int .i64 0))]) (L' := []) (by kernel_rfl) (by kernel_rfl) ?_
  refine Wp.loopL ?_
  refine ok_ref07_Say_l1 n n a0 0 o1 ho1 ?_
  rcases o1 with o1 | o1
  · replace h := sum_l h
    refine To.blockX ?_
    refine To.thenN ?_
    refine Wp.seq ?_
    refine Wp.block ?_
    obtain ⟨o2, ho2, h⟩ := bind_of h
    refine Wp.keep (kk := [0]) (kl := []) (K' := [(0, .str o1)]) (L' := []) (by kernel_rfl) (by kernel_rfl) ?_
    refine Wp.loopL ?_
    refine ok_ref07_Say_l2 n n o1 o2 ho2 ?_
    refine To.blockX ?_
    refine To.thenN ?_
    refine Wp.seq ?_
    refine Wp.region hΓ [] [] [] [2, 3] [] (K' := [(2, .str o2), (3, .val (.bool true))]) (L' := []) (ob := []) (by kernel_rfl) AllP.nil ?_
    refine To.thenN ?_
    refine Wp.ret ?_
    refine To.keep (kk := [2, 3]) (kl := []) (K' := [(2, .str o2), (3, .val (.bool true))]) (L' := []) (by kernel_rfl) (by kernel_rfl) ?_
    cases h
    exact To.done hΓ (by kernel_rfl)
  · replace h := sum_r h
    refine To.blockR ?_
    refine To.thenR ?_
    refine To.keep (kk := [2, 3]) (kl := []) (K' := [(2, .str o1.1), (3, .val (.bool o1.2))]) (L' := []) (by kernel_rfl) (by kernel_rfl) ?_
    cases h
    exact To.done hΓ (by kernel_rfl)
def ref07_Split_l2 (n : Nat) (v0 : List UInt8) (v5 : List (S_line_Line)) (v6 : Int) : Nat → Int → Option (Int)
  | 0, _ => none
  | k + 1, v7 => if ((!((decide (v7 < (List.length v0 : Int))) == true) || decide (0 ≤ v7 ∧ v7 < (List.length v0 : Int)))) = true then (if (bif (decide (v7 < (List.length v0 : Int))) then ((((v0)[Int.toNat v7]?.getD 0).toNat : Int) != 10) else false) = true then (ref07_Split_l2 n v0 v5 v6 k (IntKind.wrap .i64 (v7 + 1)))
  else some v7) else none
theorem ok_ref07_Split_l2 (n : Nat) (v0 : List UInt8) (v5 : List (S_line_Line)) (v6 : Int) {F0 : Fz} {w0 : Pt Tryd.prog} {Q : Exit → Act → World → Prop} (k : Nat) : ∀ (v7 : Int) (o : Int), ref07_Split_l2 n v0 v5 v6 k v7 = some o → To 89 F0 w0 [(0, .str v0), (5, .row 1005), (6, .val (.int .i64 v6)), (7, .val (.int .i64 o))] [(1005, 36, [.rowc false (α := S_line_Line) (S_line_Line.mk 0 0 []) E_ref07_Line v5])] (.exit 2) Q → WL Tryd.prog 89 F0 w0 [(0, .str v0), (5, .row 1005), (6, .val (.int .i64 v6)), (7, .val (.int .i64 v7))] [(1005, 36, [.rowc false (α := S_line_Line) (S_line_Line.mk 0 0 []) E_ref07_Line v5])] (cI (cI (cA (cB (cB (cI (cB (cI (cI (cA (cB (cB (cB (cB (cF Tryd.f8))))))))))))))) Q := by
  induction k with
  | zero => intro v7 o h; cases h
  | succ k ih =>
    intro v7 o h hQ
    rw [ref07_Split_l2] at h
    refine WL.round ?_
    refine Wp.seq ?_
    refine Wp.seq ?_
    obtain ⟨hc1, h⟩ := chk_of h
    refine Wp.region hΓ [] [] [] [0, 5, 6, 7, 30] [1005] (K' := [(0, .str v0), (5, .row 1005), (6, .val (.int .i64 v6)), (7, .val (.int .i64 v7)), (30, .val (.bool (bif (decide (v7 < (List.length v0 : Int))) then ((((v0)[Int.toNat v7]?.getD 0).toNat : Int) != 10) else false)))]) (L' := [(1005, 36, [.rowc false (α := S_line_Line) (S_line_Line.mk 0 0 []) E_ref07_Line v5])]) (ob := [(!((decide (v7 < (List.length v0 : Int))) == true) || decide (0 ≤ v7 ∧ v7 < (List.length v0 : Int))) = true]) (by kernel_rfl) (AllP.cons hc1 AllP.nil) ?_
    refine To.thenN ?_
    refine Wp.cond (b := (bif (decide (v7 < (List.length v0 : Int))) then ((((v0)[Int.toNat v7]?.getD 0).toNat : Int) != 10) else false)) (by kernel_rfl) (fun hb => ?_) (fun hb => ?_)
    · replace h := if_t hb h
      refine Wp.skip ?_
      refine To.thenN ?_
      refine Wp.block ?_
      refine Wp.region hΓ [] [] [] [0, 5, 6, 7] [1005] (K' := [(0, .str v0), (5, .row 1005), (6, .val (.int .i64 v6)), (7, .val (.int .i64 (IntKind.wrap .i64 (v7 + 1))))]) (L' := [(1005, 36, [.rowc false (α := S_line_Line) (S_line_Line.mk 0 0 []) E_ref07_Line v5])]) (ob := []) (by kernel_rfl) AllP.nil ?_
      refine To.blockN ?_
      refine To.keep (kk := [0, 5, 6, 7]) (kl := [1005]) (K' := [(0, .str v0), (5, .row 1005), (6, .val (.int .i64 v6)), (7, .val (.int .i64 (IntKind.wrap .i64 (v7 + 1))))]) (L' := [(1005, 36, [.rowc false (α := S_line_Line) (S_line_Line.mk 0 0 []) E_ref07_Line v5])]) (by kernel_rfl) (by kernel_rfl) ?_
      refine To.again ?_
      exact ih (IntKind.wrap .i64 (v7 + 1)) _ h hQ
    · replace h := if_f hb h
      refine Wp.exit ?_
      refine To.thenX ?_
      refine To.thenX ?_
      refine To.keep (kk := [0, 5, 6, 7]) (kl := [1005]) (K' := [(0, .str v0), (5, .row 1005), (6, .val (.int .i64 v6)), (7, .val (.int .i64 v7))]) (L' := [(1005, 36, [.rowc false (α := S_line_Line) (S_line_Line.mk 0 0 []) E_ref07_Line v5])]) (by kernel_rfl) (by kernel_rfl) ?_
      cases h
      exact hQ
end Go.Proofs.YthhoedkeggiflaaDoor.M