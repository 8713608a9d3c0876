/-
  Printed by wip/tools/gen.py: models and walks of functions.
-/
import Derived.Test.YthhoedkeggiflaaRxArgs
import Derived.Test.YthhoedkeggiflaaProg
namespace Go.Proofs.Ythhoedkeggiflaa.M
open Go.RowKit Go.Proofs.Ythhoedkeggiflaa.RX
set_option maxRecDepth 100000
def tab : List (Nat × TI) := [
  (3, { agg := false, size := 1, zero := [.int .i64 0], kind := .int .i64, eqs := [] }),
  (4, { agg := false, size := 1, zero := [.bool false], kind := .bool, eqs := [] }),
  (5, { agg := false, size := 1, zero := [.int .u8 0], kind := .int .u8, eqs := [] }),
  (9, { agg := false, size := 1, zero := [.string ⟨#[]⟩], kind := .str, eqs := [] }),
  (34, { agg := false, size := 1, zero := [.slice none 0 0], kind := .slice 1 false, elt := 5, eb := 1, ez := [.int .u8 0], ek := some .u8, eqs := [] })]
theorem tabOK : TabOK Try.prog tab := ⟨⟨by kernel_rfl, fun h => absurd rfl h⟩, ⟨by kernel_rfl, fun h => absurd rfl h⟩, ⟨by kernel_rfl, fun h => absurd rfl h⟩, ⟨by kernel_rfl, fun h => absurd rfl h⟩, ⟨by kernel_rfl, fun h => absurd rfl h⟩, trivial⟩
theorem hΓ : ΓOK Try.prog (tabΓ tab) := ΓOK.of tabOK
theorem hm : Try.prog.follows .mixedOrders = true := by kernel_rfl
def quote_ok (a0 : Int) : Bool :=
  (bif (decide (a0 ≥ 32)) then (a0 != 127) else false)
theorem ok_quote_ok (a0 : Int) (r : Bool) (h : quote_ok a0 = r) : CallsX Try.prog 18 [.val (.int .u8 a0)] (.val (.bool r)) := by
  unfold quote_ok at h
  refine callsX_of (fn := Try.f18) (by kernel_rfl) rfl (by kernel_rfl) (Nat.le_of_ble_eq_true (by kernel_rfl)) fun F0 w0 => ?_
  refine Wp.keep (kk := [0]) (kl := []) (K' := [(0, .val (.int .u8 a0))]) (L' := []) (by kernel_rfl) (by kernel_rfl) ?_
  refine Wp.seq ?_
  refine Wp.region hΓ [] [] [0] [] (K' := [(0, .val (.int .u8 a0))]) (L' := []) (ob := []) (by kernel_rfl) AllP.nil ?_
  refine To.thenN ?_
  refine Wp.seq ?_
  refine Wp.region hΓ [] [] [2] [] (K' := [(2, .val (.bool (bif (decide (a0 ≥ 32)) then (a0 != 127) else false)))]) (L' := []) (ob := []) (by kernel_rfl) AllP.nil ?_
  refine To.thenN ?_
  refine Wp.ret ?_
  refine To.keep (kk := [2]) (kl := []) (K' := [(2, .val (.bool (bif (decide (a0 ≥ 32)) then (a0 != 127) else false)))]) (L' := []) (by kernel_rfl) (by kernel_rfl) ?_
  cases h
  exact To.done hΓ (by kernel_rfl)
def quote_hex (a0 : Int) : Int × Bool :=
  if (bif (decide (a0 ≥ 48)) then (decide (a0 ≤ 57)) else false) = true then (((IntKind.wrap .u8 (a0 - 48)), true))
  else (if (bif (decide (a0 ≥ 97)) then (decide (a0 ≤ 102)) else false) = true then (((IntKind.wrap .u8 ((IntKind.wrap .u8 (a0 - 97)) + 10)), true))
  else (if (bif (decide (a0 ≥ 65)) then (decide (a0 ≤ 70)) else false) = true then (((IntKind.wrap .u8 ((IntKind.wrap .u8 (a0 - 65)) + 10)), true))
  else ((0, false))))
theorem ok_quote_hex (a0 : Int) (r : Int × Bool) (h : quote_hex a0 = r) : CallsX Try.prog 27 [.val (.int .u8 a0)] (.tup [.val (.int .u8 r.1), .val (.bool r.2)]) := by
  unfold quote_hex at h
  refine callsX_of (fn := Try.f27) (by kernel_rfl) rfl (by kernel_rfl) (Nat.le_of_ble_eq_true (by kernel_rfl)) fun F0 w0 => ?_
  refine Wp.keep (kk := [0]) (kl := []) (K' := [(0, .val (.int .u8 a0))]) (L' := []) (by kernel_rfl) (by kernel_rfl) ?_
  refine Wp.seq ?_
  refine Wp.region hΓ [] [] [0] [] (K' := [(0, .val (.int .u8 a0))]) (L' := []) (ob := []) (by kernel_rfl) AllP.nil ?_
  refine To.thenN ?_
  refine Wp.seq ?_
  refine Wp.block ?_
  refine Wp.seq ?_
  refine Wp.region hΓ [] [] [0, 4] [] (K' := [(0, .val (.int .u8 a0)), (4, .val (.bool (bif (decide (a0 ≥ 48)) then (decide (a0 ≤ 57)) else false)))]) (L' := []) (ob := []) (by kernel_rfl) AllP.nil ?_
  refine To.thenN ?_
  refine Wp.cond (b := (bif (decide (a0 ≥ 48)) then (decide (a0 ≤ 57)) else false)) (by kernel_rfl) (fun hb => ?_) (fun hb => ?_)
  · replace h := if_t hb h
    refine Wp.seq ?_
    refine Wp.region hΓ [] [] [2, 3] [] (K' := [(2, .val (.int .u8 (IntKind.wrap .u8 (a0 - 48)))), (3, .val (.bool true))]) (L' := []) (ob := []) (by kernel_rfl) AllP.nil ?_
    refine To.thenN ?_
    refine Wp.ret ?_
    refine To.blockR ?_
    refine To.thenR ?_
    refine To.keep (kk := [2, 3]) (kl := []) (K' := [(2, .val (.int .u8 (IntKind.wrap .u8 (a0 - 48)))), (3, .val (.bool true))]) (L' := []) (by kernel_rfl) (by kernel_rfl) ?_
    cases h
    exact To.done hΓ (by kernel_rfl)
  · replace h := if_f hb h
    refine Wp.seq ?_
    refine Wp.region hΓ [] [] [0, 13] [] (K' := [(0, .val (.int .u8 a0)), (13, .val (.bool (bif (decide (a0 ≥ 97)) then (decide (a0 ≤ 102)) else false)))]) (L' := []) (ob := []) (by kernel_rfl) AllP.nil ?_
    refine To.thenN ?_
    refine Wp.cond (b := (bif (decide (a0 ≥ 97)) then (decide (a0 ≤ 102)) else false)) (by kernel_rfl) (fun hb => ?_) (fun hb => ?_)
    · replace h := if_t hb h
      refine Wp.seq ?_
      refine Wp.region hΓ [] [] [2, 3] [] (K' := [(2, .val (.int .u8 (IntKind.wrap .u8 ((IntKind.wrap .u8 (a0 - 97)) + 10)))), (3, .val (.bool true))]) (L' := []) (ob := []) (by kernel_rfl) AllP.nil ?_
      refine To.thenN ?_
      refine Wp.ret ?_
      refine To.blockR ?_
      refine To.thenR ?_
      refine To.keep (kk := [2, 3]) (kl := []) (K' := [(2, .val (.int .u8 (IntKind.wrap .u8 ((IntKind.wrap .u8 (a0 - 97)) + 10)))), (3, .val (.bool true))]) (L' := []) (by kernel_rfl) (by kernel_rfl) ?_
      cases h
      exact To.done hΓ (by kernel_rfl)
    · replace h := if_f hb h
      refine Wp.seq ?_
      refine Wp.region hΓ [] [] [0, 23] [] (K' := [(0, .val (.int .u8 a0)), (23, .val (.bool (bif (decide (a0 ≥ 65)) then (decide (a0 ≤ 70)) else false)))]) (L' := []) (ob := []) (by kernel_rfl) AllP.nil ?_
      refine To.thenN ?_
      refine Wp.cond (b := (bif (decide (a0 ≥ 65)) then (decide (a0 ≤ 70)) else false)) (by kernel_rfl) (fun hb => ?_) (fun hb => ?_)
      · replace h := if_t hb h
        refine Wp.seq ?_
        refine Wp.region hΓ [] [] [2, 3] [] (K' := [(2, .val (.int .u8 (IntKind.wrap .u8 ((IntKind.wrap .u8 (a0 - 65)) + 10)))), (3, .val (.bool true))]) (L' := []) (ob := []) (by kernel_rfl) AllP.nil ?_
        refine To.thenN ?_
        refine Wp.ret ?_
        refine To.blockR ?_
        refine To.thenR ?_
        refine To.keep (kk := [2, 3]) (kl := []) (K' := [(2, .val (.int .u8 (IntKind.wrap .u8 ((IntKind.wrap .u8 (a0 - 65)) + 10)))), (3, .val (.bool true))]) (L' := []) (by kernel_rfl) (by kernel_rfl) ?_
        cases h
        exact To.done hΓ (by kernel_rfl)
      · replace h := if_f hb h
        refine Wp.skip ?_
        refine To.blockN ?_
        refine To.thenN ?_
        refine Wp.seq ?_
        refine Wp.region hΓ [] [] [2, 3] [] (K' := [(2, .val (.int .u8 0)), (3, .val (.bool false))]) (L' := []) (ob := []) (by kernel_rfl) AllP.nil ?_
        refine To.thenN ?_
        refine Wp.ret ?_
        refine To.keep (kk := [2, 3]) (kl := []) (K' := [(2, .val (.int .u8 0)), (3, .val (.bool false))]) (L' := []) (by kernel_rfl) (by kernel_rfl) ?_
        cases h
        exact To.done hΓ (by kernel_rfl)
def quote_escape_j2 (n : Nat) (v0 : List UInt8) (v12 : Int) (v13 : Bool) : Option (Bool) :=
  if v13 = true then some v13
  else (some (v12 == 34))
theorem ok_quote_escape_j2 (n : Nat) (v0 : List UInt8) (v12 : Int) (v13 : Bool) (o : Bool) (h : quote_escape_j2 n v0 v12 v13 = some o) {F0 : Fz} {w0 : Pt} {Q : Exit → Act → World → Prop} (hQ : To 47 F0 w0 [(0, .str v0), (12, .val (.int .u8 v12)), (13, .val (.bool o))] [] .normal Q) : Wp Try.prog 47 F0 w0 [(0, .str v0), (12, .val (.int .u8 v12)), (13, .val (.bool v13))] [] (cB (cA (cI (cB (cA (cB (cB (cF Try.f19)))))))) Q := by
  unfold quote_escape_j2 at h
  refine Wp.cond (b := v13) (by kernel_rfl) (fun hb => ?_) (fun hb => ?_)
  · replace h := if_t hb h
    refine Wp.skip ?_
    refine To.keep (kk := [0, 12, 13]) (kl := []) (K' := [(0, .str v0), (12, .val (.int .u8 v12)), (13, .val (.bool v13))]) (L' := []) (by kernel_rfl) (by kernel_rfl) ?_
    cases h
    exact hQ
  · replace h := if_f hb h
    refine Wp.region hΓ [] [] [0, 12, 13] [] (K' := [(0, .str v0), (12, .val (.int .u8 v12)), (13, .val (.bool (v12 == 34)))]) (L' := []) (ob := []) (by kernel_rfl) AllP.nil ?_
    refine To.keep (kk := [0, 12, 13]) (kl := []) (K' := [(0, .str v0), (12, .val (.int .u8 v12)), (13, .val (.bool (v12 == 34)))]) (L' := []) (by kernel_rfl) (by kernel_rfl) ?_
    cases h
    exact hQ
def quote_escape_j1 (n : Nat) (v0 : List UInt8) (v12 : Int) : Option (Sum (Unit) (Int × Int)) :=
  (quote_escape_j2 n v0 v12 (v12 == 92)).bind fun o1 =>
  if o1 = true then (if (decide (0 ≤ (1 : Int) ∧ (1 : Int) < (List.length v0 : Int))) = true then (some (.inr ((((v0)[Int.toNat 1]?.getD 0).toNat : Int), 2))) else none)
  else (if (v12 == 110) = true then (some (.inr (10, 2)))
  else (if (v12 == 116) = true then (some (.inr (9, 2)))
  else (if (v12 == 120) = true then (if (decide ((List.length v0 : Int) < 4)) = true then (some (.inr (0, 0)))
  else (if (decide (0 ≤ (2 : Int) ∧ (2 : Int) < (List.length v0 : Int))) = true then (lett (quote_hex (((v0)[Int.toNat 2]?.getD 0).toNat : Int)) fun r3 =>
  if (decide (0 ≤ (3 : Int) ∧ (3 : Int) < (List.length v0 : Int))) = true then (lett (quote_hex (((v0)[Int.toNat 3]?.getD 0).toNat : Int)) fun r4 =>
  if (bif r3.2 then r4.2 else false) = true then (if (decide (0 ≤ (4 : Int))) = true then (lett ((IntKind.wrap .u8 ((BitVec.ofInt (IntKind.bits .u8) (IntKind.wrap .u8 (r3.1 * 2 ^ (min (Int.toNat 4) (IntKind.bits .u8)))) ||| BitVec.ofInt (IntKind.bits .u8) r4.1).toNat)) : Int) fun x5 =>
  some (.inr (x5, 4))) else none)
  else (some (.inl ()))) else none) else none))
  else (some (.inl ())))))
theorem ok_quote_escape_j1 (n : Nat) (v0 : List UInt8) (v12 : Int) (o : Sum (Unit) (Int × Int)) (h : quote_escape_j1 n v0 v12 = some o) {F0 : Fz} {w0 : Pt} {Q : Exit → Act → World → Prop} (hQ : (Sum.elim (fun s => To 47 F0 w0 [] [] .normal Q) (fun s => To 47 F0 w0 [(2, .val (.int .u8 s.1)), (3, .val (.int .i64 s.2))] [] .ret Q)) o) : Wp Try.prog 47 F0 w0 [(0, .str v0), (12, .val (.int .u8 v12))] [] (cB (cA (cB (cB (cF Try.f19))))) Q := by
  unfold quote_escape_j1 at h
  refine Wp.block ?_
  refine Wp.seq ?_
  refine Wp.seq ?_
  refine Wp.region hΓ [] [] [0, 12, 13] [] (K' := [(0, .str v0), (12, .val (.int .u8 v12)), (13, .val (.bool (v12 == 92)))]) (L' := []) (ob := []) (by kernel_rfl) AllP.nil ?_
  refine To.thenN ?_
  obtain ⟨o1, ho1, h⟩ := bind_of h
  refine Wp.keep (kk := [0, 12, 13]) (kl := []) (K' := [(0, .str v0), (12, .val (.int .u8 v12)), (13, .val (.bool (v12 == 92)))]) (L' := []) (by kernel_rfl) (by kernel_rfl) ?_
  refine ok_quote_escape_j2 n v0 v12 (v12 == 92) o1 ho1 ?_
  refine To.thenN ?_
  refine Wp.cond (b := o1) (by kernel_rfl) (fun hb => ?_) (fun hb => ?_)
  · replace h := if_t hb h
    refine Wp.seq ?_
    obtain ⟨hc2, h⟩ := chk_of h
    refine Wp.region hΓ [] [] [2, 3] [] (K' := [(2, .val (.int .u8 (((v0)[Int.toNat 1]?.getD 0).toNat : Int))), (3, .val (.int .i64 2))]) (L' := []) (ob := [(decide (0 ≤ (1 : Int) ∧ (1 : Int) < (List.length v0 : Int))) = true]) (by kernel_rfl) (AllP.cons hc2 AllP.nil) ?_
    refine To.thenN ?_
    refine Wp.ret ?_
    refine To.blockR ?_
    refine To.keep (kk := [2, 3]) (kl := []) (K' := [(2, .val (.int .u8 (((v0)[Int.toNat 1]?.getD 0).toNat : Int))), (3, .val (.int .i64 2))]) (L' := []) (by kernel_rfl) (by kernel_rfl) ?_
    cases h
    exact hQ
  · replace h := if_f hb h
    refine Wp.seq ?_
    refine Wp.region hΓ [] [] [0, 12, 18] [] (K' := [(0, .str v0), (12, .val (.int .u8 v12)), (18, .val (.bool (v12 == 110)))]) (L' := []) (ob := []) (by kernel_rfl) AllP.nil ?_
    refine To.thenN ?_
    refine Wp.cond (b := (v12 == 110)) (by kernel_rfl) (fun hb => ?_) (fun hb => ?_)
    · replace h := if_t hb h
      refine Wp.seq ?_
      refine Wp.region hΓ [] [] [2, 3] [] (K' := [(2, .val (.int .u8 10)), (3, .val (.int .i64 2))]) (L' := []) (ob := []) (by kernel_rfl) AllP.nil ?_
      refine To.thenN ?_
      refine Wp.ret ?_
      refine To.blockR ?_
      refine To.keep (kk := [2, 3]) (kl := []) (K' := [(2, .val (.int .u8 10)), (3, .val (.int .i64 2))]) (L' := []) (by kernel_rfl) (by kernel_rfl) ?_
      cases h
      exact hQ
    · replace h := if_f hb h
      refine Wp.seq ?_
      refine Wp.region hΓ [] [] [0, 12, 20] [] (K' := [(0, .str v0), (12, .val (.int .u8 v12)), (20, .val (.bool (v12 == 116)))]) (L' := []) (ob := []) (by kernel_rfl) AllP.nil ?_
      refine To.thenN ?_
      refine Wp.cond (b := (v12 == 116)) (by kernel_rfl) (fun hb => ?_) (fun hb => ?_)
      · replace h := if_t hb h
        refine Wp.seq ?_
        refine Wp.region hΓ [] [] [2, 3] [] (K' := [(2, .val (.int .u8 9)), (3, .val (.int .i64 2))]) (L' := []) (ob := []) (by kernel_rfl) AllP.nil ?_
        refine To.thenN ?_
        refine Wp.ret ?_
        refine To.blockR ?_
        refine To.keep (kk := [2, 3]) (kl := []) (K' := [(2, .val (.int .u8 9)), (3, .val (.int .i64 2))]) (L' := []) (by kernel_rfl) (by kernel_rfl) ?_
        cases h
        exact hQ
      · replace h := if_f hb h
        refine Wp.seq ?_
        refine Wp.region hΓ [] [] [0, 22] [] (K' := [(0, .str v0), (22, .val (.bool (v12 == 120)))]) (L' := []) (ob := []) (by kernel_rfl) AllP.nil ?_
        refine To.thenN ?_
        refine Wp.cond (b := (v12 == 120)) (by kernel_rfl) (fun hb => ?_) (fun hb => ?_)
        · replace h := if_t hb h
          refine Wp.seq ?_
          refine Wp.seq ?_
          refine Wp.region hΓ [] [] [0, 26] [] (K' := [(0, .str v0), (26, .val (.bool (decide ((List.length v0 : Int) < 4))))]) (L' := []) (ob := []) (by kernel_rfl) AllP.nil ?_
          refine To.thenN ?_
          refine Wp.cond (b := (decide ((List.length v0 : Int) < 4))) (by kernel_rfl) (fun hb => ?_) (fun hb => ?_)
          · replace h := if_t hb h
            refine Wp.seq ?_
            refine Wp.region hΓ [] [] [2, 3] [] (K' := [(2, .val (.int .u8 0)), (3, .val (.int .i64 0))]) (L' := []) (ob := []) (by kernel_rfl) AllP.nil ?_
            refine To.thenN ?_
            refine Wp.ret ?_
            refine To.thenR ?_
            refine To.blockR ?_
            refine To.keep (kk := [2, 3]) (kl := []) (K' := [(2, .val (.int .u8 0)), (3, .val (.int .i64 0))]) (L' := []) (by kernel_rfl) (by kernel_rfl) ?_
            cases h
            exact hQ
          · replace h := if_f hb h
            refine Wp.skip ?_
            refine To.thenN ?_
            refine Wp.seq ?_
            obtain ⟨hc8, h⟩ := chk_of h
            obtain ⟨r3, hr3, h⟩ := lett_of h
            refine Wp.region hΓ [] [(2, .tup [.val (.int .u8 r3.1), .val (.bool r3.2)])] [0, 4, 5] [] (K' := [(0, .str v0), (4, .val (.int .u8 r3.1)), (5, .val (.bool r3.2))]) (L' := []) (ob := [(decide (0 ≤ (2 : Int) ∧ (2 : Int) < (List.length v0 : Int))) = true, (true = true → CX Try.prog 27 [.val (.int .u8 (((v0)[Int.toNat 2]?.getD 0).toNat : Int))] (.tup [.val (.int .u8 r3.1), .val (.bool r3.2)]))]) (by kernel_rfl) (AllP.cons hc8 (AllP.cons (fun _ => cx (ok_quote_hex (((v0)[Int.toNat 2]?.getD 0).toNat : Int) _ hr3)) AllP.nil)) ?_
            refine To.thenN ?_
            refine Wp.seq ?_
            obtain ⟨hc7, h⟩ := chk_of h
            obtain ⟨r4, hr4, h⟩ := lett_of h
            refine Wp.region hΓ [] [(2, .tup [.val (.int .u8 r4.1), .val (.bool r4.2)])] [4, 5, 6, 7] [] (K' := [(4, .val (.int .u8 r3.1)), (5, .val (.bool r3.2)), (6, .val (.int .u8 r4.1)), (7, .val (.bool r4.2))]) (L' := []) (ob := [(decide (0 ≤ (3 : Int) ∧ (3 : Int) < (List.length v0 : Int))) = true, (true = true → CX Try.prog 27 [.val (.int .u8 (((v0)[Int.toNat 3]?.getD 0).toNat : Int))] (.tup [.val (.int .u8 r4.1), .val (.bool r4.2)]))]) (by kernel_rfl) (AllP.cons hc7 (AllP.cons (fun _ => cx (ok_quote_hex (((v0)[Int.toNat 3]?.getD 0).toNat : Int) _ hr4)) AllP.nil)) ?_
            refine To.thenN ?_
            refine Wp.seq ?_
            refine Wp.region hΓ [] [] [4, 6, 42] [] (K' := [(4, .val (.int .u8 r3.1)), (6, .val (.int .u8 r4.1)), (42, .val (.bool (bif r3.2 then r4.2 else false)))]) (L' := []) (ob := []) (by kernel_rfl) AllP.nil ?_
            refine To.thenN ?_
            refine Wp.cond (b := (bif r3.2 then r4.2 else false)) (by kernel_rfl) (fun hb => ?_) (fun hb => ?_)
            · replace h := if_t hb h
              refine Wp.seq ?_
              obtain ⟨hc6, h⟩ := chk_of h
              obtain ⟨x5, hx5, h⟩ := lett_of h
              refine Wp.region hΓ [] [] [2, 3] [] (K' := [(2, .val (.int .u8 (IntKind.wrap .u8 ((BitVec.ofInt (IntKind.bits .u8) (IntKind.wrap .u8 (r3.1 * 2 ^ (min (Int.toNat 4) (IntKind.bits .u8)))) ||| BitVec.ofInt (IntKind.bits .u8) r4.1).toNat)))), (3, .val (.int .i64 4))]) (L' := []) (ob := [(decide (0 ≤ (4 : Int))) = true]) (by kernel_rfl) (AllP.cons hc6 AllP.nil) ?_
              refine To.eq (K' := [(2, .val (.int .u8 x5)), (3, .val (.int .i64 4))]) (L' := []) (by cases hx5; rfl) (by cases hx5; rfl) ?_
              refine To.thenN ?_
              refine Wp.ret ?_
              refine To.blockR ?_
              refine To.keep (kk := [2, 3]) (kl := []) (K' := [(2, .val (.int .u8 x5)), (3, .val (.int .i64 4))]) (L' := []) (by kernel_rfl) (by kernel_rfl) ?_
              cases h
              exact hQ
            · replace h := if_f hb h
              refine Wp.skip ?_
              refine To.blockN ?_
              refine To.keep (kk := []) (kl := []) (K' := []) (L' := []) (by kernel_rfl) (by kernel_rfl) ?_
              cases h
              exact hQ
        · replace h := if_f hb h
          refine Wp.skip ?_
          refine To.blockN ?_
          refine To.keep (kk := []) (kl := []) (K' := []) (L' := []) (by kernel_rfl) (by kernel_rfl) ?_
          cases h
          exact hQ
def quote_escape (n : Nat) (a0 : List UInt8) : Option (Int × Int) :=
  if (decide ((List.length a0 : Int) < 2)) = true then (some (0, 0))
  else (if (decide (0 ≤ (1 : Int) ∧ (1 : Int) < (List.length a0 : Int))) = true then ((quote_escape_j1 n a0 (((a0)[Int.toNat 1]?.getD 0).toNat : Int)).bind fun o1 =>
  (Sum.elim (fun o1 => some (0, 0)) (fun o1 => some (o1.1, o1.2))) o1) else none)
theorem ok_quote_escape (n : Nat) (a0 : List UInt8) (r : Int × Int) (h : quote_escape n a0 = some r) : CallsX Try.prog 19 [.str a0] (.tup [.val (.int .u8 r.1), .val (.int .i64 r.2)]) := by
  unfold quote_escape at h
  refine callsX_of (fn := Try.f19) (by kernel_rfl) rfl (by kernel_rfl) (Nat.le_of_ble_eq_true (by kernel_rfl)) fun F0 w0 => ?_
  refine Wp.keep (kk := [0]) (kl := []) (K' := [(0, .str a0)]) (L' := []) (by kernel_rfl) (by kernel_rfl) ?_
  refine Wp.seq ?_
  refine Wp.region hΓ [] [] [0] [] (K' := [(0, .str a0)]) (L' := []) (ob := []) (by kernel_rfl) AllP.nil ?_
  refine To.thenN ?_
  refine Wp.seq ?_
  refine Wp.seq ?_
  refine Wp.region hΓ [] [] [0, 10] [] (K' := [(0, .str a0), (10, .val (.bool (decide ((List.length a0 : Int) < 2))))]) (L' := []) (ob := []) (by kernel_rfl) AllP.nil ?_
  refine To.thenN ?_
  refine Wp.cond (b := (decide ((List.length a0 : Int) < 2))) (by kernel_rfl) (fun hb => ?_) (fun hb => ?_)
  · replace h := if_t hb h
    refine Wp.seq ?_
    refine Wp.region hΓ [] [] [2, 3] [] (K' := [(2, .val (.int .u8 0)), (3, .val (.int .i64 0))]) (L' := []) (ob := []) (by kernel_rfl) AllP.nil ?_
    refine To.thenN ?_
    refine Wp.ret ?_
    refine To.thenR ?_
    refine To.keep (kk := [2, 3]) (kl := []) (K' := [(2, .val (.int .u8 0)), (3, .val (.int .i64 0))]) (L' := []) (by kernel_rfl) (by kernel_rfl) ?_
    cases h
    exact To.done hΓ (by kernel_rfl)
  · replace h := if_f hb h
    refine Wp.skip ?_
    refine To.thenN ?_
    refine Wp.seq ?_
    refine Wp.seq ?_
    obtain ⟨hc2, h⟩ := chk_of h
    refine Wp.region hΓ [] [] [0, 12] [] (K' := [(0, .str a0), (12, .val (.int .u8 (((a0)[Int.toNat 1]?.getD 0).toNat : Int)))]) (L' := []) (ob := [(decide (0 ≤ (1 : Int) ∧ (1 : Int) < (List.length a0 : Int))) = true]) (by kernel_rfl) (AllP.cons hc2 AllP.nil) ?_
    refine To.thenN ?_
    obtain ⟨o1, ho1, h⟩ := bind_of h
    refine Wp.keep (kk := [0, 12]) (kl := []) (K' := [(0, .str a0), (12, .val (.int .u8 (((a0)[Int.toNat 1]?.getD 0).toNat : Int)))]) (L' := []) (by kernel_rfl) (by kernel_rfl) ?_
    refine ok_quote_escape_j1 n a0 (((a0)[Int.toNat 1]?.getD 0).toNat : Int) o1 ho1 ?_
    rcases o1 with o1 | o1
    · replace h := sum_l h
      refine To.thenN ?_
      refine Wp.seq ?_
      refine Wp.region hΓ [] [] [2, 3] [] (K' := [(2, .val (.int .u8 0)), (3, .val (.int .i64 0))]) (L' := []) (ob := []) (by kernel_rfl) AllP.nil ?_
      refine To.thenN ?_
      refine Wp.ret ?_
      refine To.keep (kk := [2, 3]) (kl := []) (K' := [(2, .val (.int .u8 0)), (3, .val (.int .i64 0))]) (L' := []) (by kernel_rfl) (by kernel_rfl) ?_
      cases h
      exact To.done hΓ (by kernel_rfl)
    · replace h := sum_r h
      refine To.thenR ?_
      refine To.keep (kk := [2, 3]) (kl := []) (K' := [(2, .val (.int .u8 o1.1)), (3, .val (.int .i64 o1.2))]) (L' := []) (by kernel_rfl) (by kernel_rfl) ?_
      cases h
      exact To.done hΓ (by kernel_rfl)
def quote_Scan_l1 (n : Nat) (v0 : List UInt8) (v7 : Int) : Nat → Int → (List (UInt8)) → Option (Sum (Unit) ((List UInt8) × Int × Int))
  | 0, _, _ => none
  | k + 1, v1, v8 => if ((!((decide (v1 < (List.length v0 : Int))) == true) || decide (0 ≤ v1 ∧ v1 < (List.length v0 : Int)))) = true then (if (bif (decide (v1 < (List.length v0 : Int))) then (quote_ok (((v0)[Int.toNat v1]?.getD 0).toNat : Int)) else false) = true then (if (decide (0 ≤ v1 ∧ v1 < (List.length v0 : Int))) = true then (if ((!((bif (bif ((((v0)[Int.toNat v1]?.getD 0).toNat : Int) == 39) then (v7 == (((v0)[Int.toNat v1]?.getD 0).toNat : Int)) else false) then (decide ((IntKind.wrap .i64 (v1 + 1)) < (List.length v0 : Int))) else false) == true) || decide (0 ≤ (IntKind.wrap .i64 (v1 + 1)) ∧ (IntKind.wrap .i64 (v1 + 1)) < (List.length v0 : Int)))) = true then (lett ((bif (bif (bif ((((v0)[Int.toNat v1]?.getD 0).toNat : Int) == 39) then (v7 == (((v0)[Int.toNat v1]?.getD 0).toNat : Int)) else false) then (decide ((IntKind.wrap .i64 (v1 + 1)) < (List.length v0 : Int))) else false) then ((((v0)[Int.toNat (IntKind.wrap .i64 (v1 + 1))]?.getD 0).toNat : Int) == (((v0)[Int.toNat v1]?.getD 0).toNat : Int)) else false) : Bool) fun x2 =>
  if x2 = true then (if (decide ((List.length v8 + List.length ([((v0)[Int.toNat v1]?.getD 0)] : List (UInt8))) * (1 + 1) ≤ limit)) = true then (quote_Scan_l1 n v0 v7 k (IntKind.wrap .i64 (v1 + 2)) (v8 ++ ([((v0)[Int.toNat v1]?.getD 0)] : List (UInt8)))) else none)
  else (if ((((v0)[Int.toNat v1]?.getD 0).toNat : Int) == v7) = true then (some (.inr (v8, (IntKind.wrap .i64 (v1 + 1)), 0)))
  else (if (bif ((((v0)[Int.toNat v1]?.getD 0).toNat : Int) == 92) then (v7 == 34) else false) = true then (if (decide (0 ≤ v1 ∧ v1 ≤ (List.length v0 : Int))) = true then ((quote_escape n (List.drop (Int.toNat v1) v0)).bind fun r4 =>
  if (r4.2 == 0) = true then (some (.inr ([], 0, 3)))
  else (if (decide (0 ≤ r4.1 ∧ r4.1 < 256)) = true then (if (decide ((List.length v8 + List.length ([(UInt8.ofNat (Int.toNat r4.1))] : List (UInt8))) * (1 + 1) ≤ limit)) = true then (quote_Scan_l1 n v0 v7 k (IntKind.wrap .i64 (v1 + r4.2)) (v8 ++ ([(UInt8.ofNat (Int.toNat r4.1))] : List (UInt8)))) else none) else none)) else none)
  else (if (decide ((List.length v8 + List.length ([((v0)[Int.toNat v1]?.getD 0)] : List (UInt8))) * (1 + 1) ≤ limit)) = true then (quote_Scan_l1 n v0 v7 k (IntKind.wrap .i64 (v1 + 1)) (v8 ++ ([((v0)[Int.toNat v1]?.getD 0)] : List (UInt8)))) else none)))) else none) else none)
  else (some (.inl ()))) else none
theorem ok_quote_Scan_l1 (n : Nat) (v0 : List UInt8) (v7 : Int) {F0 : Fz} {w0 : Pt} {Q : Exit → Act → World → Prop} (k : Nat) : ∀ (v1 : Int) (v8 : List (UInt8)) (o : Sum (Unit) ((List UInt8) × Int × Int)), quote_Scan_l1 n v0 v7 k v1 v8 = some o → (Sum.elim (fun s => To 116 F0 w0 [] [] (.exit 0) Q) (fun s => To 116 F0 w0 [(4, .str s.1), (5, .val (.int .i64 s.2.1)), (6, .val (.int .i64 s.2.2))] [] .ret Q)) o → WL Try.prog 116 F0 w0 [(0, .str v0), (1, .val (.int .i64 v1)), (7, .val (.int .u8 v7)), (8, .row 1008)] [(1008, 5, [.rowc false (α := UInt8) 0 e8 v8])] (cI (cI (cB (cA (cB (cB (cB (cB (cF Try.f7))))))))) Q := by
  induction k with
  | zero => intro v1 v8 o h; cases h
  | succ k ih =>
    intro v1 v8 o h hQ
    rw [quote_Scan_l1] at h
    refine WL.round ?_
    refine Wp.seq ?_
    refine Wp.seq ?_
    obtain ⟨hc11, h⟩ := chk_of h
    refine Wp.region hΓ [] [(8, .val (.bool (quote_ok (((v0)[Int.toNat v1]?.getD 0).toNat : Int))))] [0, 1, 7, 8, 46] [1008] (K' := [(0, .str v0), (1, .val (.int .i64 v1)), (7, .val (.int .u8 v7)), (8, .row 1008), (46, .val (.bool (bif (decide (v1 < (List.length v0 : Int))) then (quote_ok (((v0)[Int.toNat v1]?.getD 0).toNat : Int)) else false)))]) (L' := [(1008, 5, [.rowc false (α := UInt8) 0 e8 v8])]) (ob := [(!((decide (v1 < (List.length v0 : Int))) == true) || decide (0 ≤ v1 ∧ v1 < (List.length v0 : Int))) = true, (((decide (v1 < (List.length v0 : Int))) == true) = true → CX Try.prog 18 [.val (.int .u8 (((v0)[Int.toNat v1]?.getD 0).toNat : Int))] (.val (.bool (quote_ok (((v0)[Int.toNat v1]?.getD 0).toNat : Int)))))]) (by kernel_rfl) (AllP.cons hc11 (AllP.cons (fun _ => cx (ok_quote_ok (((v0)[Int.toNat v1]?.getD 0).toNat : Int) _ rfl)) AllP.nil)) ?_
    refine To.thenN ?_
    refine Wp.cond (b := (bif (decide (v1 < (List.length v0 : Int))) then (quote_ok (((v0)[Int.toNat v1]?.getD 0).toNat : Int)) else false)) (by kernel_rfl) (fun hb => ?_) (fun hb => ?_)
    · replace h := if_t hb h
      refine Wp.skip ?_
      refine To.thenN ?_
      refine Wp.block ?_
      refine Wp.seq ?_
      obtain ⟨hc10, h⟩ := chk_of h
      refine Wp.region hΓ [] [] [0, 1, 7, 8, 9] [1008] (K' := [(0, .str v0), (1, .val (.int .i64 v1)), (7, .val (.int .u8 v7)), (8, .row 1008), (9, .val (.int .u8 (((v0)[Int.toNat v1]?.getD 0).toNat : Int)))]) (L' := [(1008, 5, [.rowc false (α := UInt8) 0 e8 v8])]) (ob := [(decide (0 ≤ v1 ∧ v1 < (List.length v0 : Int))) = true]) (by kernel_rfl) (AllP.cons hc10 AllP.nil) ?_
      refine To.thenN ?_
      refine Wp.block ?_
      refine Wp.seq ?_
      obtain ⟨hc9, h⟩ := chk_of h
      obtain ⟨x2, hx2, h⟩ := lett_of h
      refine Wp.region hΓ [] [] [0, 1, 7, 8, 9, 56] [1008] (K' := [(0, .str v0), (1, .val (.int .i64 v1)), (7, .val (.int .u8 v7)), (8, .row 1008), (9, .val (.int .u8 (((v0)[Int.toNat v1]?.getD 0).toNat : Int))), (56, .val (.bool (bif (bif (bif ((((v0)[Int.toNat v1]?.getD 0).toNat : Int) == 39) then (v7 == (((v0)[Int.toNat v1]?.getD 0).toNat : Int)) else false) then (decide ((IntKind.wrap .i64 (v1 + 1)) < (List.length v0 : Int))) else false) then ((((v0)[Int.toNat (IntKind.wrap .i64 (v1 + 1))]?.getD 0).toNat : Int) == (((v0)[Int.toNat v1]?.getD 0).toNat : Int)) else false)))]) (L' := [(1008, 5, [.rowc false (α := UInt8) 0 e8 v8])]) (ob := [(!((bif (bif ((((v0)[Int.toNat v1]?.getD 0).toNat : Int) == 39) then (v7 == (((v0)[Int.toNat v1]?.getD 0).toNat : Int)) else false) then (decide ((IntKind.wrap .i64 (v1 + 1)) < (List.length v0 : Int))) else false) == true) || decide (0 ≤ (IntKind.wrap .i64 (v1 + 1)) ∧ (IntKind.wrap .i64 (v1 + 1)) < (List.length v0 : Int))) = true]) (by kernel_rfl) (AllP.cons hc9 AllP.nil) ?_
      refine To.eq (K' := [(0, .str v0), (1, .val (.int .i64 v1)), (7, .val (.int .u8 v7)), (8, .row 1008), (9, .val (.int .u8 (((v0)[Int.toNat v1]?.getD 0).toNat : Int))), (56, .val (.bool x2))]) (L' := [(1008, 5, [.rowc false (α := UInt8) 0 e8 v8])]) (by cases hx2; rfl) (by cases hx2; rfl) ?_
      refine To.thenN ?_
      refine Wp.cond (b := x2) (by kernel_rfl) (fun hb => ?_) (fun hb => ?_)
      · replace h := if_t hb h
        refine Wp.seq ?_
        obtain ⟨hc3, h⟩ := chk_of h
        refine Wp.region hΓ [] [(2, .recs (α := UInt8) 0 e8 ([((v0)[Int.toNat v1]?.getD 0)])), (3, .recs (α := UInt8) 0 e8 (v8 ++ ([((v0)[Int.toNat v1]?.getD 0)] : List (UInt8))))] [0, 1, 7, 8] [82] (K' := [(0, .str v0), (1, .val (.int .i64 v1)), (7, .val (.int .u8 v7)), (8, .row 82)]) (L' := [(82, 5, [.rowc false (α := UInt8) 0 e8 (v8 ++ ([((v0)[Int.toNat v1]?.getD 0)] : List (UInt8)))])]) (ob := [(MkOb 1 [.val (.int .u8 (((v0)[Int.toNat v1]?.getD 0).toNat : Int))] 1 (.recs (α := UInt8) 0 e8 ([((v0)[Int.toNat v1]?.getD 0)])) ∧ GoodR (.recs (α := UInt8) 0 e8 ([((v0)[Int.toNat v1]?.getD 0)]))), (decide ((List.length v8 + List.length ([((v0)[Int.toNat v1]?.getD 0)] : List (UInt8))) * (1 + 1) ≤ limit)) = true, (AppOb 0 e8 v8 (List.flatMap e8 ([((v0)[Int.toNat v1]?.getD 0)] : List (UInt8))) (List.length ([((v0)[Int.toNat v1]?.getD 0)] : List (UInt8))) (.recs (α := UInt8) 0 e8 (v8 ++ ([((v0)[Int.toNat v1]?.getD 0)] : List (UInt8)))) ∧ GoodR (.recs (α := UInt8) 0 e8 (v8 ++ ([((v0)[Int.toNat v1]?.getD 0)] : List (UInt8)))))]) (by kernel_rfl) (AllP.cons (mkOb (All8.cells (ns := [(((v0)[Int.toNat v1]?.getD 0).toNat : Int)]) (.cons rfl .nil)) rfl rfl (good8 _)) (AllP.cons hc3 (AllP.cons (appOb rfl rfl (good8 _)) AllP.nil))) ?_
        refine To.thenN ?_
        refine Wp.region hΓ [] [] [0, 1, 7, 8] [82] (K' := [(0, .str v0), (1, .val (.int .i64 (IntKind.wrap .i64 (v1 + 2)))), (7, .val (.int .u8 v7)), (8, .row 82)]) (L' := [(82, 5, [.rowc false (α := UInt8) 0 e8 (v8 ++ ([((v0)[Int.toNat v1]?.getD 0)] : List (UInt8)))])]) (ob := []) (by kernel_rfl) AllP.nil ?_
        refine To.blockN ?_
        refine To.blockN ?_
        refine To.keep (kk := [0, 1, 7, 8]) (kl := [82]) (K' := [(0, .str v0), (1, .val (.int .i64 (IntKind.wrap .i64 (v1 + 2)))), (7, .val (.int .u8 v7)), (8, .row 82)]) (L' := [(82, 5, [.rowc false (α := UInt8) 0 e8 (v8 ++ ([((v0)[Int.toNat v1]?.getD 0)] : List (UInt8)))])]) (by kernel_rfl) (by kernel_rfl) ?_
        refine To.pre (St.rename 82 1008 (K' := [(0, .str v0), (1, .val (.int .i64 (IntKind.wrap .i64 (v1 + 2)))), (7, .val (.int .u8 v7)), (8, .row 1008)]) (L' := [(1008, 5, [.rowc false (α := UInt8) 0 e8 (v8 ++ ([((v0)[Int.toNat v1]?.getD 0)] : List (UInt8)))])]) (by kernel_rfl) (by kernel_rfl) (by kernel_rfl)) ?_
        refine To.keep (kk := [0, 1, 7, 8]) (kl := [1008]) (K' := [(0, .str v0), (1, .val (.int .i64 (IntKind.wrap .i64 (v1 + 2)))), (7, .val (.int .u8 v7)), (8, .row 1008)]) (L' := [(1008, 5, [.rowc false (α := UInt8) 0 e8 (v8 ++ ([((v0)[Int.toNat v1]?.getD 0)] : List (UInt8)))])]) (by kernel_rfl) (by kernel_rfl) ?_
        refine To.again ?_
        exact ih (IntKind.wrap .i64 (v1 + 2)) (v8 ++ ([((v0)[Int.toNat v1]?.getD 0)] : List (UInt8))) _ h hQ
      · replace h := if_f hb h
        refine Wp.seq ?_
        refine Wp.region hΓ [] [] [0, 1, 7, 8, 9, 85] [1008] (K' := [(0, .str v0), (1, .val (.int .i64 v1)), (7, .val (.int .u8 v7)), (8, .row 1008), (9, .val (.int .u8 (((v0)[Int.toNat v1]?.getD 0).toNat : Int))), (85, .val (.bool ((((v0)[Int.toNat v1]?.getD 0).toNat : Int) == v7)))]) (L' := [(1008, 5, [.rowc false (α := UInt8) 0 e8 v8])]) (ob := []) (by kernel_rfl) AllP.nil ?_
        refine To.thenN ?_
        refine Wp.cond (b := ((((v0)[Int.toNat v1]?.getD 0).toNat : Int) == v7)) (by kernel_rfl) (fun hb => ?_) (fun hb => ?_)
        · replace h := if_t hb h
          refine Wp.seq ?_
          refine Wp.region hΓ [] [(1, .str v8)] [4, 5, 6] [] (K' := [(4, .str v8), (5, .val (.int .i64 (IntKind.wrap .i64 (v1 + 1)))), (6, .val (.int .i64 0))]) (L' := []) (ob := [(true = true → StrOb (List.flatMap e8 v8) (.str v8))]) (by kernel_rfl) (AllP.cons (fun _ => strOb (flat8 _)) AllP.nil) ?_
          refine To.thenN ?_
          refine Wp.ret ?_
          refine To.blockR ?_
          refine To.blockR ?_
          refine To.thenR ?_
          refine To.keep (kk := [4, 5, 6]) (kl := []) (K' := [(4, .str v8), (5, .val (.int .i64 (IntKind.wrap .i64 (v1 + 1)))), (6, .val (.int .i64 0))]) (L' := []) (by kernel_rfl) (by kernel_rfl) ?_
          cases h
          exact hQ
        · replace h := if_f hb h
          refine Wp.seq ?_
          refine Wp.region hΓ [] [] [0, 1, 7, 8, 9, 93] [1008] (K' := [(0, .str v0), (1, .val (.int .i64 v1)), (7, .val (.int .u8 v7)), (8, .row 1008), (9, .val (.int .u8 (((v0)[Int.toNat v1]?.getD 0).toNat : Int))), (93, .val (.bool (bif ((((v0)[Int.toNat v1]?.getD 0).toNat : Int) == 92) then (v7 == 34) else false)))]) (L' := [(1008, 5, [.rowc false (α := UInt8) 0 e8 v8])]) (ob := []) (by kernel_rfl) AllP.nil ?_
          refine To.thenN ?_
          refine Wp.cond (b := (bif ((((v0)[Int.toNat v1]?.getD 0).toNat : Int) == 92) then (v7 == 34) else false)) (by kernel_rfl) (fun hb => ?_) (fun hb => ?_)
          · replace h := if_t hb h
            refine Wp.seq ?_
            obtain ⟨hc7, h⟩ := chk_of h
            obtain ⟨r4, hr4, h⟩ := bind_of h
            refine Wp.region hΓ [] [(3, .tup [.val (.int .u8 r4.1), .val (.int .i64 r4.2)])] [0, 1, 7, 8, 10, 11] [1008] (K' := [(0, .str v0), (1, .val (.int .i64 v1)), (7, .val (.int .u8 v7)), (8, .row 1008), (10, .val (.int .u8 r4.1)), (11, .val (.int .i64 r4.2))]) (L' := [(1008, 5, [.rowc false (α := UInt8) 0 e8 v8])]) (ob := [(decide (0 ≤ v1 ∧ v1 ≤ (List.length v0 : Int))) = true, (true = true → CX Try.prog 19 [.str (List.drop (Int.toNat v1) v0)] (.tup [.val (.int .u8 r4.1), .val (.int .i64 r4.2)]))]) (by kernel_rfl) (AllP.cons hc7 (AllP.cons (fun _ => cx (ok_quote_escape n (List.drop (Int.toNat v1) v0) _ hr4)) AllP.nil)) ?_
            refine To.thenN ?_
            refine Wp.seq ?_
            refine Wp.seq ?_
            refine Wp.region hΓ [] [] [0, 1, 7, 8, 10, 11, 108] [1008] (K' := [(0, .str v0), (1, .val (.int .i64 v1)), (7, .val (.int .u8 v7)), (8, .row 1008), (10, .val (.int .u8 r4.1)), (11, .val (.int .i64 r4.2)), (108, .val (.bool (r4.2 == 0)))]) (L' := [(1008, 5, [.rowc false (α := UInt8) 0 e8 v8])]) (ob := []) (by kernel_rfl) AllP.nil ?_
            refine To.thenN ?_
            refine Wp.cond (b := (r4.2 == 0)) (by kernel_rfl) (fun hb => ?_) (fun hb => ?_)
            · replace h := if_t hb h
              refine Wp.seq ?_
              refine Wp.region hΓ [] [] [4, 5, 6] [] (K' := [(4, .str []), (5, .val (.int .i64 0)), (6, .val (.int .i64 3))]) (L' := []) (ob := []) (by kernel_rfl) AllP.nil ?_
              refine To.thenN ?_
              refine Wp.ret ?_
              refine To.thenR ?_
              refine To.blockR ?_
              refine To.blockR ?_
              refine To.thenR ?_
              refine To.keep (kk := [4, 5, 6]) (kl := []) (K' := [(4, .str []), (5, .val (.int .i64 0)), (6, .val (.int .i64 3))]) (L' := []) (by kernel_rfl) (by kernel_rfl) ?_
              cases h
              exact hQ
            · replace h := if_f hb h
              refine Wp.skip ?_
              refine To.thenN ?_
              refine Wp.seq ?_
              obtain ⟨u5, h⟩ := chk_of h
              obtain ⟨hc6, h⟩ := chk_of h
              refine Wp.region hΓ [] [(2, .recs (α := UInt8) 0 e8 [(UInt8.ofNat (Int.toNat r4.1))]), (3, .recs (α := UInt8) 0 e8 (v8 ++ ([(UInt8.ofNat (Int.toNat r4.1))] : List (UInt8))))] [0, 1, 7, 8, 11] [112] (K' := [(0, .str v0), (1, .val (.int .i64 v1)), (7, .val (.int .u8 v7)), (8, .row 112), (11, .val (.int .i64 r4.2))]) (L' := [(112, 5, [.rowc false (α := UInt8) 0 e8 (v8 ++ ([(UInt8.ofNat (Int.toNat r4.1))] : List (UInt8)))])]) (ob := [(MkOb 1 [.val (.int .u8 r4.1)] 1 (.recs (α := UInt8) 0 e8 [(UInt8.ofNat (Int.toNat r4.1))]) ∧ GoodR (.recs (α := UInt8) 0 e8 [(UInt8.ofNat (Int.toNat r4.1))])), (decide ((List.length v8 + List.length ([(UInt8.ofNat (Int.toNat r4.1))] : List (UInt8))) * (1 + 1) ≤ limit)) = true, (AppOb 0 e8 v8 (List.flatMap e8 ([(UInt8.ofNat (Int.toNat r4.1))] : List (UInt8))) (List.length ([(UInt8.ofNat (Int.toNat r4.1))] : List (UInt8))) (.recs (α := UInt8) 0 e8 (v8 ++ ([(UInt8.ofNat (Int.toNat r4.1))] : List (UInt8)))) ∧ GoodR (.recs (α := UInt8) 0 e8 (v8 ++ ([(UInt8.ofNat (Int.toNat r4.1))] : List (UInt8)))))]) (by kernel_rfl) (AllP.cons (mkOb (All8.cells (ns := [r4.1]) (.cons (u8_of u5) .nil)) rfl rfl (good8 _)) (AllP.cons hc6 (AllP.cons (appOb rfl rfl (good8 _)) AllP.nil))) ?_
              refine To.thenN ?_
              refine Wp.region hΓ [] [] [0, 1, 7, 8] [112] (K' := [(0, .str v0), (1, .val (.int .i64 (IntKind.wrap .i64 (v1 + r4.2)))), (7, .val (.int .u8 v7)), (8, .row 112)]) (L' := [(112, 5, [.rowc false (α := UInt8) 0 e8 (v8 ++ ([(UInt8.ofNat (Int.toNat r4.1))] : List (UInt8)))])]) (ob := []) (by kernel_rfl) AllP.nil ?_
              refine To.blockN ?_
              refine To.blockN ?_
              refine To.keep (kk := [0, 1, 7, 8]) (kl := [112]) (K' := [(0, .str v0), (1, .val (.int .i64 (IntKind.wrap .i64 (v1 + r4.2)))), (7, .val (.int .u8 v7)), (8, .row 112)]) (L' := [(112, 5, [.rowc false (α := UInt8) 0 e8 (v8 ++ ([(UInt8.ofNat (Int.toNat r4.1))] : List (UInt8)))])]) (by kernel_rfl) (by kernel_rfl) ?_
              refine To.pre (St.rename 112 1008 (K' := [(0, .str v0), (1, .val (.int .i64 (IntKind.wrap .i64 (v1 + r4.2)))), (7, .val (.int .u8 v7)), (8, .row 1008)]) (L' := [(1008, 5, [.rowc false (α := UInt8) 0 e8 (v8 ++ ([(UInt8.ofNat (Int.toNat r4.1))] : List (UInt8)))])]) (by kernel_rfl) (by kernel_rfl) (by kernel_rfl)) ?_
              refine To.keep (kk := [0, 1, 7, 8]) (kl := [1008]) (K' := [(0, .str v0), (1, .val (.int .i64 (IntKind.wrap .i64 (v1 + r4.2)))), (7, .val (.int .u8 v7)), (8, .row 1008)]) (L' := [(1008, 5, [.rowc false (α := UInt8) 0 e8 (v8 ++ ([(UInt8.ofNat (Int.toNat r4.1))] : List (UInt8)))])]) (by kernel_rfl) (by kernel_rfl) ?_
              refine To.again ?_
              exact ih (IntKind.wrap .i64 (v1 + r4.2)) (v8 ++ ([(UInt8.ofNat (Int.toNat r4.1))] : List (UInt8))) _ h hQ
          · replace h := if_f hb h
            refine Wp.seq ?_
            obtain ⟨hc8, h⟩ := chk_of h
            refine Wp.region hΓ [] [(2, .recs (α := UInt8) 0 e8 ([((v0)[Int.toNat v1]?.getD 0)])), (3, .recs (α := UInt8) 0 e8 (v8 ++ ([((v0)[Int.toNat v1]?.getD 0)] : List (UInt8))))] [0, 1, 7, 8] [53] (K' := [(0, .str v0), (1, .val (.int .i64 v1)), (7, .val (.int .u8 v7)), (8, .row 53)]) (L' := [(53, 5, [.rowc false (α := UInt8) 0 e8 (v8 ++ ([((v0)[Int.toNat v1]?.getD 0)] : List (UInt8)))])]) (ob := [(MkOb 1 [.val (.int .u8 (((v0)[Int.toNat v1]?.getD 0).toNat : Int))] 1 (.recs (α := UInt8) 0 e8 ([((v0)[Int.toNat v1]?.getD 0)])) ∧ GoodR (.recs (α := UInt8) 0 e8 ([((v0)[Int.toNat v1]?.getD 0)]))), (decide ((List.length v8 + List.length ([((v0)[Int.toNat v1]?.getD 0)] : List (UInt8))) * (1 + 1) ≤ limit)) = true, (AppOb 0 e8 v8 (List.flatMap e8 ([((v0)[Int.toNat v1]?.getD 0)] : List (UInt8))) (List.length ([((v0)[Int.toNat v1]?.getD 0)] : List (UInt8))) (.recs (α := UInt8) 0 e8 (v8 ++ ([((v0)[Int.toNat v1]?.getD 0)] : List (UInt8)))) ∧ GoodR (.recs (α := UInt8) 0 e8 (v8 ++ ([((v0)[Int.toNat v1]?.getD 0)] : List (UInt8)))))]) (by kernel_rfl) (AllP.cons (mkOb (All8.cells (ns := [(((v0)[Int.toNat v1]?.getD 0).toNat : Int)]) (.cons rfl .nil)) rfl rfl (good8 _)) (AllP.cons hc8 (AllP.cons (appOb rfl rfl (good8 _)) AllP.nil))) ?_
            refine To.thenN ?_
            refine Wp.region hΓ [] [] [0, 1, 7, 8] [53] (K' := [(0, .str v0), (1, .val (.int .i64 (IntKind.wrap .i64 (v1 + 1)))), (7, .val (.int .u8 v7)), (8, .row 53)]) (L' := [(53, 5, [.rowc false (α := UInt8) 0 e8 (v8 ++ ([((v0)[Int.toNat v1]?.getD 0)] : List (UInt8)))])]) (ob := []) (by kernel_rfl) AllP.nil ?_
            refine To.blockN ?_
            refine To.blockN ?_
            refine To.keep (kk := [0, 1, 7, 8]) (kl := [53]) (K' := [(0, .str v0), (1, .val (.int .i64 (IntKind.wrap .i64 (v1 + 1)))), (7, .val (.int .u8 v7)), (8, .row 53)]) (L' := [(53, 5, [.rowc false (α := UInt8) 0 e8 (v8 ++ ([((v0)[Int.toNat v1]?.getD 0)] : List (UInt8)))])]) (by kernel_rfl) (by kernel_rfl) ?_
            refine To.pre (St.rename 53 1008 (K' := [(0, .str v0), (1, .val (.int .i64 (IntKind.wrap .i64 (v1 + 1)))), (7, .val (.int .u8 v7)), (8, .row 1008)]) (L' := [(1008, 5, [.rowc false (α := UInt8) 0 e8 (v8 ++ ([((v0)[Int.toNat v1]?.getD 0)] : List (UInt8)))])]) (by kernel_rfl) (by kernel_rfl) (by kernel_rfl)) ?_
            refine To.keep (kk := [0, 1, 7, 8]) (kl := [1008]) (K' := [(0, .str v0), (1, .val (.int .i64 (IntKind.wrap .i64 (v1 + 1)))), (7, .val (.int .u8 v7)), (8, .row 1008)]) (L' := [(1008, 5, [.rowc false (α := UInt8) 0 e8 (v8 ++ ([((v0)[Int.toNat v1]?.getD 0)] : List (UInt8)))])]) (by kernel_rfl) (by kernel_rfl) ?_
            refine To.again ?_
            exact ih (IntKind.wrap .i64 (v1 + 1)) (v8 ++ ([((v0)[Int.toNat v1]?.getD 0)] : List (UInt8))) _ h hQ
    · replace h := if_f hb h
      refine Wp.exit ?_
      refine To.thenX ?_
      refine To.thenX ?_
      refine To.keep (kk := []) (kl := []) (K' := []) (L' := []) (by kernel_rfl) (by kernel_rfl) ?_
      cases h
      exact hQ
def quote_Scan (n : Nat) (a0 : List UInt8) (a1 : Int) : Option ((List UInt8) × Int × Int) :=
  if ((!((bif (decide (a1 < 0)) then true else (decide (a1 ≥ (List.length a0 : Int)))) == false) || decide (0 ≤ a1 ∧ a1 < (List.length a0 : Int)))) = true then (if ((!((((((a0)[Int.toNat a1]?.getD 0).toNat : Int) != 34) == true) && ((bif (decide (a1 < 0)) then true else (decide (a1 ≥ (List.length a0 : Int)))) == false)) || decide (0 ≤ a1 ∧ a1 < (List.length a0 : Int)))) = true then (lett ((bif (bif (decide (a1 < 0)) then true else (decide (a1 ≥ (List.length a0 : Int)))) then true else (bif ((((a0)[Int.toNat a1]?.getD 0).toNat : Int) != 34) then ((((a0)[Int.toNat a1]?.getD 0).toNat : Int) != 39) else false)) : Bool) fun x1 =>
  if x1 = true then (some ([], 0, 2))
  else (if (decide (0 ≤ a1 ∧ a1 < (List.length a0 : Int))) = true then ((quote_Scan_l1 n a0 (((a0)[Int.toNat a1]?.getD 0).toNat : Int) n (IntKind.wrap .i64 (a1 + 1)) ([] : List (UInt8))).bind fun o2 =>
  (Sum.elim (fun o2 => some ([], 0, 3)) (fun o2 => some (o2.1, o2.2.1, o2.2.2))) o2) else none)) else none) else none
theorem ok_quote_Scan (n : Nat) (a0 : List UInt8) (a1 : Int) (r : (List UInt8) × Int × Int) (h : quote_Scan n a0 a1 = some r) : CallsX Try.prog 7 [.str a0, .val (.int .i64 a1)] (.tup [.str r.1, .val (.int .i64 r.2.1), .val (.int .i64 r.2.2)]) := by
  unfold quote_Scan at h
  refine callsX_of (fn := Try.f7) (by kernel_rfl) rfl (by kernel_rfl) (Nat.le_of_ble_eq_true (by kernel_rfl)) fun F0 w0 => ?_
  refine Wp.keep (kk := [0, 1]) (kl := []) (K' := [(0, .str a0), (1, .val (.int .i64 a1))]) (L' := []) (by kernel_rfl) (by kernel_rfl) ?_
  refine Wp.seq ?_
  refine Wp.region hΓ [] [] [0, 1] [] (K' := [(0, .str a0), (1, .val (.int .i64 a1))]) (L' := []) (ob := []) (by kernel_rfl) AllP.nil ?_
  refine To.thenN ?_
  refine Wp.seq ?_
  refine Wp.seq ?_
  obtain ⟨hc4, h⟩ := chk_of h
  obtain ⟨hc5, h⟩ := chk_of h
  obtain ⟨x1, hx1, h⟩ := lett_of h
  refine Wp.region hΓ [] [] [0, 1, 31] [] (K' := [(0, .str a0), (1, .val (.int .i64 a1)), (31, .val (.bool (bif (bif (decide (a1 < 0)) then true else (decide (a1 ≥ (List.length a0 : Int)))) then true else (bif ((((a0)[Int.toNat a1]?.getD 0).toNat : Int) != 34) then ((((a0)[Int.toNat a1]?.getD 0).toNat : Int) != 39) else false))))]) (L' := []) (ob := [(!((bif (decide (a1 < 0)) then true else (decide (a1 ≥ (List.length a0 : Int)))) == false) || decide (0 ≤ a1 ∧ a1 < (List.length a0 : Int))) = true, (!((((((a0)[Int.toNat a1]?.getD 0).toNat : Int) != 34) == true) && ((bif (decide (a1 < 0)) then true else (decide (a1 ≥ (List.length a0 : Int)))) == false)) || decide (0 ≤ a1 ∧ a1 < (List.length a0 : Int))) = true]) (by kernel_rfl) (AllP.cons hc4 (AllP.cons hc5 AllP.nil)) ?_
  refine To.eq (K' := [(0, .str a0), (1, .val (.int .i64 a1)), (31, .val (.bool x1))]) (L' := []) (by cases hx1; rfl) (by cases hx1; rfl) ?_
  refine To.thenN ?_
  refine Wp.cond (b := x1) (by kernel_rfl) (fun hb => ?_) (fun hb => ?_)
  · replace h := if_t hb h
    refine Wp.seq ?_
    refine Wp.region hΓ [] [] [4, 5, 6] [] (K' := [(4, .str []), (5, .val (.int .i64 0)), (6, .val (.int .i64 2))]) (L' := []) (ob := []) (by kernel_rfl) AllP.nil ?_
    refine To.thenN ?_
    refine Wp.ret ?_
    refine To.thenR ?_
    refine To.keep (kk := [4, 5, 6]) (kl := []) (K' := [(4, .str []), (5, .val (.int .i64 0)), (6, .val (.int .i64 2))]) (L' := []) (by kernel_rfl) (by kernel_rfl) ?_
    cases h
    exact To.done hΓ (by kernel_rfl)
  · replace h := if_f hb h
    refine Wp.skip ?_
    refine To.thenN ?_
    refine Wp.seq ?_
    obtain ⟨hc3, h⟩ := chk_of h
    refine Wp.region hΓ [] [] [0, 1, 7] [] (K' := [(0, .str a0), (1, .val (.int .i64 a1)), (7, .val (.int .u8 (((a0)[Int.toNat a1]?.getD 0).toNat : Int)))]) (L' := []) (ob := [(decide (0 ≤ a1 ∧ a1 < (List.length a0 : Int))) = true]) (by kernel_rfl) (AllP.cons hc3 AllP.nil) ?_
    refine To.thenN ?_
    refine Wp.seq ?_
    refine Wp.region hΓ [] [] [0, 1, 7, 8] [] (K' := [(0, .str a0), (1, .val (.int .i64 a1)), (7, .val (.int .u8 (((a0)[Int.toNat a1]?.getD 0).toNat : Int))), (8, .val (.slice none 0 0))]) (L' := []) (ob := []) (by kernel_rfl) AllP.nil ?_
    refine To.thenN ?_
    refine Wp.seq ?_
    refine Wp.seq ?_
    refine Wp.region hΓ [] [] [0, 1, 7, 8] [] (K' := [(0, .str a0), (1, .val (.int .i64 (IntKind.wrap .i64 (a1 + 1)))), (7, .val (.int .u8 (((a0)[Int.toNat a1]?.getD 0).toNat : Int))), (8, .val (.slice none 0 0))]) (L' := []) (ob := []) (by kernel_rfl) AllP.nil ?_
    refine To.thenN ?_
    refine Wp.block ?_
    obtain ⟨o2, ho2, h⟩ := bind_of h
    refine Wp.keep (kk := [0, 1, 7, 8]) (kl := []) (K' := [(0, .str a0), (1, .val (.int .i64 (IntKind.wrap .i64 (a1 + 1)))), (7, .val (.int .u8 (((a0)[Int.toNat a1]?.getD 0).toNat : Int))), (8, .val (.slice none 0 0))]) (L' := []) (by kernel_rfl) (by kernel_rfl) ?_
    refine Wp.pre (St.vacant (t := 8) (k := 1008) (e := 5) (K' := [(0, .str a0), (1, .val (.int .i64 (IntKind.wrap .i64 (a1 + 1)))), (7, .val (.int .u8 (((a0)[Int.toNat a1]?.getD 0).toNat : Int))), (8, .row 1008)]) (good8 _) (by kernel_rfl) (by kernel_rfl)) ?_
    refine Wp.keep (kk := [0, 1, 7, 8]) (kl := [1008]) (K' := [(0, .str a0), (1, .val (.int .i64 (IntKind.wrap .i64 (a1 + 1)))), (7, .val (.int .u8 (((a0)[Int.toNat a1]?.getD 0).toNat : Int))), (8, .row 1008)]) (L' := [(1008, 5, [.rowc false (α := UInt8) 0 e8 []])]) (by kernel_rfl) (by kernel_rfl) ?_
    refine Wp.loopL ?_
    refine ok_quote_Scan_l1 n a0 (((a0)[Int.toNat a1]?.getD 0).toNat : Int) n (IntKind.wrap .i64 (a1 + 1)) ([] : List (UInt8)) o2 ho2 ?_
    rcases o2 with o2 | o2
    · replace h := sum_l h
      refine To.blockX ?_
      refine To.thenN ?_
      refine Wp.seq ?_
      refine Wp.region hΓ [] [] [4, 5, 6] [] (K' := [(4, .str []), (5, .val (.int .i64 0)), (6, .val (.int .i64 3))]) (L' := []) (ob := []) (by kernel_rfl) AllP.nil ?_
      refine To.thenN ?_
      refine Wp.ret ?_
      refine To.keep (kk := [4, 5, 6]) (kl := []) (K' := [(4, .str []), (5, .val (.int .i64 0)), (6, .val (.int .i64 3))]) (L' := []) (by kernel_rfl) (by kernel_rfl) ?_
      cases h
      exact To.done hΓ (by kernel_rfl)
    · replace h := sum_r h
      refine To.blockR ?_
      refine To.thenR ?_
      refine To.keep (kk := [4, 5, 6]) (kl := []) (K' := [(4, .str o2.1), (5, .val (.int .i64 o2.2.1)), (6, .val (.int .i64 o2.2.2))]) (L' := []) (by kernel_rfl) (by kernel_rfl) ?_
      cases h
      exact To.done hΓ (by kernel_rfl)
def quote_Double_j2 (n : Nat) (v0 : List UInt8) (v3 : List (UInt8)) (v13 : Int) (v14 : Int) : Option ((List (UInt8))) :=
  if (decide (0 ≤ v14 ∧ v14 < (List.length v0 : Int))) = true then (lett ((bif ((((v0)[Int.toNat v14]?.getD 0).toNat : Int) == 34) then true else ((((v0)[Int.toNat v14]?.getD 0).toNat : Int) == 92)) : Bool) fun x1 =>
  if x1 = true then (if (decide ((List.length v3 + List.length ([92, ((v0)[Int.toNat v14]?.getD 0)] : List (UInt8))) * (1 + 1) ≤ limit)) = true then (some (v3 ++ ([92, ((v0)[Int.toNat v14]?.getD 0)] : List (UInt8)))) else none)
  else (if ((((v0)[Int.toNat v14]?.getD 0).toNat : Int) == 10) = true then (if (decide ((List.length v3 + List.length ([92, 110] : List (UInt8))) * (1 + 1) ≤ limit)) = true then (some (v3 ++ ([92, 110] : List (UInt8)))) else none)
  else (if ((((v0)[Int.toNat v14]?.getD 0).toNat : Int) == 9) = true then (if (decide ((List.length v3 + List.length ([92, 116] : List (UInt8))) * (1 + 1) ≤ limit)) = true then (some (v3 ++ ([92, 116] : List (UInt8)))) else none)
  else (if (!(quote_ok (((v0)[Int.toNat v14]?.getD 0).toNat : Int))) = true then (if (decide (0 ≤ (4 : Int))) = true then (if (decide (0 ≤ (Int.fdiv (((v0)[Int.toNat v14]?.getD 0).toNat : Int) (2 ^ (min (Int.toNat 4) (IntKind.bits .u8)))) ∧ (Int.fdiv (((v0)[Int.toNat v14]?.getD 0).toNat : Int) (2 ^ (min (Int.toNat 4) (IntKind.bits .u8)))) < (List.length ([48, 49, 50, 51, 52, 53, 54, 55, 56, 57, 97, 98, 99, 100, 101, 102] : List UInt8) : Int))) = true then (if (decide (0 ≤ (IntKind.wrap .u8 ((BitVec.ofInt (IntKind.bits .u8) (((v0)[Int.toNat v14]?.getD 0).toNat : Int) &&& BitVec.ofInt (IntKind.bits .u8) 15).toNat)) ∧ (IntKind.wrap .u8 ((BitVec.ofInt (IntKind.bits .u8) (((v0)[Int.toNat v14]?.getD 0).toNat : Int) &&& BitVec.ofInt (IntKind.bits .u8) 15).toNat)) < (List.length ([48, 49, 50, 51, 52, 53, 54, 55, 56, 57, 97, 98, 99, 100, 101, 102] : List UInt8) : Int))) = true then (if (decide ((List.length v3 + List.length ([92, 120, ((([48, 49, 50, 51, 52, 53, 54, 55, 56, 57, 97, 98, 99, 100, 101, 102] : List UInt8))[Int.toNat (Int.fdiv (((v0)[Int.toNat v14]?.getD 0).toNat : Int) (2 ^ (min (Int.toNat 4) (IntKind.bits .u8))))]?.getD 0), ((([48, 49, 50, 51, 52, 53, 54, 55, 56, 57, 97, 98, 99, 100, 101, 102] : List UInt8))[Int.toNat (IntKind.wrap .u8 ((BitVec.ofInt (IntKind.bits .u8) (((v0)[Int.toNat v14]?.getD 0).toNat : Int) &&& BitVec.ofInt (IntKind.bits .u8) 15).toNat))]?.getD 0)] : List (UInt8))) * (1 + 1) ≤ limit)) = true then (lett ((v3 ++ ([92, 120, ((([48, 49, 50, 51, 52, 53, 54, 55, 56, 57, 97, 98, 99, 100, 101, 102] : List UInt8))[Int.toNat (Int.fdiv (((v0)[Int.toNat v14]?.getD 0).toNat : Int) (2 ^ (min (Int.toNat 4) (IntKind.bits .u8))))]?.getD 0), ((([48, 49, 50, 51, 52, 53, 54, 55, 56, 57, 97, 98, 99, 100, 101, 102] : List UInt8))[Int.toNat (IntKind.wrap .u8 ((BitVec.ofInt (IntKind.bits .u8) (((v0)[Int.toNat v14]?.getD 0).toNat : Int) &&& BitVec.ofInt (IntKind.bits .u8) 15).toNat))]?.getD 0)] : List (UInt8))) : List (UInt8)) fun x5 =>
  some x5) else none) else none) else none) else none)
  else (if (decide ((List.length v3 + List.length ([((v0)[Int.toNat v14]?.getD 0)] : List (UInt8))) * (1 + 1) ≤ limit)) = true then (some (v3 ++ ([((v0)[Int.toNat v14]?.getD 0)] : List (UInt8)))) else none))))) else none
theorem ok_quote_Double_j2 (n : Nat) (v0 : List UInt8) (v3 : List (UInt8)) (v13 : Int) (v14 : Int) (o : (List (UInt8))) (h : quote_Double_j2 n v0 v3 v13 v14 = some o) {F0 : Fz} {w0 : Pt} {Q : Exit → Act → World → Prop} (hQ : To 65 F0 w0 [(0, .str v0), (3, .row 1003), (13, .val (.int .i64 v13)), (14, .val (.int .i64 v14))] [(1003, 5, [.rowc false (α := UInt8) 0 e8 o])] .normal Q) : Wp Try.prog 65 F0 w0 [(0, .str v0), (3, .row 1003), (13, .val (.int .i64 v13)), (14, .val (.int .i64 v14))] [(1003, 5, [.rowc false (α := UInt8) 0 e8 v3])] (cA (cB (cB (cI (cI (cB (cA (cB (cB (cF Try.f16)))))))))) Q := by
  unfold quote_Double_j2 at h
  refine Wp.block ?_
  refine Wp.seq ?_
  refine Wp.region hΓ [] [] [0, 3, 4, 13, 14] [1003] (K' := [(0, .str v0), (3, .row 1003), (4, .val (.int .i64 v14)), (13, .val (.int .i64 v13)), (14, .val (.int .i64 v14))]) (L' := [(1003, 5, [.rowc false (α := UInt8) 0 e8 v3])]) (ob := []) (by kernel_rfl) AllP.nil ?_
  refine To.thenN ?_
  refine Wp.seq ?_
  obtain ⟨hc11, h⟩ := chk_of h
  refine Wp.region hΓ [] [] [0, 3, 5, 13, 14] [1003] (K' := [(0, .str v0), (3, .row 1003), (5, .val (.int .u8 (((v0)[Int.toNat v14]?.getD 0).toNat : Int))), (13, .val (.int .i64 v13)), (14, .val (.int .i64 v14))]) (L' := [(1003, 5, [.rowc false (α := UInt8) 0 e8 v3])]) (ob := [(decide (0 ≤ v14 ∧ v14 < (List.length v0 : Int))) = true]) (by kernel_rfl) (AllP.cons hc11 AllP.nil) ?_
  refine To.thenN ?_
  refine Wp.block ?_
  refine Wp.seq ?_
  obtain ⟨x1, hx1, h⟩ := lett_of h
  refine Wp.region hΓ [] [] [0, 3, 5, 13, 14, 24] [1003] (K' := [(0, .str v0), (3, .row 1003), (5, .val (.int .u8 (((v0)[Int.toNat v14]?.getD 0).toNat : Int))), (13, .val (.int .i64 v13)), (14, .val (.int .i64 v14)), (24, .val (.bool (bif ((((v0)[Int.toNat v14]?.getD 0).toNat : Int) == 34) then true else ((((v0)[Int.toNat v14]?.getD 0).toNat : Int) == 92))))]) (L' := [(1003, 5, [.rowc false (α := UInt8) 0 e8 v3])]) (ob := []) (by kernel_rfl) AllP.nil ?_
  refine To.eq (K' := [(0, .str v0), (3, .row 1003), (5, .val (.int .u8 (((v0)[Int.toNat v14]?.getD 0).toNat : Int))), (13, .val (.int .i64 v13)), (14, .val (.int .i64 v14)), (24, .val (.bool x1))]) (L' := [(1003, 5, [.rowc false (α := UInt8) 0 e8 v3])]) (by cases hx1; rfl) (by cases hx1; rfl) ?_
  refine To.thenN ?_
  refine Wp.cond (b := x1) (by kernel_rfl) (fun hb => ?_) (fun hb => ?_)
  · replace h := if_t hb h
    obtain ⟨hc2, h⟩ := chk_of h
    refine Wp.region hΓ [] [(2, .recs (α := UInt8) 0 e8 ([92, ((v0)[Int.toNat v14]?.getD 0)])), (3, .recs (α := UInt8) 0 e8 (v3 ++ ([92, ((v0)[Int.toNat v14]?.getD 0)] : List (UInt8))))] [0, 3, 13, 14] [34] (K' := [(0, .str v0), (3, .row 34), (13, .val (.int .i64 v13)), (14, .val (.int .i64 v14))]) (L' := [(34, 5, [.rowc false (α := UInt8) 0 e8 (v3 ++ ([92, ((v0)[Int.toNat v14]?.getD 0)] : List (UInt8)))])]) (ob := [(MkOb 1 [.val (.int .u8 92), .val (.int .u8 (((v0)[Int.toNat v14]?.getD 0).toNat : Int))] 2 (.recs (α := UInt8) 0 e8 ([92, ((v0)[Int.toNat v14]?.getD 0)])) ∧ GoodR (.recs (α := UInt8) 0 e8 ([92, ((v0)[Int.toNat v14]?.getD 0)]))), (decide ((List.length v3 + List.length ([92, ((v0)[Int.toNat v14]?.getD 0)] : List (UInt8))) * (1 + 1) ≤ limit)) = true, (AppOb 0 e8 v3 (List.flatMap e8 ([92, ((v0)[Int.toNat v14]?.getD 0)] : List (UInt8))) (List.length ([92, ((v0)[Int.toNat v14]?.getD 0)] : List (UInt8))) (.recs (α := UInt8) 0 e8 (v3 ++ ([92, ((v0)[Int.toNat v14]?.getD 0)] : List (UInt8)))) ∧ GoodR (.recs (α := UInt8) 0 e8 (v3 ++ ([92, ((v0)[Int.toNat v14]?.getD 0)] : List (UInt8)))))]) (by kernel_rfl) (AllP.cons (mkOb (All8.cells (ns := [92, (((v0)[Int.toNat v14]?.getD 0).toNat : Int)]) (.cons rfl (.cons rfl .nil))) rfl rfl (good8 _)) (AllP.cons hc2 (AllP.cons (appOb rfl rfl (good8 _)) AllP.nil))) ?_
    refine To.blockN ?_
    refine To.blockN ?_
    refine To.keep (kk := [0, 3, 13, 14]) (kl := [34]) (K' := [(0, .str v0), (3, .row 34), (13, .val (.int .i64 v13)), (14, .val (.int .i64 v14))]) (L' := [(34, 5, [.rowc false (α := UInt8) 0 e8 (v3 ++ ([92, ((v0)[Int.toNat v14]?.getD 0)] : List (UInt8)))])]) (by kernel_rfl) (by kernel_rfl) ?_
    refine To.pre (St.rename 34 1003 (K' := [(0, .str v0), (3, .row 1003), (13, .val (.int .i64 v13)), (14, .val (.int .i64 v14))]) (L' := [(1003, 5, [.rowc false (α := UInt8) 0 e8 (v3 ++ ([92, ((v0)[Int.toNat v14]?.getD 0)] : List (UInt8)))])]) (by kernel_rfl) (by kernel_rfl) (by kernel_rfl)) ?_
    refine To.keep (kk := [0, 3, 13, 14]) (kl := [1003]) (K' := [(0, .str v0), (3, .row 1003), (13, .val (.int .i64 v13)), (14, .val (.int .i64 v14))]) (L' := [(1003, 5, [.rowc false (α := UInt8) 0 e8 (v3 ++ ([92, ((v0)[Int.toNat v14]?.getD 0)] : List (UInt8)))])]) (by kernel_rfl) (by kernel_rfl) ?_
    cases h
    exact hQ
  · replace h := if_f hb h
    refine Wp.seq ?_
    refine Wp.region hΓ [] [] [0, 3, 5, 13, 14, 35] [1003] (K' := [(0, .str v0), (3, .row 1003), (5, .val (.int .u8 (((v0)[Int.toNat v14]?.getD 0).toNat : Int))), (13, .val (.int .i64 v13)), (14, .val (.int .i64 v14)), (35, .val (.bool ((((v0)[Int.toNat v14]?.getD 0).toNat : Int) == 10)))]) (L' := [(1003, 5, [.rowc false (α := UInt8) 0 e8 v3])]) (ob := []) (by kernel_rfl) AllP.nil ?_
    refine To.thenN ?_
    refine Wp.cond (b := ((((v0)[Int.toNat v14]?.getD 0).toNat : Int) == 10)) (by kernel_rfl) (fun hb => ?_) (fun hb => ?_)
    · replace h := if_t hb h
      obtain ⟨hc3, h⟩ := chk_of h
      refine Wp.region hΓ [] [(1, .recs (α := UInt8) 0 e8 [92, 110]), (2, .recs (α := UInt8) 0 e8 (v3 ++ ([92, 110] : List (UInt8))))] [0, 3, 13, 14] [40] (K' := [(0, .str v0), (3, .row 40), (13, .val (.int .i64 v13)), (14, .val (.int .i64 v14))]) (L' := [(40, 5, [.rowc false (α := UInt8) 0 e8 (v3 ++ ([92, 110] : List (UInt8)))])]) (ob := [(MkOb 1 [.val (.int .u8 92), .val (.int .u8 110)] 2 (.recs (α := UInt8) 0 e8 [92, 110]) ∧ GoodR (.recs (α := UInt8) 0 e8 [92, 110])), (decide ((List.length v3 + List.length ([92, 110] : List (UInt8))) * (1 + 1) ≤ limit)) = true, (AppOb 0 e8 v3 (List.flatMap e8 ([92, 110] : List (UInt8))) (List.length ([92, 110] : List (UInt8))) (.recs (α := UInt8) 0 e8 (v3 ++ ([92, 110] : List (UInt8)))) ∧ GoodR (.recs (α := UInt8) 0 e8 (v3 ++ ([92, 110] : List (UInt8)))))]) (by kernel_rfl) (AllP.cons (mkOb (All8.cells (ns := [92, 110]) (.cons rfl (.cons rfl .nil))) rfl rfl (good8 _)) (AllP.cons hc3 (AllP.cons (appOb rfl rfl (good8 _)) AllP.nil))) ?_
      refine To.blockN ?_
      refine To.blockN ?_
      refine To.keep (kk := [0, 3, 13, 14]) (kl := [40]) (K' := [(0, .str v0), (3, .row 40), (13, .val (.int .i64 v13)), (14, .val (.int .i64 v14))]) (L' := [(40, 5, [.rowc false (α := UInt8) 0 e8 (v3 ++ ([92, 110] : List (UInt8)))])]) (by kernel_rfl) (by kernel_rfl) ?_
      refine To.pre (St.rename 40 1003 (K' := [(0, .str v0), (3, .row 1003), (13, .val (.int .i64 v13)), (14, .val (.int .i64 v14))]) (L' := [(1003, 5, [.rowc false (α := UInt8) 0 e8 (v3 ++ ([92, 110] : List (UInt8)))])]) (by kernel_rfl) (by kernel_rfl) (by kernel_rfl)) ?_
      refine To.keep (kk := [0, 3, 13, 14]) (kl := [1003]) (K' := [(0, .str v0), (3, .row 1003), (13, .val (.int .i64 v13)), (14, .val (.int .i64 v14))]) (L' := [(1003, 5, [.rowc false (α := UInt8) 0 e8 (v3 ++ ([92, 110] : List (UInt8)))])]) (by kernel_rfl) (by kernel_rfl) ?_
      cases h
      exact hQ
    · replace h := if_f hb h
      refine Wp.seq ?_
      refine Wp.region hΓ [] [] [0, 3, 5, 13, 14, 41] [1003] (K' := [(0, .str v0), (3, .row 1003), (5, .val (.int .u8 (((v0)[Int.toNat v14]?.getD 0).toNat : Int))), (13, .val (.int .i64 v13)), (14, .val (.int .i64 v14)), (41, .val (.bool ((((v0)[Int.toNat v14]?.getD 0).toNat : Int) == 9)))]) (L' := [(1003, 5, [.rowc false (α := UInt8) 0 e8 v3])]) (ob := []) (by kernel_rfl) AllP.nil ?_
      refine To.thenN ?_
      refine Wp.cond (b := ((((v0)[Int.toNat v14]?.getD 0).toNat : Int) == 9)) (by kernel_rfl) (fun hb => ?_) (fun hb => ?_)
      · replace h := if_t hb h
        obtain ⟨hc4, h⟩ := chk_of h
        refine Wp.region hΓ [] [(1, .recs (α := UInt8) 0 e8 [92, 116]), (2, .recs (α := UInt8) 0 e8 (v3 ++ ([92, 116] : List (UInt8))))] [0, 3, 13, 14] [46] (K' := [(0, .str v0), (3, .row 46), (13, .val (.int .i64 v13)), (14, .val (.int .i64 v14))]) (L' := [(46, 5, [.rowc false (α := UInt8) 0 e8 (v3 ++ ([92, 116] : List (UInt8)))])]) (ob := [(MkOb 1 [.val (.int .u8 92), .val (.int .u8 116)] 2 (.recs (α := UInt8) 0 e8 [92, 116]) ∧ GoodR (.recs (α := UInt8) 0 e8 [92, 116])), (decide ((List.length v3 + List.length ([92, 116] : List (UInt8))) * (1 + 1) ≤ limit)) = true, (AppOb 0 e8 v3 (List.flatMap e8 ([92, 116] : List (UInt8))) (List.length ([92, 116] : List (UInt8))) (.recs (α := UInt8) 0 e8 (v3 ++ ([92, 116] : List (UInt8)))) ∧ GoodR (.recs (α := UInt8) 0 e8 (v3 ++ ([92, 116] : List (UInt8)))))]) (by kernel_rfl) (AllP.cons (mkOb (All8.cells (ns := [92, 116]) (.cons rfl (.cons rfl .nil))) rfl rfl (good8 _)) (AllP.cons hc4 (AllP.cons (appOb rfl rfl (good8 _)) AllP.nil))) ?_
        refine To.blockN ?_
        refine To.blockN ?_
        refine To.keep (kk := [0, 3, 13, 14]) (kl := [46]) (K' := [(0, .str v0), (3, .row 46), (13, .val (.int .i64 v13)), (14, .val (.int .i64 v14))]) (L' := [(46, 5, [.rowc false (α := UInt8) 0 e8 (v3 ++ ([92, 116] : List (UInt8)))])]) (by kernel_rfl) (by kernel_rfl) ?_
        refine To.pre (St.rename 46 1003 (K' := [(0, .str v0), (3, .row 1003), (13, .val (.int .i64 v13)), (14, .val (.int .i64 v14))]) (L' := [(1003, 5, [.rowc false (α := UInt8) 0 e8 (v3 ++ ([92, 116] : List (UInt8)))])]) (by kernel_rfl) (by kernel_rfl) (by kernel_rfl)) ?_
        refine To.keep (kk := [0, 3, 13, 14]) (kl := [1003]) (K' := [(0, .str v0), (3, .row 1003), (13, .val (.int .i64 v13)), (14, .val (.int .i64 v14))]) (L' := [(1003, 5, [.rowc false (α := UInt8) 0 e8 (v3 ++ ([92, 116] : List (UInt8)))])]) (by kernel_rfl) (by kernel_rfl) ?_
        cases h
        exact hQ
      · replace h := if_f hb h
        refine Wp.seq ?_
        refine Wp.region hΓ [] [(1, .val (.bool (quote_ok (((v0)[Int.toNat v14]?.getD 0).toNat : Int))))] [0, 3, 5, 13, 14, 47] [1003] (K' := [(0, .str v0), (3, .row 1003), (5, .val (.int .u8 (((v0)[Int.toNat v14]?.getD 0).toNat : Int))), (13, .val (.int .i64 v13)), (14, .val (.int .i64 v14)), (47, .val (.bool (!(quote_ok (((v0)[Int.toNat v14]?.getD 0).toNat : Int)))))]) (L' := [(1003, 5, [.rowc false (α := UInt8) 0 e8 v3])]) (ob := [(true = true → CX Try.prog 18 [.val (.int .u8 (((v0)[Int.toNat v14]?.getD 0).toNat : Int))] (.val (.bool (quote_ok (((v0)[Int.toNat v14]?.getD 0).toNat : Int)))))]) (by kernel_rfl) (AllP.cons (fun _ => cx (ok_quote_ok (((v0)[Int.toNat v14]?.getD 0).toNat : Int) _ rfl)) AllP.nil) ?_
        refine To.thenN ?_
        refine Wp.cond (b := (!(quote_ok (((v0)[Int.toNat v14]?.getD 0).toNat : Int)))) (by kernel_rfl) (fun hb => ?_) (fun hb => ?_)
        · replace h := if_t hb h
          obtain ⟨hc6, h⟩ := chk_of h
          obtain ⟨hc7, h⟩ := chk_of h
          obtain ⟨hc8, h⟩ := chk_of h
          obtain ⟨hc9, h⟩ := chk_of h
          obtain ⟨x5, hx5, h⟩ := lett_of h
          refine Wp.regionD hm hΓ [(7, .recs (α := UInt8) 0 e8 ([92, 120, ((([48, 49, 50, 51, 52, 53, 54, 55, 56, 57, 97, 98, 99, 100, 101, 102] : List UInt8))[Int.toNat (Int.fdiv (((v0)[Int.toNat v14]?.getD 0).toNat : Int) (2 ^ (min (Int.toNat 4) (IntKind.bits .u8))))]?.getD 0), ((([48, 49, 50, 51, 52, 53, 54, 55, 56, 57, 97, 98, 99, 100, 101, 102] : List UInt8))[Int.toNat (IntKind.wrap .u8 ((BitVec.ofInt (IntKind.bits .u8) (((v0)[Int.toNat v14]?.getD 0).toNat : Int) &&& BitVec.ofInt (IntKind.bits .u8) 15).toNat))]?.getD 0)])), (8, .row 59), (1008, .recs (α := UInt8) 0 e8 (v3 ++ ([92, 120, ((([48, 49, 50, 51, 52, 53, 54, 55, 56, 57, 97, 98, 99, 100, 101, 102] : List UInt8))[Int.toNat (Int.fdiv (((v0)[Int.toNat v14]?.getD 0).toNat : Int) (2 ^ (min (Int.toNat 4) (IntKind.bits .u8))))]?.getD 0), ((([48, 49, 50, 51, 52, 53, 54, 55, 56, 57, 97, 98, 99, 100, 101, 102] : List UInt8))[Int.toNat (IntKind.wrap .u8 ((BitVec.ofInt (IntKind.bits .u8) (((v0)[Int.toNat v14]?.getD 0).toNat : Int) &&& BitVec.ofInt (IntKind.bits .u8) 15).toNat))]?.getD 0)] : List (UInt8))))] [0, 3, 13, 14] [59] (K' := [(0, .str v0), (3, .row 59), (13, .val (.int .i64 v13)), (14, .val (.int .i64 v14))]) (L' := [(59, 5, [.rowc false (α := UInt8) 0 e8 (v3 ++ ([92, 120, ((([48, 49, 50, 51, 52, 53, 54, 55, 56, 57, 97, 98, 99, 100, 101, 102] : List UInt8))[Int.toNat (Int.fdiv (((v0)[Int.toNat v14]?.getD 0).toNat : Int) (2 ^ (min (Int.toNat 4) (IntKind.bits .u8))))]?.getD 0), ((([48, 49, 50, 51, 52, 53, 54, 55, 56, 57, 97, 98, 99, 100, 101, 102] : List UInt8))[Int.toNat (IntKind.wrap .u8 ((BitVec.ofInt (IntKind.bits .u8) (((v0)[Int.toNat v14]?.getD 0).toNat : Int) &&& BitVec.ofInt (IntKind.bits .u8) 15).toNat))]?.getD 0)] : List (UInt8)))])]) (ob := [(decide (0 ≤ (4 : Int))) = true, (decide (0 ≤ (Int.fdiv (((v0)[Int.toNat v14]?.getD 0).toNat : Int) (2 ^ (min (Int.toNat 4) (IntKind.bits .u8)))) ∧ (Int.fdiv (((v0)[Int.toNat v14]?.getD 0).toNat : Int) (2 ^ (min (Int.toNat 4) (IntKind.bits .u8)))) < (List.length ([48, 49, 50, 51, 52, 53, 54, 55, 56, 57, 97, 98, 99, 100, 101, 102] : List UInt8) : Int))) = true, (decide (0 ≤ (IntKind.wrap .u8 ((BitVec.ofInt (IntKind.bits .u8) (((v0)[Int.toNat v14]?.getD 0).toNat : Int) &&& BitVec.ofInt (IntKind.bits .u8) 15).toNat)) ∧ (IntKind.wrap .u8 ((BitVec.ofInt (IntKind.bits .u8) (((v0)[Int.toNat v14]?.getD 0).toNat : Int) &&& BitVec.ofInt (IntKind.bits .u8) 15).toNat)) < (List.length ([48, 49, 50, 51, 52, 53, 54, 55, 56, 57, 97, 98, 99, 100, 101, 102] : List UInt8) : Int))) = true, (true = true → MkOb 1 [.val (.int .u8 92), .val (.int .u8 120), .val (.int .u8 (((([48, 49, 50, 51, 52, 53, 54, 55, 56, 57, 97, 98, 99, 100, 101, 102] : List UInt8))[Int.toNat (Int.fdiv (((v0)[Int.toNat v14]?.getD 0).toNat : Int) (2 ^ (min (Int.toNat 4) (IntKind.bits .u8))))]?.getD 0).toNat : Int)), .val (.int .u8 (((([48, 49, 50, 51, 52, 53, 54, 55, 56, 57, 97, 98, 99, 100, 101, 102] : List UInt8))[Int.toNat (IntKind.wrap .u8 ((BitVec.ofInt (IntKind.bits .u8) (((v0)[Int.toNat v14]?.getD 0).toNat : Int) &&& BitVec.ofInt (IntKind.bits .u8) 15).toNat))]?.getD 0).toNat : Int))] 4 (.recs (α := UInt8) 0 e8 ([92, 120, ((([48, 49, 50, 51, 52, 53, 54, 55, 56, 57, 97, 98, 99, 100, 101, 102] : List UInt8))[Int.toNat (Int.fdiv (((v0)[Int.toNat v14]?.getD 0).toNat : Int) (2 ^ (min (Int.toNat 4) (IntKind.bits .u8))))]?.getD 0), ((([48, 49, 50, 51, 52, 53, 54, 55, 56, 57, 97, 98, 99, 100, 101, 102] : List UInt8))[Int.toNat (IntKind.wrap .u8 ((BitVec.ofInt (IntKind.bits .u8) (((v0)[Int.toNat v14]?.getD 0).toNat : Int) &&& BitVec.ofInt (IntKind.bits .u8) 15).toNat))]?.getD 0)])) ∧ GoodR (.recs (α := UInt8) 0 e8 ([92, 120, ((([48, 49, 50, 51, 52, 53, 54, 55, 56, 57, 97, 98, 99, 100, 101, 102] : List UInt8))[Int.toNat (Int.fdiv (((v0)[Int.toNat v14]?.getD 0).toNat : Int) (2 ^ (min (Int.toNat 4) (IntKind.bits .u8))))]?.getD 0), ((([48, 49, 50, 51, 52, 53, 54, 55, 56, 57, 97, 98, 99, 100, 101, 102] : List UInt8))[Int.toNat (IntKind.wrap .u8 ((BitVec.ofInt (IntKind.bits .u8) (((v0)[Int.toNat v14]?.getD 0).toNat : Int) &&& BitVec.ofInt (IntKind.bits .u8) 15).toNat))]?.getD 0)]))), (decide ((List.length v3 + List.length ([92, 120, ((([48, 49, 50, 51, 52, 53, 54, 55, 56, 57, 97, 98, 99, 100, 101, 102] : List UInt8))[Int.toNat (Int.fdiv (((v0)[Int.toNat v14]?.getD 0).toNat : Int) (2 ^ (min (Int.toNat 4) (IntKind.bits .u8))))]?.getD 0), ((([48, 49, 50, 51, 52, 53, 54, 55, 56, 57, 97, 98, 99, 100, 101, 102] : List UInt8))[Int.toNat (IntKind.wrap .u8 ((BitVec.ofInt (IntKind.bits .u8) (((v0)[Int.toNat v14]?.getD 0).toNat : Int) &&& BitVec.ofInt (IntKind.bits .u8) 15).toNat))]?.getD 0)] : List (UInt8))) * (1 + 1) ≤ limit)) = true, (AppOb 0 e8 v3 (List.flatMap e8 ([92, 120, ((([48, 49, 50, 51, 52, 53, 54, 55, 56, 57, 97, 98, 99, 100, 101, 102] : List UInt8))[Int.toNat (Int.fdiv (((v0)[Int.toNat v14]?.getD 0).toNat : Int) (2 ^ (min (Int.toNat 4) (IntKind.bits .u8))))]?.getD 0), ((([48, 49, 50, 51, 52, 53, 54, 55, 56, 57, 97, 98, 99, 100, 101, 102] : List UInt8))[Int.toNat (IntKind.wrap .u8 ((BitVec.ofInt (IntKind.bits .u8) (((v0)[Int.toNat v14]?.getD 0).toNat : Int) &&& BitVec.ofInt (IntKind.bits .u8) 15).toNat))]?.getD 0)] : List (UInt8))) (List.length ([92, 120, ((([48, 49, 50, 51, 52, 53, 54, 55, 56, 57, 97, 98, 99, 100, 101, 102] : List UInt8))[Int.toNat (Int.fdiv (((v0)[Int.toNat v14]?.getD 0).toNat : Int) (2 ^ (min (Int.toNat 4) (IntKind.bits .u8))))]?.getD 0), ((([48, 49, 50, 51, 52, 53, 54, 55, 56, 57, 97, 98, 99, 100, 101, 102] : List UInt8))[Int.toNat (IntKind.wrap .u8 ((BitVec.ofInt (IntKind.bits .u8) (((v0)[Int.toNat v14]?.getD 0).toNat : Int) &&& BitVec.ofInt (IntKind.bits .u8) 15).toNat))]?.getD 0)] : List (UInt8))) (.recs (α := UInt8) 0 e8 (v3 ++ ([92, 120, ((([48, 49, 50, 51, 52, 53, 54, 55, 56, 57, 97, 98, 99, 100, 101, 102] : List UInt8))[Int.toNat (Int.fdiv (((v0)[Int.toNat v14]?.getD 0).toNat : Int) (2 ^ (min (Int.toNat 4) (IntKind.bits .u8))))]?.getD 0), ((([48, 49, 50, 51, 52, 53, 54, 55, 56, 57, 97, 98, 99, 100, 101, 102] : List UInt8))[Int.toNat (IntKind.wrap .u8 ((BitVec.ofInt (IntKind.bits .u8) (((v0)[Int.toNat v14]?.getD 0).toNat : Int) &&& BitVec.ofInt (IntKind.bits .u8) 15).toNat))]?.getD 0)] : List (UInt8)))) ∧ GoodR (.recs (α := UInt8) 0 e8 (v3 ++ ([92, 120, ((([48, 49, 50, 51, 52, 53, 54, 55, 56, 57, 97, 98, 99, 100, 101, 102] : List UInt8))[Int.toNat (Int.fdiv (((v0)[Int.toNat v14]?.getD 0).toNat : Int) (2 ^ (min (Int.toNat 4) (IntKind.bits .u8))))]?.getD 0), ((([48, 49, 50, 51, 52, 53, 54, 55, 56, 57, 97, 98, 99, 100, 101, 102] : List UInt8))[Int.toNat (IntKind.wrap .u8 ((BitVec.ofInt (IntKind.bits .u8) (((v0)[Int.toNat v14]?.getD 0).toNat : Int) &&& BitVec.ofInt (IntKind.bits .u8) 15).toNat))]?.getD 0)] : List (UInt8)))))]) (by kernel_rfl) (AllP.cons hc6 (AllP.cons hc7 (AllP.cons hc8 (AllP.cons (fun _ => mkOb (All8.cells (ns := [92, 120, (((([48, 49, 50, 51, 52, 53, 54, 55, 56, 57, 97, 98, 99, 100, 101, 102] : List UInt8))[Int.toNat (Int.fdiv (((v0)[Int.toNat v14]?.getD 0).toNat : Int) (2 ^ (min (Int.toNat 4) (IntKind.bits .u8))))]?.getD 0).toNat : Int), (((([48, 49, 50, 51, 52, 53, 54, 55, 56, 57, 97, 98, 99, 100, 101, 102] : List UInt8))[Int.toNat (IntKind.wrap .u8 ((BitVec.ofInt (IntKind.bits .u8) (((v0)[Int.toNat v14]?.getD 0).toNat : Int) &&& BitVec.ofInt (IntKind.bits .u8) 15).toNat))]?.getD 0).toNat : Int)]) (.cons rfl (.cons rfl (.cons rfl (.cons rfl .nil))))) rfl rfl (good8 _)) (AllP.cons hc9 (AllP.cons (appOb rfl rfl (good8 _)) AllP.nil)))))) ?_
          refine To.eq (K' := [(0, .str v0), (3, .row 59), (13, .val (.int .i64 v13)), (14, .val (.int .i64 v14))]) (L' := [(59, 5, [.rowc false (α := UInt8) 0 e8 x5])]) (by cases hx5; rfl) (by cases hx5; rfl) ?_
          refine To.blockN ?_
          refine To.blockN ?_
          refine To.keep (kk := [0, 3, 13, 14]) (kl := [59]) (K' := [(0, .str v0), (3, .row 59), (13, .val (.int .i64 v13)), (14, .val (.int .i64 v14))]) (L' := [(59, 5, [.rowc false (α := UInt8) 0 e8 x5])]) (by kernel_rfl) (by kernel_rfl) ?_
          refine To.pre (St.rename 59 1003 (K' := [(0, .str v0), (3, .row 1003), (13, .val (.int .i64 v13)), (14, .val (.int .i64 v14))]) (L' := [(1003, 5, [.rowc false (α := UInt8) 0 e8 x5])]) (by kernel_rfl) (by kernel_rfl) (by kernel_rfl)) ?_
          refine To.keep (kk := [0, 3, 13, 14]) (kl := [1003]) (K' := [(0, .str v0), (3, .row 1003), (13, .val (.int .i64 v13)), (14, .val (.int .i64 v14))]) (L' := [(1003, 5, [.rowc false (α := UInt8) 0 e8 x5])]) (by kernel_rfl) (by kernel_rfl) ?_
          cases h
          exact hQ
        · replace h := if_f hb h
          obtain ⟨hc10, h⟩ := chk_of h
          refine Wp.region hΓ [] [(2, .recs (α := UInt8) 0 e8 ([((v0)[Int.toNat v14]?.getD 0)])), (3, .recs (α := UInt8) 0 e8 (v3 ++ ([((v0)[Int.toNat v14]?.getD 0)] : List (UInt8))))] [0, 3, 13, 14] [23] (K' := [(0, .str v0), (3, .row 23), (13, .val (.int .i64 v13)), (14, .val (.int .i64 v14))]) (L' := [(23, 5, [.rowc false (α := UInt8) 0 e8 (v3 ++ ([((v0)[Int.toNat v14]?.getD 0)] : List (UInt8)))])]) (ob := [(MkOb 1 [.val (.int .u8 (((v0)[Int.toNat v14]?.getD 0).toNat : Int))] 1 (.recs (α := UInt8) 0 e8 ([((v0)[Int.toNat v14]?.getD 0)])) ∧ GoodR (.recs (α := UInt8) 0 e8 ([((v0)[Int.toNat v14]?.getD 0)]))), (decide ((List.length v3 + List.length ([((v0)[Int.toNat v14]?.getD 0)] : List (UInt8))) * (1 + 1) ≤ limit)) = true, (AppOb 0 e8 v3 (List.flatMap e8 ([((v0)[Int.toNat v14]?.getD 0)] : List (UInt8))) (List.length ([((v0)[Int.toNat v14]?.getD 0)] : List (UInt8))) (.recs (α := UInt8) 0 e8 (v3 ++ ([((v0)[Int.toNat v14]?.getD 0)] : List (UInt8)))) ∧ GoodR (.recs (α := UInt8) 0 e8 (v3 ++ ([((v0)[Int.toNat v14]?.getD 0)] : List (UInt8)))))]) (by kernel_rfl) (AllP.cons (mkOb (All8.cells (ns := [(((v0)[Int.toNat v14]?.getD 0).toNat : Int)]) (.cons rfl .nil)) rfl rfl (good8 _)) (AllP.cons hc10 (AllP.cons (appOb rfl rfl (good8 _)) AllP.nil))) ?_
          refine To.blockN ?_
          refine To.blockN ?_
          refine To.keep (kk := [0, 3, 13, 14]) (kl := [23]) (K' := [(0, .str v0), (3, .row 23), (13, .val (.int .i64 v13)), (14, .val (.int .i64 v14))]) (L' := [(23, 5, [.rowc false (α := UInt8) 0 e8 (v3 ++ ([((v0)[Int.toNat v14]?.getD 0)] : List (UInt8)))])]) (by kernel_rfl) (by kernel_rfl) ?_
          refine To.pre (St.rename 23 1003 (K' := [(0, .str v0), (3, .row 1003), (13, .val (.int .i64 v13)), (14, .val (.int .i64 v14))]) (L' := [(1003, 5, [.rowc false (α := UInt8) 0 e8 (v3 ++ ([((v0)[Int.toNat v14]?.getD 0)] : List (UInt8)))])]) (by kernel_rfl) (by kernel_rfl) (by kernel_rfl)) ?_
          refine To.keep (kk := [0, 3, 13, 14]) (kl := [1003]) (K' := [(0, .str v0), (3, .row 1003), (13, .val (.int .i64 v13)), (14, .val (.int .i64 v14))]) (L' := [(1003, 5, [.rowc false (α := UInt8) 0 e8 (v3 ++ ([((v0)[Int.toNat v14]?.getD 0)] : List (UInt8)))])]) (by kernel_rfl) (by kernel_rfl) ?_
          cases h
          exact hQ
def quote_Double_l1 (n : Nat) (v0 : List UInt8) (v13 : Int) : Nat → (List (UInt8)) → Int → Option ((List (UInt8)))
  | 0, _, _ => none
  | k + 1, v3, v14 => if (decide (v14 < v13)) = true then ((quote_Double_j2 n v0 v3 v13 v14).bind fun o1 =>
  quote_Double_l1 n v0 v13 k o1 (IntKind.wrap .i64 (v14 + 1)))
  else some v3
theorem ok_quote_Double_l1 (n : Nat) (v0 : List UInt8) (v13 : Int) {F0 : Fz} {w0 : Pt} {Q : Exit → Act → World → Prop} (k : Nat) : ∀ (v3 : List (UInt8)) (v14 : Int) (o : (List (UInt8))), quote_Double_l1 n v0 v13 k v3 v14 = some o → To 65 F0 w0 [(3, .row 1003)] [(1003, 5, [.rowc false (α := UInt8) 0 e8 o])] (.exit 0) Q → WL Try.prog 65 F0 w0 [(0, .str v0), (3, .row 1003), (13, .val (.int .i64 v13)), (14, .val (.int .i64 v14))] [(1003, 5, [.rowc false (α := UInt8) 0 e8 v3])] (cI (cI (cB (cA (cB (cB (cF Try.f16))))))) Q := by
  induction k with
  | zero => intro v3 v14 o h; cases h
  | succ k ih =>
    intro v3 v14 o h hQ
    rw [quote_Double_l1] at h
    refine WL.round ?_
    refine Wp.seq ?_
    refine Wp.region hΓ [] [] [0, 3, 13, 14, 15] [1003] (K' := [(0, .str v0), (3, .row 1003), (13, .val (.int .i64 v13)), (14, .val (.int .i64 v14)), (15, .val (.bool (decide (v14 < v13))))]) (L' := [(1003, 5, [.rowc false (α := UInt8) 0 e8 v3])]) (ob := []) (by kernel_rfl) AllP.nil ?_
    refine To.thenN ?_
    refine Wp.seq ?_
    refine Wp.cond (b := (decide (v14 < v13))) (by kernel_rfl) (fun hb => ?_) (fun hb => ?_)
    · replace h := if_t hb h
      refine Wp.skip ?_
      refine To.thenN ?_
      refine Wp.seq ?_
      obtain ⟨o1, ho1, h⟩ := bind_of h
      refine Wp.keep (kk := [0, 3, 13, 14]) (kl := [1003]) (K' := [(0, .str v0), (3, .row 1003), (13, .val (.int .i64 v13)), (14, .val (.int .i64 v14))]) (L' := [(1003, 5, [.rowc false (α := UInt8) 0 e8 v3])]) (by kernel_rfl) (by kernel_rfl) ?_
      refine ok_quote_Double_j2 n v0 v3 v13 v14 o1 ho1 ?_
      refine To.thenN ?_
      refine Wp.region hΓ [] [] [0, 3, 13, 14] [1003] (K' := [(0, .str v0), (3, .row 1003), (13, .val (.int .i64 v13)), (14, .val (.int .i64 (IntKind.wrap .i64 (v14 + 1))))]) (L' := [(1003, 5, [.rowc false (α := UInt8) 0 e8 o1])]) (ob := []) (by kernel_rfl) AllP.nil ?_
      refine To.keep (kk := [0, 3, 13, 14]) (kl := [1003]) (K' := [(0, .str v0), (3, .row 1003), (13, .val (.int .i64 v13)), (14, .val (.int .i64 (IntKind.wrap .i64 (v14 + 1))))]) (L' := [(1003, 5, [.rowc false (α := UInt8) 0 e8 o1])]) (by kernel_rfl) (by kernel_rfl) ?_
      refine To.again ?_
      exact ih o1 (IntKind.wrap .i64 (v14 + 1)) _ h hQ
    · replace h := if_f hb h
      refine Wp.exit ?_
      refine To.thenX ?_
      refine To.thenX ?_
      refine To.keep (kk := [3]) (kl := [1003]) (K' := [(3, .row 1003)]) (L' := [(1003, 5, [.rowc false (α := UInt8) 0 e8 v3])]) (by kernel_rfl) (by kernel_rfl) ?_
      cases h
      exact hQ
def quote_Double (n : Nat) (a0 : List UInt8) : Option ((List UInt8)) :=
  if (decide (0 ≤ (0 : Int) ∧ (0 : Int) ≤ (IntKind.wrap .i64 ((List.length a0 : Int) + 2)))) = true then (if (decide ((IntKind.wrap .i64 ((List.length a0 : Int) + 2)) * ((1 + 1 : Nat) : Int) ≤ (limit : Int))) = true then (if (decide ((List.length ([] : List (UInt8)) + List.length ([34] : List (UInt8))) * (1 + 1) ≤ limit)) = true then ((quote_Double_l1 n a0 (List.length a0 : Int) n (([] : List (UInt8)) ++ ([34] : List (UInt8))) 0).bind fun o1 =>
  if (decide ((List.length o1 + List.length ([34] : List (UInt8))) * (1 + 1) ≤ limit)) = true then (some (o1 ++ ([34] : List (UInt8)))) else none) else none) else none) else none
theorem ok_quote_Double (n : Nat) (a0 : List UInt8) (r : (List UInt8)) (h : quote_Double n a0 = some r) : CallsX Try.prog 16 [.str a0] (.str r) := by
  unfold quote_Double at h
  refine callsX_of (fn := Try.f16) (by kernel_rfl) rfl (by kernel_rfl) (Nat.le_of_ble_eq_true (by kernel_rfl)) fun F0 w0 => ?_
  refine Wp.keep (kk := [0]) (kl := []) (K' := [(0, .str a0)]) (L' := []) (by kernel_rfl) (by kernel_rfl) ?_
  refine Wp.seq ?_
  refine Wp.region hΓ [] [] [0] [] (K' := [(0, .str a0)]) (L' := []) (ob := []) (by kernel_rfl) AllP.nil ?_
  refine To.thenN ?_
  refine Wp.seq ?_
  obtain ⟨hc3, h⟩ := chk_of h
  obtain ⟨hc4, h⟩ := chk_of h
  obtain ⟨hc5, h⟩ := chk_of h
  refine Wp.region hΓ [] [(3, .recs (α := UInt8) 0 e8 []), (4, .recs (α := UInt8) 0 e8 [34]), (5, .recs (α := UInt8) 0 e8 (([] : List (UInt8)) ++ ([34] : List (UInt8))))] [0, 3] [11] (K' := [(0, .str a0), (3, .row 11)]) (L' := [(11, 5, [.rowc false (α := UInt8) 0 e8 (([] : List (UInt8)) ++ ([34] : List (UInt8)))])]) (ob := [(decide (0 ≤ (0 : Int) ∧ (0 : Int) ≤ (IntKind.wrap .i64 ((List.length a0 : Int) + 2)))) = true, (decide ((IntKind.wrap .i64 ((List.length a0 : Int) + 2)) * ((1 + 1 : Nat) : Int) ≤ (limit : Int))) = true, (MadeOb [.val (.int .u8 0)] (Int.toNat 0) (.recs (α := UInt8) 0 e8 []) ∧ GoodR (.recs (α := UInt8) 0 e8 [])), (MkOb 1 [.val (.int .u8 34)] 1 (.recs (α := UInt8) 0 e8 [34]) ∧ GoodR (.recs (α := UInt8) 0 e8 [34])), (decide ((List.length ([] : List (UInt8)) + List.length ([34] : List (UInt8))) * (1 + 1) ≤ limit)) = true, (AppOb 0 e8 ([] : List (UInt8)) (List.flatMap e8 ([34] : List (UInt8))) (List.length ([34] : List (UInt8))) (.recs (α := UInt8) 0 e8 (([] : List (UInt8)) ++ ([34] : List (UInt8)))) ∧ GoodR (.recs (α := UInt8) 0 e8 (([] : List (UInt8)) ++ ([34] : List (UInt8)))))]) (by kernel_rfl) (AllP.cons hc3 (AllP.cons hc4 (AllP.cons (madeOb (by kernel_rfl) (good8 _)) (AllP.cons (mkOb (All8.cells (ns := [34]) (.cons rfl .nil)) rfl rfl (good8 _)) (AllP.cons hc5 (AllP.cons (appOb rfl rfl (good8 _)) AllP.nil)))))) ?_
  refine To.thenN ?_
  refine Wp.seq ?_
  refine Wp.seq ?_
  refine Wp.region hΓ [] [] [0, 3, 13, 14] [11] (K' := [(0, .str a0), (3, .row 11), (13, .val (.int .i64 (List.length a0 : Int))), (14, .val (.int .i64 0))]) (L' := [(11, 5, [.rowc false (α := UInt8) 0 e8 (([] : List (UInt8)) ++ ([34] : List (UInt8)))])]) (ob := []) (by kernel_rfl) AllP.nil ?_
  refine To.thenN ?_
  refine Wp.block ?_
  obtain ⟨o1, ho1, h⟩ := bind_of h
  refine Wp.keep (kk := [0, 3, 13, 14]) (kl := [11]) (K' := [(0, .str a0), (3, .row 11), (13, .val (.int .i64 (List.length a0 : Int))), (14, .val (.int .i64 0))]) (L' := [(11, 5, [.rowc false (α := UInt8) 0 e8 (([] : List (UInt8)) ++ ([34] : List (UInt8)))])]) (by kernel_rfl) (by kernel_rfl) ?_
  refine Wp.pre (St.rename 11 1003 (K' := [(0, .str a0), (3, .row 1003), (13, .val (.int .i64 (List.length a0 : Int))), (14, .val (.int .i64 0))]) (L' := [(1003, 5, [.rowc false (α := UInt8) 0 e8 (([] : List (UInt8)) ++ ([34] : List (UInt8)))])]) (by kernel_rfl) (by kernel_rfl) (by kernel_rfl)) ?_
  refine Wp.keep (kk := [0, 3, 13, 14]) (kl := [1003]) (K' := [(0, .str a0), (3, .row 1003), (13, .val (.int .i64 (List.length a0 : Int))), (14, .val (.int .i64 0))]) (L' := [(1003, 5, [.rowc false (α := UInt8) 0 e8 (([] : List (UInt8)) ++ ([34] : List (UInt8)))])]) (by kernel_rfl) (by kernel_rfl) ?_
  refine Wp.loopL ?_
  refine ok_quote_Double_l1 n a0 (List.length a0 : Int) n (([] : List (UInt8)) ++ ([34] : List (UInt8))) 0 o1 ho1 ?_
  refine To.blockX ?_
  refine To.thenN ?_
  refine Wp.seq ?_
  obtain ⟨hc2, h⟩ := chk_of h
  refine Wp.region hΓ [] [(1, .recs (α := UInt8) 0 e8 [34]), (2, .recs (α := UInt8) 0 e8 (o1 ++ ([34] : List (UInt8)))), (3, .str (o1 ++ ([34] : List (UInt8))))] [2] [] (K' := [(2, .str (o1 ++ ([34] : List (UInt8))))]) (L' := []) (ob := [(MkOb 1 [.val (.int .u8 34)] 1 (.recs (α := UInt8) 0 e8 [34]) ∧ GoodR (.recs (α := UInt8) 0 e8 [34])), (decide ((List.length o1 + List.length ([34] : List (UInt8))) * (1 + 1) ≤ limit)) = true, (AppOb 0 e8 o1 (List.flatMap e8 ([34] : List (UInt8))) (List.length ([34] : List (UInt8))) (.recs (α := UInt8) 0 e8 (o1 ++ ([34] : List (UInt8)))) ∧ GoodR (.recs (α := UInt8) 0 e8 (o1 ++ ([34] : List (UInt8))))), (true = true → StrOb (List.flatMap e8 (o1 ++ ([34] : List (UInt8)))) (.str (o1 ++ ([34] : List (UInt8)))))]) (by kernel_rfl) (AllP.cons (mkOb (All8.cells (ns := [34]) (.cons rfl .nil)) rfl rfl (good8 _)) (AllP.cons hc2 (AllP.cons (appOb rfl rfl (good8 _)) (AllP.cons (fun _ => strOb (flat8 _)) AllP.nil)))) ?_
  refine To.thenN ?_
  refine Wp.ret ?_
  refine To.keep (kk := [2]) (kl := []) (K' := [(2, .str (o1 ++ ([34] : List (UInt8))))]) (L' := []) (by kernel_rfl) (by kernel_rfl) ?_
  cases h
  exact To.done hΓ (by kernel_rfl)
def internal_stringslite_IndexByte (a0 : List UInt8) (a1 : Int) : Int :=
  (Lib.indexByte a0 (Int.toNat a1).toUInt8)
theorem ok_internal_stringslite_IndexByte (a0 : List UInt8) (a1 : Int) (r : Int) (h : internal_stringslite_IndexByte a0 a1 = r) : CallsX Try.prog 29 [.str a0, .val (.int .u8 a1)] (.val (.int .i64 r)) := by
  unfold internal_stringslite_IndexByte at h
  refine callsX_of (fn := Try.f29) (by kernel_rfl) rfl (by kernel_rfl) (Nat.le_of_ble_eq_true (by kernel_rfl)) fun F0 w0 => ?_
  refine Wp.keep (kk := [0, 1]) (kl := []) (K' := [(0, .str a0), (1, .val (.int .u8 a1))]) (L' := []) (by kernel_rfl) (by kernel_rfl) ?_
  refine Wp.seq ?_
  refine Wp.region hΓ [] [] [0, 1] [] (K' := [(0, .str a0), (1, .val (.int .u8 a1))]) (L' := []) (ob := []) (by kernel_rfl) AllP.nil ?_
  refine To.thenN ?_
  refine Wp.seq ?_
  refine Wp.region hΓ [] [(2, .val (.int .i64 (Lib.indexByte a0 (Int.toNat a1).toUInt8)))] [4] [] (K' := [(4, .val (.int .i64 (Lib.indexByte a0 (Int.toNat a1).toUInt8)))]) (L' := []) (ob := [(true = true → CX Try.prog 30 [.str a0, .val (.int .u8 a1)] (.val (.int .i64 (Lib.indexByte a0 (Int.toNat a1).toUInt8))))]) (by kernel_rfl) (AllP.cons (fun _ => ext_indexByteString (fn := Try.f30) (by kernel_rfl) (by kernel_rfl) (by kernel_rfl) (by kernel_rfl) (by kernel_rfl)) AllP.nil) ?_
  refine To.thenN ?_
  refine Wp.ret ?_
  refine To.keep (kk := [4]) (kl := []) (K' := [(4, .val (.int .i64 (Lib.indexByte a0 (Int.toNat a1).toUInt8)))]) (L' := []) (by kernel_rfl) (by kernel_rfl) ?_
  cases h
  exact To.done hΓ (by kernel_rfl)
def strings_IndexByte (a0 : List UInt8) (a1 : Int) : Int :=
  (internal_stringslite_IndexByte a0 a1)
theorem ok_strings_IndexByte (a0 : List UInt8) (a1 : Int) (r : Int) (h : strings_IndexByte a0 a1 = r) : CallsX Try.prog 25 [.str a0, .val (.int .u8 a1)] (.val (.int .i64 r)) := by
  unfold strings_IndexByte at h
  refine callsX_of (fn := Try.f25) (by kernel_rfl) rfl (by kernel_rfl) (Nat.le_of_ble_eq_true (by kernel_rfl)) fun F0 w0 => ?_
  refine Wp.keep (kk := [0, 1]) (kl := []) (K' := [(0, .str a0), (1, .val (.int .u8 a1))]) (L' := []) (by kernel_rfl) (by kernel_rfl) ?_
  refine Wp.seq ?_
  refine Wp.region hΓ [] [] [0, 1] [] (K' := [(0, .str a0), (1, .val (.int .u8 a1))]) (L' := []) (ob := []) (by kernel_rfl) AllP.nil ?_
  refine To.thenN ?_
  refine Wp.seq ?_
  refine Wp.region hΓ [] [(2, .val (.int .i64 (internal_stringslite_IndexByte a0 a1)))] [4] [] (K' := [(4, .val (.int .i64 (internal_stringslite_IndexByte a0 a1)))]) (L' := []) (ob := [(true = true → CX Try.prog 29 [.str a0, .val (.int .u8 a1)] (.val (.int .i64 (internal_stringslite_IndexByte a0 a1))))]) (by kernel_rfl) (AllP.cons (fun _ => cx (ok_internal_stringslite_IndexByte a0 a1 _ rfl)) AllP.nil) ?_
  refine To.thenN ?_
  refine Wp.ret ?_
  refine To.keep (kk := [4]) (kl := []) (K' := [(4, .val (.int .i64 (internal_stringslite_IndexByte a0 a1)))]) (L' := []) (by kernel_rfl) (by kernel_rfl) ?_
  cases h
  exact To.done hΓ (by kernel_rfl)
def quote_Plain_1_s1 (n : Nat) (a0 : Int) (c0 : List UInt8) : Option (Bool) :=
  if ((!((bif (decide (a0 < 0)) then true else (decide (a0 ≥ (List.length c0 : Int)))) == false) || decide (0 ≤ a0 ∧ a0 < (List.length c0 : Int)))) = true then (lett ((bif (bif (decide (a0 < 0)) then true else (decide (a0 ≥ (List.length c0 : Int)))) then true else ((((c0)[Int.toNat a0]?.getD 0).toNat : Int) == 32)) : Bool) fun x1 =>
  some x1) else none
theorem ok_quote_Plain_1_s1 (n : Nat) (a0 : Int) (c0 : List UInt8) (r : Bool) (h : quote_Plain_1_s1 n a0 c0 = some r) : CallsX Try.prog 26 [.val (.int .i64 a0), .el [.str c0]] (.val (.bool r)) := by
  unfold quote_Plain_1_s1 at h
  refine callsX_of (fn := Try.f26) (by kernel_rfl) rfl (by kernel_rfl) (Nat.le_of_ble_eq_true (by kernel_rfl)) fun F0 w0 => ?_
  refine Wp.keep (kk := [0, 1]) (kl := []) (K' := [(0, .val (.int .i64 a0)), (1, .el [.str c0])]) (L' := []) (by kernel_rfl) (by kernel_rfl) ?_
  refine Wp.seq ?_
  refine Wp.region hΓ [] [] [0, 1] [] (K' := [(0, .val (.int .i64 a0)), (1, .el [.str c0])]) (L' := []) (ob := []) (by kernel_rfl) AllP.nil ?_
  refine To.thenN ?_
  refine Wp.seq ?_
  obtain ⟨hc2, h⟩ := chk_of h
  obtain ⟨x1, hx1, h⟩ := lett_of h
  refine Wp.region hΓ [] [] [3] [] (K' := [(3, .val (.bool (bif (bif (decide (a0 < 0)) then true else (decide (a0 ≥ (List.length c0 : Int)))) then true else ((((c0)[Int.toNat a0]?.getD 0).toNat : Int) == 32))))]) (L' := []) (ob := [(!((bif (decide (a0 < 0)) then true else (decide (a0 ≥ (List.length c0 : Int)))) == false) || decide (0 ≤ a0 ∧ a0 < (List.length c0 : Int))) = true]) (by kernel_rfl) (AllP.cons hc2 AllP.nil) ?_
  refine To.eq (K' := [(3, .val (.bool x1))]) (L' := []) (by cases hx1; rfl) (by cases hx1; rfl) ?_
  refine To.thenN ?_
  refine Wp.ret ?_
  refine To.keep (kk := [3]) (kl := []) (K' := [(3, .val (.bool x1))]) (L' := []) (by kernel_rfl) (by kernel_rfl) ?_
  cases h
  exact To.done hΓ (by kernel_rfl)
def quote_Plain_l1 (n : Nat) (v1 : List UInt8) (v3_0 : List UInt8) (v43 : Int) : Nat → Int → Option (Sum (Unit) (Bool))
  | 0, _ => none
  | k + 1, v44 => if (decide (v44 < v43)) = true then (if (decide (0 ≤ v44 ∧ v44 < (List.length v1 : Int))) = true then (if ((!((!(quote_ok (((v1)[Int.toNat v44]?.getD 0).toNat : Int))) == false) || decide (0 ≤ v44 ∧ v44 < (List.length v1 : Int)))) = true then (((if ((((((v1)[Int.toNat v44]?.getD 0).toNat : Int) == 58) == true) && ((!(quote_ok (((v1)[Int.toNat v44]?.getD 0).toNat : Int))) == false)) = true then quote_Plain_1_s1 n (IntKind.wrap .i64 (v44 + 1)) v3_0 else some false)).bind fun r4 =>
  if ((!((bif (!(quote_ok (((v1)[Int.toNat v44]?.getD 0).toNat : Int))) then true else (bif ((((v1)[Int.toNat v44]?.getD 0).toNat : Int) == 58) then r4 else false)) == false) || decide (0 ≤ v44 ∧ v44 < (List.length v1 : Int)))) = true then (((if ((((((v1)[Int.toNat v44]?.getD 0).toNat : Int) == 35) == true) && ((bif (!(quote_ok (((v1)[Int.toNat v44]?.getD 0).toNat : Int))) then true else (bif ((((v1)[Int.toNat v44]?.getD 0).toNat : Int) == 58) then r4 else false)) == false)) = true then quote_Plain_1_s1 n (IntKind.wrap .i64 (v44 - 1)) v3_0 else some false)).bind fun r5 =>
  lett ((bif (bif (!(quote_ok (((v1)[Int.toNat v44]?.getD 0).toNat : Int))) then true else (bif ((((v1)[Int.toNat v44]?.getD 0).toNat : Int) == 58) then r4 else false)) then true else (bif ((((v1)[Int.toNat v44]?.getD 0).toNat : Int) == 35) then r5 else false)) : Bool) fun x6 =>
  if x6 = true then (some (.inr false))
  else (quote_Plain_l1 n v1 v3_0 v43 k (IntKind.wrap .i64 (v44 + 1)))) else none) else none) else none)
  else (some (.inl ()))
theorem ok_quote_Plain_l1 (n : Nat) (v1 : List UInt8) (v3_0 : List UInt8) (v43 : Int) {F0 : Fz} {w0 : Pt} {Q : Exit → Act → World → Prop} (k : Nat) : ∀ (v44 : Int) (o : Sum (Unit) (Bool)), quote_Plain_l1 n v1 v3_0 v43 k v44 = some o → (Sum.elim (fun s => To 77 F0 w0 [] [] (.exit 0) Q) (fun s => To 77 F0 w0 [(2, .val (.bool s))] [] .ret Q)) o → WL Try.prog 77 F0 w0 [(1, .el [.str v1]), (3, .fn 26 [.el [.str v3_0]]), (43, .val (.int .i64 v43)), (44, .val (.int .i64 v44))] [] (cI (cI (cB (cA (cB (cB (cB (cB (cF Try.f14))))))))) Q := by
  induction k with
  | zero => intro v44 o h; cases h
  | succ k ih =>
    intro v44 o h hQ
    rw [quote_Plain_l1] at h
    refine WL.round ?_
    refine Wp.seq ?_
    refine Wp.region hΓ [] [] [1, 3, 43, 44, 45] [] (K' := [(1, .el [.str v1]), (3, .fn 26 [.el [.str v3_0]]), (43, .val (.int .i64 v43)), (44, .val (.int .i64 v44)), (45, .val (.bool (decide (v44 < v43))))]) (L' := []) (ob := []) (by kernel_rfl) AllP.nil ?_
    refine To.thenN ?_
    refine Wp.seq ?_
    refine Wp.cond (b := (decide (v44 < v43))) (by kernel_rfl) (fun hb => ?_) (fun hb => ?_)
    · replace h := if_t hb h
      refine Wp.skip ?_
      refine To.thenN ?_
      refine Wp.seq ?_
      refine Wp.block ?_
      refine Wp.seq ?_
      refine Wp.region hΓ [] [] [1, 3, 4, 43, 44] [] (K' := [(1, .el [.str v1]), (3, .fn 26 [.el [.str v3_0]]), (4, .val (.int .i64 v44)), (43, .val (.int .i64 v43)), (44, .val (.int .i64 v44))]) (L' := []) (ob := []) (by kernel_rfl) AllP.nil ?_
      refine To.thenN ?_
      refine Wp.seq ?_
      obtain ⟨hc7, h⟩ := chk_of h
      obtain ⟨hc8, h⟩ := chk_of h
      obtain ⟨r4, hr4, h⟩ := bind_of h
      obtain ⟨hc9, h⟩ := chk_of h
      obtain ⟨r5, hr5, h⟩ := bind_of h
      obtain ⟨x6, hx6, h⟩ := lett_of h
      refine Wp.region hΓ [] [(3, .val (.bool (quote_ok (((v1)[Int.toNat v44]?.getD 0).toNat : Int)))), (14, .val (.bool r4)), (26, .val (.bool r5))] [1, 3, 43, 44, 75] [] (K' := [(1, .el [.str v1]), (3, .fn 26 [.el [.str v3_0]]), (43, .val (.int .i64 v43)), (44, .val (.int .i64 v44)), (75, .val (.bool (bif (bif (!(quote_ok (((v1)[Int.toNat v44]?.getD 0).toNat : Int))) then true else (bif ((((v1)[Int.toNat v44]?.getD 0).toNat : Int) == 58) then r4 else false)) then true else (bif ((((v1)[Int.toNat v44]?.getD 0).toNat : Int) == 35) then r5 else false))))]) (L' := []) (ob := [(decide (0 ≤ v44 ∧ v44 < (List.length v1 : Int))) = true, (true = true → CX Try.prog 18 [.val (.int .u8 (((v1)[Int.toNat v44]?.getD 0).toNat : Int))] (.val (.bool (quote_ok (((v1)[Int.toNat v44]?.getD 0).toNat : Int))))), (!((!(quote_ok (((v1)[Int.toNat v44]?.getD 0).toNat : Int))) == false) || decide (0 ≤ v44 ∧ v44 < (List.length v1 : Int))) = true, (((((((v1)[Int.toNat v44]?.getD 0).toNat : Int) == 58) == true) && ((!(quote_ok (((v1)[Int.toNat v44]?.getD 0).toNat : Int))) == false)) = true → CX Try.prog 26 [.val (.int .i64 (IntKind.wrap .i64 (v44 + 1))), .el [.str v3_0]] (.val (.bool r4))), (!((bif (!(quote_ok (((v1)[Int.toNat v44]?.getD 0).toNat : Int))) then true else (bif ((((v1)[Int.toNat v44]?.getD 0).toNat : Int) == 58) then r4 else false)) == false) || decide (0 ≤ v44 ∧ v44 < (List.length v1 : Int))) = true, (((((((v1)[Int.toNat v44]?.getD 0).toNat : Int) == 35) == true) && ((bif (!(quote_ok (((v1)[Int.toNat v44]?.getD 0).toNat : Int))) then true else (bif ((((v1)[Int.toNat v44]?.getD 0).toNat : Int) == 58) then r4 else false)) == false)) = true → CX Try.prog 26 [.val (.int .i64 (IntKind.wrap .i64 (v44 - 1))), .el [.str v3_0]] (.val (.bool r5)))]) (by kernel_rfl) (AllP.cons hc7 (AllP.cons (fun _ => cx (ok_quote_ok (((v1)[Int.toNat v44]?.getD 0).toNat : Int) _ rfl)) (AllP.cons hc8 (AllP.cons (fun hg => cx (ok_quote_Plain_1_s1 n (IntKind.wrap .i64 (v44 + 1)) v3_0 _ (if_t hg hr4))) (AllP.cons hc9 (AllP.cons (fun hg => cx (ok_quote_Plain_1_s1 n (IntKind.wrap .i64 (v44 - 1)) v3_0 _ (if_t hg hr5))) AllP.nil)))))) ?_
      refine To.eq (K' := [(1, .el [.str v1]), (3, .fn 26 [.el [.str v3_0]]), (43, .val (.int .i64 v43)), (44, .val (.int .i64 v44)), (75, .val (.bool x6))]) (L' := []) (by cases hx6; rfl) (by cases hx6; rfl) ?_
      refine To.thenN ?_
      refine Wp.cond (b := x6) (by kernel_rfl) (fun hb => ?_) (fun hb => ?_)
      · replace h := if_t hb h
        refine Wp.seq ?_
        refine Wp.region hΓ [] [] [2] [] (K' := [(2, .val (.bool false))]) (L' := []) (ob := []) (by kernel_rfl) AllP.nil ?_
        refine To.thenN ?_
        refine Wp.ret ?_
        refine To.blockR ?_
        refine To.thenR ?_
        refine To.thenR ?_
        refine To.keep (kk := [2]) (kl := []) (K' := [(2, .val (.bool false))]) (L' := []) (by kernel_rfl) (by kernel_rfl) ?_
        cases h
        exact hQ
      · replace h := if_f hb h
        refine Wp.skip ?_
        refine To.blockN ?_
        refine To.thenN ?_
        refine Wp.region hΓ [] [] [1, 3, 43, 44] [] (K' := [(1, .el [.str v1]), (3, .fn 26 [.el [.str v3_0]]), (43, .val (.int .i64 v43)), (44, .val (.int .i64 (IntKind.wrap .i64 (v44 + 1))))]) (L' := []) (ob := []) (by kernel_rfl) AllP.nil ?_
        refine To.keep (kk := [1, 3, 43, 44]) (kl := []) (K' := [(1, .el [.str v1]), (3, .fn 26 [.el [.str v3_0]]), (43, .val (.int .i64 v43)), (44, .val (.int .i64 (IntKind.wrap .i64 (v44 + 1))))]) (L' := []) (by kernel_rfl) (by kernel_rfl) ?_
        refine To.again ?_
        exact ih (IntKind.wrap .i64 (v44 + 1)) _ h hQ
    · replace h := if_f hb h
      refine Wp.exit ?_
      refine To.thenX ?_
      refine To.thenX ?_
      refine To.keep (kk := []) (kl := []) (K' := []) (L' := []) (by kernel_rfl) (by kernel_rfl) ?_
      cases h
      exact hQ
def quote_Plain (n : Nat) (a0 : List UInt8) : Option (Bool) :=
  if ((!((bif (bif (a0 == []) then true else (a0 == [126])) then true else (a0 == [110, 117, 108, 108])) == false) || decide (0 ≤ (0 : Int) ∧ (0 : Int) < (List.length a0 : Int)))) = true then (if ((!((bif (bif (bif (a0 == []) then true else (a0 == [126])) then true else (a0 == [110, 117, 108, 108])) then true else ((((a0)[Int.toNat 0]?.getD 0).toNat : Int) == 32)) == false) || decide (0 ≤ (IntKind.wrap .i64 ((List.length a0 : Int) - 1)) ∧ (IntKind.wrap .i64 ((List.length a0 : Int) - 1)) < (List.length a0 : Int)))) = true then (if ((!((bif (bif (bif (bif (a0 == []) then true else (a0 == [126])) then true else (a0 == [110, 117, 108, 108])) then true else ((((a0)[Int.toNat 0]?.getD 0).toNat : Int) == 32)) then true else ((((a0)[Int.toNat (IntKind.wrap .i64 ((List.length a0 : Int) - 1))]?.getD 0).toNat : Int) == 32)) == false) || decide (0 ≤ (0 : Int) ∧ (0 : Int) < (List.length a0 : Int)))) = true then (lett (strings_IndexByte [63, 58, 44, 91, 93, 123, 125, 35, 38, 42, 33, 124, 62, 39, 34, 37, 64, 96] (((a0)[Int.toNat 0]?.getD 0).toNat : Int)) fun r1 =>
  lett ((bif (bif (bif (bif (bif (a0 == []) then true else (a0 == [126])) then true else (a0 == [110, 117, 108, 108])) then true else ((((a0)[Int.toNat 0]?.getD 0).toNat : Int) == 32)) then true else ((((a0)[Int.toNat (IntKind.wrap .i64 ((List.length a0 : Int) - 1))]?.getD 0).toNat : Int) == 32)) then true else (decide (r1 ≥ 0))) : Bool) fun x2 =>
  if x2 = true then some false
  else (if (decide (0 ≤ (0 : Int) ∧ (0 : Int) < (List.length a0 : Int))) = true then (((if (((((a0)[Int.toNat 0]?.getD 0).toNat : Int) == 45) == true) = true then quote_Plain_1_s1 n 1 a0 else some false)).bind fun r3 =>
  if (bif ((((a0)[Int.toNat 0]?.getD 0).toNat : Int) == 45) then r3 else false) = true then some false
  else ((quote_Plain_l1 n a0 a0 (List.length a0 : Int) n 0).bind fun o4 =>
  (Sum.elim (fun o4 => some true) (fun o4 => some o4)) o4)) else none)) else none) else none) else none
theorem ok_quote_Plain (n : Nat) (a0 : List UInt8) (r : Bool) (h : quote_Plain n a0 = some r) : CallsX Try.prog 14 [.str a0] (.val (.bool r)) := by
  unfold quote_Plain at h
  refine callsX_of (fn := Try.f14) (by kernel_rfl) rfl (by kernel_rfl) (Nat.le_of_ble_eq_true (by kernel_rfl)) fun F0 w0 => ?_
  refine Wp.keep (kk := [0]) (kl := []) (K' := [(0, .str a0)]) (L' := []) (by kernel_rfl) (by kernel_rfl) ?_
  refine Wp.seq ?_
  refine Wp.region hΓ [] [] [1] [1] (K' := [(1, .own 1 0)]) (L' := [(1, 9, [.str a0])]) (ob := []) (by kernel_rfl) AllP.nil ?_
  refine To.thenN ?_
  refine Wp.seq ?_
  refine Wp.seq ?_
  obtain ⟨hc6, h⟩ := chk_of h
  obtain ⟨hc7, h⟩ := chk_of h
  obtain ⟨hc8, h⟩ := chk_of h
  obtain ⟨r1, hr1, h⟩ := lett_of h
  obtain ⟨x2, hx2, h⟩ := lett_of h
  refine Wp.region hΓ [] [(26, .val (.int .i64 r1))] [1, 33] [1] (K' := [(1, .own 1 0), (33, .val (.bool (bif (bif (bif (bif (bif (a0 == []) then true else (a0 == [126])) then true else (a0 == [110, 117, 108, 108])) then true else ((((a0)[Int.toNat 0]?.getD 0).toNat : Int) == 32)) then true else ((((a0)[Int.toNat (IntKind.wrap .i64 ((List.length a0 : Int) - 1))]?.getD 0).toNat : Int) == 32)) then true else (decide (r1 ≥ 0)))))]) (L' := [(1, 9, [.str a0])]) (ob := [(!((bif (bif (a0 == []) then true else (a0 == [126])) then true else (a0 == [110, 117, 108, 108])) == false) || decide (0 ≤ (0 : Int) ∧ (0 : Int) < (List.length a0 : Int))) = true, (!((bif (bif (bif (a0 == []) then true else (a0 == [126])) then true else (a0 == [110, 117, 108, 108])) then true else ((((a0)[Int.toNat 0]?.getD 0).toNat : Int) == 32)) == false) || decide (0 ≤ (IntKind.wrap .i64 ((List.length a0 : Int) - 1)) ∧ (IntKind.wrap .i64 ((List.length a0 : Int) - 1)) < (List.length a0 : Int))) = true, (!((bif (bif (bif (bif (a0 == []) then true else (a0 == [126])) then true else (a0 == [110, 117, 108, 108])) then true else ((((a0)[Int.toNat 0]?.getD 0).toNat : Int) == 32)) then true else ((((a0)[Int.toNat (IntKind.wrap .i64 ((List.length a0 : Int) - 1))]?.getD 0).toNat : Int) == 32)) == false) || decide (0 ≤ (0 : Int) ∧ (0 : Int) < (List.length a0 : Int))) = true, (((bif (bif (bif (bif (a0 == []) then true else (a0 == [126])) then true else (a0 == [110, 117, 108, 108])) then true else ((((a0)[Int.toNat 0]?.getD 0).toNat : Int) == 32)) then true else ((((a0)[Int.toNat (IntKind.wrap .i64 ((List.length a0 : Int) - 1))]?.getD 0).toNat : Int) == 32)) == false) = true → CX Try.prog 25 [.str [63, 58, 44, 91, 93, 123, 125, 35, 38, 42, 33, 124, 62, 39, 34, 37, 64, 96], .val (.int .u8 (((a0)[Int.toNat 0]?.getD 0).toNat : Int))] (.val (.int .i64 r1)))]) (by kernel_rfl) (AllP.cons hc6 (AllP.cons hc7 (AllP.cons hc8 (AllP.cons (fun _ => cx (ok_strings_IndexByte [63, 58, 44, 91, 93, 123, 125, 35, 38, 42, 33, 124, 62, 39, 34, 37, 64, 96] (((a0)[Int.toNat 0]?.getD 0).toNat : Int) _ hr1)) AllP.nil)))) ?_
  refine To.eq (K' := [(1, .own 1 0), (33, .val (.bool x2))]) (L' := [(1, 9, [.str a0])]) (by cases hx2; rfl) (by cases hx2; rfl) ?_
  refine To.thenN ?_
  refine Wp.cond (b := x2) (by kernel_rfl) (fun hb => ?_) (fun hb => ?_)
  · replace h := if_t hb h
    refine Wp.seq ?_
    refine Wp.region hΓ [] [] [2] [] (K' := [(2, .val (.bool false))]) (L' := []) (ob := []) (by kernel_rfl) AllP.nil ?_
    refine To.thenN ?_
    refine Wp.ret ?_
    refine To.thenR ?_
    refine To.keep (kk := [2]) (kl := []) (K' := [(2, .val (.bool false))]) (L' := []) (by kernel_rfl) (by kernel_rfl) ?_
    cases h
    exact To.done hΓ (by kernel_rfl)
  · replace h := if_f hb h
    refine Wp.skip ?_
    refine To.thenN ?_
    refine Wp.seq ?_
    refine Wp.region hΓ [(0, [1])] [] [1, 3] [] (K' := [(1, .el [.str a0]), (3, .fn 26 [.el [.str a0]])]) (L' := []) (ob := []) (by kernel_rfl) AllP.nil ?_
    refine To.thenN ?_
    refine Wp.seq ?_
    refine Wp.seq ?_
    obtain ⟨hc5, h⟩ := chk_of h
    obtain ⟨r3, hr3, h⟩ := bind_of h
    refine Wp.region hΓ [] [(5, .val (.bool r3))] [1, 3, 41] [] (K' := [(1, .el [.str a0]), (3, .fn 26 [.el [.str a0]]), (41, .val (.bool (bif ((((a0)[Int.toNat 0]?.getD 0).toNat : Int) == 45) then r3 else false)))]) (L' := []) (ob := [(decide (0 ≤ (0 : Int) ∧ (0 : Int) < (List.length a0 : Int))) = true, ((((((a0)[Int.toNat 0]?.getD 0).toNat : Int) == 45) == true) = true → CX Try.prog 26 [.val (.int .i64 1), .el [.str a0]] (.val (.bool r3)))]) (by kernel_rfl) (AllP.cons hc5 (AllP.cons (fun hg => cx (ok_quote_Plain_1_s1 n 1 a0 _ (if_t hg hr3))) AllP.nil)) ?_
    refine To.thenN ?_
    refine Wp.cond (b := (bif ((((a0)[Int.toNat 0]?.getD 0).toNat : Int) == 45) then r3 else false)) (by kernel_rfl) (fun hb => ?_) (fun hb => ?_)
    · replace h := if_t hb h
      refine Wp.seq ?_
      refine Wp.region hΓ [] [] [2] [] (K' := [(2, .val (.bool false))]) (L' := []) (ob := []) (by kernel_rfl) AllP.nil ?_
      refine To.thenN ?_
      refine Wp.ret ?_
      refine To.thenR ?_
      refine To.keep (kk := [2]) (kl := []) (K' := [(2, .val (.bool false))]) (L' := []) (by kernel_rfl) (by kernel_rfl) ?_
      cases h
      exact To.done hΓ (by kernel_rfl)
    · replace h := if_f hb h
      refine Wp.skip ?_
      refine To.thenN ?_
      refine Wp.seq ?_
      refine Wp.seq ?_
      refine Wp.region hΓ [] [] [1, 3, 43, 44] [] (K' := [(1, .el [.str a0]), (3, .fn 26 [.el [.str a0]]), (43, .val (.int .i64 (List.length a0 : Int))), (44, .val (.int .i64 0))]) (L' := []) (ob := []) (by kernel_rfl) AllP.nil ?_
      refine To.thenN ?_
      refine Wp.block ?_
      obtain ⟨o4, ho4, h⟩ := bind_of h
      refine Wp.keep (kk := [1, 3, 43, 44]) (kl := []) (K' := [(1, .el [.str a0]), (3, .fn 26 [.el [.str a0]]), (43, .val (.int .i64 (List.length a0 : Int))), (44, .val (.int .i64 0))]) (L' := []) (by kernel_rfl) (by kernel_rfl) ?_
      refine Wp.loopL ?_
      refine ok_quote_Plain_l1 n a0 a0 (List.length a0 : Int) n 0 o4 ho4 ?_
      rcases o4 with o4 | o4
      · replace h := sum_l h
        refine To.blockX ?_
        refine To.thenN ?_
        refine Wp.seq ?_
        refine Wp.region hΓ [] [] [2] [] (K' := [(2, .val (.bool true))]) (L' := []) (ob := []) (by kernel_rfl) AllP.nil ?_
        refine To.thenN ?_
        refine Wp.ret ?_
        refine To.keep (kk := [2]) (kl := []) (K' := [(2, .val (.bool true))]) (L' := []) (by kernel_rfl) (by kernel_rfl) ?_
        cases h
        exact To.done hΓ (by kernel_rfl)
      · replace h := sum_r h
        refine To.blockR ?_
        refine To.thenR ?_
        refine To.keep (kk := [2]) (kl := []) (K' := [(2, .val (.bool o4))]) (L' := []) (by kernel_rfl) (by kernel_rfl) ?_
        cases h
        exact To.done hΓ (by kernel_rfl)
def quote_Row_l1 (n : Nat) (v0 : List UInt8) (v5 : Int) : Nat → Int → Option (Sum (Unit) (Bool))
  | 0, _ => none
  | k + 1, v6 => if (decide (v6 < v5)) = true then (if (decide (0 ≤ v6 ∧ v6 < (List.length v0 : Int))) = true then (lett (strings_IndexByte [44, 91, 93, 123, 125] (((v0)[Int.toNat v6]?.getD 0).toNat : Int)) fun r1 =>
  if (decide (r1 ≥ 0)) = true then (some (.inr false))
  else (quote_Row_l1 n v0 v5 k (IntKind.wrap .i64 (v6 + 1)))) else none)
  else (some (.inl ()))
theorem ok_quote_Row_l1 (n : Nat) (v0 : List UInt8) (v5 : Int) {F0 : Fz} {w0 : Pt} {Q : Exit → Act → World → Prop} (k : Nat) : ∀ (v6 : Int) (o : Sum (Unit) (Bool)), quote_Row_l1 n v0 v5 k v6 = some o → (Sum.elim (fun s => To 17 F0 w0 [(0, .str v0)] [] (.exit 0) Q) (fun s => To 17 F0 w0 [(2, .val (.bool s))] [] .ret Q)) o → WL Try.prog 17 F0 w0 [(0, .str v0), (5, .val (.int .i64 v5)), (6, .val (.int .i64 v6))] [] (cI (cI (cB (cA (cB (cF Try.f15)))))) Q := by
  induction k with
  | zero => intro v6 o h; cases h
  | succ k ih =>
    intro v6 o h hQ
    rw [quote_Row_l1] at h
    refine WL.round ?_
    refine Wp.seq ?_
    refine Wp.region hΓ [] [] [0, 5, 6, 7] [] (K' := [(0, .str v0), (5, .val (.int .i64 v5)), (6, .val (.int .i64 v6)), (7, .val (.bool (decide (v6 < v5))))]) (L' := []) (ob := []) (by kernel_rfl) AllP.nil ?_
    refine To.thenN ?_
    refine Wp.seq ?_
    refine Wp.cond (b := (decide (v6 < v5))) (by kernel_rfl) (fun hb => ?_) (fun hb => ?_)
    · replace h := if_t hb h
      refine Wp.skip ?_
      refine To.thenN ?_
      refine Wp.seq ?_
      refine Wp.block ?_
      refine Wp.seq ?_
      refine Wp.region hΓ [] [] [0, 3, 5, 6] [] (K' := [(0, .str v0), (3, .val (.int .i64 v6)), (5, .val (.int .i64 v5)), (6, .val (.int .i64 v6))]) (L' := []) (ob := []) (by kernel_rfl) AllP.nil ?_
      refine To.thenN ?_
      refine Wp.seq ?_
      obtain ⟨hc2, h⟩ := chk_of h
      obtain ⟨r1, hr1, h⟩ := lett_of h
      refine Wp.region hΓ [] [(3, .val (.int .i64 r1))] [0, 5, 6, 13] [] (K' := [(0, .str v0), (5, .val (.int .i64 v5)), (6, .val (.int .i64 v6)), (13, .val (.bool (decide (r1 ≥ 0))))]) (L' := []) (ob := [(decide (0 ≤ v6 ∧ v6 < (List.length v0 : Int))) = true, (true = true → CX Try.prog 25 [.str [44, 91, 93, 123, 125], .val (.int .u8 (((v0)[Int.toNat v6]?.getD 0).toNat : Int))] (.val (.int .i64 r1)))]) (by kernel_rfl) (AllP.cons hc2 (AllP.cons (fun _ => cx (ok_strings_IndexByte [44, 91, 93, 123, 125] (((v0)[Int.toNat v6]?.getD 0).toNat : Int) _ hr1)) AllP.nil)) ?_
      refine To.thenN ?_
      refine Wp.cond (b := (decide (r1 ≥ 0))) (by kernel_rfl) (fun hb => ?_) (fun hb => ?_)
      · replace h := if_t hb h
        refine Wp.seq ?_
        refine Wp.region hΓ [] [] [2] [] (K' := [(2, .val (.bool false))]) (L' := []) (ob := []) (by kernel_rfl) AllP.nil ?_
        refine To.thenN ?_
        refine Wp.ret ?_
        refine To.blockR ?_
        refine To.thenR ?_
        refine To.thenR ?_
        refine To.keep (kk := [2]) (kl := []) (K' := [(2, .val (.bool false))]) (L' := []) (by kernel_rfl) (by kernel_rfl) ?_
        cases h
        exact hQ
      · replace h := if_f hb h
        refine Wp.skip ?_
        refine To.blockN ?_
        refine To.thenN ?_
        refine Wp.region hΓ [] [] [0, 5, 6] [] (K' := [(0, .str v0), (5, .val (.int .i64 v5)), (6, .val (.int .i64 (IntKind.wrap .i64 (v6 + 1))))]) (L' := []) (ob := []) (by kernel_rfl) AllP.nil ?_
        refine To.keep (kk := [0, 5, 6]) (kl := []) (K' := [(0, .str v0), (5, .val (.int .i64 v5)), (6, .val (.int .i64 (IntKind.wrap .i64 (v6 + 1))))]) (L' := []) (by kernel_rfl) (by kernel_rfl) ?_
        refine To.again ?_
        exact ih (IntKind.wrap .i64 (v6 + 1)) _ h hQ
    · replace h := if_f hb h
      refine Wp.exit ?_
      refine To.thenX ?_
      refine To.thenX ?_
      refine To.keep (kk := [0]) (kl := []) (K' := [(0, .str v0)]) (L' := []) (by kernel_rfl) (by kernel_rfl) ?_
      cases h
      exact hQ
def quote_Row (n : Nat) (a0 : List UInt8) : Option (Bool) :=
  (quote_Row_l1 n a0 (List.length a0 : Int) n 0).bind fun o1 =>
  (Sum.elim (fun o1 => (quote_Plain n a0).bind fun r2 =>
  some r2) (fun o1 => some o1)) o1
theorem ok_quote_Row (n : Nat) (a0 : List UInt8) (r : Bool) (h : quote_Row n a0 = some r) : CallsX Try.prog 15 [.str a0] (.val (.bool r)) := by
  unfold quote_Row at h
  refine callsX_of (fn := Try.f15) (by kernel_rfl) rfl (by kernel_rfl) (Nat.le_of_ble_eq_true (by kernel_rfl)) fun F0 w0 => ?_
  refine Wp.keep (kk := [0]) (kl := []) (K' := [(0, .str a0)]) (L' := []) (by kernel_rfl) (by kernel_rfl) ?_
  refine Wp.seq ?_
  refine Wp.region hΓ [] [] [0] [] (K' := [(0, .str a0)]) (L' := []) (ob := []) (by kernel_rfl) AllP.nil ?_
  refine To.thenN ?_
  refine Wp.seq ?_
  refine Wp.seq ?_
  refine Wp.region hΓ [] [] [0, 5, 6] [] (K' := [(0, .str a0), (5, .val (.int .i64 (List.length a0 : Int))), (6, .val (.int .i64 0))]) (L' := []) (ob := []) (by kernel_rfl) AllP.nil ?_
  refine To.thenN ?_
  refine Wp.block ?_
  obtain ⟨o1, ho1, h⟩ := bind_of h
  refine Wp.keep (kk := [0, 5, 6]) (kl := []) (K' := [(0, .str a0), (5, .val (.int .i64 (List.length a0 : Int))), (6, .val (.int .i64 0))]) (L' := []) (by kernel_rfl) (by kernel_rfl) ?_
  refine Wp.loopL ?_
  refine ok_quote_Row_l1 n a0 (List.length a0 : Int) n 0 o1 ho1 ?_
  rcases o1 with o1 | o1
  · replace h := sum_l h
    refine To.blockX ?_
    refine To.thenN ?_
    refine Wp.seq ?_
    obtain ⟨r2, hr2, h⟩ := bind_of h
    refine Wp.region hΓ [] [(1, .val (.bool r2))] [2] [] (K' := [(2, .val (.bool r2))]) (L' := []) (ob := [(true = true → CX Try.prog 14 [.str a0] (.val (.bool r2)))]) (by kernel_rfl) (AllP.cons (fun _ => cx (ok_quote_Plain n a0 _ hr2)) AllP.nil) ?_
    refine To.thenN ?_
    refine Wp.ret ?_
    refine To.keep (kk := [2]) (kl := []) (K' := [(2, .val (.bool r2))]) (L' := []) (by kernel_rfl) (by kernel_rfl) ?_
    cases h
    exact To.done hΓ (by kernel_rfl)
  · replace h := sum_r h
    refine To.blockR ?_
    refine To.thenR ?_
    refine To.keep (kk := [2]) (kl := []) (K' := [(2, .val (.bool o1))]) (L' := []) (by kernel_rfl) (by kernel_rfl) ?_
    cases h
    exact To.done hΓ (by kernel_rfl)
def quote_Write (n : Nat) (a0 : List UInt8) (a1 : Bool) : Option ((List UInt8)) :=
  ((if (a1 == true) = true then quote_Row n a0 else some false)).bind fun r1 =>
  ((if (((!a1) == true) && ((bif a1 then r1 else false) == false)) = true then quote_Plain n a0 else some false)).bind fun r2 =>
  if (bif (bif a1 then r1 else false) then true else (bif (!a1) then r2 else false)) = true then some a0
  else ((quote_Double n a0).bind fun r3 =>
  some r3)
theorem ok_quote_Write (n : Nat) (a0 : List UInt8) (a1 : Bool) (r : (List UInt8)) (h : quote_Write n a0 a1 = some r) : CallsX Try.prog 17 [.str a0, .val (.bool a1)] (.str r) := by
  unfold quote_Write at h
  refine callsX_of (fn := Try.f17) (by kernel_rfl) rfl (by kernel_rfl) (Nat.le_of_ble_eq_true (by kernel_rfl)) fun F0 w0 => ?_
  refine Wp.keep (kk := [0, 1]) (kl := []) (K' := [(0, .str a0), (1, .val (.bool a1))]) (L' := []) (by kernel_rfl) (by kernel_rfl) ?_
  refine Wp.seq ?_
  refine Wp.region hΓ [] [] [0, 1] [] (K' := [(0, .str a0), (1, .val (.bool a1))]) (L' := []) (ob := []) (by kernel_rfl) AllP.nil ?_
  refine To.thenN ?_
  refine Wp.seq ?_
  refine Wp.seq ?_
  obtain ⟨r1, hr1, h⟩ := bind_of h
  obtain ⟨r2, hr2, h⟩ := bind_of h
  refine Wp.region hΓ [] [(3, .val (.bool r1)), (10, .val (.bool r2))] [0, 17] [] (K' := [(0, .str a0), (17, .val (.bool (bif (bif a1 then r1 else false) then true else (bif (!a1) then r2 else false))))]) (L' := []) (ob := [((a1 == true) = true → CX Try.prog 15 [.str a0] (.val (.bool r1))), ((((!a1) == true) && ((bif a1 then r1 else false) == false)) = true → CX Try.prog 14 [.str a0] (.val (.bool r2)))]) (by kernel_rfl) (AllP.cons (fun hg => cx (ok_quote_Row n a0 _ (if_t hg hr1))) (AllP.cons (fun hg => cx (ok_quote_Plain n a0 _ (if_t hg hr2))) AllP.nil)) ?_
  refine To.thenN ?_
  refine Wp.cond (b := (bif (bif a1 then r1 else false) then true else (bif (!a1) then r2 else false))) (by kernel_rfl) (fun hb => ?_) (fun hb => ?_)
  · replace h := if_t hb h
    refine Wp.seq ?_
    refine Wp.region hΓ [] [] [4] [] (K' := [(4, .str a0)]) (L' := []) (ob := []) (by kernel_rfl) AllP.nil ?_
    refine To.thenN ?_
    refine Wp.ret ?_
    refine To.thenR ?_
    refine To.keep (kk := [4]) (kl := []) (K' := [(4, .str a0)]) (L' := []) (by kernel_rfl) (by kernel_rfl) ?_
    cases h
    exact To.done hΓ (by kernel_rfl)
  · replace h := if_f hb h
    refine Wp.skip ?_
    refine To.thenN ?_
    refine Wp.seq ?_
    obtain ⟨r3, hr3, h⟩ := bind_of h
    refine Wp.region hΓ [] [(1, .str r3)] [4] [] (K' := [(4, .str r3)]) (L' := []) (ob := [(true = true → CX Try.prog 16 [.str a0] (.str r3))]) (by kernel_rfl) (AllP.cons (fun _ => cx (ok_quote_Double n a0 _ hr3)) AllP.nil) ?_
    refine To.thenN ?_
    refine Wp.ret ?_
    refine To.keep (kk := [4]) (kl := []) (K' := [(4, .str r3)]) (L' := []) (by kernel_rfl) (by kernel_rfl) ?_
    cases h
    exact To.done hΓ (by kernel_rfl)
def law06_awake (n : Nat) : Option (Bool) :=
  (quote_Scan n [39, 105, 116, 39, 39, 115, 39, 32, 120] 0).bind fun r1 =>
  (quote_Double n [97, 34, 98]).bind fun r2 =>
  ((if ((r2 == [34, 97, 92, 34, 98, 34]) == true) = true then quote_Write n [119, 101, 98] false else some [])).bind fun r3 =>
  ((if ((bif (r2 == [34, 97, 92, 34, 98, 34]) then (r3 == [119, 101, 98]) else false) == true) = true then quote_Write n [97, 58, 32, 98] false else some [])).bind fun r4 =>
  lett ((bif (bif (bif (bif (bif (r2 == [34, 97, 92, 34, 98, 34]) then (r3 == [119, 101, 98]) else false) then (r4 == [34, 97, 58, 32, 98, 34]) else false) then (r1.1 == [105, 116, 39, 115]) else false) then (r1.2.1 == 7) else false) then (r1.2.2 == 0) else false) : Bool) fun x5 =>
  some x5
theorem ok_law06_awake (n : Nat) (r : Bool) (h : law06_awake n = some r) : CallsX Try.prog 6 [] (.val (.bool r)) := by
  unfold law06_awake at h
  refine callsX_of (fn := Try.f6) (by kernel_rfl) rfl (by kernel_rfl) (Nat.le_of_ble_eq_true (by kernel_rfl)) fun F0 w0 => ?_
  refine Wp.keep (kk := []) (kl := []) (K' := []) (L' := []) (by kernel_rfl) (by kernel_rfl) ?_
  refine Wp.seq ?_
  refine Wp.region hΓ [] [] [] [] (K' := []) (L' := []) (ob := []) (by kernel_rfl) AllP.nil ?_
  refine To.thenN ?_
  refine Wp.seq ?_
  obtain ⟨r1, hr1, h⟩ := bind_of h
  refine Wp.region hΓ [] [(0, .tup [.str r1.1, .val (.int .i64 r1.2.1), .val (.int .i64 r1.2.2)])] [1, 2, 3] [] (K' := [(1, .str r1.1), (2, .val (.int .i64 r1.2.1)), (3, .val (.int .i64 r1.2.2))]) (L' := []) (ob := [(true = true → CX Try.prog 7 [.str [39, 105, 116, 39, 39, 115, 39, 32, 120], .val (.int .i64 0)] (.tup [.str r1.1, .val (.int .i64 r1.2.1), .val (.int .i64 r1.2.2)]))]) (by kernel_rfl) (AllP.cons (fun _ => cx (ok_quote_Scan n [39, 105, 116, 39, 39, 115, 39, 32, 120] 0 _ hr1)) AllP.nil) ?_
  refine To.thenN ?_
  refine Wp.seq ?_
  obtain ⟨r2, hr2, h⟩ := bind_of h
  obtain ⟨r3, hr3, h⟩ := bind_of h
  obtain ⟨r4, hr4, h⟩ := bind_of h
  obtain ⟨x5, hx5, h⟩ := lett_of h
  refine Wp.region hΓ [] [(0, .str r2), (3, .str r3), (7, .str r4)] [0] [] (K' := [(0, .val (.bool (bif (bif (bif (bif (bif (r2 == [34, 97, 92, 34, 98, 34]) then (r3 == [119, 101, 98]) else false) then (r4 == [34, 97, 58, 32, 98, 34]) else false) then (r1.1 == [105, 116, 39, 115]) else false) then (r1.2.1 == 7) else false) then (r1.2.2 == 0) else false)))]) (L' := []) (ob := [(true = true → CX Try.prog 16 [.str [97, 34, 98]] (.str r2)), (((r2 == [34, 97, 92, 34, 98, 34]) == true) = true → CX Try.prog 17 [.str [119, 101, 98], .val (.bool false)] (.str r3)), (((bif (r2 == [34, 97, 92, 34, 98, 34]) then (r3 == [119, 101, 98]) else false) == true) = true → CX Try.prog 17 [.str [97, 58, 32, 98], .val (.bool false)] (.str r4))]) (by kernel_rfl) (AllP.cons (fun _ => cx (ok_quote_Double n [97, 34, 98] _ hr2)) (AllP.cons (fun hg => cx (ok_quote_Write n [119, 101, 98] false _ (if_t hg hr3))) (AllP.cons (fun hg => cx (ok_quote_Write n [97, 58, 32, 98] false _ (if_t hg hr4))) AllP.nil))) ?_
  refine To.eq (K' := [(0, .val (.bool x5))]) (L' := []) (by cases hx5; rfl) (by cases hx5; rfl) ?_
  refine To.thenN ?_
  refine Wp.ret ?_
  refine To.keep (kk := [0]) (kl := []) (K' := [(0, .val (.bool x5))]) (L' := []) (by kernel_rfl) (by kernel_rfl) ?_
  cases h
  exact To.done hΓ (by kernel_rfl)
def ref06_Good (a0 : Int) : Bool :=
  (bif (bif (decide (a0 ≥ 32)) then (decide (a0 ≤ 126)) else false) then true else (decide (a0 ≥ 128)))
theorem ok_ref06_Good (a0 : Int) (r : Bool) (h : ref06_Good a0 = r) : CallsX Try.prog 22 [.val (.int .u8 a0)] (.val (.bool r)) := by
  unfold ref06_Good at h
  refine callsX_of (fn := Try.f22) (by kernel_rfl) rfl (by kernel_rfl) (Nat.le_of_ble_eq_true (by kernel_rfl)) fun F0 w0 => ?_
  refine Wp.keep (kk := [0]) (kl := []) (K' := [(0, .val (.int .u8 a0))]) (L' := []) (by kernel_rfl) (by kernel_rfl) ?_
  refine Wp.seq ?_
  refine Wp.region hΓ [] [] [0] [] (K' := [(0, .val (.int .u8 a0))]) (L' := []) (ob := []) (by kernel_rfl) AllP.nil ?_
  refine To.thenN ?_
  refine Wp.seq ?_
  refine Wp.region hΓ [] [] [2] [] (K' := [(2, .val (.bool (bif (bif (decide (a0 ≥ 32)) then (decide (a0 ≤ 126)) else false) then true else (decide (a0 ≥ 128)))))]) (L' := []) (ob := []) (by kernel_rfl) AllP.nil ?_
  refine To.thenN ?_
  refine Wp.ret ?_
  refine To.keep (kk := [2]) (kl := []) (K' := [(2, .val (.bool (bif (bif (decide (a0 ≥ 32)) then (decide (a0 ≤ 126)) else false) then true else (decide (a0 ≥ 128)))))]) (L' := []) (by kernel_rfl) (by kernel_rfl) ?_
  cases h
  exact To.done hΓ (by kernel_rfl)
def ref06_value (a0 : Int) : Int :=
  if (bif (decide (a0 ≥ 48)) then (decide (a0 ≤ 57)) else false) = true then ((IntKind.wrap .i64 ((IntKind.wrap .i64 (a0)) - 48)))
  else (if (bif (decide (a0 ≥ 97)) then (decide (a0 ≤ 102)) else false) = true then ((IntKind.wrap .i64 ((IntKind.wrap .i64 (a0)) - 87)))
  else (if (bif (decide (a0 ≥ 65)) then (decide (a0 ≤ 70)) else false) = true then ((IntKind.wrap .i64 ((IntKind.wrap .i64 (a0)) - 55)))
  else 16))
theorem ok_ref06_value (a0 : Int) (r : Int) (h : ref06_value a0 = r) : CallsX Try.prog 28 [.val (.int .u8 a0)] (.val (.int .i64 r)) := by
  unfold ref06_value at h
  refine callsX_of (fn := Try.f28) (by kernel_rfl) rfl (by kernel_rfl) (Nat.le_of_ble_eq_true (by kernel_rfl)) fun F0 w0 => ?_
  refine Wp.keep (kk := [0]) (kl := []) (K' := [(0, .val (.int .u8 a0))]) (L' := []) (by kernel_rfl) (by kernel_rfl) ?_
  refine Wp.seq ?_
  refine Wp.region hΓ [] [] [0] [] (K' := [(0, .val (.int .u8 a0))]) (L' := []) (ob := []) (by kernel_rfl) AllP.nil ?_
  refine To.thenN ?_
  refine Wp.seq ?_
  refine Wp.seq ?_
  refine Wp.region hΓ [] [] [0, 8] [] (K' := [(0, .val (.int .u8 a0)), (8, .val (.bool (bif (decide (a0 ≥ 48)) then (decide (a0 ≤ 57)) else false)))]) (L' := []) (ob := []) (by kernel_rfl) AllP.nil ?_
  refine To.thenN ?_
  refine Wp.cond (b := (bif (decide (a0 ≥ 48)) then (decide (a0 ≤ 57)) else false)) (by kernel_rfl) (fun hb => ?_) (fun hb => ?_)
  · replace h := if_t hb h
    refine Wp.seq ?_
    refine Wp.region hΓ [] [] [2] [] (K' := [(2, .val (.int .i64 (IntKind.wrap .i64 ((IntKind.wrap .i64 (a0)) - 48))))]) (L' := []) (ob := []) (by kernel_rfl) AllP.nil ?_
    refine To.thenN ?_
    refine Wp.ret ?_
    refine To.thenR ?_
    refine To.keep (kk := [2]) (kl := []) (K' := [(2, .val (.int .i64 (IntKind.wrap .i64 ((IntKind.wrap .i64 (a0)) - 48))))]) (L' := []) (by kernel_rfl) (by kernel_rfl) ?_
    cases h
    exact To.done hΓ (by kernel_rfl)
  · replace h := if_f hb h
    refine Wp.skip ?_
    refine To.thenN ?_
    refine Wp.seq ?_
    refine Wp.seq ?_
    refine Wp.region hΓ [] [] [0, 17] [] (K' := [(0, .val (.int .u8 a0)), (17, .val (.bool (bif (decide (a0 ≥ 97)) then (decide (a0 ≤ 102)) else false)))]) (L' := []) (ob := []) (by kernel_rfl) AllP.nil ?_
    refine To.thenN ?_
    refine Wp.cond (b := (bif (decide (a0 ≥ 97)) then (decide (a0 ≤ 102)) else false)) (by kernel_rfl) (fun hb => ?_) (fun hb => ?_)
    · replace h := if_t hb h
      refine Wp.seq ?_
      refine Wp.region hΓ [] [] [2] [] (K' := [(2, .val (.int .i64 (IntKind.wrap .i64 ((IntKind.wrap .i64 (a0)) - 87))))]) (L' := []) (ob := []) (by kernel_rfl) AllP.nil ?_
      refine To.thenN ?_
      refine Wp.ret ?_
      refine To.thenR ?_
      refine To.keep (kk := [2]) (kl := []) (K' := [(2, .val (.int .i64 (IntKind.wrap .i64 ((IntKind.wrap .i64 (a0)) - 87))))]) (L' := []) (by kernel_rfl) (by kernel_rfl) ?_
      cases h
      exact To.done hΓ (by kernel_rfl)
    · replace h := if_f hb h
      refine Wp.skip ?_
      refine To.thenN ?_
      refine Wp.seq ?_
      refine Wp.seq ?_
      refine Wp.region hΓ [] [] [0, 26] [] (K' := [(0, .val (.int .u8 a0)), (26, .val (.bool (bif (decide (a0 ≥ 65)) then (decide (a0 ≤ 70)) else false)))]) (L' := []) (ob := []) (by kernel_rfl) AllP.nil ?_
      refine To.thenN ?_
      refine Wp.cond (b := (bif (decide (a0 ≥ 65)) then (decide (a0 ≤ 70)) else false)) (by kernel_rfl) (fun hb => ?_) (fun hb => ?_)
      · replace h := if_t hb h
        refine Wp.seq ?_
        refine Wp.region hΓ [] [] [2] [] (K' := [(2, .val (.int .i64 (IntKind.wrap .i64 ((IntKind.wrap .i64 (a0)) - 55))))]) (L' := []) (ob := []) (by kernel_rfl) AllP.nil ?_
        refine To.thenN ?_
        refine Wp.ret ?_
        refine To.thenR ?_
        refine To.keep (kk := [2]) (kl := []) (K' := [(2, .val (.int .i64 (IntKind.wrap .i64 ((IntKind.wrap .i64 (a0)) - 55))))]) (L' := []) (by kernel_rfl) (by kernel_rfl) ?_
        cases h
        exact To.done hΓ (by kernel_rfl)
      · replace h := if_f hb h
        refine Wp.skip ?_
        refine To.thenN ?_
        refine Wp.seq ?_
        refine Wp.region hΓ [] [] [2] [] (K' := [(2, .val (.int .i64 16))]) (L' := []) (ob := []) (by kernel_rfl) AllP.nil ?_
        refine To.thenN ?_
        refine Wp.ret ?_
        refine To.keep (kk := [2]) (kl := []) (K' := [(2, .val (.int .i64 16))]) (L' := []) (by kernel_rfl) (by kernel_rfl) ?_
        cases h
        exact To.done hΓ (by kernel_rfl)
def ref06_double_l1 (n : Nat) (v0 : List UInt8) : Nat → Int → (List (UInt8)) → Option (Sum (Unit) ((List UInt8) × Int × Bool))
  | 0, _, _ => none
  | k + 1, v1, v7 => if (decide (v1 < (List.length v0 : Int))) = true then (if (decide (0 ≤ v1 ∧ v1 < (List.length v0 : Int))) = true then (if (!(ref06_Good (((v0)[Int.toNat v1]?.getD 0).toNat : Int))) = true then (some (.inr ([], 0, false)))
  else (if ((((v0)[Int.toNat v1]?.getD 0).toNat : Int) == 34) = true then (some (.inr (v7, (IntKind.wrap .i64 (v1 + 1)), true)))
  else (if ((((v0)[Int.toNat v1]?.getD 0).toNat : Int) != 92) = true then (if (decide ((List.length v7 + List.length ([((v0)[Int.toNat v1]?.getD 0)] : List (UInt8))) * (1 + 1) ≤ limit)) = true then (ref06_double_l1 n v0 k (IntKind.wrap .i64 (v1 + 1)) (v7 ++ ([((v0)[Int.toNat v1]?.getD 0)] : List (UInt8)))) else none)
  else (if (decide ((IntKind.wrap .i64 (v1 + 1)) ≥ (List.length v0 : Int))) = true then (some (.inr ([], 0, false)))
  else (if (decide (0 ≤ (IntKind.wrap .i64 (v1 + 1)) ∧ (IntKind.wrap .i64 (v1 + 1)) < (List.length v0 : Int))) = true then (lett ((bif ((((v0)[Int.toNat (IntKind.wrap .i64 (v1 + 1))]?.getD 0).toNat : Int) == 92) then true else ((((v0)[Int.toNat (IntKind.wrap .i64 (v1 + 1))]?.getD 0).toNat : Int) == 34)) : Bool) fun x2 =>
  if x2 = true then (if (decide ((List.length v7 + List.length ([((v0)[Int.toNat (IntKind.wrap .i64 (v1 + 1))]?.getD 0)] : List (UInt8))) * (1 + 1) ≤ limit)) = true then (ref06_double_l1 n v0 k (IntKind.wrap .i64 (v1 + 2)) (v7 ++ ([((v0)[Int.toNat (IntKind.wrap .i64 (v1 + 1))]?.getD 0)] : List (UInt8)))) else none)
  else (if ((((v0)[Int.toNat (IntKind.wrap .i64 (v1 + 1))]?.getD 0).toNat : Int) == 110) = true then (if (decide ((List.length v7 + List.length ([10] : List (UInt8))) * (1 + 1) ≤ limit)) = true then (ref06_double_l1 n v0 k (IntKind.wrap .i64 (v1 + 2)) (v7 ++ ([10] : List (UInt8)))) else none)
  else (if ((((v0)[Int.toNat (IntKind.wrap .i64 (v1 + 1))]?.getD 0).toNat : Int) == 116) = true then (if (decide ((List.length v7 + List.length ([9] : List (UInt8))) * (1 + 1) ≤ limit)) = true then (ref06_double_l1 n v0 k (IntKind.wrap .i64 (v1 + 2)) (v7 ++ ([9] : List (UInt8)))) else none)
  else (if ((!((bif ((((v0)[Int.toNat (IntKind.wrap .i64 (v1 + 1))]?.getD 0).toNat : Int) == 120) then (decide ((IntKind.wrap .i64 (v1 + 3)) < (List.length v0 : Int))) else false) == true) || decide (0 ≤ (IntKind.wrap .i64 (v1 + 2)) ∧ (IntKind.wrap .i64 (v1 + 2)) < (List.length v0 : Int)))) = true then (lett (ref06_value (((v0)[Int.toNat (IntKind.wrap .i64 (v1 + 2))]?.getD 0).toNat : Int)) fun r6 =>
  if ((!((bif (bif ((((v0)[Int.toNat (IntKind.wrap .i64 (v1 + 1))]?.getD 0).toNat : Int) == 120) then (decide ((IntKind.wrap .i64 (v1 + 3)) < (List.length v0 : Int))) else false) then (decide (r6 < 16)) else false) == true) || decide (0 ≤ (IntKind.wrap .i64 (v1 + 3)) ∧ (IntKind.wrap .i64 (v1 + 3)) < (List.length v0 : Int)))) = true then (lett (ref06_value (((v0)[Int.toNat (IntKind.wrap .i64 (v1 + 3))]?.getD 0).toNat : Int)) fun r7 =>
  lett ((bif (bif (bif ((((v0)[Int.toNat (IntKind.wrap .i64 (v1 + 1))]?.getD 0).toNat : Int) == 120) then (decide ((IntKind.wrap .i64 (v1 + 3)) < (List.length v0 : Int))) else false) then (decide (r6 < 16)) else false) then (decide (r7 < 16)) else false) : Bool) fun x8 =>
  if x8 = true then (if (decide (0 ≤ (IntKind.wrap .i64 (v1 + 2)) ∧ (IntKind.wrap .i64 (v1 + 2)) < (List.length v0 : Int))) = true then (lett (ref06_value (((v0)[Int.toNat (IntKind.wrap .i64 (v1 + 2))]?.getD 0).toNat : Int)) fun r9 =>
  if (decide (0 ≤ (IntKind.wrap .i64 (v1 + 3)) ∧ (IntKind.wrap .i64 (v1 + 3)) < (List.length v0 : Int))) = true then (lett (ref06_value (((v0)[Int.toNat (IntKind.wrap .i64 (v1 + 3))]?.getD 0).toNat : Int)) fun r10 =>
  if (decide (0 ≤ (IntKind.wrap .u8 ((IntKind.wrap .i64 ((IntKind.wrap .i64 (r9 * 16)) + r10)))) ∧ (IntKind.wrap .u8 ((IntKind.wrap .i64 ((IntKind.wrap .i64 (r9 * 16)) + r10)))) < 256)) = true then (if (decide ((List.length v7 + List.length ([(UInt8.ofNat (Int.toNat (IntKind.wrap .u8 ((IntKind.wrap .i64 ((IntKind.wrap .i64 (r9 * 16)) + r10))))))] : List (UInt8))) * (1 + 1) ≤ limit)) = true then (lett ((v7 ++ ([(UInt8.ofNat (Int.toNat (IntKind.wrap .u8 ((IntKind.wrap .i64 ((IntKind.wrap .i64 (r9 * 16)) + r10))))))] : List (UInt8))) : List (UInt8)) fun x12 =>
  ref06_double_l1 n v0 k (IntKind.wrap .i64 (v1 + 4)) x12) else none) else none) else none) else none)
  else (some (.inr ([], 0, false)))) else none) else none)))) else none))))) else none)
  else (some (.inl ()))
theorem ok_ref06_double_l1 (n : Nat) (v0 : List UInt8) {F0 : Fz} {w0 : Pt} {Q : Exit → Act → World → Prop} (k : Nat) : ∀ (v1 : Int) (v7 : List (UInt8)) (o : Sum (Unit) ((List UInt8) × Int × Bool)), ref06_double_l1 n v0 k v1 v7 = some o → (Sum.elim (fun s => To 113 F0 w0 [] [] (.exit 0) Q) (fun s => To 113 F0 w0 [(4, .str s.1), (5, .val (.int .i64 s.2.1)), (6, .val (.bool s.2.2))] [] .ret Q)) o → WL Try.prog 113 F0 w0 [(0, .str v0), (1, .val (.int .i64 v1)), (7, .row 1007)] [(1007, 5, [.rowc false (α := UInt8) 0 e8 v7])] (cI (cI (cA (cB (cB (cF Try.f20)))))) Q := by
  induction k with
  | zero => intro v1 v7 o h; cases h
  | succ k ih =>
    intro v1 v7 o h hQ
    rw [ref06_double_l1] at h
    refine WL.round ?_
    refine Wp.seq ?_
    refine Wp.seq ?_
    refine Wp.region hΓ [] [] [0, 1, 7, 14] [1007] (K' := [(0, .str v0), (1, .val (.int .i64 v1)), (7, .row 1007), (14, .val (.bool (decide (v1 < (List.length v0 : Int)))))]) (L' := [(1007, 5, [.rowc false (α := UInt8) 0 e8 v7])]) (ob := []) (by kernel_rfl) AllP.nil ?_
    refine To.thenN ?_
    refine Wp.cond (b := (decide (v1 < (List.length v0 : Int)))) (by kernel_rfl) (fun hb => ?_) (fun hb => ?_)
    · replace h := if_t hb h
      refine Wp.skip ?_
      refine To.thenN ?_
      refine Wp.block ?_
      refine Wp.seq ?_
      obtain ⟨hc19, h⟩ := chk_of h
      refine Wp.region hΓ [] [] [0, 1, 7, 8] [1007] (K' := [(0, .str v0), (1, .val (.int .i64 v1)), (7, .row 1007), (8, .val (.int .u8 (((v0)[Int.toNat v1]?.getD 0).toNat : Int)))]) (L' := [(1007, 5, [.rowc false (α := UInt8) 0 e8 v7])]) (ob := [(decide (0 ≤ v1 ∧ v1 < (List.length v0 : Int))) = true]) (by kernel_rfl) (AllP.cons hc19 AllP.nil) ?_
      refine To.thenN ?_
      refine Wp.seq ?_
      refine Wp.seq ?_
      refine Wp.region hΓ [] [(1, .val (.bool (ref06_Good (((v0)[Int.toNat v1]?.getD 0).toNat : Int))))] [0, 1, 7, 8, 20] [1007] (K' := [(0, .str v0), (1, .val (.int .i64 v1)), (7, .row 1007), (8, .val (.int .u8 (((v0)[Int.toNat v1]?.getD 0).toNat : Int))), (20, .val (.bool (!(ref06_Good (((v0)[Int.toNat v1]?.getD 0).toNat : Int)))))]) (L' := [(1007, 5, [.rowc false (α := UInt8) 0 e8 v7])]) (ob := [(true = true → CX Try.prog 22 [.val (.int .u8 (((v0)[Int.toNat v1]?.getD 0).toNat : Int))] (.val (.bool (ref06_Good (((v0)[Int.toNat v1]?.getD 0).toNat : Int)))))]) (by kernel_rfl) (AllP.cons (fun _ => cx (ok_ref06_Good (((v0)[Int.toNat v1]?.getD 0).toNat : Int) _ rfl)) AllP.nil) ?_
      refine To.thenN ?_
      refine Wp.cond (b := (!(ref06_Good (((v0)[Int.toNat v1]?.getD 0).toNat : Int)))) (by kernel_rfl) (fun hb => ?_) (fun hb => ?_)
      · replace h := if_t hb h
        refine Wp.seq ?_
        refine Wp.region hΓ [] [] [4, 5, 6] [] (K' := [(4, .str []), (5, .val (.int .i64 0)), (6, .val (.bool false))]) (L' := []) (ob := []) (by kernel_rfl) AllP.nil ?_
        refine To.thenN ?_
        refine Wp.ret ?_
        refine To.thenR ?_
        refine To.blockR ?_
        refine To.thenR ?_
        refine To.keep (kk := [4, 5, 6]) (kl := []) (K' := [(4, .str []), (5, .val (.int .i64 0)), (6, .val (.bool false))]) (L' := []) (by kernel_rfl) (by kernel_rfl) ?_
        cases h
        exact hQ
      · replace h := if_f hb h
        refine Wp.skip ?_
        refine To.thenN ?_
        refine Wp.seq ?_
        refine Wp.seq ?_
        refine Wp.region hΓ [] [] [0, 1, 7, 8, 22] [1007] (K' := [(0, .str v0), (1, .val (.int .i64 v1)), (7, .row 1007), (8, .val (.int .u8 (((v0)[Int.toNat v1]?.getD 0).toNat : Int))), (22, .val (.bool ((((v0)[Int.toNat v1]?.getD 0).toNat : Int) == 34)))]) (L' := [(1007, 5, [.rowc false (α := UInt8) 0 e8 v7])]) (ob := []) (by kernel_rfl) AllP.nil ?_
        refine To.thenN ?_
        refine Wp.cond (b := ((((v0)[Int.toNat v1]?.getD 0).toNat : Int) == 34)) (by kernel_rfl) (fun hb => ?_) (fun hb => ?_)
        · replace h := if_t hb h
          refine Wp.seq ?_
          refine Wp.region hΓ [] [(1, .str v7)] [4, 5, 6] [] (K' := [(4, .str v7), (5, .val (.int .i64 (IntKind.wrap .i64 (v1 + 1)))), (6, .val (.bool true))]) (L' := []) (ob := [(true = true → StrOb (List.flatMap e8 v7) (.str v7))]) (by kernel_rfl) (AllP.cons (fun _ => strOb (flat8 _)) AllP.nil) ?_
          refine To.thenN ?_
          refine Wp.ret ?_
          refine To.thenR ?_
          refine To.blockR ?_
          refine To.thenR ?_
          refine To.keep (kk := [4, 5, 6]) (kl := []) (K' := [(4, .str v7), (5, .val (.int .i64 (IntKind.wrap .i64 (v1 + 1)))), (6, .val (.bool true))]) (L' := []) (by kernel_rfl) (by kernel_rfl) ?_
          cases h
          exact hQ
        · replace h := if_f hb h
          refine Wp.skip ?_
          refine To.thenN ?_
          refine Wp.seq ?_
          refine Wp.seq ?_
          refine Wp.region hΓ [] [] [0, 1, 7, 8, 28] [1007] (K' := [(0, .str v0), (1, .val (.int .i64 v1)), (7, .row 1007), (8, .val (.int .u8 (((v0)[Int.toNat v1]?.getD 0).toNat : Int))), (28, .val (.bool ((((v0)[Int.toNat v1]?.getD 0).toNat : Int) != 92)))]) (L' := [(1007, 5, [.rowc false (α := UInt8) 0 e8 v7])]) (ob := []) (by kernel_rfl) AllP.nil ?_
          refine To.thenN ?_
          refine Wp.cond (b := ((((v0)[Int.toNat v1]?.getD 0).toNat : Int) != 92)) (by kernel_rfl) (fun hb => ?_) (fun hb => ?_)
          · replace h := if_t hb h
            refine Wp.seq ?_
            obtain ⟨hc1, h⟩ := chk_of h
            refine Wp.region hΓ [] [(2, .recs (α := UInt8) 0 e8 ([((v0)[Int.toNat v1]?.getD 0)])), (3, .recs (α := UInt8) 0 e8 (v7 ++ ([((v0)[Int.toNat v1]?.getD 0)] : List (UInt8))))] [0, 1, 7] [32] (K' := [(0, .str v0), (1, .val (.int .i64 v1)), (7, .row 32)]) (L' := [(32, 5, [.rowc false (α := UInt8) 0 e8 (v7 ++ ([((v0)[Int.toNat v1]?.getD 0)] : List (UInt8)))])]) (ob := [(MkOb 1 [.val (.int .u8 (((v0)[Int.toNat v1]?.getD 0).toNat : Int))] 1 (.recs (α := UInt8) 0 e8 ([((v0)[Int.toNat v1]?.getD 0)])) ∧ GoodR (.recs (α := UInt8) 0 e8 ([((v0)[Int.toNat v1]?.getD 0)]))), (decide ((List.length v7 + List.length ([((v0)[Int.toNat v1]?.getD 0)] : List (UInt8))) * (1 + 1) ≤ limit)) = true, (AppOb 0 e8 v7 (List.flatMap e8 ([((v0)[Int.toNat v1]?.getD 0)] : List (UInt8))) (List.length ([((v0)[Int.toNat v1]?.getD 0)] : List (UInt8))) (.recs (α := UInt8) 0 e8 (v7 ++ ([((v0)[Int.toNat v1]?.getD 0)] : List (UInt8)))) ∧ GoodR (.recs (α := UInt8) 0 e8 (v7 ++ ([((v0)[Int.toNat v1]?.getD 0)] : List (UInt8)))))]) (by kernel_rfl) (AllP.cons (mkOb (All8.cells (ns := [(((v0)[Int.toNat v1]?.getD 0).toNat : Int)]) (.cons rfl .nil)) rfl rfl (good8 _)) (AllP.cons hc1 (AllP.cons (appOb rfl rfl (good8 _)) AllP.nil))) ?_
            refine To.thenN ?_
            refine Wp.seq ?_
            refine Wp.region hΓ [] [] [0, 1, 7] [32] (K' := [(0, .str v0), (1, .val (.int .i64 (IntKind.wrap .i64 (v1 + 1)))), (7, .row 32)]) (L' := [(32, 5, [.rowc false (α := UInt8) 0 e8 (v7 ++ ([((v0)[Int.toNat v1]?.getD 0)] : List (UInt8)))])]) (ob := []) (by kernel_rfl) AllP.nil ?_
            refine To.thenN ?_
            refine Wp.exit ?_
            refine To.thenX ?_
            refine To.blockX ?_
            refine To.keep (kk := [0, 1, 7]) (kl := [32]) (K' := [(0, .str v0), (1, .val (.int .i64 (IntKind.wrap .i64 (v1 + 1)))), (7, .row 32)]) (L' := [(32, 5, [.rowc false (α := UInt8) 0 e8 (v7 ++ ([((v0)[Int.toNat v1]?.getD 0)] : List (UInt8)))])]) (by kernel_rfl) (by kernel_rfl) ?_
            refine To.pre (St.rename 32 1007 (K' := [(0, .str v0), (1, .val (.int .i64 (IntKind.wrap .i64 (v1 + 1)))), (7, .row 1007)]) (L' := [(1007, 5, [.rowc false (α := UInt8) 0 e8 (v7 ++ ([((v0)[Int.toNat v1]?.getD 0)] : List (UInt8)))])]) (by kernel_rfl) (by kernel_rfl) (by kernel_rfl)) ?_
            refine To.keep (kk := [0, 1, 7]) (kl := [1007]) (K' := [(0, .str v0), (1, .val (.int .i64 (IntKind.wrap .i64 (v1 + 1)))), (7, .row 1007)]) (L' := [(1007, 5, [.rowc false (α := UInt8) 0 e8 (v7 ++ ([((v0)[Int.toNat v1]?.getD 0)] : List (UInt8)))])]) (by kernel_rfl) (by kernel_rfl) ?_
            refine To.again ?_
            exact ih (IntKind.wrap .i64 (v1 + 1)) (v7 ++ ([((v0)[Int.toNat v1]?.getD 0)] : List (UInt8))) _ h hQ
          · replace h := if_f hb h
            refine Wp.skip ?_
            refine To.thenN ?_
            refine Wp.seq ?_
            refine Wp.seq ?_
            refine Wp.region hΓ [] [] [0, 1, 7, 39] [1007] (K' := [(0, .str v0), (1, .val (.int .i64 v1)), (7, .row 1007), (39, .val (.bool (decide ((IntKind.wrap .i64 (v1 + 1)) ≥ (List.length v0 : Int)))))]) (L' := [(1007, 5, [.rowc false (α := UInt8) 0 e8 v7])]) (ob := []) (by kernel_rfl) AllP.nil ?_
            refine To.thenN ?_
            refine Wp.cond (b := (decide ((IntKind.wrap .i64 (v1 + 1)) ≥ (List.length v0 : Int)))) (by kernel_rfl) (fun hb => ?_) (fun hb => ?_)
            · replace h := if_t hb h
              refine Wp.seq ?_
              refine Wp.region hΓ [] [] [4, 5, 6] [] (K' := [(4, .str []), (5, .val (.int .i64 0)), (6, .val (.bool false))]) (L' := []) (ob := []) (by kernel_rfl) AllP.nil ?_
              refine To.thenN ?_
              refine Wp.ret ?_
              refine To.thenR ?_
              refine To.blockR ?_
              refine To.thenR ?_
              refine To.keep (kk := [4, 5, 6]) (kl := []) (K' := [(4, .str []), (5, .val (.int .i64 0)), (6, .val (.bool false))]) (L' := []) (by kernel_rfl) (by kernel_rfl) ?_
              cases h
              exact hQ
            · replace h := if_f hb h
              refine Wp.skip ?_
              refine To.thenN ?_
              refine Wp.seq ?_
              obtain ⟨hc18, h⟩ := chk_of h
              refine Wp.region hΓ [] [] [0, 1, 7, 9] [1007] (K' := [(0, .str v0), (1, .val (.int .i64 v1)), (7, .row 1007), (9, .val (.int .u8 (((v0)[Int.toNat (IntKind.wrap .i64 (v1 + 1))]?.getD 0).toNat : Int)))]) (L' := [(1007, 5, [.rowc false (α := UInt8) 0 e8 v7])]) (ob := [(decide (0 ≤ (IntKind.wrap .i64 (v1 + 1)) ∧ (IntKind.wrap .i64 (v1 + 1)) < (List.length v0 : Int))) = true]) (by kernel_rfl) (AllP.cons hc18 AllP.nil) ?_
              refine To.thenN ?_
              refine Wp.seq ?_
              obtain ⟨x2, hx2, h⟩ := lett_of h
              refine Wp.region hΓ [] [] [0, 1, 7, 9, 49] [1007] (K' := [(0, .str v0), (1, .val (.int .i64 v1)), (7, .row 1007), (9, .val (.int .u8 (((v0)[Int.toNat (IntKind.wrap .i64 (v1 + 1))]?.getD 0).toNat : Int))), (49, .val (.bool (bif ((((v0)[Int.toNat (IntKind.wrap .i64 (v1 + 1))]?.getD 0).toNat : Int) == 92) then true else ((((v0)[Int.toNat (IntKind.wrap .i64 (v1 + 1))]?.getD 0).toNat : Int) == 34))))]) (L' := [(1007, 5, [.rowc false (α := UInt8) 0 e8 v7])]) (ob := []) (by kernel_rfl) AllP.nil ?_
              refine To.eq (K' := [(0, .str v0), (1, .val (.int .i64 v1)), (7, .row 1007), (9, .val (.int .u8 (((v0)[Int.toNat (IntKind.wrap .i64 (v1 + 1))]?.getD 0).toNat : Int))), (49, .val (.bool x2))]) (L' := [(1007, 5, [.rowc false (α := UInt8) 0 e8 v7])]) (by cases hx2; rfl) (by cases hx2; rfl) ?_
              refine To.thenN ?_
              refine Wp.cond (b := x2) (by kernel_rfl) (fun hb => ?_) (fun hb => ?_)
              · replace h := if_t hb h
                refine Wp.seq ?_
                obtain ⟨hc3, h⟩ := chk_of h
                refine Wp.region hΓ [] [(2, .recs (α := UInt8) 0 e8 ([((v0)[Int.toNat (IntKind.wrap .i64 (v1 + 1))]?.getD 0)])), (3, .recs (α := UInt8) 0 e8 (v7 ++ ([((v0)[Int.toNat (IntKind.wrap .i64 (v1 + 1))]?.getD 0)] : List (UInt8))))] [0, 1, 7] [53] (K' := [(0, .str v0), (1, .val (.int .i64 v1)), (7, .row 53)]) (L' := [(53, 5, [.rowc false (α := UInt8) 0 e8 (v7 ++ ([((v0)[Int.toNat (IntKind.wrap .i64 (v1 + 1))]?.getD 0)] : List (UInt8)))])]) (ob := [(MkOb 1 [.val (.int .u8 (((v0)[Int.toNat (IntKind.wrap .i64 (v1 + 1))]?.getD 0).toNat : Int))] 1 (.recs (α := UInt8) 0 e8 ([((v0)[Int.toNat (IntKind.wrap .i64 (v1 + 1))]?.getD 0)])) ∧ GoodR (.recs (α := UInt8) 0 e8 ([((v0)[Int.toNat (IntKind.wrap .i64 (v1 + 1))]?.getD 0)]))), (decide ((List.length v7 + List.length ([((v0)[Int.toNat (IntKind.wrap .i64 (v1 + 1))]?.getD 0)] : List (UInt8))) * (1 + 1) ≤ limit)) = true, (AppOb 0 e8 v7 (List.flatMap e8 ([((v0)[Int.toNat (IntKind.wrap .i64 (v1 + 1))]?.getD 0)] : List (UInt8))) (List.length ([((v0)[Int.toNat (IntKind.wrap .i64 (v1 + 1))]?.getD 0)] : List (UInt8))) (.recs (α := UInt8) 0 e8 (v7 ++ ([((v0)[Int.toNat (IntKind.wrap .i64 (v1 + 1))]?.getD 0)] : List (UInt8)))) ∧ GoodR (.recs (α := UInt8) 0 e8 (v7 ++ ([((v0)[Int.toNat (IntKind.wrap .i64 (v1 + 1))]?.getD 0)] : List (UInt8)))))]) (by kernel_rfl) (AllP.cons (mkOb (All8.cells (ns := [(((v0)[Int.toNat (IntKind.wrap .i64 (v1 + 1))]?.getD 0).toNat : Int)]) (.cons rfl .nil)) rfl rfl (good8 _)) (AllP.cons hc3 (AllP.cons (appOb rfl rfl (good8 _)) AllP.nil))) ?_
                refine To.thenN ?_
                refine Wp.region hΓ [] [] [0, 1, 7] [53] (K' := [(0, .str v0), (1, .val (.int .i64 (IntKind.wrap .i64 (v1 + 2)))), (7, .row 53)]) (L' := [(53, 5, [.rowc false (α := UInt8) 0 e8 (v7 ++ ([((v0)[Int.toNat (IntKind.wrap .i64 (v1 + 1))]?.getD 0)] : List (UInt8)))])]) (ob := []) (by kernel_rfl) AllP.nil ?_
                refine To.blockN ?_
                refine To.keep (kk := [0, 1, 7]) (kl := [53]) (K' := [(0, .str v0), (1, .val (.int .i64 (IntKind.wrap .i64 (v1 + 2)))), (7, .row 53)]) (L' := [(53, 5, [.rowc false (α := UInt8) 0 e8 (v7 ++ ([((v0)[Int.toNat (IntKind.wrap .i64 (v1 + 1))]?.getD 0)] : List (UInt8)))])]) (by kernel_rfl) (by kernel_rfl) ?_
                refine To.pre (St.rename 53 1007 (K' := [(0, .str v0), (1, .val (.int .i64 (IntKind.wrap .i64 (v1 + 2)))), (7, .row 1007)]) (L' := [(1007, 5, [.rowc false (α := UInt8) 0 e8 (v7 ++ ([((v0)[Int.toNat (IntKind.wrap .i64 (v1 + 1))]?.getD 0)] : List (UInt8)))])]) (by kernel_rfl) (by kernel_rfl) (by kernel_rfl)) ?_
                refine To.keep (kk := [0, 1, 7]) (kl := [1007]) (K' := [(0, .str v0), (1, .val (.int .i64 (IntKind.wrap .i64 (v1 + 2)))), (7, .row 1007)]) (L' := [(1007, 5, [.rowc false (α := UInt8) 0 e8 (v7 ++ ([((v0)[Int.toNat (IntKind.wrap .i64 (v1 + 1))]?.getD 0)] : List (UInt8)))])]) (by kernel_rfl) (by kernel_rfl) ?_
                refine To.again ?_
                exact ih (IntKind.wrap .i64 (v1 + 2)) (v7 ++ ([((v0)[Int.toNat (IntKind.wrap .i64 (v1 + 1))]?.getD 0)] : List (UInt8))) _ h hQ
              · replace h := if_f hb h
                refine Wp.seq ?_
                refine Wp.region hΓ [] [] [0, 1, 7, 9, 57] [1007] (K' := [(0, .str v0), (1, .val (.int .i64 v1)), (7, .row 1007), (9, .val (.int .u8 (((v0)[Int.toNat (IntKind.wrap .i64 (v1 + 1))]?.getD 0).toNat : Int))), (57, .val (.bool ((((v0)[Int.toNat (IntKind.wrap .i64 (v1 + 1))]?.getD 0).toNat : Int) == 110)))]) (L' := [(1007, 5, [.rowc false (α := UInt8) 0 e8 v7])]) (ob := []) (by kernel_rfl) AllP.nil ?_
                refine To.thenN ?_
                refine Wp.cond (b := ((((v0)[Int.toNat (IntKind.wrap .i64 (v1 + 1))]?.getD 0).toNat : Int) == 110)) (by kernel_rfl) (fun hb => ?_) (fun hb => ?_)
                · replace h := if_t hb h
                  refine Wp.seq ?_
                  obtain ⟨hc4, h⟩ := chk_of h
                  refine Wp.region hΓ [] [(1, .recs (α := UInt8) 0 e8 [10]), (2, .recs (α := UInt8) 0 e8 (v7 ++ ([10] : List (UInt8))))] [0, 1, 7] [60] (K' := [(0, .str v0), (1, .val (.int .i64 v1)), (7, .row 60)]) (L' := [(60, 5, [.rowc false (α := UInt8) 0 e8 (v7 ++ ([10] : List (UInt8)))])]) (ob := [(MkOb 1 [.val (.int .u8 10)] 1 (.recs (α := UInt8) 0 e8 [10]) ∧ GoodR (.recs (α := UInt8) 0 e8 [10])), (decide ((List.length v7 + List.length ([10] : List (UInt8))) * (1 + 1) ≤ limit)) = true, (AppOb 0 e8 v7 (List.flatMap e8 ([10] : List (UInt8))) (List.length ([10] : List (UInt8))) (.recs (α := UInt8) 0 e8 (v7 ++ ([10] : List (UInt8)))) ∧ GoodR (.recs (α := UInt8) 0 e8 (v7 ++ ([10] : List (UInt8)))))]) (by kernel_rfl) (AllP.cons (mkOb (All8.cells (ns := [10]) (.cons rfl .nil)) rfl rfl (good8 _)) (AllP.cons hc4 (AllP.cons (appOb rfl rfl (good8 _)) AllP.nil))) ?_
                  refine To.thenN ?_
                  refine Wp.region hΓ [] [] [0, 1, 7] [60] (K' := [(0, .str v0), (1, .val (.int .i64 (IntKind.wrap .i64 (v1 + 2)))), (7, .row 60)]) (L' := [(60, 5, [.rowc false (α := UInt8) 0 e8 (v7 ++ ([10] : List (UInt8)))])]) (ob := []) (by kernel_rfl) AllP.nil ?_
                  refine To.blockN ?_
                  refine To.keep (kk := [0, 1, 7]) (kl := [60]) (K' := [(0, .str v0), (1, .val (.int .i64 (IntKind.wrap .i64 (v1 + 2)))), (7, .row 60)]) (L' := [(60, 5, [.rowc false (α := UInt8) 0 e8 (v7 ++ ([10] : List (UInt8)))])]) (by kernel_rfl) (by kernel_rfl) ?_
                  refine To.pre (St.rename 60 1007 (K' := [(0, .str v0), (1, .val (.int .i64 (IntKind.wrap .i64 (v1 + 2)))), (7, .row 1007)]) (L' := [(1007, 5, [.rowc false (α := UInt8) 0 e8 (v7 ++ ([10] : List (UInt8)))])]) (by kernel_rfl) (by kernel_rfl) (by kernel_rfl)) ?_
                  refine To.keep (kk := [0, 1, 7]) (kl := [1007]) (K' := [(0, .str v0), (1, .val (.int .i64 (IntKind.wrap .i64 (v1 + 2)))), (7, .row 1007)]) (L' := [(1007, 5, [.rowc false (α := UInt8) 0 e8 (v7 ++ ([10] : List (UInt8)))])]) (by kernel_rfl) (by kernel_rfl) ?_
                  refine To.again ?_
                  exact ih (IntKind.wrap .i64 (v1 + 2)) (v7 ++ ([10] : List (UInt8))) _ h hQ
                · replace h := if_f hb h
                  refine Wp.seq ?_
                  refine Wp.region hΓ [] [] [0, 1, 7, 9, 64] [1007] (K' := [(0, .str v0), (1, .val (.int .i64 v1)), (7, .row 1007), (9, .val (.int .u8 (((v0)[Int.toNat (IntKind.wrap .i64 (v1 + 1))]?.getD 0).toNat : Int))), (64, .val (.bool ((((v0)[Int.toNat (IntKind.wrap .i64 (v1 + 1))]?.getD 0).toNat : Int) == 116)))]) (L' := [(1007, 5, [.rowc false (α := UInt8) 0 e8 v7])]) (ob := []) (by kernel_rfl) AllP.nil ?_
                  refine To.thenN ?_
                  refine Wp.cond (b := ((((v0)[Int.toNat (IntKind.wrap .i64 (v1 + 1))]?.getD 0).toNat : Int) == 116)) (by kernel_rfl) (fun hb => ?_) (fun hb => ?_)
                  · replace h := if_t hb h
                    refine Wp.seq ?_
                    obtain ⟨hc5, h⟩ := chk_of h
                    refine Wp.region hΓ [] [(1, .recs (α := UInt8) 0 e8 [9]), (2, .recs (α := UInt8) 0 e8 (v7 ++ ([9] : List (UInt8))))] [0, 1, 7] [67] (K' := [(0, .str v0), (1, .val (.int .i64 v1)), (7, .row 67)]) (L' := [(67, 5, [.rowc false (α := UInt8) 0 e8 (v7 ++ ([9] : List (UInt8)))])]) (ob := [(MkOb 1 [.val (.int .u8 9)] 1 (.recs (α := UInt8) 0 e8 [9]) ∧ GoodR (.recs (α := UInt8) 0 e8 [9])), (decide ((List.length v7 + List.length ([9] : List (UInt8))) * (1 + 1) ≤ limit)) = true, (AppOb 0 e8 v7 (List.flatMap e8 ([9] : List (UInt8))) (List.length ([9] : List (UInt8))) (.recs (α := UInt8) 0 e8 (v7 ++ ([9] : List (UInt8)))) ∧ GoodR (.recs (α := UInt8) 0 e8 (v7 ++ ([9] : List (UInt8)))))]) (by kernel_rfl) (AllP.cons (mkOb (All8.cells (ns := [9]) (.cons rfl .nil)) rfl rfl (good8 _)) (AllP.cons hc5 (AllP.cons (appOb rfl rfl (good8 _)) AllP.nil))) ?_
                    refine To.thenN ?_
                    refine Wp.region hΓ [] [] [0, 1, 7] [67] (K' := [(0, .str v0), (1, .val (.int .i64 (IntKind.wrap .i64 (v1 + 2)))), (7, .row 67)]) (L' := [(67, 5, [.rowc false (α := UInt8) 0 e8 (v7 ++ ([9] : List (UInt8)))])]) (ob := []) (by kernel_rfl) AllP.nil ?_
                    refine To.blockN ?_
                    refine To.keep (kk := [0, 1, 7]) (kl := [67]) (K' := [(0, .str v0), (1, .val (.int .i64 (IntKind.wrap .i64 (v1 + 2)))), (7, .row 67)]) (L' := [(67, 5, [.rowc false (α := UInt8) 0 e8 (v7 ++ ([9] : List (UInt8)))])]) (by kernel_rfl) (by kernel_rfl) ?_
                    refine To.pre (St.rename 67 1007 (K' := [(0, .str v0), (1, .val (.int .i64 (IntKind.wrap .i64 (v1 + 2)))), (7, .row 1007)]) (L' := [(1007, 5, [.rowc false (α := UInt8) 0 e8 (v7 ++ ([9] : List (UInt8)))])]) (by kernel_rfl) (by kernel_rfl) (by kernel_rfl)) ?_
                    refine To.keep (kk := [0, 1, 7]) (kl := [1007]) (K' := [(0, .str v0), (1, .val (.int .i64 (IntKind.wrap .i64 (v1 + 2)))), (7, .row 1007)]) (L' := [(1007, 5, [.rowc false (α := UInt8) 0 e8 (v7 ++ ([9] : List (UInt8)))])]) (by kernel_rfl) (by kernel_rfl) ?_
                    refine To.again ?_
                    exact ih (IntKind.wrap .i64 (v1 + 2)) (v7 ++ ([9] : List (UInt8))) _ h hQ
                  · replace h := if_f hb h
                    refine Wp.seq ?_
                    obtain ⟨hc16, h⟩ := chk_of h
                    obtain ⟨r6, hr6, h⟩ := lett_of h
                    obtain ⟨hc17, h⟩ := chk_of h
                    obtain ⟨r7, hr7, h⟩ := lett_of h
                    obtain ⟨x8, hx8, h⟩ := lett_of h
                    refine Wp.region hΓ [] [(14, .val (.int .i64 r6)), (22, .val (.int .i64 r7))] [0, 1, 7, 94] [1007] (K' := [(0, .str v0), (1, .val (.int .i64 v1)), (7, .row 1007), (94, .val (.bool (bif (bif (bif ((((v0)[Int.toNat (IntKind.wrap .i64 (v1 + 1))]?.getD 0).toNat : Int) == 120) then (decide ((IntKind.wrap .i64 (v1 + 3)) < (List.length v0 : Int))) else false) then (decide (r6 < 16)) else false) then (decide (r7 < 16)) else false)))]) (L' := [(1007, 5, [.rowc false (α := UInt8) 0 e8 v7])]) (ob := [(!((bif ((((v0)[Int.toNat (IntKind.wrap .i64 (v1 + 1))]?.getD 0).toNat : Int) == 120) then (decide ((IntKind.wrap .i64 (v1 + 3)) < (List.length v0 : Int))) else false) == true) || decide (0 ≤ (IntKind.wrap .i64 (v1 + 2)) ∧ (IntKind.wrap .i64 (v1 + 2)) < (List.length v0 : Int))) = true, (((bif ((((v0)[Int.toNat (IntKind.wrap .i64 (v1 + 1))]?.getD 0).toNat : Int) == 120) then (decide ((IntKind.wrap .i64 (v1 + 3)) < (List.length v0 : Int))) else false) == true) = true → CX Try.prog 28 [.val (.int .u8 (((v0)[Int.toNat (IntKind.wrap .i64 (v1 + 2))]?.getD 0).toNat : Int))] (.val (.int .i64 r6))), (!((bif (bif ((((v0)[Int.toNat (IntKind.wrap .i64 (v1 + 1))]?.getD 0).toNat : Int) == 120) then (decide ((IntKind.wrap .i64 (v1 + 3)) < (List.length v0 : Int))) else false) then (decide (r6 < 16)) else false) == true) || decide (0 ≤ (IntKind.wrap .i64 (v1 + 3)) ∧ (IntKind.wrap .i64 (v1 + 3)) < (List.length v0 : Int))) = true, (((bif (bif ((((v0)[Int.toNat (IntKind.wrap .i64 (v1 + 1))]?.getD 0).toNat : Int) == 120) then (decide ((IntKind.wrap .i64 (v1 + 3)) < (List.length v0 : Int))) else false) then (decide (r6 < 16)) else false) == true) = true → CX Try.prog 28 [.val (.int .u8 (((v0)[Int.toNat (IntKind.wrap .i64 (v1 + 3))]?.getD 0).toNat : Int))] (.val (.int .i64 r7)))]) (by kernel_rfl) (AllP.cons hc16 (AllP.cons (fun _ => cx (ok_ref06_value (((v0)[Int.toNat (IntKind.wrap .i64 (v1 + 2))]?.getD 0).toNat : Int) _ hr6)) (AllP.cons hc17 (AllP.cons (fun _ => cx (ok_ref06_value (((v0)[Int.toNat (IntKind.wrap .i64 (v1 + 3))]?.getD 0).toNat : Int) _ hr7)) AllP.nil)))) ?_
                    refine To.eq (K' := [(0, .str v0), (1, .val (.int .i64 v1)), (7, .row 1007), (94, .val (.bool x8))]) (L' := [(1007, 5, [.rowc false (α := UInt8) 0 e8 v7])]) (by cases hx8; rfl) (by cases hx8; rfl) ?_
                    refine To.thenN ?_
                    refine Wp.cond (b := x8) (by kernel_rfl) (fun hb => ?_) (fun hb => ?_)
                    · replace h := if_t hb h
                      refine Wp.seq ?_
                      obtain ⟨hc13, h⟩ := chk_of h
                      obtain ⟨r9, hr9, h⟩ := lett_of h
                      obtain ⟨hc14, h⟩ := chk_of h
                      obtain ⟨r10, hr10, h⟩ := lett_of h
                      obtain ⟨u11, h⟩ := chk_of h
                      obtain ⟨hc15, h⟩ := chk_of h
                      obtain ⟨x12, hx12, h⟩ := lett_of h
                      refine Wp.regionD hm hΓ [(5, .val (.int .i64 r9)), (11, .val (.int .i64 r10)), (14, .recs (α := UInt8) 0 e8 [(UInt8.ofNat (Int.toNat (IntKind.wrap .u8 ((IntKind.wrap .i64 ((IntKind.wrap .i64 (r9 * 16)) + r10))))))]), (15, .row 110), (1015, .recs (α := UInt8) 0 e8 (v7 ++ ([(UInt8.ofNat (Int.toNat (IntKind.wrap .u8 ((IntKind.wrap .i64 ((IntKind.wrap .i64 (r9 * 16)) + r10))))))] : List (UInt8))))] [0, 1, 7] [110] (K' := [(0, .str v0), (1, .val (.int .i64 v1)), (7, .row 110)]) (L' := [(110, 5, [.rowc false (α := UInt8) 0 e8 (v7 ++ ([(UInt8.ofNat (Int.toNat (IntKind.wrap .u8 ((IntKind.wrap .i64 ((IntKind.wrap .i64 (r9 * 16)) + r10))))))] : List (UInt8)))])]) (ob := [(decide (0 ≤ (IntKind.wrap .i64 (v1 + 2)) ∧ (IntKind.wrap .i64 (v1 + 2)) < (List.length v0 : Int))) = true, (true = true → CX Try.prog 28 [.val (.int .u8 (((v0)[Int.toNat (IntKind.wrap .i64 (v1 + 2))]?.getD 0).toNat : Int))] (.val (.int .i64 r9))), (decide (0 ≤ (IntKind.wrap .i64 (v1 + 3)) ∧ (IntKind.wrap .i64 (v1 + 3)) < (List.length v0 : Int))) = true, (true = true → CX Try.prog 28 [.val (.int .u8 (((v0)[Int.toNat (IntKind.wrap .i64 (v1 + 3))]?.getD 0).toNat : Int))] (.val (.int .i64 r10))), (true = true → MkOb 1 [.val (.int .u8 (IntKind.wrap .u8 ((IntKind.wrap .i64 ((IntKind.wrap .i64 (r9 * 16)) + r10)))))] 1 (.recs (α := UInt8) 0 e8 [(UInt8.ofNat (Int.toNat (IntKind.wrap .u8 ((IntKind.wrap .i64 ((IntKind.wrap .i64 (r9 * 16)) + r10))))))]) ∧ GoodR (.recs (α := UInt8) 0 e8 [(UInt8.ofNat (Int.toNat (IntKind.wrap .u8 ((IntKind.wrap .i64 ((IntKind.wrap .i64 (r9 * 16)) + r10))))))])), (decide ((List.length v7 + List.length ([(UInt8.ofNat (Int.toNat (IntKind.wrap .u8 ((IntKind.wrap .i64 ((IntKind.wrap .i64 (r9 * 16)) + r10))))))] : List (UInt8))) * (1 + 1) ≤ limit)) = true, (AppOb 0 e8 v7 (List.flatMap e8 ([(UInt8.ofNat (Int.toNat (IntKind.wrap .u8 ((IntKind.wrap .i64 ((IntKind.wrap .i64 (r9 * 16)) + r10))))))] : List (UInt8))) (List.length ([(UInt8.ofNat (Int.toNat (IntKind.wrap .u8 ((IntKind.wrap .i64 ((IntKind.wrap .i64 (r9 * 16)) + r10))))))] : List (UInt8))) (.recs (α := UInt8) 0 e8 (v7 ++ ([(UInt8.ofNat (Int.toNat (IntKind.wrap .u8 ((IntKind.wrap .i64 ((IntKind.wrap .i64 (r9 * 16)) + r10))))))] : List (UInt8)))) ∧ GoodR (.recs (α := UInt8) 0 e8 (v7 ++ ([(UInt8.ofNat (Int.toNat (IntKind.wrap .u8 ((IntKind.wrap .i64 ((IntKind.wrap .i64 (r9 * 16)) + r10))))))] : List (UInt8)))))]) (by kernel_rfl) (AllP.cons hc13 (AllP.cons (fun _ => cx (ok_ref06_value (((v0)[Int.toNat (IntKind.wrap .i64 (v1 + 2))]?.getD 0).toNat : Int) _ hr9)) (AllP.cons hc14 (AllP.cons (fun _ => cx (ok_ref06_value (((v0)[Int.toNat (IntKind.wrap .i64 (v1 + 3))]?.getD 0).toNat : Int) _ hr10)) (AllP.cons (fun _ => mkOb (All8.cells (ns := [(IntKind.wrap .u8 ((IntKind.wrap .i64 ((IntKind.wrap .i64 (r9 * 16)) + r10))))]) (.cons (u8_of u11) .nil)) rfl rfl (good8 _)) (AllP.cons hc15 (AllP.cons (appOb rfl rfl (good8 _)) AllP.nil))))))) ?_
                      refine To.eq (K' := [(0, .str v0), (1, .val (.int .i64 v1)), (7, .row 110)]) (L' := [(110, 5, [.rowc false (α := UInt8) 0 e8 x12])]) (by cases hx12; rfl) (by cases hx12; rfl) ?_
                      refine To.thenN ?_
                      refine Wp.region hΓ [] [] [0, 1, 7] [110] (K' := [(0, .str v0), (1, .val (.int .i64 (IntKind.wrap .i64 (v1 + 4)))), (7, .row 110)]) (L' := [(110, 5, [.rowc false (α := UInt8) 0 e8 x12])]) (ob := []) (by kernel_rfl) AllP.nil ?_
                      refine To.blockN ?_
                      refine To.keep (kk := [0, 1, 7]) (kl := [110]) (K' := [(0, .str v0), (1, .val (.int .i64 (IntKind.wrap .i64 (v1 + 4)))), (7, .row 110)]) (L' := [(110, 5, [.rowc false (α := UInt8) 0 e8 x12])]) (by kernel_rfl) (by kernel_rfl) ?_
                      refine To.pre (St.rename 110 1007 (K' := [(0, .str v0), (1, .val (.int .i64 (IntKind.wrap .i64 (v1 + 4)))), (7, .row 1007)]) (L' := [(1007, 5, [.rowc false (α := UInt8) 0 e8 x12])]) (by kernel_rfl) (by kernel_rfl) (by kernel_rfl)) ?_
                      refine To.keep (kk := [0, 1, 7]) (kl := [1007]) (K' := [(0, .str v0), (1, .val (.int .i64 (IntKind.wrap .i64 (v1 + 4)))), (7, .row 1007)]) (L' := [(1007, 5, [.rowc false (α := UInt8) 0 e8 x12])]) (by kernel_rfl) (by kernel_rfl) ?_
                      refine To.again ?_
                      exact ih (IntKind.wrap .i64 (v1 + 4)) x12 _ h hQ
                    · replace h := if_f hb h
                      refine Wp.seq ?_
                      refine Wp.region hΓ [] [] [4, 5, 6] [] (K' := [(4, .str []), (5, .val (.int .i64 0)), (6, .val (.bool false))]) (L' := []) (ob := []) (by kernel_rfl) AllP.nil ?_
                      refine To.thenN ?_
                      refine Wp.ret ?_
                      refine To.blockR ?_
                      refine To.thenR ?_
                      refine To.keep (kk := [4, 5, 6]) (kl := []) (K' := [(4, .str []), (5, .val (.int .i64 0)), (6, .val (.bool false))]) (L' := []) (by kernel_rfl) (by kernel_rfl) ?_
                      cases h
                      exact hQ
    · replace h := if_f hb h
      refine Wp.exit ?_
      refine To.thenX ?_
      refine To.thenX ?_
      refine To.keep (kk := []) (kl := []) (K' := []) (L' := []) (by kernel_rfl) (by kernel_rfl) ?_
      cases h
      exact hQ
def ref06_double (n : Nat) (a0 : List UInt8) (a1 : Int) : Option ((List UInt8) × Int × Bool) :=
  (ref06_double_l1 n a0 n a1 ([] : List (UInt8))).bind fun o1 =>
  (Sum.elim (fun o1 => some ([], 0, false)) (fun o1 => some (o1.1, o1.2.1, o1.2.2))) o1
theorem ok_ref06_double (n : Nat) (a0 : List UInt8) (a1 : Int) (r : (List UInt8) × Int × Bool) (h : ref06_double n a0 a1 = some r) : CallsX Try.prog 20 [.str a0, .val (.int .i64 a1)] (.tup [.str r.1, .val (.int .i64 r.2.1), .val (.bool r.2.2)]) := by
  unfold ref06_double at h
  refine callsX_of (fn := Try.f20) (by kernel_rfl) rfl (by kernel_rfl) (Nat.le_of_ble_eq_true (by kernel_rfl)) fun F0 w0 => ?_
  refine Wp.keep (kk := [0, 1]) (kl := []) (K' := [(0, .str a0), (1, .val (.int .i64 a1))]) (L' := []) (by kernel_rfl) (by kernel_rfl) ?_
  refine Wp.seq ?_
  refine Wp.region hΓ [] [] [0, 1] [] (K' := [(0, .str a0), (1, .val (.int .i64 a1))]) (L' := []) (ob := []) (by kernel_rfl) AllP.nil ?_
  refine To.thenN ?_
  refine Wp.seq ?_
  refine Wp.region hΓ [] [(0, .recs (α := UInt8) 0 e8 [])] [0, 1, 7] [10] (K' := [(0, .str a0), (1, .val (.int .i64 a1)), (7, .row 10)]) (L' := [(10, 5, [.rowc false (α := UInt8) 0 e8 []])]) (ob := [(MkOb 1 [] 0 (.recs (α := UInt8) 0 e8 []) ∧ GoodR (.recs (α := UInt8) 0 e8 []))]) (by kernel_rfl) (AllP.cons (mkOb (All8.cells (ns := []) .nil) rfl rfl (good8 _)) AllP.nil) ?_
  refine To.thenN ?_
  refine Wp.seq ?_
  refine Wp.block ?_
  obtain ⟨o1, ho1, h⟩ := bind_of h
  refine Wp.keep (kk := [0, 1, 7]) (kl := [10]) (K' := [(0, .str a0), (1, .val (.int .i64 a1)), (7, .row 10)]) (L' := [(10, 5, [.rowc false (α := UInt8) 0 e8 []])]) (by kernel_rfl) (by kernel_rfl) ?_
  refine Wp.pre (St.rename 10 1007 (K' := [(0, .str a0), (1, .val (.int .i64 a1)), (7, .row 1007)]) (L' := [(1007, 5, [.rowc false (α := UInt8) 0 e8 []])]) (by kernel_rfl) (by kernel_rfl) (by kernel_rfl)) ?_
  refine Wp.keep (kk := [0, 1, 7]) (kl := [1007]) (K' := [(0, .str a0), (1, .val (.int .i64 a1)), (7, .row 1007)]) (L' := [(1007, 5, [.rowc false (α := UInt8) 0 e8 []])]) (by kernel_rfl) (by kernel_rfl) ?_
  refine Wp.loopL ?_
  refine ok_ref06_double_l1 n a0 n a1 ([] : List (UInt8)) o1 ho1 ?_
  rcases o1 with o1 | o1
  · replace h := sum_l h
    refine To.blockX ?_
    refine To.thenN ?_
    refine Wp.seq ?_
    refine Wp.region hΓ [] [] [4, 5, 6] [] (K' := [(4, .str []), (5, .val (.int .i64 0)), (6, .val (.bool false))]) (L' := []) (ob := []) (by kernel_rfl) AllP.nil ?_
    refine To.thenN ?_
    refine Wp.ret ?_
    refine To.keep (kk := [4, 5, 6]) (kl := []) (K' := [(4, .str []), (5, .val (.int .i64 0)), (6, .val (.bool false))]) (L' := []) (by kernel_rfl) (by kernel_rfl) ?_
    cases h
    exact To.done hΓ (by kernel_rfl)
  · replace h := sum_r h
    refine To.blockR ?_
    refine To.thenR ?_
    refine To.keep (kk := [4, 5, 6]) (kl := []) (K' := [(4, .str o1.1), (5, .val (.int .i64 o1.2.1)), (6, .val (.bool o1.2.2))]) (L' := []) (by kernel_rfl) (by kernel_rfl) ?_
    cases h
    exact To.done hΓ (by kernel_rfl)
def ref06_single_j2 (n : Nat) (v0 : List UInt8) (v1 : Int) (v7 : List (UInt8)) (v21 : Bool) : Option (Sum (Int) ((List UInt8) × Int × Bool)) :=
  if v21 = true then (if ((!((decide ((IntKind.wrap .i64 (v1 + 1)) ≥ (List.length v0 : Int))) == false) || decide (0 ≤ (IntKind.wrap .i64 (v1 + 1)) ∧ (IntKind.wrap .i64 (v1 + 1)) < (List.length v0 : Int)))) = true then (lett ((bif (decide ((IntKind.wrap .i64 (v1 + 1)) ≥ (List.length v0 : Int))) then true else ((((v0)[Int.toNat (IntKind.wrap .i64 (v1 + 1))]?.getD 0).toNat : Int) != 39)) : Bool) fun x1 =>
  if x1 = true then (some (.inr (v7, (IntKind.wrap .i64 (v1 + 1)), true)))
  else (some (.inl (IntKind.wrap .i64 (v1 + 1))))) else none)
  else (some (.inl v1))
theorem ok_ref06_single_j2 (n : Nat) (v0 : List UInt8) (v1 : Int) (v7 : List (UInt8)) (v21 : Bool) (o : Sum (Int) ((List UInt8) × Int × Bool)) (h : ref06_single_j2 n v0 v1 v7 v21 = some o) {F0 : Fz} {w0 : Pt} {Q : Exit → Act → World → Prop} (hQ : (Sum.elim (fun s => To 48 F0 w0 [(0, .str v0), (1, .val (.int .i64 s)), (7, .row 1007)] [(1007, 5, [.rowc false (α := UInt8) 0 e8 v7])] .normal Q) (fun s => To 48 F0 w0 [(4, .str s.1), (5, .val (.int .i64 s.2.1)), (6, .val (.bool s.2.2))] [] .ret Q)) o) : Wp Try.prog 48 F0 w0 [(0, .str v0), (1, .val (.int .i64 v1)), (7, .row 1007), (21, .val (.bool v21))] [(1007, 5, [.rowc false (α := UInt8) 0 e8 v7])] (cB (cA (cB (cI (cB (cI (cI (cA (cB (cB (cF Try.f21))))))))))) Q := by
  unfold ref06_single_j2 at h
  refine Wp.cond (b := v21) (by kernel_rfl) (fun hb => ?_) (fun hb => ?_)
  · replace h := if_t hb h
    refine Wp.seq ?_
    refine Wp.seq ?_
    obtain ⟨hc2, h⟩ := chk_of h
    obtain ⟨x1, hx1, h⟩ := lett_of h
    refine Wp.region hΓ [] [] [0, 1, 7, 33] [1007] (K' := [(0, .str v0), (1, .val (.int .i64 v1)), (7, .row 1007), (33, .val (.bool (bif (decide ((IntKind.wrap .i64 (v1 + 1)) ≥ (List.length v0 : Int))) then true else ((((v0)[Int.toNat (IntKind.wrap .i64 (v1 + 1))]?.getD 0).toNat : Int) != 39))))]) (L' := [(1007, 5, [.rowc false (α := UInt8) 0 e8 v7])]) (ob := [(!((decide ((IntKind.wrap .i64 (v1 + 1)) ≥ (List.length v0 : Int))) == false) || decide (0 ≤ (IntKind.wrap .i64 (v1 + 1)) ∧ (IntKind.wrap .i64 (v1 + 1)) < (List.length v0 : Int))) = true]) (by kernel_rfl) (AllP.cons hc2 AllP.nil) ?_
    refine To.eq (K' := [(0, .str v0), (1, .val (.int .i64 v1)), (7, .row 1007), (33, .val (.bool x1))]) (L' := [(1007, 5, [.rowc false (α := UInt8) 0 e8 v7])]) (by cases hx1; rfl) (by cases hx1; rfl) ?_
    refine To.thenN ?_
    refine Wp.cond (b := x1) (by kernel_rfl) (fun hb => ?_) (fun hb => ?_)
    · replace h := if_t hb h
      refine Wp.seq ?_
      refine Wp.region hΓ [] [(1, .str v7)] [4, 5, 6] [] (K' := [(4, .str v7), (5, .val (.int .i64 (IntKind.wrap .i64 (v1 + 1)))), (6, .val (.bool true))]) (L' := []) (ob := [(true = true → StrOb (List.flatMap e8 v7) (.str v7))]) (by kernel_rfl) (AllP.cons (fun _ => strOb (flat8 _)) AllP.nil) ?_
      refine To.thenN ?_
      refine Wp.ret ?_
      refine To.thenR ?_
      refine To.keep (kk := [4, 5, 6]) (kl := []) (K' := [(4, .str v7), (5, .val (.int .i64 (IntKind.wrap .i64 (v1 + 1)))), (6, .val (.bool true))]) (L' := []) (by kernel_rfl) (by kernel_rfl) ?_
      cases h
      exact hQ
    · replace h := if_f hb h
      refine Wp.skip ?_
      refine To.thenN ?_
      refine Wp.region hΓ [] [] [0, 1, 7] [1007] (K' := [(0, .str v0), (1, .val (.int .i64 (IntKind.wrap .i64 (v1 + 1)))), (7, .row 1007)]) (L' := [(1007, 5, [.rowc false (α := UInt8) 0 e8 v7])]) (ob := []) (by kernel_rfl) AllP.nil ?_
      refine To.keep (kk := [0, 1, 7]) (kl := [1007]) (K' := [(0, .str v0), (1, .val (.int .i64 (IntKind.wrap .i64 (v1 + 1)))), (7, .row 1007)]) (L' := [(1007, 5, [.rowc false (α := UInt8) 0 e8 v7])]) (by kernel_rfl) (by kernel_rfl) ?_
      cases h
      exact hQ
  · replace h := if_f hb h
    refine Wp.skip ?_
    refine To.keep (kk := [0, 1, 7]) (kl := [1007]) (K' := [(0, .str v0), (1, .val (.int .i64 v1)), (7, .row 1007)]) (L' := [(1007, 5, [.rowc false (α := UInt8) 0 e8 v7])]) (by kernel_rfl) (by kernel_rfl) ?_
    cases h
    exact hQ
def ref06_single_l1 (n : Nat) (v0 : List UInt8) : Nat → Int → (List (UInt8)) → Option (Sum (Unit) ((List UInt8) × Int × Bool))
  | 0, _, _ => none
  | k + 1, v1, v7 => if (decide (v1 < (List.length v0 : Int))) = true then (if (decide (0 ≤ v1 ∧ v1 < (List.length v0 : Int))) = true then (if (!(ref06_Good (((v0)[Int.toNat v1]?.getD 0).toNat : Int))) = true then (some (.inr ([], 0, false)))
  else (if (decide (0 ≤ v1 ∧ v1 < (List.length v0 : Int))) = true then ((ref06_single_j2 n v0 v1 v7 ((((v0)[Int.toNat v1]?.getD 0).toNat : Int) == 39)).bind fun o1 =>
  (Sum.elim (fun o1 => if (decide (0 ≤ o1 ∧ o1 < (List.length v0 : Int))) = true then (if (decide ((List.length v7 + List.length ([((v0)[Int.toNat o1]?.getD 0)] : List (UInt8))) * (1 + 1) ≤ limit)) = true then (ref06_single_l1 n v0 k (IntKind.wrap .i64 (o1 + 1)) (v7 ++ ([((v0)[Int.toNat o1]?.getD 0)] : List (UInt8)))) else none) else none) (fun o1 => some (.inr (o1.1, o1.2.1, o1.2.2)))) o1) else none)) else none)
  else (some (.inl ()))
theorem ok_ref06_single_l1 (n : Nat) (v0 : List UInt8) {F0 : Fz} {w0 : Pt} {Q : Exit → Act → World → Prop} (k : Nat) : ∀ (v1 : Int) (v7 : List (UInt8)) (o : Sum (Unit) ((List UInt8) × Int × Bool)), ref06_single_l1 n v0 k v1 v7 = some o → (Sum.elim (fun s => To 48 F0 w0 [] [] (.exit 0) Q) (fun s => To 48 F0 w0 [(4, .str s.1), (5, .val (.int .i64 s.2.1)), (6, .val (.bool s.2.2))] [] .ret Q)) o → WL Try.prog 48 F0 w0 [(0, .str v0), (1, .val (.int .i64 v1)), (7, .row 1007)] [(1007, 5, [.rowc false (α := UInt8) 0 e8 v7])] (cI (cI (cA (cB (cB (cF Try.f21)))))) Q := by
  induction k with
  | zero => intro v1 v7 o h; cases h
  | succ k ih =>
    intro v1 v7 o h hQ
    rw [ref06_single_l1] at h
    refine WL.round ?_
    refine Wp.seq ?_
    refine Wp.seq ?_
    refine Wp.region hΓ [] [] [0, 1, 7, 12] [1007] (K' := [(0, .str v0), (1, .val (.int .i64 v1)), (7, .row 1007), (12, .val (.bool (decide (v1 < (List.length v0 : Int)))))]) (L' := [(1007, 5, [.rowc false (α := UInt8) 0 e8 v7])]) (ob := []) (by kernel_rfl) AllP.nil ?_
    refine To.thenN ?_
    refine Wp.cond (b := (decide (v1 < (List.length v0 : Int)))) (by kernel_rfl) (fun hb => ?_) (fun hb => ?_)
    · replace h := if_t hb h
      refine Wp.skip ?_
      refine To.thenN ?_
      refine Wp.block ?_
      refine Wp.seq ?_
      refine Wp.seq ?_
      obtain ⟨hc5, h⟩ := chk_of h
      refine Wp.region hΓ [] [(3, .val (.bool (ref06_Good (((v0)[Int.toNat v1]?.getD 0).toNat : Int))))] [0, 1, 7, 17] [1007] (K' := [(0, .str v0), (1, .val (.int .i64 v1)), (7, .row 1007), (17, .val (.bool (!(ref06_Good (((v0)[Int.toNat v1]?.getD 0).toNat : Int)))))]) (L' := [(1007, 5, [.rowc false (α := UInt8) 0 e8 v7])]) (ob := [(decide (0 ≤ v1 ∧ v1 < (List.length v0 : Int))) = true, (true = true → CX Try.prog 22 [.val (.int .u8 (((v0)[Int.toNat v1]?.getD 0).toNat : Int))] (.val (.bool (ref06_Good (((v0)[Int.toNat v1]?.getD 0).toNat : Int)))))]) (by kernel_rfl) (AllP.cons hc5 (AllP.cons (fun _ => cx (ok_ref06_Good (((v0)[Int.toNat v1]?.getD 0).toNat : Int) _ rfl)) AllP.nil)) ?_
      refine To.thenN ?_
      refine Wp.cond (b := (!(ref06_Good (((v0)[Int.toNat v1]?.getD 0).toNat : Int)))) (by kernel_rfl) (fun hb => ?_) (fun hb => ?_)
      · replace h := if_t hb h
        refine Wp.seq ?_
        refine Wp.region hΓ [] [] [4, 5, 6] [] (K' := [(4, .str []), (5, .val (.int .i64 0)), (6, .val (.bool false))]) (L' := []) (ob := []) (by kernel_rfl) AllP.nil ?_
        refine To.thenN ?_
        refine Wp.ret ?_
        refine To.thenR ?_
        refine To.blockR ?_
        refine To.thenR ?_
        refine To.keep (kk := [4, 5, 6]) (kl := []) (K' := [(4, .str []), (5, .val (.int .i64 0)), (6, .val (.bool false))]) (L' := []) (by kernel_rfl) (by kernel_rfl) ?_
        cases h
        exact hQ
      · replace h := if_f hb h
        refine Wp.skip ?_
        refine To.thenN ?_
        refine Wp.seq ?_
        refine Wp.seq ?_
        obtain ⟨hc4, h⟩ := chk_of h
        refine Wp.region hΓ [] [] [0, 1, 7, 21] [1007] (K' := [(0, .str v0), (1, .val (.int .i64 v1)), (7, .row 1007), (21, .val (.bool ((((v0)[Int.toNat v1]?.getD 0).toNat : Int) == 39)))]) (L' := [(1007, 5, [.rowc false (α := UInt8) 0 e8 v7])]) (ob := [(decide (0 ≤ v1 ∧ v1 < (List.length v0 : Int))) = true]) (by kernel_rfl) (AllP.cons hc4 AllP.nil) ?_
        refine To.thenN ?_
        obtain ⟨o1, ho1, h⟩ := bind_of h
        refine Wp.keep (kk := [0, 1, 7, 21]) (kl := [1007]) (K' := [(0, .str v0), (1, .val (.int .i64 v1)), (7, .row 1007), (21, .val (.bool ((((v0)[Int.toNat v1]?.getD 0).toNat : Int) == 39)))]) (L' := [(1007, 5, [.rowc false (α := UInt8) 0 e8 v7])]) (by kernel_rfl) (by kernel_rfl) ?_
        refine ok_ref06_single_j2 n v0 v1 v7 ((((v0)[Int.toNat v1]?.getD 0).toNat : Int) == 39) o1 ho1 ?_
        rcases o1 with o1 | o1
        · replace h := sum_l h
          refine To.thenN ?_
          refine Wp.seq ?_
          obtain ⟨hc2, h⟩ := chk_of h
          obtain ⟨hc3, h⟩ := chk_of h
          refine Wp.region hΓ [] [(4, .recs (α := UInt8) 0 e8 ([((v0)[Int.toNat o1]?.getD 0)])), (5, .recs (α := UInt8) 0 e8 (v7 ++ ([((v0)[Int.toNat o1]?.getD 0)] : List (UInt8))))] [0, 1, 7] [45] (K' := [(0, .str v0), (1, .val (.int .i64 o1)), (7, .row 45)]) (L' := [(45, 5, [.rowc false (α := UInt8) 0 e8 (v7 ++ ([((v0)[Int.toNat o1]?.getD 0)] : List (UInt8)))])]) (ob := [(decide (0 ≤ o1 ∧ o1 < (List.length v0 : Int))) = true, (MkOb 1 [.val (.int .u8 (((v0)[Int.toNat o1]?.getD 0).toNat : Int))] 1 (.recs (α := UInt8) 0 e8 ([((v0)[Int.toNat o1]?.getD 0)])) ∧ GoodR (.recs (α := UInt8) 0 e8 ([((v0)[Int.toNat o1]?.getD 0)]))), (decide ((List.length v7 + List.length ([((v0)[Int.toNat o1]?.getD 0)] : List (UInt8))) * (1 + 1) ≤ limit)) = true, (AppOb 0 e8 v7 (List.flatMap e8 ([((v0)[Int.toNat o1]?.getD 0)] : List (UInt8))) (List.length ([((v0)[Int.toNat o1]?.getD 0)] : List (UInt8))) (.recs (α := UInt8) 0 e8 (v7 ++ ([((v0)[Int.toNat o1]?.getD 0)] : List (UInt8)))) ∧ GoodR (.recs (α := UInt8) 0 e8 (v7 ++ ([((v0)[Int.toNat o1]?.getD 0)] : List (UInt8)))))]) (by kernel_rfl) (AllP.cons hc2 (AllP.cons (mkOb (All8.cells (ns := [(((v0)[Int.toNat o1]?.getD 0).toNat : Int)]) (.cons rfl .nil)) rfl rfl (good8 _)) (AllP.cons hc3 (AllP.cons (appOb rfl rfl (good8 _)) AllP.nil)))) ?_
          refine To.thenN ?_
          refine Wp.region hΓ [] [] [0, 1, 7] [45] (K' := [(0, .str v0), (1, .val (.int .i64 (IntKind.wrap .i64 (o1 + 1)))), (7, .row 45)]) (L' := [(45, 5, [.rowc false (α := UInt8) 0 e8 (v7 ++ ([((v0)[Int.toNat o1]?.getD 0)] : List (UInt8)))])]) (ob := []) (by kernel_rfl) AllP.nil ?_
          refine To.blockN ?_
          refine To.keep (kk := [0, 1, 7]) (kl := [45]) (K' := [(0, .str v0), (1, .val (.int .i64 (IntKind.wrap .i64 (o1 + 1)))), (7, .row 45)]) (L' := [(45, 5, [.rowc false (α := UInt8) 0 e8 (v7 ++ ([((v0)[Int.toNat o1]?.getD 0)] : List (UInt8)))])]) (by kernel_rfl) (by kernel_rfl) ?_
          refine To.pre (St.rename 45 1007 (K' := [(0, .str v0), (1, .val (.int .i64 (IntKind.wrap .i64 (o1 + 1)))), (7, .row 1007)]) (L' := [(1007, 5, [.rowc false (α := UInt8) 0 e8 (v7 ++ ([((v0)[Int.toNat o1]?.getD 0)] : List (UInt8)))])]) (by kernel_rfl) (by kernel_rfl) (by kernel_rfl)) ?_
          refine To.keep (kk := [0, 1, 7]) (kl := [1007]) (K' := [(0, .str v0), (1, .val (.int .i64 (IntKind.wrap .i64 (o1 + 1)))), (7, .row 1007)]) (L' := [(1007, 5, [.rowc false (α := UInt8) 0 e8 (v7 ++ ([((v0)[Int.toNat o1]?.getD 0)] : List (UInt8)))])]) (by kernel_rfl) (by kernel_rfl) ?_
          refine To.again ?_
          exact ih (IntKind.wrap .i64 (o1 + 1)) (v7 ++ ([((v0)[Int.toNat o1]?.getD 0)] : List (UInt8))) _ h hQ
        · replace h := sum_r h
          refine To.thenR ?_
          refine To.blockR ?_
          refine To.thenR ?_
          refine To.keep (kk := [4, 5, 6]) (kl := []) (K' := [(4, .str o1.1), (5, .val (.int .i64 o1.2.1)), (6, .val (.bool o1.2.2))]) (L' := []) (by kernel_rfl) (by kernel_rfl) ?_
          cases h
          exact hQ
    · replace h := if_f hb h
      refine Wp.exit ?_
      refine To.thenX ?_
      refine To.thenX ?_
      refine To.keep (kk := []) (kl := []) (K' := []) (L' := []) (by kernel_rfl) (by kernel_rfl) ?_
      cases h
      exact hQ
def ref06_single (n : Nat) (a0 : List UInt8) (a1 : Int) : Option ((List UInt8) × Int × Bool) :=
  (ref06_single_l1 n a0 n a1 ([] : List (UInt8))).bind fun o1 =>
  (Sum.elim (fun o1 => some ([], 0, false)) (fun o1 => some (o1.1, o1.2.1, o1.2.2))) o1
theorem ok_ref06_single (n : Nat) (a0 : List UInt8) (a1 : Int) (r : (List UInt8) × Int × Bool) (h : ref06_single n a0 a1 = some r) : CallsX Try.prog 21 [.str a0, .val (.int .i64 a1)] (.tup [.str r.1, .val (.int .i64 r.2.1), .val (.bool r.2.2)]) := by
  unfold ref06_single at h
  refine callsX_of (fn := Try.f21) (by kernel_rfl) rfl (by kernel_rfl) (Nat.le_of_ble_eq_true (by kernel_rfl)) fun F0 w0 => ?_
  refine Wp.keep (kk := [0, 1]) (kl := []) (K' := [(0, .str a0), (1, .val (.int .i64 a1))]) (L' := []) (by kernel_rfl) (by kernel_rfl) ?_
  refine Wp.seq ?_
  refine Wp.region hΓ [] [] [0, 1] [] (K' := [(0, .str a0), (1, .val (.int .i64 a1))]) (L' := []) (ob := []) (by kernel_rfl) AllP.nil ?_
  refine To.thenN ?_
  refine Wp.seq ?_
  refine Wp.region hΓ [] [(0, .recs (α := UInt8) 0 e8 [])] [0, 1, 7] [8] (K' := [(0, .str a0), (1, .val (.int .i64 a1)), (7, .row 8)]) (L' := [(8, 5, [.rowc false (α := UInt8) 0 e8 []])]) (ob := [(MkOb 1 [] 0 (.recs (α := UInt8) 0 e8 []) ∧ GoodR (.recs (α := UInt8) 0 e8 []))]) (by kernel_rfl) (AllP.cons (mkOb (All8.cells (ns := []) .nil) rfl rfl (good8 _)) AllP.nil) ?_
  refine To.thenN ?_
  refine Wp.seq ?_
  refine Wp.block ?_
  obtain ⟨o1, ho1, h⟩ := bind_of h
  refine Wp.keep (kk := [0, 1, 7]) (kl := [8]) (K' := [(0, .str a0), (1, .val (.int .i64 a1)), (7, .row 8)]) (L' := [(8, 5, [.rowc false (α := UInt8) 0 e8 []])]) (by kernel_rfl) (by kernel_rfl) ?_
  refine Wp.pre (St.rename 8 1007 (K' := [(0, .str a0), (1, .val (.int .i64 a1)), (7, .row 1007)]) (L' := [(1007, 5, [.rowc false (α := UInt8) 0 e8 []])]) (by kernel_rfl) (by kernel_rfl) (by kernel_rfl)) ?_
  refine Wp.keep (kk := [0, 1, 7]) (kl := [1007]) (K' := [(0, .str a0), (1, .val (.int .i64 a1)), (7, .row 1007)]) (L' := [(1007, 5, [.rowc false (α := UInt8) 0 e8 []])]) (by kernel_rfl) (by kernel_rfl) ?_
  refine Wp.loopL ?_
  refine ok_ref06_single_l1 n a0 n a1 ([] : List (UInt8)) o1 ho1 ?_
  rcases o1 with o1 | o1
  · replace h := sum_l h
    refine To.blockX ?_
    refine To.thenN ?_
    refine Wp.seq ?_
    refine Wp.region hΓ [] [] [4, 5, 6] [] (K' := [(4, .str []), (5, .val (.int .i64 0)), (6, .val (.bool false))]) (L' := []) (ob := []) (by kernel_rfl) AllP.nil ?_
    refine To.thenN ?_
    refine Wp.ret ?_
    refine To.keep (kk := [4, 5, 6]) (kl := []) (K' := [(4, .str []), (5, .val (.int .i64 0)), (6, .val (.bool false))]) (L' := []) (by kernel_rfl) (by kernel_rfl) ?_
    cases h
    exact To.done hΓ (by kernel_rfl)
  · replace h := sum_r h
    refine To.blockR ?_
    refine To.thenR ?_
    refine To.keep (kk := [4, 5, 6]) (kl := []) (K' := [(4, .str o1.1), (5, .val (.int .i64 o1.2.1)), (6, .val (.bool o1.2.2))]) (L' := []) (by kernel_rfl) (by kernel_rfl) ?_
    cases h
    exact To.done hΓ (by kernel_rfl)
def ref06_Scan_j1 (n : Nat) (v0 : List UInt8) (v1 : Int) (v33 : Bool) : Option ((List UInt8) × Int × Bool) :=
  if v33 = true then ((ref06_double n v0 (IntKind.wrap .i64 (v1 + 1))).bind fun r2 =>
  some (r2.1, r2.2.1, r2.2.2))
  else ((ref06_single n v0 (IntKind.wrap .i64 (v1 + 1))).bind fun r3 =>
  some (r3.1, r3.2.1, r3.2.2))
theorem ok_ref06_Scan_j1 (n : Nat) (v0 : List UInt8) (v1 : Int) (v33 : Bool) (o : (List UInt8) × Int × Bool) (h : ref06_Scan_j1 n v0 v1 v33 = some o) {F0 : Fz} {w0 : Pt} {Q : Exit → Act → World → Prop} (hQ : To 54 F0 w0 [(7, .str o.1), (8, .val (.int .i64 o.2.1)), (9, .val (.bool o.2.2))] [] .normal Q) : Wp Try.prog 54 F0 w0 [(0, .str v0), (1, .val (.int .i64 v1)), (33, .val (.bool v33))] [] (cB (cA (cB (cB (cB (cB (cB (cF Try.f8)))))))) Q := by
  unfold ref06_Scan_j1 at h
  refine Wp.cond (b := v33) (by kernel_rfl) (fun hb => ?_) (fun hb => ?_)
  · replace h := if_t hb h
    obtain ⟨r2, hr2, h⟩ := bind_of h
    refine Wp.region hΓ [] [(3, .tup [.str r2.1, .val (.int .i64 r2.2.1), .val (.bool r2.2.2)])] [7, 8, 9] [] (K' := [(7, .str r2.1), (8, .val (.int .i64 r2.2.1)), (9, .val (.bool r2.2.2))]) (L' := []) (ob := [(true = true → CX Try.prog 20 [.str v0, .val (.int .i64 (IntKind.wrap .i64 (v1 + 1)))] (.tup [.str r2.1, .val (.int .i64 r2.2.1), .val (.bool r2.2.2)]))]) (by kernel_rfl) (AllP.cons (fun _ => cx (ok_ref06_double n v0 (IntKind.wrap .i64 (v1 + 1)) _ hr2)) AllP.nil) ?_
    refine To.keep (kk := [7, 8, 9]) (kl := []) (K' := [(7, .str r2.1), (8, .val (.int .i64 r2.2.1)), (9, .val (.bool r2.2.2))]) (L' := []) (by kernel_rfl) (by kernel_rfl) ?_
    cases h
    exact hQ
  · replace h := if_f hb h
    obtain ⟨r3, hr3, h⟩ := bind_of h
    refine Wp.region hΓ [] [(3, .tup [.str r3.1, .val (.int .i64 r3.2.1), .val (.bool r3.2.2)])] [7, 8, 9] [] (K' := [(7, .str r3.1), (8, .val (.int .i64 r3.2.1)), (9, .val (.bool r3.2.2))]) (L' := []) (ob := [(true = true → CX Try.prog 21 [.str v0, .val (.int .i64 (IntKind.wrap .i64 (v1 + 1)))] (.tup [.str r3.1, .val (.int .i64 r3.2.1), .val (.bool r3.2.2)]))]) (by kernel_rfl) (AllP.cons (fun _ => cx (ok_ref06_single n v0 (IntKind.wrap .i64 (v1 + 1)) _ hr3)) AllP.nil) ?_
    refine To.keep (kk := [7, 8, 9]) (kl := []) (K' := [(7, .str r3.1), (8, .val (.int .i64 r3.2.1)), (9, .val (.bool r3.2.2))]) (L' := []) (by kernel_rfl) (by kernel_rfl) ?_
    cases h
    exact hQ
def ref06_Scan (n : Nat) (a0 : List UInt8) (a1 : Int) : Option ((List UInt8) × Int × Int) :=
  if ((!((bif (decide (a1 < 0)) then true else (decide (a1 ≥ (List.length a0 : Int)))) == false) || decide (0 ≤ a1 ∧ a1 < (List.length a0 : Int)))) = true then (if ((!((((((a0)[Int.toNat a1]?.getD 0).toNat : Int) != 34) == true) && ((bif (decide (a1 < 0)) then true else (decide (a1 ≥ (List.length a0 : Int)))) == false)) || decide (0 ≤ a1 ∧ a1 < (List.length a0 : Int)))) = true then (lett ((bif (bif (decide (a1 < 0)) then true else (decide (a1 ≥ (List.length a0 : Int)))) then true else (bif ((((a0)[Int.toNat a1]?.getD 0).toNat : Int) != 34) then ((((a0)[Int.toNat a1]?.getD 0).toNat : Int) != 39) else false)) : Bool) fun x1 =>
  if x1 = true then (some ([], 0, 2))
  else (if (decide (0 ≤ a1 ∧ a1 < (List.length a0 : Int))) = true then ((ref06_Scan_j1 n a0 a1 ((((a0)[Int.toNat a1]?.getD 0).toNat : Int) == 34)).bind fun o2 =>
  if (!o2.2.2) = true then (some ([], 0, 3))
  else (some (o2.1, o2.2.1, 0))) else none)) else none) else none
theorem ok_ref06_Scan (n : Nat) (a0 : List UInt8) (a1 : Int) (r : (List UInt8) × Int × Int) (h : ref06_Scan n a0 a1 = some r) : CallsX Try.prog 8 [.str a0, .val (.int .i64 a1)] (.tup [.str r.1, .val (.int .i64 r.2.1), .val (.int .i64 r.2.2)]) := by
  unfold ref06_Scan at h
  refine callsX_of (fn := Try.f8) (by kernel_rfl) rfl (by kernel_rfl) (Nat.le_of_ble_eq_true (by kernel_rfl)) fun F0 w0 => ?_
  refine Wp.keep (kk := [0, 1]) (kl := []) (K' := [(0, .str a0), (1, .val (.int .i64 a1))]) (L' := []) (by kernel_rfl) (by kernel_rfl) ?_
  refine Wp.seq ?_
  refine Wp.region hΓ [] [] [0, 1] [] (K' := [(0, .str a0), (1, .val (.int .i64 a1))]) (L' := []) (ob := []) (by kernel_rfl) AllP.nil ?_
  refine To.thenN ?_
  refine Wp.seq ?_
  refine Wp.seq ?_
  obtain ⟨hc4, h⟩ := chk_of h
  obtain ⟨hc5, h⟩ := chk_of h
  obtain ⟨x1, hx1, h⟩ := lett_of h
  refine Wp.region hΓ [] [] [0, 1, 29] [] (K' := [(0, .str a0), (1, .val (.int .i64 a1)), (29, .val (.bool (bif (bif (decide (a1 < 0)) then true else (decide (a1 ≥ (List.length a0 : Int)))) then true else (bif ((((a0)[Int.toNat a1]?.getD 0).toNat : Int) != 34) then ((((a0)[Int.toNat a1]?.getD 0).toNat : Int) != 39) else false))))]) (L' := []) (ob := [(!((bif (decide (a1 < 0)) then true else (decide (a1 ≥ (List.length a0 : Int)))) == false) || decide (0 ≤ a1 ∧ a1 < (List.length a0 : Int))) = true, (!((((((a0)[Int.toNat a1]?.getD 0).toNat : Int) != 34) == true) && ((bif (decide (a1 < 0)) then true else (decide (a1 ≥ (List.length a0 : Int)))) == false)) || decide (0 ≤ a1 ∧ a1 < (List.length a0 : Int))) = true]) (by kernel_rfl) (AllP.cons hc4 (AllP.cons hc5 AllP.nil)) ?_
  refine To.eq (K' := [(0, .str a0), (1, .val (.int .i64 a1)), (29, .val (.bool x1))]) (L' := []) (by cases hx1; rfl) (by cases hx1; rfl) ?_
  refine To.thenN ?_
  refine Wp.cond (b := x1) (by kernel_rfl) (fun hb => ?_) (fun hb => ?_)
  · replace h := if_t hb h
    refine Wp.seq ?_
    refine Wp.region hΓ [] [] [4, 5, 6] [] (K' := [(4, .str []), (5, .val (.int .i64 0)), (6, .val (.int .i64 2))]) (L' := []) (ob := []) (by kernel_rfl) AllP.nil ?_
    refine To.thenN ?_
    refine Wp.ret ?_
    refine To.thenR ?_
    refine To.keep (kk := [4, 5, 6]) (kl := []) (K' := [(4, .str []), (5, .val (.int .i64 0)), (6, .val (.int .i64 2))]) (L' := []) (by kernel_rfl) (by kernel_rfl) ?_
    cases h
    exact To.done hΓ (by kernel_rfl)
  · replace h := if_f hb h
    refine Wp.skip ?_
    refine To.thenN ?_
    refine Wp.seq ?_
    refine Wp.region hΓ [] [] [0, 1] [] (K' := [(0, .str a0), (1, .val (.int .i64 a1))]) (L' := []) (ob := []) (by kernel_rfl) AllP.nil ?_
    refine To.thenN ?_
    refine Wp.seq ?_
    refine Wp.region hΓ [] [] [0, 1] [] (K' := [(0, .str a0), (1, .val (.int .i64 a1))]) (L' := []) (ob := []) (by kernel_rfl) AllP.nil ?_
    refine To.thenN ?_
    refine Wp.seq ?_
    refine Wp.region hΓ [] [] [0, 1] [] (K' := [(0, .str a0), (1, .val (.int .i64 a1))]) (L' := []) (ob := []) (by kernel_rfl) AllP.nil ?_
    refine To.thenN ?_
    refine Wp.seq ?_
    refine Wp.seq ?_
    obtain ⟨hc3, h⟩ := chk_of h
    refine Wp.region hΓ [] [] [0, 1, 33] [] (K' := [(0, .str a0), (1, .val (.int .i64 a1)), (33, .val (.bool ((((a0)[Int.toNat a1]?.getD 0).toNat : Int) == 34)))]) (L' := []) (ob := [(decide (0 ≤ a1 ∧ a1 < (List.length a0 : Int))) = true]) (by kernel_rfl) (AllP.cons hc3 AllP.nil) ?_
    refine To.thenN ?_
    obtain ⟨o2, ho2, h⟩ := bind_of h
    refine Wp.keep (kk := [0, 1, 33]) (kl := []) (K' := [(0, .str a0), (1, .val (.int .i64 a1)), (33, .val (.bool ((((a0)[Int.toNat a1]?.getD 0).toNat : Int) == 34)))]) (L' := []) (by kernel_rfl) (by kernel_rfl) ?_
    refine ok_ref06_Scan_j1 n a0 a1 ((((a0)[Int.toNat a1]?.getD 0).toNat : Int) == 34) o2 ho2 ?_
    refine To.thenN ?_
    refine Wp.seq ?_
    refine Wp.seq ?_
    refine Wp.region hΓ [] [] [7, 8, 51] [] (K' := [(7, .str o2.1), (8, .val (.int .i64 o2.2.1)), (51, .val (.bool (!o2.2.2)))]) (L' := []) (ob := []) (by kernel_rfl) AllP.nil ?_
    refine To.thenN ?_
    refine Wp.cond (b := (!o2.2.2)) (by kernel_rfl) (fun hb => ?_) (fun hb => ?_)
    · replace h := if_t hb h
      refine Wp.seq ?_
      refine Wp.region hΓ [] [] [4, 5, 6] [] (K' := [(4, .str []), (5, .val (.int .i64 0)), (6, .val (.int .i64 3))]) (L' := []) (ob := []) (by kernel_rfl) AllP.nil ?_
      refine To.thenN ?_
      refine Wp.ret ?_
      refine To.thenR ?_
      refine To.keep (kk := [4, 5, 6]) (kl := []) (K' := [(4, .str []), (5, .val (.int .i64 0)), (6, .val (.int .i64 3))]) (L' := []) (by kernel_rfl) (by kernel_rfl) ?_
      cases h
      exact To.done hΓ (by kernel_rfl)
    · replace h := if_f hb h
      refine Wp.skip ?_
      refine To.thenN ?_
      refine Wp.seq ?_
      refine Wp.region hΓ [] [] [4, 5, 6] [] (K' := [(4, .str o2.1), (5, .val (.int .i64 o2.2.1)), (6, .val (.int .i64 0))]) (L' := []) (ob := []) (by kernel_rfl) AllP.nil ?_
      refine To.thenN ?_
      refine Wp.ret ?_
      refine To.keep (kk := [4, 5, 6]) (kl := []) (K' := [(4, .str o2.1), (5, .val (.int .i64 o2.2.1)), (6, .val (.int .i64 0))]) (L' := []) (by kernel_rfl) (by kernel_rfl) ?_
      cases h
      exact To.done hΓ (by kernel_rfl)
def law06_QuoteScans (n : Nat) (a0 : List UInt8) (a1 : Int) : Option (Bool) :=
  if (decide ((List.length a0 : Int) > 3000)) = true then ((law06_awake n).bind fun r1 =>
  some r1)
  else ((quote_Scan n a0 a1).bind fun r2 =>
  (ref06_Scan n a0 a1).bind fun r3 =>
  ((if ((bif (bif (r2.1 == r3.1) then (r2.2.1 == r3.2.1) else false) then (r2.2.2 == r3.2.2) else false) == true) = true then law06_awake n else some false)).bind fun r4 =>
  lett ((bif (bif (bif (r2.1 == r3.1) then (r2.2.1 == r3.2.1) else false) then (r2.2.2 == r3.2.2) else false) then r4 else false) : Bool) fun x5 =>
  some x5)
theorem ok_law06_QuoteScans (n : Nat) (a0 : List UInt8) (a1 : Int) (r : Bool) (h : law06_QuoteScans n a0 a1 = some r) : CallsX Try.prog 3 [.str a0, .val (.int .i64 a1)] (.val (.bool r)) := by
  unfold law06_QuoteScans at h
  refine callsX_of (fn := Try.f3) (by kernel_rfl) rfl (by kernel_rfl) (Nat.le_of_ble_eq_true (by kernel_rfl)) fun F0 w0 => ?_
  refine Wp.keep (kk := [0, 1]) (kl := []) (K' := [(0, .str a0), (1, .val (.int .i64 a1))]) (L' := []) (by kernel_rfl) (by kernel_rfl) ?_
  refine Wp.seq ?_
  refine Wp.region hΓ [] [] [0, 1] [] (K' := [(0, .str a0), (1, .val (.int .i64 a1))]) (L' := []) (ob := []) (by kernel_rfl) AllP.nil ?_
  refine To.thenN ?_
  refine Wp.seq ?_
  refine Wp.seq ?_
  refine Wp.region hΓ [] [] [0, 1, 13] [] (K' := [(0, .str a0), (1, .val (.int .i64 a1)), (13, .val (.bool (decide ((List.length a0 : Int) > 3000))))]) (L' := []) (ob := []) (by kernel_rfl) AllP.nil ?_
  refine To.thenN ?_
  refine Wp.cond (b := (decide ((List.length a0 : Int) > 3000))) (by kernel_rfl) (fun hb => ?_) (fun hb => ?_)
  · replace h := if_t hb h
    refine Wp.seq ?_
    obtain ⟨r1, hr1, h⟩ := bind_of h
    refine Wp.region hΓ [] [(0, .val (.bool r1))] [4] [] (K' := [(4, .val (.bool r1))]) (L' := []) (ob := [(true = true → CX Try.prog 6 [] (.val (.bool r1)))]) (by kernel_rfl) (AllP.cons (fun _ => cx (ok_law06_awake n  _ hr1)) AllP.nil) ?_
    refine To.thenN ?_
    refine Wp.ret ?_
    refine To.thenR ?_
    refine To.keep (kk := [4]) (kl := []) (K' := [(4, .val (.bool r1))]) (L' := []) (by kernel_rfl) (by kernel_rfl) ?_
    cases h
    exact To.done hΓ (by kernel_rfl)
  · replace h := if_f hb h
    refine Wp.skip ?_
    refine To.thenN ?_
    refine Wp.seq ?_
    obtain ⟨r2, hr2, h⟩ := bind_of h
    refine Wp.region hΓ [] [(2, .tup [.str r2.1, .val (.int .i64 r2.2.1), .val (.int .i64 r2.2.2)])] [0, 1, 5, 6, 7] [] (K' := [(0, .str a0), (1, .val (.int .i64 a1)), (5, .str r2.1), (6, .val (.int .i64 r2.2.1)), (7, .val (.int .i64 r2.2.2))]) (L' := []) (ob := [(true = true → CX Try.prog 7 [.str a0, .val (.int .i64 a1)] (.tup [.str r2.1, .val (.int .i64 r2.2.1), .val (.int .i64 r2.2.2)]))]) (by kernel_rfl) (AllP.cons (fun _ => cx (ok_quote_Scan n a0 a1 _ hr2)) AllP.nil) ?_
    refine To.thenN ?_
    refine Wp.seq ?_
    obtain ⟨r3, hr3, h⟩ := bind_of h
    refine Wp.region hΓ [] [(2, .tup [.str r3.1, .val (.int .i64 r3.2.1), .val (.int .i64 r3.2.2)])] [5, 6, 7, 8, 9, 10] [] (K' := [(5, .str r2.1), (6, .val (.int .i64 r2.2.1)), (7, .val (.int .i64 r2.2.2)), (8, .str r3.1), (9, .val (.int .i64 r3.2.1)), (10, .val (.int .i64 r3.2.2))]) (L' := []) (ob := [(true = true → CX Try.prog 8 [.str a0, .val (.int .i64 a1)] (.tup [.str r3.1, .val (.int .i64 r3.2.1), .val (.int .i64 r3.2.2)]))]) (by kernel_rfl) (AllP.cons (fun _ => cx (ok_ref06_Scan n a0 a1 _ hr3)) AllP.nil) ?_
    refine To.thenN ?_
    refine Wp.seq ?_
    obtain ⟨r4, hr4, h⟩ := bind_of h
    obtain ⟨x5, hx5, h⟩ := lett_of h
    refine Wp.region hΓ [] [(14, .val (.bool r4))] [4] [] (K' := [(4, .val (.bool (bif (bif (bif (r2.1 == r3.1) then (r2.2.1 == r3.2.1) else false) then (r2.2.2 == r3.2.2) else false) then r4 else false)))]) (L' := []) (ob := [(((bif (bif (r2.1 == r3.1) then (r2.2.1 == r3.2.1) else false) then (r2.2.2 == r3.2.2) else false) == true) = true → CX Try.prog 6 [] (.val (.bool r4)))]) (by kernel_rfl) (AllP.cons (fun hg => cx (ok_law06_awake n  _ (if_t hg hr4))) AllP.nil) ?_
    refine To.eq (K' := [(4, .val (.bool x5))]) (L' := []) (by cases hx5; rfl) (by cases hx5; rfl) ?_
    refine To.thenN ?_
    refine Wp.ret ?_
    refine To.keep (kk := [4]) (kl := []) (K' := [(4, .val (.bool x5))]) (L' := []) (by kernel_rfl) (by kernel_rfl) ?_
    cases h
    exact To.done hΓ (by kernel_rfl)
def ref06_digit (a0 : Int) : Int :=
  if (decide (a0 < 10)) = true then ((IntKind.wrap .u8 (48 + a0)))
  else ((IntKind.wrap .u8 (87 + a0)))
theorem ok_ref06_digit (a0 : Int) (r : Int) (h : ref06_digit a0 = r) : CallsX Try.prog 23 [.val (.int .u8 a0)] (.val (.int .u8 r)) := by
  unfold ref06_digit at h
  refine callsX_of (fn := Try.f23) (by kernel_rfl) rfl (by kernel_rfl) (Nat.le_of_ble_eq_true (by kernel_rfl)) fun F0 w0 => ?_
  refine Wp.keep (kk := [0]) (kl := []) (K' := [(0, .val (.int .u8 a0))]) (L' := []) (by kernel_rfl) (by kernel_rfl) ?_
  refine Wp.seq ?_
  refine Wp.region hΓ [] [] [0] [] (K' := [(0, .val (.int .u8 a0))]) (L' := []) (ob := []) (by kernel_rfl) AllP.nil ?_
  refine To.thenN ?_
  refine Wp.seq ?_
  refine Wp.seq ?_
  refine Wp.region hΓ [] [] [0, 4] [] (K' := [(0, .val (.int .u8 a0)), (4, .val (.bool (decide (a0 < 10))))]) (L' := []) (ob := []) (by kernel_rfl) AllP.nil ?_
  refine To.thenN ?_
  refine Wp.cond (b := (decide (a0 < 10))) (by kernel_rfl) (fun hb => ?_) (fun hb => ?_)
  · replace h := if_t hb h
    refine Wp.seq ?_
    refine Wp.region hΓ [] [] [2] [] (K' := [(2, .val (.int .u8 (IntKind.wrap .u8 (48 + a0))))]) (L' := []) (ob := []) (by kernel_rfl) AllP.nil ?_
    refine To.thenN ?_
    refine Wp.ret ?_
    refine To.thenR ?_
    refine To.keep (kk := [2]) (kl := []) (K' := [(2, .val (.int .u8 (IntKind.wrap .u8 (48 + a0))))]) (L' := []) (by kernel_rfl) (by kernel_rfl) ?_
    cases h
    exact To.done hΓ (by kernel_rfl)
  · replace h := if_f hb h
    refine Wp.skip ?_
    refine To.thenN ?_
    refine Wp.seq ?_
    refine Wp.region hΓ [] [] [2] [] (K' := [(2, .val (.int .u8 (IntKind.wrap .u8 (87 + a0))))]) (L' := []) (ob := []) (by kernel_rfl) AllP.nil ?_
    refine To.thenN ?_
    refine Wp.ret ?_
    refine To.keep (kk := [2]) (kl := []) (K' := [(2, .val (.int .u8 (IntKind.wrap .u8 (87 + a0))))]) (L' := []) (by kernel_rfl) (by kernel_rfl) ?_
    cases h
    exact To.done hΓ (by kernel_rfl)
def ref06_Double_j2 (n : Nat) (v0 : List UInt8) (v3 : List (UInt8)) (v4 : Int) : Option ((List (UInt8))) :=
  if (decide (0 ≤ v4 ∧ v4 < (List.length v0 : Int))) = true then (lett ((bif ((((v0)[Int.toNat v4]?.getD 0).toNat : Int) == 34) then true else ((((v0)[Int.toNat v4]?.getD 0).toNat : Int) == 92)) : Bool) fun x1 =>
  if x1 = true then (if (decide ((List.length v3 + List.length ([92, ((v0)[Int.toNat v4]?.getD 0)] : List (UInt8))) * (1 + 1) ≤ limit)) = true then (some (v3 ++ ([92, ((v0)[Int.toNat v4]?.getD 0)] : List (UInt8)))) else none)
  else (if ((((v0)[Int.toNat v4]?.getD 0).toNat : Int) == 10) = true then (if (decide ((List.length v3 + List.length ([92, 110] : List (UInt8))) * (1 + 1) ≤ limit)) = true then (some (v3 ++ ([92, 110] : List (UInt8)))) else none)
  else (if ((((v0)[Int.toNat v4]?.getD 0).toNat : Int) == 9) = true then (if (decide ((List.length v3 + List.length ([92, 116] : List (UInt8))) * (1 + 1) ≤ limit)) = true then (some (v3 ++ ([92, 116] : List (UInt8)))) else none)
  else (if (!(ref06_Good (((v0)[Int.toNat v4]?.getD 0).toNat : Int))) = true then (if ((16 != 0)) = true then (lett (ref06_digit (IntKind.wrap .u8 (Int.tdiv (((v0)[Int.toNat v4]?.getD 0).toNat : Int) 16))) fun r5 =>
  lett (ref06_digit (Int.tmod (((v0)[Int.toNat v4]?.getD 0).toNat : Int) 16)) fun r6 =>
  if (decide (0 ≤ r5 ∧ r5 < 256)) = true then (if (decide (0 ≤ r6 ∧ r6 < 256)) = true then (if (decide ((List.length v3 + List.length ([92, 120, (UInt8.ofNat (Int.toNat r5)), (UInt8.ofNat (Int.toNat r6))] : List (UInt8))) * (1 + 1) ≤ limit)) = true then (some (v3 ++ ([92, 120, (UInt8.ofNat (Int.toNat r5)), (UInt8.ofNat (Int.toNat r6))] : List (UInt8)))) else none) else none) else none) else none)
  else (if (decide ((List.length v3 + List.length ([((v0)[Int.toNat v4]?.getD 0)] : List (UInt8))) * (1 + 1) ≤ limit)) = true then (some (v3 ++ ([((v0)[Int.toNat v4]?.getD 0)] : List (UInt8)))) else none))))) else none
theorem ok_ref06_Double_j2 (n : Nat) (v0 : List UInt8) (v3 : List (UInt8)) (v4 : Int) (o : (List (UInt8))) (h : ref06_Double_j2 n v0 v3 v4 = some o) {F0 : Fz} {w0 : Pt} {Q : Exit → Act → World → Prop} (hQ : To 57 F0 w0 [(0, .str v0), (3, .row 1003), (4, .val (.int .i64 v4))] [(1003, 5, [.rowc false (α := UInt8) 0 e8 o])] .normal Q) : Wp Try.prog 57 F0 w0 [(0, .str v0), (3, .row 1003), (4, .val (.int .i64 v4))] [(1003, 5, [.rowc false (α := UInt8) 0 e8 v3])] (cA (cB (cI (cI (cB (cA (cB (cB (cF Try.f9))))))))) Q := by
  unfold ref06_Double_j2 at h
  refine Wp.block ?_
  refine Wp.seq ?_
  obtain ⟨hc12, h⟩ := chk_of h
  refine Wp.region hΓ [] [] [0, 3, 4, 5] [1003] (K' := [(0, .str v0), (3, .row 1003), (4, .val (.int .i64 v4)), (5, .val (.int .u8 (((v0)[Int.toNat v4]?.getD 0).toNat : Int)))]) (L' := [(1003, 5, [.rowc false (α := UInt8) 0 e8 v3])]) (ob := [(decide (0 ≤ v4 ∧ v4 < (List.length v0 : Int))) = true]) (by kernel_rfl) (AllP.cons hc12 AllP.nil) ?_
  refine To.thenN ?_
  refine Wp.seq ?_
  obtain ⟨x1, hx1, h⟩ := lett_of h
  refine Wp.region hΓ [] [] [0, 3, 4, 5, 21] [1003] (K' := [(0, .str v0), (3, .row 1003), (4, .val (.int .i64 v4)), (5, .val (.int .u8 (((v0)[Int.toNat v4]?.getD 0).toNat : Int))), (21, .val (.bool (bif ((((v0)[Int.toNat v4]?.getD 0).toNat : Int) == 34) then true else ((((v0)[Int.toNat v4]?.getD 0).toNat : Int) == 92))))]) (L' := [(1003, 5, [.rowc false (α := UInt8) 0 e8 v3])]) (ob := []) (by kernel_rfl) AllP.nil ?_
  refine To.eq (K' := [(0, .str v0), (3, .row 1003), (4, .val (.int .i64 v4)), (5, .val (.int .u8 (((v0)[Int.toNat v4]?.getD 0).toNat : Int))), (21, .val (.bool x1))]) (L' := [(1003, 5, [.rowc false (α := UInt8) 0 e8 v3])]) (by cases hx1; rfl) (by cases hx1; rfl) ?_
  refine To.thenN ?_
  refine Wp.cond (b := x1) (by kernel_rfl) (fun hb => ?_) (fun hb => ?_)
  · replace h := if_t hb h
    obtain ⟨hc2, h⟩ := chk_of h
    refine Wp.region hΓ [] [(2, .recs (α := UInt8) 0 e8 ([92, ((v0)[Int.toNat v4]?.getD 0)])), (3, .recs (α := UInt8) 0 e8 (v3 ++ ([92, ((v0)[Int.toNat v4]?.getD 0)] : List (UInt8))))] [0, 3, 4] [25] (K' := [(0, .str v0), (3, .row 25), (4, .val (.int .i64 v4))]) (L' := [(25, 5, [.rowc false (α := UInt8) 0 e8 (v3 ++ ([92, ((v0)[Int.toNat v4]?.getD 0)] : List (UInt8)))])]) (ob := [(MkOb 1 [.val (.int .u8 92), .val (.int .u8 (((v0)[Int.toNat v4]?.getD 0).toNat : Int))] 2 (.recs (α := UInt8) 0 e8 ([92, ((v0)[Int.toNat v4]?.getD 0)])) ∧ GoodR (.recs (α := UInt8) 0 e8 ([92, ((v0)[Int.toNat v4]?.getD 0)]))), (decide ((List.length v3 + List.length ([92, ((v0)[Int.toNat v4]?.getD 0)] : List (UInt8))) * (1 + 1) ≤ limit)) = true, (AppOb 0 e8 v3 (List.flatMap e8 ([92, ((v0)[Int.toNat v4]?.getD 0)] : List (UInt8))) (List.length ([92, ((v0)[Int.toNat v4]?.getD 0)] : List (UInt8))) (.recs (α := UInt8) 0 e8 (v3 ++ ([92, ((v0)[Int.toNat v4]?.getD 0)] : List (UInt8)))) ∧ GoodR (.recs (α := UInt8) 0 e8 (v3 ++ ([92, ((v0)[Int.toNat v4]?.getD 0)] : List (UInt8)))))]) (by kernel_rfl) (AllP.cons (mkOb (All8.cells (ns := [92, (((v0)[Int.toNat v4]?.getD 0).toNat : Int)]) (.cons rfl (.cons rfl .nil))) rfl rfl (good8 _)) (AllP.cons hc2 (AllP.cons (appOb rfl rfl (good8 _)) AllP.nil))) ?_
    refine To.blockN ?_
    refine To.keep (kk := [0, 3, 4]) (kl := [25]) (K' := [(0, .str v0), (3, .row 25), (4, .val (.int .i64 v4))]) (L' := [(25, 5, [.rowc false (α := UInt8) 0 e8 (v3 ++ ([92, ((v0)[Int.toNat v4]?.getD 0)] : List (UInt8)))])]) (by kernel_rfl) (by kernel_rfl) ?_
    refine To.pre (St.rename 25 1003 (K' := [(0, .str v0), (3, .row 1003), (4, .val (.int .i64 v4))]) (L' := [(1003, 5, [.rowc false (α := UInt8) 0 e8 (v3 ++ ([92, ((v0)[Int.toNat v4]?.getD 0)] : List (UInt8)))])]) (by kernel_rfl) (by kernel_rfl) (by kernel_rfl)) ?_
    refine To.keep (kk := [0, 3, 4]) (kl := [1003]) (K' := [(0, .str v0), (3, .row 1003), (4, .val (.int .i64 v4))]) (L' := [(1003, 5, [.rowc false (α := UInt8) 0 e8 (v3 ++ ([92, ((v0)[Int.toNat v4]?.getD 0)] : List (UInt8)))])]) (by kernel_rfl) (by kernel_rfl) ?_
    cases h
    exact hQ
  · replace h := if_f hb h
    refine Wp.seq ?_
    refine Wp.region hΓ [] [] [0, 3, 4, 5, 27] [1003] (K' := [(0, .str v0), (3, .row 1003), (4, .val (.int .i64 v4)), (5, .val (.int .u8 (((v0)[Int.toNat v4]?.getD 0).toNat : Int))), (27, .val (.bool ((((v0)[Int.toNat v4]?.getD 0).toNat : Int) == 10)))]) (L' := [(1003, 5, [.rowc false (α := UInt8) 0 e8 v3])]) (ob := []) (by kernel_rfl) AllP.nil ?_
    refine To.thenN ?_
    refine Wp.cond (b := ((((v0)[Int.toNat v4]?.getD 0).toNat : Int) == 10)) (by kernel_rfl) (fun hb => ?_) (fun hb => ?_)
    · replace h := if_t hb h
      obtain ⟨hc3, h⟩ := chk_of h
      refine Wp.region hΓ [] [(1, .recs (α := UInt8) 0 e8 [92, 110]), (2, .recs (α := UInt8) 0 e8 (v3 ++ ([92, 110] : List (UInt8))))] [0, 3, 4] [30] (K' := [(0, .str v0), (3, .row 30), (4, .val (.int .i64 v4))]) (L' := [(30, 5, [.rowc false (α := UInt8) 0 e8 (v3 ++ ([92, 110] : List (UInt8)))])]) (ob := [(MkOb 1 [.val (.int .u8 92), .val (.int .u8 110)] 2 (.recs (α := UInt8) 0 e8 [92, 110]) ∧ GoodR (.recs (α := UInt8) 0 e8 [92, 110])), (decide ((List.length v3 + List.length ([92, 110] : List (UInt8))) * (1 + 1) ≤ limit)) = true, (AppOb 0 e8 v3 (List.flatMap e8 ([92, 110] : List (UInt8))) (List.length ([92, 110] : List (UInt8))) (.recs (α := UInt8) 0 e8 (v3 ++ ([92, 110] : List (UInt8)))) ∧ GoodR (.recs (α := UInt8) 0 e8 (v3 ++ ([92, 110] : List (UInt8)))))]) (by kernel_rfl) (AllP.cons (mkOb (All8.cells (ns := [92, 110]) (.cons rfl (.cons rfl .nil))) rfl rfl (good8 _)) (AllP.cons hc3 (AllP.cons (appOb rfl rfl (good8 _)) AllP.nil))) ?_
      refine To.blockN ?_
      refine To.keep (kk := [0, 3, 4]) (kl := [30]) (K' := [(0, .str v0), (3, .row 30), (4, .val (.int .i64 v4))]) (L' := [(30, 5, [.rowc false (α := UInt8) 0 e8 (v3 ++ ([92, 110] : List (UInt8)))])]) (by kernel_rfl) (by kernel_rfl) ?_
      refine To.pre (St.rename 30 1003 (K' := [(0, .str v0), (3, .row 1003), (4, .val (.int .i64 v4))]) (L' := [(1003, 5, [.rowc false (α := UInt8) 0 e8 (v3 ++ ([92, 110] : List (UInt8)))])]) (by kernel_rfl) (by kernel_rfl) (by kernel_rfl)) ?_
      refine To.keep (kk := [0, 3, 4]) (kl := [1003]) (K' := [(0, .str v0), (3, .row 1003), (4, .val (.int .i64 v4))]) (L' := [(1003, 5, [.rowc false (α := UInt8) 0 e8 (v3 ++ ([92, 110] : List (UInt8)))])]) (by kernel_rfl) (by kernel_rfl) ?_
      cases h
      exact hQ
    · replace h := if_f hb h
      refine Wp.seq ?_
      refine Wp.region hΓ [] [] [0, 3, 4, 5, 32] [1003] (K' := [(0, .str v0), (3, .row 1003), (4, .val (.int .i64 v4)), (5, .val (.int .u8 (((v0)[Int.toNat v4]?.getD 0).toNat : Int))), (32, .val (.bool ((((v0)[Int.toNat v4]?.getD 0).toNat : Int) == 9)))]) (L' := [(1003, 5, [.rowc false (α := UInt8) 0 e8 v3])]) (ob := []) (by kernel_rfl) AllP.nil ?_
      refine To.thenN ?_
      refine Wp.cond (b := ((((v0)[Int.toNat v4]?.getD 0).toNat : Int) == 9)) (by kernel_rfl) (fun hb => ?_) (fun hb => ?_)
      · replace h := if_t hb h
        obtain ⟨hc4, h⟩ := chk_of h
        refine Wp.region hΓ [] [(1, .recs (α := UInt8) 0 e8 [92, 116]), (2, .recs (α := UInt8) 0 e8 (v3 ++ ([92, 116] : List (UInt8))))] [0, 3, 4] [35] (K' := [(0, .str v0), (3, .row 35), (4, .val (.int .i64 v4))]) (L' := [(35, 5, [.rowc false (α := UInt8) 0 e8 (v3 ++ ([92, 116] : List (UInt8)))])]) (ob := [(MkOb 1 [.val (.int .u8 92), .val (.int .u8 116)] 2 (.recs (α := UInt8) 0 e8 [92, 116]) ∧ GoodR (.recs (α := UInt8) 0 e8 [92, 116])), (decide ((List.length v3 + List.length ([92, 116] : List (UInt8))) * (1 + 1) ≤ limit)) = true, (AppOb 0 e8 v3 (List.flatMap e8 ([92, 116] : List (UInt8))) (List.length ([92, 116] : List (UInt8))) (.recs (α := UInt8) 0 e8 (v3 ++ ([92, 116] : List (UInt8)))) ∧ GoodR (.recs (α := UInt8) 0 e8 (v3 ++ ([92, 116] : List (UInt8)))))]) (by kernel_rfl) (AllP.cons (mkOb (All8.cells (ns := [92, 116]) (.cons rfl (.cons rfl .nil))) rfl rfl (good8 _)) (AllP.cons hc4 (AllP.cons (appOb rfl rfl (good8 _)) AllP.nil))) ?_
        refine To.blockN ?_
        refine To.keep (kk := [0, 3, 4]) (kl := [35]) (K' := [(0, .str v0), (3, .row 35), (4, .val (.int .i64 v4))]) (L' := [(35, 5, [.rowc false (α := UInt8) 0 e8 (v3 ++ ([92, 116] : List (UInt8)))])]) (by kernel_rfl) (by kernel_rfl) ?_
        refine To.pre (St.rename 35 1003 (K' := [(0, .str v0), (3, .row 1003), (4, .val (.int .i64 v4))]) (L' := [(1003, 5, [.rowc false (α := UInt8) 0 e8 (v3 ++ ([92, 116] : List (UInt8)))])]) (by kernel_rfl) (by kernel_rfl) (by kernel_rfl)) ?_
        refine To.keep (kk := [0, 3, 4]) (kl := [1003]) (K' := [(0, .str v0), (3, .row 1003), (4, .val (.int .i64 v4))]) (L' := [(1003, 5, [.rowc false (α := UInt8) 0 e8 (v3 ++ ([92, 116] : List (UInt8)))])]) (by kernel_rfl) (by kernel_rfl) ?_
        cases h
        exact hQ
      · replace h := if_f hb h
        refine Wp.seq ?_
        refine Wp.region hΓ [] [(1, .val (.bool (ref06_Good (((v0)[Int.toNat v4]?.getD 0).toNat : Int))))] [0, 3, 4, 5, 38] [1003] (K' := [(0, .str v0), (3, .row 1003), (4, .val (.int .i64 v4)), (5, .val (.int .u8 (((v0)[Int.toNat v4]?.getD 0).toNat : Int))), (38, .val (.bool (!(ref06_Good (((v0)[Int.toNat v4]?.getD 0).toNat : Int)))))]) (L' := [(1003, 5, [.rowc false (α := UInt8) 0 e8 v3])]) (ob := [(true = true → CX Try.prog 22 [.val (.int .u8 (((v0)[Int.toNat v4]?.getD 0).toNat : Int))] (.val (.bool (ref06_Good (((v0)[Int.toNat v4]?.getD 0).toNat : Int)))))]) (by kernel_rfl) (AllP.cons (fun _ => cx (ok_ref06_Good (((v0)[Int.toNat v4]?.getD 0).toNat : Int) _ rfl)) AllP.nil) ?_
        refine To.thenN ?_
        refine Wp.cond (b := (!(ref06_Good (((v0)[Int.toNat v4]?.getD 0).toNat : Int)))) (by kernel_rfl) (fun hb => ?_) (fun hb => ?_)
        · replace h := if_t hb h
          obtain ⟨hc9, h⟩ := chk_of h
          obtain ⟨r5, hr5, h⟩ := lett_of h
          obtain ⟨r6, hr6, h⟩ := lett_of h
          obtain ⟨u7, h⟩ := chk_of h
          obtain ⟨u8, h⟩ := chk_of h
          obtain ⟨hc10, h⟩ := chk_of h
          refine Wp.region hΓ [] [(3, .val (.int .u8 r5)), (6, .val (.int .u8 r6)), (7, .recs (α := UInt8) 0 e8 [92, 120, (UInt8.ofNat (Int.toNat r5)), (UInt8.ofNat (Int.toNat r6))]), (8, .recs (α := UInt8) 0 e8 (v3 ++ ([92, 120, (UInt8.ofNat (Int.toNat r5)), (UInt8.ofNat (Int.toNat r6))] : List (UInt8))))] [0, 3, 4] [47] (K' := [(0, .str v0), (3, .row 47), (4, .val (.int .i64 v4))]) (L' := [(47, 5, [.rowc false (α := UInt8) 0 e8 (v3 ++ ([92, 120, (UInt8.ofNat (Int.toNat r5)), (UInt8.ofNat (Int.toNat r6))] : List (UInt8)))])]) (ob := [((16 != 0)) = true, (true = true → CX Try.prog 23 [.val (.int .u8 (IntKind.wrap .u8 (Int.tdiv (((v0)[Int.toNat v4]?.getD 0).toNat : Int) 16)))] (.val (.int .u8 r5))), ((16 != 0)) = true, (true = true → CX Try.prog 23 [.val (.int .u8 (Int.tmod (((v0)[Int.toNat v4]?.getD 0).toNat : Int) 16))] (.val (.int .u8 r6))), (MkOb 1 [.val (.int .u8 92), .val (.int .u8 120), .val (.int .u8 r5), .val (.int .u8 r6)] 4 (.recs (α := UInt8) 0 e8 [92, 120, (UInt8.ofNat (Int.toNat r5)), (UInt8.ofNat (Int.toNat r6))]) ∧ GoodR (.recs (α := UInt8) 0 e8 [92, 120, (UInt8.ofNat (Int.toNat r5)), (UInt8.ofNat (Int.toNat r6))])), (decide ((List.length v3 + List.length ([92, 120, (UInt8.ofNat (Int.toNat r5)), (UInt8.ofNat (Int.toNat r6))] : List (UInt8))) * (1 + 1) ≤ limit)) = true, (AppOb 0 e8 v3 (List.flatMap e8 ([92, 120, (UInt8.ofNat (Int.toNat r5)), (UInt8.ofNat (Int.toNat r6))] : List (UInt8))) (List.length ([92, 120, (UInt8.ofNat (Int.toNat r5)), (UInt8.ofNat (Int.toNat r6))] : List (UInt8))) (.recs (α := UInt8) 0 e8 (v3 ++ ([92, 120, (UInt8.ofNat (Int.toNat r5)), (UInt8.ofNat (Int.toNat r6))] : List (UInt8)))) ∧ GoodR (.recs (α := UInt8) 0 e8 (v3 ++ ([92, 120, (UInt8.ofNat (Int.toNat r5)), (UInt8.ofNat (Int.toNat r6))] : List (UInt8)))))]) (by kernel_rfl) (AllP.cons hc9 (AllP.cons (fun _ => cx (ok_ref06_digit (IntKind.wrap .u8 (Int.tdiv (((v0)[Int.toNat v4]?.getD 0).toNat : Int) 16)) _ hr5)) (AllP.cons hc9 (AllP.cons (fun _ => cx (ok_ref06_digit (Int.tmod (((v0)[Int.toNat v4]?.getD 0).toNat : Int) 16) _ hr6)) (AllP.cons (mkOb (All8.cells (ns := [92, 120, r5, r6]) (.cons rfl (.cons rfl (.cons (u8_of u7) (.cons (u8_of u8) .nil))))) rfl rfl (good8 _)) (AllP.cons hc10 (AllP.cons (appOb rfl rfl (good8 _)) AllP.nil))))))) ?_
          refine To.blockN ?_
          refine To.keep (kk := [0, 3, 4]) (kl := [47]) (K' := [(0, .str v0), (3, .row 47), (4, .val (.int .i64 v4))]) (L' := [(47, 5, [.rowc false (α := UInt8) 0 e8 (v3 ++ ([92, 120, (UInt8.ofNat (Int.toNat r5)), (UInt8.ofNat (Int.toNat r6))] : List (UInt8)))])]) (by kernel_rfl) (by kernel_rfl) ?_
          refine To.pre (St.rename 47 1003 (K' := [(0, .str v0), (3, .row 1003), (4, .val (.int .i64 v4))]) (L' := [(1003, 5, [.rowc false (α := UInt8) 0 e8 (v3 ++ ([92, 120, (UInt8.ofNat (Int.toNat r5)), (UInt8.ofNat (Int.toNat r6))] : List (UInt8)))])]) (by kernel_rfl) (by kernel_rfl) (by kernel_rfl)) ?_
          refine To.keep (kk := [0, 3, 4]) (kl := [1003]) (K' := [(0, .str v0), (3, .row 1003), (4, .val (.int .i64 v4))]) (L' := [(1003, 5, [.rowc false (α := UInt8) 0 e8 (v3 ++ ([92, 120, (UInt8.ofNat (Int.toNat r5)), (UInt8.ofNat (Int.toNat r6))] : List (UInt8)))])]) (by kernel_rfl) (by kernel_rfl) ?_
          cases h
          exact hQ
        · replace h := if_f hb h
          obtain ⟨hc11, h⟩ := chk_of h
          refine Wp.region hΓ [] [(2, .recs (α := UInt8) 0 e8 ([((v0)[Int.toNat v4]?.getD 0)])), (3, .recs (α := UInt8) 0 e8 (v3 ++ ([((v0)[Int.toNat v4]?.getD 0)] : List (UInt8))))] [0, 3, 4] [51] (K' := [(0, .str v0), (3, .row 51), (4, .val (.int .i64 v4))]) (L' := [(51, 5, [.rowc false (α := UInt8) 0 e8 (v3 ++ ([((v0)[Int.toNat v4]?.getD 0)] : List (UInt8)))])]) (ob := [(MkOb 1 [.val (.int .u8 (((v0)[Int.toNat v4]?.getD 0).toNat : Int))] 1 (.recs (α := UInt8) 0 e8 ([((v0)[Int.toNat v4]?.getD 0)])) ∧ GoodR (.recs (α := UInt8) 0 e8 ([((v0)[Int.toNat v4]?.getD 0)]))), (decide ((List.length v3 + List.length ([((v0)[Int.toNat v4]?.getD 0)] : List (UInt8))) * (1 + 1) ≤ limit)) = true, (AppOb 0 e8 v3 (List.flatMap e8 ([((v0)[Int.toNat v4]?.getD 0)] : List (UInt8))) (List.length ([((v0)[Int.toNat v4]?.getD 0)] : List (UInt8))) (.recs (α := UInt8) 0 e8 (v3 ++ ([((v0)[Int.toNat v4]?.getD 0)] : List (UInt8)))) ∧ GoodR (.recs (α := UInt8) 0 e8 (v3 ++ ([((v0)[Int.toNat v4]?.getD 0)] : List (UInt8)))))]) (by kernel_rfl) (AllP.cons (mkOb (All8.cells (ns := [(((v0)[Int.toNat v4]?.getD 0).toNat : Int)]) (.cons rfl .nil)) rfl rfl (good8 _)) (AllP.cons hc11 (AllP.cons (appOb rfl rfl (good8 _)) AllP.nil))) ?_
          refine To.blockN ?_
          refine To.keep (kk := [0, 3, 4]) (kl := [51]) (K' := [(0, .str v0), (3, .row 51), (4, .val (.int .i64 v4))]) (L' := [(51, 5, [.rowc false (α := UInt8) 0 e8 (v3 ++ ([((v0)[Int.toNat v4]?.getD 0)] : List (UInt8)))])]) (by kernel_rfl) (by kernel_rfl) ?_
          refine To.pre (St.rename 51 1003 (K' := [(0, .str v0), (3, .row 1003), (4, .val (.int .i64 v4))]) (L' := [(1003, 5, [.rowc false (α := UInt8) 0 e8 (v3 ++ ([((v0)[Int.toNat v4]?.getD 0)] : List (UInt8)))])]) (by kernel_rfl) (by kernel_rfl) (by kernel_rfl)) ?_
          refine To.keep (kk := [0, 3, 4]) (kl := [1003]) (K' := [(0, .str v0), (3, .row 1003), (4, .val (.int .i64 v4))]) (L' := [(1003, 5, [.rowc false (α := UInt8) 0 e8 (v3 ++ ([((v0)[Int.toNat v4]?.getD 0)] : List (UInt8)))])]) (by kernel_rfl) (by kernel_rfl) ?_
          cases h
          exact hQ
def ref06_Double_l1 (n : Nat) (v0 : List UInt8) : Nat → (List (UInt8)) → Int → Option ((List (UInt8)))
  | 0, _, _ => none
  | k + 1, v3, v4 => if (decide (v4 < (List.length v0 : Int))) = true then ((ref06_Double_j2 n v0 v3 v4).bind fun o1 =>
  ref06_Double_l1 n v0 k o1 (IntKind.wrap .i64 (v4 + 1)))
  else some v3
theorem ok_ref06_Double_l1 (n : Nat) (v0 : List UInt8) {F0 : Fz} {w0 : Pt} {Q : Exit → Act → World → Prop} (k : Nat) : ∀ (v3 : List (UInt8)) (v4 : Int) (o : (List (UInt8))), ref06_Double_l1 n v0 k v3 v4 = some o → To 57 F0 w0 [(3, .row 1003)] [(1003, 5, [.rowc false (α := UInt8) 0 e8 o])] (.exit 0) Q → WL Try.prog 57 F0 w0 [(0, .str v0), (3, .row 1003), (4, .val (.int .i64 v4))] [(1003, 5, [.rowc false (α := UInt8) 0 e8 v3])] (cI (cI (cB (cA (cB (cB (cF Try.f9))))))) Q := by
  induction k with
  | zero => intro v3 v4 o h; cases h
  | succ k ih =>
    intro v3 v4 o h hQ
    rw [ref06_Double_l1] at h
    refine WL.round ?_
    refine Wp.seq ?_
    refine Wp.seq ?_
    refine Wp.region hΓ [] [] [0, 3, 4, 10] [1003] (K' := [(0, .str v0), (3, .row 1003), (4, .val (.int .i64 v4)), (10, .val (.bool (decide (v4 < (List.length v0 : Int)))))]) (L' := [(1003, 5, [.rowc false (α := UInt8) 0 e8 v3])]) (ob := []) (by kernel_rfl) AllP.nil ?_
    refine To.thenN ?_
    refine Wp.cond (b := (decide (v4 < (List.length v0 : Int)))) (by kernel_rfl) (fun hb => ?_) (fun hb => ?_)
    · replace h := if_t hb h
      refine Wp.skip ?_
      refine To.thenN ?_
      refine Wp.seq ?_
      obtain ⟨o1, ho1, h⟩ := bind_of h
      refine Wp.keep (kk := [0, 3, 4]) (kl := [1003]) (K' := [(0, .str v0), (3, .row 1003), (4, .val (.int .i64 v4))]) (L' := [(1003, 5, [.rowc false (α := UInt8) 0 e8 v3])]) (by kernel_rfl) (by kernel_rfl) ?_
      refine ok_ref06_Double_j2 n v0 v3 v4 o1 ho1 ?_
      refine To.thenN ?_
      refine Wp.region hΓ [] [] [0, 3, 4] [1003] (K' := [(0, .str v0), (3, .row 1003), (4, .val (.int .i64 (IntKind.wrap .i64 (v4 + 1))))]) (L' := [(1003, 5, [.rowc false (α := UInt8) 0 e8 o1])]) (ob := []) (by kernel_rfl) AllP.nil ?_
      refine To.keep (kk := [0, 3, 4]) (kl := [1003]) (K' := [(0, .str v0), (3, .row 1003), (4, .val (.int .i64 (IntKind.wrap .i64 (v4 + 1))))]) (L' := [(1003, 5, [.rowc false (α := UInt8) 0 e8 o1])]) (by kernel_rfl) (by kernel_rfl) ?_
      refine To.again ?_
      exact ih o1 (IntKind.wrap .i64 (v4 + 1)) _ h hQ
    · replace h := if_f hb h
      refine Wp.exit ?_
      refine To.thenX ?_
      refine To.thenX ?_
      refine To.keep (kk := [3]) (kl := [1003]) (K' := [(3, .row 1003)]) (L' := [(1003, 5, [.rowc false (α := UInt8) 0 e8 v3])]) (by kernel_rfl) (by kernel_rfl) ?_
      cases h
      exact hQ
def ref06_Double (n : Nat) (a0 : List UInt8) : Option ((List UInt8)) :=
  (ref06_Double_l1 n a0 n ([34] : List (UInt8)) 0).bind fun o1 =>
  if (decide ((List.length o1 + List.length ([34] : List (UInt8))) * (1 + 1) ≤ limit)) = true then (some (o1 ++ ([34] : List (UInt8)))) else none
theorem ok_ref06_Double (n : Nat) (a0 : List UInt8) (r : (List UInt8)) (h : ref06_Double n a0 = some r) : CallsX Try.prog 9 [.str a0] (.str r) := by
  unfold ref06_Double at h
  refine callsX_of (fn := Try.f9) (by kernel_rfl) rfl (by kernel_rfl) (Nat.le_of_ble_eq_true (by kernel_rfl)) fun F0 w0 => ?_
  refine Wp.keep (kk := [0]) (kl := []) (K' := [(0, .str a0)]) (L' := []) (by kernel_rfl) (by kernel_rfl) ?_
  refine Wp.seq ?_
  refine Wp.region hΓ [] [] [0] [] (K' := [(0, .str a0)]) (L' := []) (ob := []) (by kernel_rfl) AllP.nil ?_
  refine To.thenN ?_
  refine Wp.seq ?_
  refine Wp.region hΓ [] [(0, .recs (α := UInt8) 0 e8 [34])] [0, 3] [6] (K' := [(0, .str a0), (3, .row 6)]) (L' := [(6, 5, [.rowc false (α := UInt8) 0 e8 [34]])]) (ob := [(MkOb 1 [.val (.int .u8 34)] 1 (.recs (α := UInt8) 0 e8 [34]) ∧ GoodR (.recs (α := UInt8) 0 e8 [34]))]) (by kernel_rfl) (AllP.cons (mkOb (All8.cells (ns := [34]) (.cons rfl .nil)) rfl rfl (good8 _)) AllP.nil) ?_
  refine To.thenN ?_
  refine Wp.seq ?_
  refine Wp.seq ?_
  refine Wp.region hΓ [] [] [0, 3, 4] [6] (K' := [(0, .str a0), (3, .row 6), (4, .val (.int .i64 0))]) (L' := [(6, 5, [.rowc false (α := UInt8) 0 e8 [34]])]) (ob := []) (by kernel_rfl) AllP.nil ?_
  refine To.thenN ?_
  refine Wp.block ?_
  obtain ⟨o1, ho1, h⟩ := bind_of h
  refine Wp.keep (kk := [0, 3, 4]) (kl := [6]) (K' := [(0, .str a0), (3, .row 6), (4, .val (.int .i64 0))]) (L' := [(6, 5, [.rowc false (α := UInt8) 0 e8 [34]])]) (by kernel_rfl) (by kernel_rfl) ?_
  refine Wp.pre (St.rename 6 1003 (K' := [(0, .str a0), (3, .row 1003), (4, .val (.int .i64 0))]) (L' := [(1003, 5, [.rowc false (α := UInt8) 0 e8 [34]])]) (by kernel_rfl) (by kernel_rfl) (by kernel_rfl)) ?_
  refine Wp.keep (kk := [0, 3, 4]) (kl := [1003]) (K' := [(0, .str a0), (3, .row 1003), (4, .val (.int .i64 0))]) (L' := [(1003, 5, [.rowc false (α := UInt8) 0 e8 [34]])]) (by kernel_rfl) (by kernel_rfl) ?_
  refine Wp.loopL ?_
  refine ok_ref06_Double_l1 n a0 n ([34] : List (UInt8)) 0 o1 ho1 ?_
  refine To.blockX ?_
  refine To.thenN ?_
  refine Wp.seq ?_
  obtain ⟨hc2, h⟩ := chk_of h
  refine Wp.region hΓ [] [(1, .recs (α := UInt8) 0 e8 [34]), (2, .recs (α := UInt8) 0 e8 (o1 ++ ([34] : List (UInt8))))] [3] [54] (K' := [(3, .row 54)]) (L' := [(54, 5, [.rowc false (α := UInt8) 0 e8 (o1 ++ ([34] : List (UInt8)))])]) (ob := [(MkOb 1 [.val (.int .u8 34)] 1 (.recs (α := UInt8) 0 e8 [34]) ∧ GoodR (.recs (α := UInt8) 0 e8 [34])), (decide ((List.length o1 + List.length ([34] : List (UInt8))) * (1 + 1) ≤ limit)) = true, (AppOb 0 e8 o1 (List.flatMap e8 ([34] : List (UInt8))) (List.length ([34] : List (UInt8))) (.recs (α := UInt8) 0 e8 (o1 ++ ([34] : List (UInt8)))) ∧ GoodR (.recs (α := UInt8) 0 e8 (o1 ++ ([34] : List (UInt8)))))]) (by kernel_rfl) (AllP.cons (mkOb (All8.cells (ns := [34]) (.cons rfl .nil)) rfl rfl (good8 _)) (AllP.cons hc2 (AllP.cons (appOb rfl rfl (good8 _)) AllP.nil))) ?_
  refine To.thenN ?_
  refine Wp.seq ?_
  refine Wp.region hΓ [] [(1, .str (o1 ++ ([34] : List (UInt8))))] [2] [] (K' := [(2, .str (o1 ++ ([34] : List (UInt8))))]) (L' := []) (ob := [(true = true → StrOb (List.flatMap e8 (o1 ++ ([34] : List (UInt8)))) (.str (o1 ++ ([34] : List (UInt8)))))]) (by kernel_rfl) (AllP.cons (fun _ => strOb (flat8 _)) AllP.nil) ?_
  refine To.thenN ?_
  refine Wp.ret ?_
  refine To.keep (kk := [2]) (kl := []) (K' := [(2, .str (o1 ++ ([34] : List (UInt8))))]) (L' := []) (by kernel_rfl) (by kernel_rfl) ?_
  cases h
  exact To.done hΓ (by kernel_rfl)
def ref06_one_l1 (n : Nat) (v0 : Int) (v1 : List UInt8) : Nat → Int → Option (Sum (Unit) (Bool))
  | 0, _ => none
  | k + 1, v5 => if (decide (v5 < (List.length v1 : Int))) = true then (if (decide (0 ≤ v5 ∧ v5 < (List.length v1 : Int))) = true then (if ((((v1)[Int.toNat v5]?.getD 0).toNat : Int) == v0) = true then (some (.inr true))
  else (ref06_one_l1 n v0 v1 k (IntKind.wrap .i64 (v5 + 1)))) else none)
  else (some (.inl ()))
theorem ok_ref06_one_l1 (n : Nat) (v0 : Int) (v1 : List UInt8) {F0 : Fz} {w0 : Pt} {Q : Exit → Act → World → Prop} (k : Nat) : ∀ (v5 : Int) (o : Sum (Unit) (Bool)), ref06_one_l1 n v0 v1 k v5 = some o → (Sum.elim (fun s => To 17 F0 w0 [] [] (.exit 0) Q) (fun s => To 17 F0 w0 [(4, .val (.bool s))] [] .ret Q)) o → WL Try.prog 17 F0 w0 [(0, .val (.int .u8 v0)), (1, .str v1), (5, .val (.int .i64 v5))] [] (cI (cI (cB (cA (cB (cF Try.f24)))))) Q := by
  induction k with
  | zero => intro v5 o h; cases h
  | succ k ih =>
    intro v5 o h hQ
    rw [ref06_one_l1] at h
    refine WL.round ?_
    refine Wp.seq ?_
    refine Wp.seq ?_
    refine Wp.region hΓ [] [] [0, 1, 5, 9] [] (K' := [(0, .val (.int .u8 v0)), (1, .str v1), (5, .val (.int .i64 v5)), (9, .val (.bool (decide (v5 < (List.length v1 : Int)))))]) (L' := []) (ob := []) (by kernel_rfl) AllP.nil ?_
    refine To.thenN ?_
    refine Wp.cond (b := (decide (v5 < (List.length v1 : Int)))) (by kernel_rfl) (fun hb => ?_) (fun hb => ?_)
    · replace h := if_t hb h
      refine Wp.skip ?_
      refine To.thenN ?_
      refine Wp.seq ?_
      refine Wp.block ?_
      refine Wp.seq ?_
      obtain ⟨hc1, h⟩ := chk_of h
      refine Wp.region hΓ [] [] [0, 1, 5, 16] [] (K' := [(0, .val (.int .u8 v0)), (1, .str v1), (5, .val (.int .i64 v5)), (16, .val (.bool ((((v1)[Int.toNat v5]?.getD 0).toNat : Int) == v0)))]) (L' := []) (ob := [(decide (0 ≤ v5 ∧ v5 < (List.length v1 : Int))) = true]) (by kernel_rfl) (AllP.cons hc1 AllP.nil) ?_
      refine To.thenN ?_
      refine Wp.cond (b := ((((v1)[Int.toNat v5]?.getD 0).toNat : Int) == v0)) (by kernel_rfl) (fun hb => ?_) (fun hb => ?_)
      · replace h := if_t hb h
        refine Wp.seq ?_
        refine Wp.region hΓ [] [] [4] [] (K' := [(4, .val (.bool true))]) (L' := []) (ob := []) (by kernel_rfl) AllP.nil ?_
        refine To.thenN ?_
        refine Wp.ret ?_
        refine To.blockR ?_
        refine To.thenR ?_
        refine To.thenR ?_
        refine To.keep (kk := [4]) (kl := []) (K' := [(4, .val (.bool true))]) (L' := []) (by kernel_rfl) (by kernel_rfl) ?_
        cases h
        exact hQ
      · replace h := if_f hb h
        refine Wp.skip ?_
        refine To.blockN ?_
        refine To.thenN ?_
        refine Wp.region hΓ [] [] [0, 1, 5] [] (K' := [(0, .val (.int .u8 v0)), (1, .str v1), (5, .val (.int .i64 (IntKind.wrap .i64 (v5 + 1))))]) (L' := []) (ob := []) (by kernel_rfl) AllP.nil ?_
        refine To.keep (kk := [0, 1, 5]) (kl := []) (K' := [(0, .val (.int .u8 v0)), (1, .str v1), (5, .val (.int .i64 (IntKind.wrap .i64 (v5 + 1))))]) (L' := []) (by kernel_rfl) (by kernel_rfl) ?_
        refine To.again ?_
        exact ih (IntKind.wrap .i64 (v5 + 1)) _ h hQ
    · replace h := if_f hb h
      refine Wp.exit ?_
      refine To.thenX ?_
      refine To.thenX ?_
      refine To.keep (kk := []) (kl := []) (K' := []) (L' := []) (by kernel_rfl) (by kernel_rfl) ?_
      cases h
      exact hQ
def ref06_one (n : Nat) (a0 : Int) (a1 : List UInt8) : Option (Bool) :=
  (ref06_one_l1 n a0 a1 n 0).bind fun o1 =>
  (Sum.elim (fun o1 => some false) (fun o1 => some o1)) o1
theorem ok_ref06_one (n : Nat) (a0 : Int) (a1 : List UInt8) (r : Bool) (h : ref06_one n a0 a1 = some r) : CallsX Try.prog 24 [.val (.int .u8 a0), .str a1] (.val (.bool r)) := by
  unfold ref06_one at h
  refine callsX_of (fn := Try.f24) (by kernel_rfl) rfl (by kernel_rfl) (Nat.le_of_ble_eq_true (by kernel_rfl)) fun F0 w0 => ?_
  refine Wp.keep (kk := [0, 1]) (kl := []) (K' := [(0, .val (.int .u8 a0)), (1, .str a1)]) (L' := []) (by kernel_rfl) (by kernel_rfl) ?_
  refine Wp.seq ?_
  refine Wp.region hΓ [] [] [0, 1] [] (K' := [(0, .val (.int .u8 a0)), (1, .str a1)]) (L' := []) (ob := []) (by kernel_rfl) AllP.nil ?_
  refine To.thenN ?_
  refine Wp.seq ?_
  refine Wp.seq ?_
  refine Wp.region hΓ [] [] [0, 1, 5] [] (K' := [(0, .val (.int .u8 a0)), (1, .str a1), (5, .val (.int .i64 0))]) (L' := []) (ob := []) (by kernel_rfl) AllP.nil ?_
  refine To.thenN ?_
  refine Wp.block ?_
  obtain ⟨o1, ho1, h⟩ := bind_of h
  refine Wp.keep (kk := [0, 1, 5]) (kl := []) (K' := [(0, .val (.int .u8 a0)), (1, .str a1), (5, .val (.int .i64 0))]) (L' := []) (by kernel_rfl) (by kernel_rfl) ?_
  refine Wp.loopL ?_
  refine ok_ref06_one_l1 n a0 a1 n 0 o1 ho1 ?_
  rcases o1 with o1 | o1
  · replace h := sum_l h
    refine To.blockX ?_
    refine To.thenN ?_
    refine Wp.seq ?_
    refine Wp.region hΓ [] [] [4] [] (K' := [(4, .val (.bool false))]) (L' := []) (ob := []) (by kernel_rfl) AllP.nil ?_
    refine To.thenN ?_
    refine Wp.ret ?_
    refine To.keep (kk := [4]) (kl := []) (K' := [(4, .val (.bool false))]) (L' := []) (by kernel_rfl) (by kernel_rfl) ?_
    cases h
    exact To.done hΓ (by kernel_rfl)
  · replace h := sum_r h
    refine To.blockR ?_
    refine To.thenR ?_
    refine To.keep (kk := [4]) (kl := []) (K' := [(4, .val (.bool o1))]) (L' := []) (by kernel_rfl) (by kernel_rfl) ?_
    cases h
    exact To.done hΓ (by kernel_rfl)
def ref06_Plain_l1 (n : Nat) (v0 : List UInt8) (v3 : Int) : Nat → Int → Option (Sum (Unit) (Bool))
  | 0, _ => none
  | k + 1, v4 => if (decide (v4 < v3)) = true then (if (decide (0 ≤ v4 ∧ v4 < (List.length v0 : Int))) = true then (if (!(ref06_Good (((v0)[Int.toNat v4]?.getD 0).toNat : Int))) = true then (some (.inr false))
  else (if (decide (0 ≤ v4 ∧ v4 < (List.length v0 : Int))) = true then (if ((!(((v4 == (IntKind.wrap .i64 (v3 - 1))) == false) && (((((v0)[Int.toNat v4]?.getD 0).toNat : Int) == 58) == true)) || decide (0 ≤ (IntKind.wrap .i64 (v4 + 1)) ∧ (IntKind.wrap .i64 (v4 + 1)) < (List.length v0 : Int)))) = true then (lett ((bif ((((v0)[Int.toNat v4]?.getD 0).toNat : Int) == 58) then (bif (v4 == (IntKind.wrap .i64 (v3 - 1))) then true else ((((v0)[Int.toNat (IntKind.wrap .i64 (v4 + 1))]?.getD 0).toNat : Int) == 32)) else false) : Bool) fun x4 =>
  if x4 = true then (some (.inr false))
  else (if (decide (0 ≤ v4 ∧ v4 < (List.length v0 : Int))) = true then (if ((!((bif ((((v0)[Int.toNat v4]?.getD 0).toNat : Int) == 35) then (decide (v4 > 0)) else false) == true) || decide (0 ≤ (IntKind.wrap .i64 (v4 - 1)) ∧ (IntKind.wrap .i64 (v4 - 1)) < (List.length v0 : Int)))) = true then (lett ((bif (bif ((((v0)[Int.toNat v4]?.getD 0).toNat : Int) == 35) then (decide (v4 > 0)) else false) then ((((v0)[Int.toNat (IntKind.wrap .i64 (v4 - 1))]?.getD 0).toNat : Int) == 32) else false) : Bool) fun x5 =>
  if x5 = true then (some (.inr false))
  else (ref06_Plain_l1 n v0 v3 k (IntKind.wrap .i64 (v4 + 1)))) else none) else none)) else none) else none)) else none)
  else (some (.inl ()))
end Go.Proofs.Ythhoedkeggiflaa.M