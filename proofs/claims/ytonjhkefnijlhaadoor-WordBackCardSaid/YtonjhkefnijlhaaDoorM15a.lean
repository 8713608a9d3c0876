/-
  Printed by wip/tools/gen.py: models and walks of functions.
-/
import Derived.Test.YtonjhkefnijlhaaDoorRxArgs
import Derived.Test.YtonjhkefnijlhaaDoorRxGoto
import Derived.Test.YtonjhkefnijlhaaDoorSh16
import Derived.Test.YtonjhkefnijlhaaDoorProg
namespace Go.Proofs.YtonjhkefnijlhaaDoor.M
open Go.RowKit Go.Proofs.YtonjhkefnijlhaaDoor.RX
set_option maxRecDepth 100000
def tab : List (Nat × TI) := [
  (4, { agg := false, size := 1, zero := [.bool false], kind := .bool, eqs := [] }),
  (9, { agg := false, size := 1, zero := [.string ⟨#[]⟩], kind := .str, eqs := [] }),
  (31, { agg := false, size := 1, zero := [.slice none 0 0], kind := .slice 1 false, elt := 9, eb := 16, ez := [.string ⟨#[]⟩], ek := none, eqs := [] }),
  (54, { agg := false, size := 1, zero := [.slice none 0 0], kind := .slice 1 false, elt := 5, eb := 1, ez := [.int .u8 0], ek := some .u8, eqs := [] })]
theorem tabOK : TabOK Tryd.prog tab := ⟨⟨by kernel_rfl, fun h => absurd rfl h⟩, ⟨by kernel_rfl, fun h => absurd rfl h⟩, ⟨by kernel_rfl, fun h => absurd rfl h⟩, ⟨by kernel_rfl, fun h => absurd rfl h⟩, trivial⟩
theorem hΓ : ΓOK Tryd.prog (tabΓ tab) := ΓOK.of tabOK
theorem hm : Tryd.prog.follows .mixedOrders = true := by kernel_rfl
def E_u8 : Int → List D := fun x => [.val (.int .u8 x)]
def E_string : List UInt8 → List D := fun x => [.str x]
def word_blank (a0 : Int) : Bool :=
  (bif (a0 == 32) then true else (a0 == 9))
theorem ok_word_blank (a0 : Int) (r : Bool) (h : word_blank a0 = r) : CallsX Tryd.prog 41 [.val (.int .u8 a0)] (.val (.bool r)) := by
  unfold word_blank at h
  refine callsX_of (fn := Tryd.f41) (by kernel_rfl) rfl (by kernel_rfl) (Nat.le_of_ble_eq_true (by kernel_rfl)) fun F0 w0 _ => ?_
  refine Wp.keep (kk := [0]) (kl := []) (K' := [(0, .val (.int .u8 a0))]) (L' := []) (by kernel_rfl) (by kernel_rfl) ?_
  refine Wp.seq ?_
  refine Wp.region hΓ [] [] [] [0] [] (K' := [(0, .val (.int .u8 a0))]) (L' := []) (ob := []) (by kernel_rfl) AllP.nil ?_
  refine To.thenN ?_
  refine Wp.seq ?_
  refine Wp.region hΓ [] [] [] [2] [] (K' := [(2, .val (.bool (bif (a0 == 32) then true else (a0 == 9))))]) (L' := []) (ob := []) (by kernel_rfl) AllP.nil ?_
  refine To.thenN ?_
  refine Wp.ret ?_
  refine To.keep (kk := [2]) (kl := []) (K' := [(2, .val (.bool (bif (a0 == 32) then true else (a0 == 9))))]) (L' := []) (by kernel_rfl) (by kernel_rfl) ?_
  cases h
  exact To.done hΓ (by kernel_rfl)
theorem good_E_string (l : List (List UInt8)) : GoodR (.recs [] E_string l) := ⟨Nat.le_of_ble_eq_true (by kernel_rfl), fun _ => ⟨rfl, rfl⟩⟩
def word_Split_j3 (n : Nat) (v0 : List UInt8) (v6 : Int) (v7 : Bool) (v19 : Bool) : Option ((List (List UInt8)) × Bool) :=
  if v19 = true then (if (decide (List.length ([[]] : List (List UInt8)) * (16 + 1) ≤ limit)) = true then (some (([[]] : List (List UInt8)), false)) else none)
  else (some (([] : List (List UInt8)), v7))
theorem ok_word_Split_j3 (n : Nat) (v0 : List UInt8) (v6 : Int) (v7 : Bool) (v19 : Bool) (o : (List (List UInt8)) × Bool) (h : word_Split_j3 n v0 v6 v7 v19 = some o) {F0 : Fz} {w0 : Pt Tryd.prog} {Q : Exit → Act → World → Prop} (hQ : To 141 F0 w0 [(0, .str v0), (4, .row 1004), (5, .val (.slice none 0 0)), (6, .val (.int .i64 v6)), (7, .val (.bool o.2))] [(1004, 9, [.rowc false (α := List UInt8) [] E_string o.1])] .normal Q) : Wp Tryd.prog 141 F0 w0 [(0, .str v0), (4, .val (.slice none 0 0)), (5, .val (.slice none 0 0)), (6, .val (.int .i64 v6)), (7, .val (.bool v7)), (19, .val (.bool v19))] [] (cB (cA (cT (cB (cE (cB (cI (cA (cB (cB (cB (cB (cI (cB (cF Tryd.f17))))))))))))))) Q := by
  unfold word_Split_j3 at h
  refine Wp.cond (b := v19) (by kernel_rfl) (fun hb => ?_) (fun hb => ?_)
  · replace h := if_t hb h
    obtain ⟨hc1, h⟩ := chk_of h
    refine Wp.region hΓ [] [(3, .recs (α := List UInt8) [] E_string ([[]])), (4, .recs (α := List UInt8) [] E_string ([[]] : List (List UInt8)))] [] [0, 4, 5, 6, 7] [24] (K' := [(0, .str v0), (4, .row 24), (5, .val (.slice none 0 0)), (6, .val (.int .i64 v6)), (7, .val (.bool false))]) (L' := [(24, 9, [.rowc false (α := List UInt8) [] E_string ([[]] : List (List UInt8))])]) (ob := [(MkOb 1 [.str []] 1 (.recs (α := List UInt8) [] E_string ([[]])) ∧ GoodR (.recs (α := List UInt8) [] E_string ([[]]))), (decide (List.length ([[]] : List (List UInt8)) * (16 + 1) ≤ limit)) = true, (MkOb 1 (List.flatMap E_string ([[]] : List (List UInt8))) (List.length ([[]] : List (List UInt8))) (.recs (α := List UInt8) [] E_string ([[]] : List (List UInt8))) ∧ GoodR (.recs (α := List UInt8) [] E_string ([[]] : List (List UInt8))))]) (by kernel_rfl) (AllP.cons (mkOb (by kernel_rfl) rfl (by kernel_rfl) (good_E_string _)) (AllP.cons hc1 (AllP.cons (mkOb rfl rfl rfl (good_E_string _)) AllP.nil))) ?_
    refine To.keep (kk := [0, 4, 5, 6, 7]) (kl := [24]) (K' := [(0, .str v0), (4, .row 24), (5, .val (.slice none 0 0)), (6, .val (.int .i64 v6)), (7, .val (.bool false))]) (L' := [(24, 9, [.rowc false (α := List UInt8) [] E_string ([[]] : List (List UInt8))])]) (by kernel_rfl) (by kernel_rfl) ?_
    refine To.pre (St.rename 24 1004 (by decide) (K' := [(0, .str v0), (4, .row 1004), (5, .val (.slice none 0 0)), (6, .val (.int .i64 v6)), (7, .val (.bool false))]) (L' := [(1004, 9, [.rowc false (α := List UInt8) [] E_string ([[]] : List (List UInt8))])]) (by kernel_rfl) (by kernel_rfl) (by kernel_rfl)) ?_
    refine To.keep (kk := [0, 4, 5, 6, 7]) (kl := [1004]) (K' := [(0, .str v0), (4, .row 1004), (5, .val (.slice none 0 0)), (6, .val (.int .i64 v6)), (7, .val (.bool false))]) (L' := [(1004, 9, [.rowc false (α := List UInt8) [] E_string ([[]] : List (List UInt8))])]) (by kernel_rfl) (by kernel_rfl) ?_
    cases h
    exact hQ
  · replace h := if_f hb h
    refine Wp.skip ?_
    refine To.keep (kk := [0, 4, 5, 6, 7]) (kl := []) (K' := [(0, .str v0), (4, .val (.slice none 0 0)), (5, .val (.slice none 0 0)), (6, .val (.int .i64 v6)), (7, .val (.bool v7))]) (L' := []) (by kernel_rfl) (by kernel_rfl) ?_
    refine To.pre (St.vacant (t := 4) (k := 1004) (e := 9) (K' := [(0, .str v0), (4, .row 1004), (5, .val (.slice none 0 0)), (6, .val (.int .i64 v6)), (7, .val (.bool v7))]) (good_E_string _) (by decide) (by kernel_rfl) (by kernel_rfl)) ?_
    refine To.keep (kk := [0, 4, 5, 6, 7]) (kl := [1004]) (K' := [(0, .str v0), (4, .row 1004), (5, .val (.slice none 0 0)), (6, .val (.int .i64 v6)), (7, .val (.bool v7))]) (L' := [(1004, 9, [.rowc false (α := List UInt8) [] E_string []])]) (by kernel_rfl) (by kernel_rfl) ?_
    cases h
    exact hQ
def word_Split_j2 (n : Nat) (v0 : List UInt8) (v6 : Int) (v7 : Bool) : Option (Sum (Int) (Sum (Bool) (Sum ((List (List UInt8)) × Int × Bool) (Sum (Int × Bool) (Sum (Int × Bool) (Int)))))) :=
  if (v6 == (List.length v0 : Int)) = true then (some (.inr (.inl v7)))
  else (if (decide (0 ≤ v6 ∧ v6 < (List.length v0 : Int))) = true then (if (word_blank (((v0)[Int.toNat v6]?.getD 0).toNat : Int)) = true then ((word_Split_j3 n v0 v6 v7 v7).bind fun o1 =>
  some (.inr (.inr (.inl (o1.1, (IntKind.wrap .i64 (v6 + 1)), o1.2)))))
  else (if (decide (0 ≤ v6 ∧ v6 < (List.length v0 : Int))) = true then (if ((((v0)[Int.toNat v6]?.getD 0).toNat : Int) == 39) = true then (some (.inr (.inr (.inr (.inl ((IntKind.wrap .i64 (v6 + 1)), true))))))
  else (if (decide (0 ≤ v6 ∧ v6 < (List.length v0 : Int))) = true then (if ((((v0)[Int.toNat v6]?.getD 0).toNat : Int) == 34) = true then (some (.inr (.inr (.inr (.inr (.inl ((IntKind.wrap .i64 (v6 + 1)), true)))))))
  else (if (decide (0 ≤ v6 ∧ v6 < (List.length v0 : Int))) = true then (if ((((v0)[Int.toNat v6]?.getD 0).toNat : Int) == 92) = true then (if ((IntKind.wrap .i64 (v6 + 1)) == (List.length v0 : Int)) = true then (some (.inr (.inr (.inr (.inr (.inr 3))))))
  else (some (.inl (IntKind.wrap .i64 (v6 + 1)))))
  else (some (.inl v6))) else none)) else none)) else none)) else none)
theorem ok_word_Split_j2 (n : Nat) (v0 : List UInt8) (v6 : Int) (v7 : Bool) (o : Sum (Int) (Sum (Bool) (Sum ((List (List UInt8)) × Int × Bool) (Sum (Int × Bool) (Sum (Int × Bool) (Int)))))) (h : word_Split_j2 n v0 v6 v7 = some o) {F0 : Fz} {w0 : Pt Tryd.prog} {Q : Exit → Act → World → Prop} (hQ : (Sum.elim (fun s => To 141 F0 w0 [(0, .str v0), (4, .val (.slice none 0 0)), (5, .val (.slice none 0 0)), (6, .val (.int .i64 s))] [] .normal Q) (Sum.elim (fun s => To 141 F0 w0 [(4, .val (.slice none 0 0)), (5, .val (.slice none 0 0)), (7, .val (.bool s))] [] (.goto 0) Q) (Sum.elim (fun s => To 141 F0 w0 [(0, .str v0), (4, .row 1004), (5, .val (.slice none 0 0)), (6, .val (.int .i64 s.2.1)), (7, .val (.bool s.2.2))] [(1004, 9, [.rowc false (α := List UInt8) [] E_string s.1])] (.goto 1) Q) (Sum.elim (fun s => To 141 F0 w0 [(0, .str v0), (4, .val (.slice none 0 0)), (5, .val (.slice none 0 0)), (6, .val (.int .i64 s.1)), (7, .val (.bool s.2))] [] (.goto 2) Q) (Sum.elim (fun s => To 141 F0 w0 [(0, .str v0), (4, .val (.slice none 0 0)), (5, .val (.slice none 0 0)), (6, .val (.int .i64 s.1)), (7, .val (.bool s.2))] [] (.goto 3) Q) (fun s => To 141 F0 w0 [(2, .val (.slice none 0 0)), (3, .val (.int .i64 s))] [] .ret Q)))))) o) : Wp Tryd.prog 141 F0 w0 [(0, .str v0), (4, .val (.slice none 0 0)), (5, .val (.slice none 0 0)), (6, .val (.int .i64 v6)), (7, .val (.bool v7))] [] (cA (cB (cB (cB (cB (cI (cB (cF Tryd.f17)))))))) Q := by
  unfold word_Split_j2 at h
  refine Wp.block ?_
  refine Wp.seq ?_
  refine Wp.region hΓ [] [] [] [0, 4, 5, 6, 7, 9] [] (K' := [(0, .str v0), (4, .val (.slice none 0 0)), (5, .val (.slice none 0 0)), (6, .val (.int .i64 v6)), (7, .val (.bool v7)), (9, .val (.bool (v6 == (List.length v0 : Int))))]) (L' := []) (ob := []) (by kernel_rfl) AllP.nil ?_
  refine To.thenN ?_
  refine Wp.cond (b := (v6 == (List.length v0 : Int))) (by kernel_rfl) (fun hb => ?_) (fun hb => ?_)
  · replace h := if_t hb h
    refine Wp.goto ?_
    refine To.blockG ?_
    refine To.keep (kk := [4, 5, 7]) (kl := []) (K' := [(4, .val (.slice none 0 0)), (5, .val (.slice none 0 0)), (7, .val (.bool v7))]) (L' := []) (by kernel_rfl) (by kernel_rfl) ?_
    cases h
    exact hQ
  · replace h := if_f hb h
    refine Wp.seq ?_
    obtain ⟨hc5, h⟩ := chk_of h
    refine Wp.region hΓ [] [(3, .val (.bool (word_blank (((v0)[Int.toNat v6]?.getD 0).toNat : Int))))] [] [0, 4, 5, 6, 7, 14] [] (K' := [(0, .str v0), (4, .val (.slice none 0 0)), (5, .val (.slice none 0 0)), (6, .val (.int .i64 v6)), (7, .val (.bool v7)), (14, .val (.bool (word_blank (((v0)[Int.toNat v6]?.getD 0).toNat : Int))))]) (L' := []) (ob := [(decide (0 ≤ v6 ∧ v6 < (List.length v0 : Int))) = true, (true = true → CX Tryd.prog 41 [.val (.int .u8 (((v0)[Int.toNat v6]?.getD 0).toNat : Int))] (.val (.bool (word_blank (((v0)[Int.toNat v6]?.getD 0).toNat : Int)))))]) (by kernel_rfl) (AllP.cons hc5 (AllP.cons (fun _ => cx (ok_word_blank (((v0)[Int.toNat v6]?.getD 0).toNat : Int) _ rfl)) AllP.nil)) ?_
    refine To.thenN ?_
    refine Wp.cond (b := (word_blank (((v0)[Int.toNat v6]?.getD 0).toNat : Int))) (by kernel_rfl) (fun hb => ?_) (fun hb => ?_)
    · replace h := if_t hb h
      refine Wp.seq ?_
      refine Wp.seq ?_
      refine Wp.region hΓ [] [] [] [0, 4, 5, 6, 7, 19] [] (K' := [(0, .str v0), (4, .val (.slice none 0 0)), (5, .val (.slice none 0 0)), (6, .val (.int .i64 v6)), (7, .val (.bool v7)), (19, .val (.bool v7))]) (L' := []) (ob := []) (by kernel_rfl) AllP.nil ?_
      refine To.thenN ?_
      obtain ⟨o1, ho1, h⟩ := bind_of h
      refine Wp.keep (kk := [0, 4, 5, 6, 7, 19]) (kl := []) (K' := [(0, .str v0), (4, .val (.slice none 0 0)), (5, .val (.slice none 0 0)), (6, .val (.int .i64 v6)), (7, .val (.bool v7)), (19, .val (.bool v7))]) (L' := []) (by kernel_rfl) (by kernel_rfl) ?_
      refine ok_word_Split_j3 n v0 v6 v7 v7 o1 ho1 ?_
      refine To.thenN ?_
      refine Wp.seq ?_
      refine Wp.region hΓ [] [] [] [0, 4, 5, 6, 7] [1004] (K' := [(0, .str v0), (4, .row 1004), (5, .val (.slice none 0 0)), (6, .val (.int .i64 (IntKind.wrap .i64 (v6 + 1)))), (7, .val (.bool o1.2))]) (L' := [(1004, 9, [.rowc false (α := List UInt8) [] E_string o1.1])]) (ob := []) (by kernel_rfl) AllP.nil ?_
      refine To.thenN ?_
      refine Wp.goto ?_
      refine To.blockG ?_
      refine To.keep (kk := [0, 4, 5, 6, 7]) (kl := [1004]) (K' := [(0, .str v0), (4, .row 1004), (5, .val (.slice none 0 0)), (6, .val (.int .i64 (IntKind.wrap .i64 (v6 + 1)))), (7, .val (.bool o1.2))]) (L' := [(1004, 9, [.rowc false (α := List UInt8) [] E_string o1.1])]) (by kernel_rfl) (by kernel_rfl) ?_
      cases h
      exact hQ
    · replace h := if_f hb h
      refine Wp.seq ?_
      obtain ⟨hc4, h⟩ := chk_of h
      refine Wp.region hΓ [] [] [] [0, 4, 5, 6, 27] [] (K' := [(0, .str v0), (4, .val (.slice none 0 0)), (5, .val (.slice none 0 0)), (6, .val (.int .i64 v6)), (27, .val (.bool ((((v0)[Int.toNat v6]?.getD 0).toNat : Int) == 39)))]) (L' := []) (ob := [(decide (0 ≤ v6 ∧ v6 < (List.length v0 : Int))) = true]) (by kernel_rfl) (AllP.cons hc4 AllP.nil) ?_
      refine To.thenN ?_
      refine Wp.cond (b := ((((v0)[Int.toNat v6]?.getD 0).toNat : Int) == 39)) (by kernel_rfl) (fun hb => ?_) (fun hb => ?_)
      · replace h := if_t hb h
        refine Wp.seq ?_
        refine Wp.region hΓ [] [] [] [0, 4, 5, 6, 7] [] (K' := [(0, .str v0), (4, .val (.slice none 0 0)), (5, .val (.slice none 0 0)), (6, .val (.int .i64 v6)), (7, .val (.bool true))]) (L' := []) (ob := []) (by kernel_rfl) AllP.nil ?_
        refine To.thenN ?_
        refine Wp.seq ?_
        refine Wp.region hΓ [] [] [] [0, 4, 5, 6, 7] [] (K' := [(0, .str v0), (4, .val (.slice none 0 0)), (5, .val (.slice none 0 0)), (6, .val (.int .i64 (IntKind.wrap .i64 (v6 + 1)))), (7, .val (.bool true))]) (L' := []) (ob := []) (by kernel_rfl) AllP.nil ?_
        refine To.thenN ?_
        refine Wp.goto ?_
        refine To.blockG ?_
        refine To.keep (kk := [0, 4, 5, 6, 7]) (kl := []) (K' := [(0, .str v0), (4, .val (.slice none 0 0)), (5, .val (.slice none 0 0)), (6, .val (.int .i64 (IntKind.wrap .i64 (v6 + 1)))), (7, .val (.bool true))]) (L' := []) (by kernel_rfl) (by kernel_rfl) ?_
        cases h
        exact hQ
      · replace h := if_f hb h
        refine Wp.seq ?_
        obtain ⟨hc3, h⟩ := chk_of h
        refine Wp.region hΓ [] [] [] [0, 4, 5, 6, 34] [] (K' := [(0, .str v0), (4, .val (.slice none 0 0)), (5, .val (.slice none 0 0)), (6, .val (.int .i64 v6)), (34, .val (.bool ((((v0)[Int.toNat v6]?.getD 0).toNat : Int) == 34)))]) (L' := []) (ob := [(decide (0 ≤ v6 ∧ v6 < (List.length v0 : Int))) = true]) (by kernel_rfl) (AllP.cons hc3 AllP.nil) ?_
        refine To.thenN ?_
        refine Wp.cond (b := ((((v0)[Int.toNat v6]?.getD 0).toNat : Int) == 34)) (by kernel_rfl) (fun hb => ?_) (fun hb => ?_)
        · replace h := if_t hb h
          refine Wp.seq ?_
          refine Wp.region hΓ [] [] [] [0, 4, 5, 6, 7] [] (K' := [(0, .str v0), (4, .val (.slice none 0 0)), (5, .val (.slice none 0 0)), (6, .val (.int .i64 v6)), (7, .val (.bool true))]) (L' := []) (ob := []) (by kernel_rfl) AllP.nil ?_
          refine To.thenN ?_
          refine Wp.seq ?_
          refine Wp.region hΓ [] [] [] [0, 4, 5, 6, 7] [] (K' := [(0, .str v0), (4, .val (.slice none 0 0)), (5, .val (.slice none 0 0)), (6, .val (.int .i64 (IntKind.wrap .i64 (v6 + 1)))), (7, .val (.bool true))]) (L' := []) (ob := []) (by kernel_rfl) AllP.nil ?_
          refine To.thenN ?_
          refine Wp.goto ?_
          refine To.blockG ?_
          refine To.keep (kk := [0, 4, 5, 6, 7]) (kl := []) (K' := [(0, .str v0), (4, .val (.slice none 0 0)), (5, .val (.slice none 0 0)), (6, .val (.int .i64 (IntKind.wrap .i64 (v6 + 1)))), (7, .val (.bool true))]) (L' := []) (by kernel_rfl) (by kernel_rfl) ?_
          cases h
          exact hQ
        · replace h := if_f hb h
          refine Wp.seq ?_
          obtain ⟨hc2, h⟩ := chk_of h
          refine Wp.region hΓ [] [] [] [0, 4, 5, 6, 41] [] (K' := [(0, .str v0), (4, .val (.slice none 0 0)), (5, .val (.slice none 0 0)), (6, .val (.int .i64 v6)), (41, .val (.bool ((((v0)[Int.toNat v6]?.getD 0).toNat : Int) == 92)))]) (L' := []) (ob := [(decide (0 ≤ v6 ∧ v6 < (List.length v0 : Int))) = true]) (by kernel_rfl) (AllP.cons hc2 AllP.nil) ?_
          refine To.thenN ?_
          refine Wp.cond (b := ((((v0)[Int.toNat v6]?.getD 0).toNat : Int) == 92)) (by kernel_rfl) (fun hb => ?_) (fun hb => ?_)
          · replace h := if_t hb h
            refine Wp.seq ?_
            refine Wp.region hΓ [] [] [] [0, 4, 5, 6] [] (K' := [(0, .str v0), (4, .val (.slice none 0 0)), (5, .val (.slice none 0 0)), (6, .val (.int .i64 (IntKind.wrap .i64 (v6 + 1))))]) (L' := []) (ob := []) (by kernel_rfl) AllP.nil ?_
            refine To.thenN ?_
            refine Wp.seq ?_
            refine Wp.region hΓ [] [] [] [0, 4, 5, 6, 51] [] (K' := [(0, .str v0), (4, .val (.slice none 0 0)), (5, .val (.slice none 0 0)), (6, .val (.int .i64 (IntKind.wrap .i64 (v6 + 1)))), (51, .val (.bool ((IntKind.wrap .i64 (v6 + 1)) == (List.length v0 : Int))))]) (L' := []) (ob := []) (by kernel_rfl) AllP.nil ?_
            refine To.thenN ?_
            refine Wp.cond (b := ((IntKind.wrap .i64 (v6 + 1)) == (List.length v0 : Int))) (by kernel_rfl) (fun hb => ?_) (fun hb => ?_)
            · replace h := if_t hb h
              refine Wp.seq ?_
              refine Wp.region hΓ [] [] [] [2, 3] [] (K' := [(2, .val (.slice none 0 0)), (3, .val (.int .i64 3))]) (L' := []) (ob := []) (by kernel_rfl) AllP.nil ?_
              refine To.thenN ?_
              refine Wp.ret ?_
              refine To.blockR ?_
              refine To.keep (kk := [2, 3]) (kl := []) (K' := [(2, .val (.slice none 0 0)), (3, .val (.int .i64 3))]) (L' := []) (by kernel_rfl) (by kernel_rfl) ?_
              cases h
              exact hQ
            · replace h := if_f hb h
              refine Wp.skip ?_
              refine To.blockN ?_
              refine To.keep (kk := [0, 4, 5, 6]) (kl := []) (K' := [(0, .str v0), (4, .val (.slice none 0 0)), (5, .val (.slice none 0 0)), (6, .val (.int .i64 (IntKind.wrap .i64 (v6 + 1))))]) (L' := []) (by kernel_rfl) (by kernel_rfl) ?_
              cases h
              exact hQ
          · replace h := if_f hb h
            refine Wp.skip ?_
            refine To.blockN ?_
            refine To.keep (kk := [0, 4, 5, 6]) (kl := []) (K' := [(0, .str v0), (4, .val (.slice none 0 0)), (5, .val (.slice none 0 0)), (6, .val (.int .i64 v6))]) (L' := []) (by kernel_rfl) (by kernel_rfl) ?_
            cases h
            exact hQ
def word_Split_j4 (n : Nat) (v4 : List (List UInt8)) (v5 : List (UInt8)) (v131 : Bool) : Option ((List (List UInt8))) :=
  if v131 = true then (if (decide ((List.length v4 + List.length ([v5] : List (List UInt8))) * (16 + 1) ≤ limit)) = true then (some (v4 ++ ([v5] : List (List UInt8)))) else none)
  else some v4
theorem ok_word_Split_j4 (n : Nat) (v4 : List (List UInt8)) (v5 : List (UInt8)) (v131 : Bool) (o : (List (List UInt8))) (h : word_Split_j4 n v4 v5 v131 = some o) {F0 : Fz} {w0 : Pt Tryd.prog} {Q : Exit → Act → World → Prop} (hQ : To 141 F0 w0 [(4, .row 1004)] [(1004, 9, [.rowc false (α := List UInt8) [] E_string o])] .normal Q) : Wp Tryd.prog 141 F0 w0 [(4, .row 1004), (5, .row 1005), (131, .val (.bool v131))] [(1004, 9, [.rowc false (α := List UInt8) [] E_string v4]), (1005, 5, [.rowc false (α := UInt8) 0 e8 v5])] (cB (cA (cB (cB (cB (cB (cB (cB (cB (cB (cB (cB (cB (cB (cB (cB (cB (cB (cB (cI (cB (cF Tryd.f17)))))))))))))))))))))) Q := by
  unfold word_Split_j4 at h
  refine Wp.cond (b := v131) (by kernel_rfl) (fun hb => ?_) (fun hb => ?_)
  · replace h := if_t hb h
    obtain ⟨hc1, h⟩ := chk_of h
    refine Wp.region hΓ [] [(2, .str v5), (3, .recs (α := List UInt8) [] E_string [v5]), (4, .recs (α := List UInt8) [] E_string (v4 ++ ([v5] : List (List UInt8))))] [] [4] [136] (K' := [(4, .row 136)]) (L' := [(136, 9, [.rowc false (α := List UInt8) [] E_string (v4 ++ ([v5] : List (List UInt8)))])]) (ob := [(true = true → StrOb (List.flatMap e8 v5) (.str v5)), (MkOb 1 [.str v5] 1 (.recs (α := List UInt8) [] E_string [v5]) ∧ GoodR (.recs (α := List UInt8) [] E_string [v5])), (decide ((List.length v4 + List.length ([v5] : List (List UInt8))) * (16 + 1) ≤ limit)) = true, (AppOb [] E_string v4 (List.flatMap E_string ([v5] : List (List UInt8))) (List.length ([v5] : List (List UInt8))) (.recs (α := List UInt8) [] E_string (v4 ++ ([v5] : List (List UInt8)))) ∧ GoodR (.recs (α := List UInt8) [] E_string (v4 ++ ([v5] : List (List UInt8)))))]) (by kernel_rfl) (AllP.cons (fun _ => strOb (flat8 _)) (AllP.cons (mkOb (by kernel_rfl) rfl (by kernel_rfl) (good_E_string _)) (AllP.cons hc1 (AllP.cons (appOb rfl rfl (good_E_string _)) AllP.nil)))) ?_
    refine To.keep (kk := [4]) (kl := [136]) (K' := [(4, .row 136)]) (L' := [(136, 9, [.rowc false (α := List UInt8) [] E_string (v4 ++ ([v5] : List (List UInt8)))])]) (by kernel_rfl) (by kernel_rfl) ?_
    refine To.pre (St.rename 136 1004 (by decide) (K' := [(4, .row 1004)]) (L' := [(1004, 9, [.rowc false (α := List UInt8) [] E_string (v4 ++ ([v5] : List (List UInt8)))])]) (by kernel_rfl) (by kernel_rfl) (by kernel_rfl)) ?_
    refine To.keep (kk := [4]) (kl := [1004]) (K' := [(4, .row 1004)]) (L' := [(1004, 9, [.rowc false (α := List UInt8) [] E_string (v4 ++ ([v5] : List (List UInt8)))])]) (by kernel_rfl) (by kernel_rfl) ?_
    cases h
    exact hQ
  · replace h := if_f hb h
    refine Wp.skip ?_
    refine To.keep (kk := [4]) (kl := [1004]) (K' := [(4, .row 1004)]) (L' := [(1004, 9, [.rowc false (α := List UInt8) [] E_string v4])]) (by kernel_rfl) (by kernel_rfl) ?_
    cases h
    exact hQ
def word_Split_j6 (n : Nat) (v0 : List UInt8) (v4 : List (List UInt8)) (v5 : List (UInt8)) (v6 : Int) (v7 : Bool) (v19 : Bool) : Option ((List (List UInt8)) × (List (UInt8)) × Bool) :=
  if v19 = true then (if (decide ((List.length v4 + List.length ([v5] : List (List UInt8))) * (16 + 1) ≤ limit)) = true then (some ((v4 ++ ([v5] : List (List UInt8))), ([] : List (UInt8)), false)) else none)
  else (some (v4, v5, v7))
theorem ok_word_Split_j6 (n : Nat) (v0 : List UInt8) (v4 : List (List UInt8)) (v5 : List (UInt8)) (v6 : Int) (v7 : Bool) (v19 : Bool) (o : (List (List UInt8)) × (List (UInt8)) × Bool) (h : word_Split_j6 n v0 v4 v5 v6 v7 v19 = some o) {F0 : Fz} {w0 : Pt Tryd.prog} {Q : Exit → Act → World → Prop} (hQ : To 141 F0 w0 [(0, .str v0), (4, .row 1004), (5, .row 1005), (6, .val (.int .i64 v6)), (7, .val (.bool o.2.2))] [(1004, 9, [.rowc false (α := List UInt8) [] E_string o.1]), (1005, 5, [.rowc false (α := UInt8) 0 e8 o.2.1])] .normal Q) : Wp Tryd.prog 141 F0 w0 [(0, .str v0), (4, .row 1004), (5, .row 1005), (6, .val (.int .i64 v6)), (7, .val (.bool v7)), (19, .val (.bool v19))] [(1004, 9, [.rowc false (α := List UInt8) [] E_string v4]), (1005, 5, [.rowc false (α := UInt8) 0 e8 v5])] (cB (cA (cT (cB (cE (cB (cI (cA (cB (cB (cB (cB (cI (cB (cF Tryd.f17))))))))))))))) Q := by
  unfold word_Split_j6 at h
  refine Wp.cond (b := v19) (by kernel_rfl) (fun hb => ?_) (fun hb => ?_)
  · replace h := if_t hb h
    obtain ⟨hc1, h⟩ := chk_of h
    refine Wp.region hΓ [] [(2, .str v5), (3, .recs (α := List UInt8) [] E_string [v5]), (4, .recs (α := List UInt8) [] E_string (v4 ++ ([v5] : List (List UInt8))))] [] [0, 4, 5, 6, 7] [24] (K' := [(0, .str v0), (4, .row 24), (5, .val (.slice none 0 0)), (6, .val (.int .i64 v6)), (7, .val (.bool false))]) (L' := [(24, 9, [.rowc false (α := List UInt8) [] E_string (v4 ++ ([v5] : List (List UInt8)))])]) (ob := [(true = true → StrOb (List.flatMap e8 v5) (.str v5)), (MkOb 1 [.str v5] 1 (.recs (α := List UInt8) [] E_string [v5]) ∧ GoodR (.recs (α := List UInt8) [] E_string [v5])), (decide ((List.length v4 + List.length ([v5] : List (List UInt8))) * (16 + 1) ≤ limit)) = true, (AppOb [] E_string v4 (List.flatMap E_string ([v5] : List (List UInt8))) (List.length ([v5] : List (List UInt8))) (.recs (α := List UInt8) [] E_string (v4 ++ ([v5] : List (List UInt8)))) ∧ GoodR (.recs (α := List UInt8) [] E_string (v4 ++ ([v5] : List (List UInt8)))))]) (by kernel_rfl) (AllP.cons (fun _ => strOb (flat8 _)) (AllP.cons (mkOb (by kernel_rfl) rfl (by kernel_rfl) (good_E_string _)) (AllP.cons hc1 (AllP.cons (appOb rfl rfl (good_E_string _)) AllP.nil)))) ?_
    refine To.keep (kk := [0, 4, 5, 6, 7]) (kl := [24]) (K' := [(0, .str v0), (4, .row 24), (5, .val (.slice none 0 0)), (6, .val (.int .i64 v6)), (7, .val (.bool false))]) (L' := [(24, 9, [.rowc false (α := List UInt8) [] E_string (v4 ++ ([v5] : List (List UInt8)))])]) (by kernel_rfl) (by kernel_rfl) ?_
    refine To.pre (St.vacant (t := 5) (k := 1005) (e := 5) (K' := [(0, .str v0), (4, .row 24), (5, .row 1005), (6, .val (.int .i64 v6)), (7, .val (.bool false))]) (good8 _) (by decide) (by kernel_rfl) (by kernel_rfl)) ?_
    refine To.keep (kk := [0, 4, 5, 6, 7]) (kl := [24, 1005]) (K' := [(0, .str v0), (4, .row 24), (5, .row 1005), (6, .val (.int .i64 v6)), (7, .val (.bool false))]) (L' := [(24, 9, [.rowc false (α := List UInt8) [] E_string (v4 ++ ([v5] : List (List UInt8)))]), (1005, 5, [.rowc false (α := UInt8) 0 e8 []])]) (by kernel_rfl) (by kernel_rfl) ?_
    refine To.pre (St.rename 24 1004 (by decide) (K' := [(0, .str v0), (4, .row 1004), (5, .row 1005), (6, .val (.int .i64 v6)), (7, .val (.bool false))]) (L' := [(1004, 9, [.rowc false (α := List UInt8) [] E_string (v4 ++ ([v5] : List (List UInt8)))]), (1005, 5, [.rowc false (α := UInt8) 0 e8 []])]) (by kernel_rfl) (by kernel_rfl) (by kernel_rfl)) ?_
    refine To.keep (kk := [0, 4, 5, 6, 7]) (kl := [1004, 1005]) (K' := [(0, .str v0), (4, .row 1004), (5, .row 1005), (6, .val (.int .i64 v6)), (7, .val (.bool false))]) (L' := [(1004, 9, [.rowc false (α := List UInt8) [] E_string (v4 ++ ([v5] : List (List UInt8)))]), (1005, 5, [.rowc false (α := UInt8) 0 e8 []])]) (by kernel_rfl) (by kernel_rfl) ?_
    cases h
    exact hQ
  · replace h := if_f hb h
    refine Wp.skip ?_
    refine To.keep (kk := [0, 4, 5, 6, 7]) (kl := [1004, 1005]) (K' := [(0, .str v0), (4, .row 1004), (5, .row 1005), (6, .val (.int .i64 v6)), (7, .val (.bool v7))]) (L' := [(1004, 9, [.rowc false (α := List UInt8) [] E_string v4]), (1005, 5, [.rowc false (α := UInt8) 0 e8 v5])]) (by kernel_rfl) (by kernel_rfl) ?_
    cases h
    exact hQ
def word_Split_j5 (n : Nat) (v0 : List UInt8) (v4 : List (List UInt8)) (v5 : List (UInt8)) (v6 : Int) (v7 : Bool) : Option (Sum ((List (List UInt8)) × (List (UInt8)) × Int) (Sum ((List (List UInt8)) × (List (UInt8)) × Bool) (Sum ((List (List UInt8)) × (List (UInt8)) × Int × Bool) (Sum ((List (List UInt8)) × (List (UInt8)) × Int × Bool) (Sum ((List (List UInt8)) × (List (UInt8)) × Int × Bool) (Int)))))) :=
  if (v6 == (List.length v0 : Int)) = true then (some (.inr (.inl (v4, v5, v7))))
  else (if (decide (0 ≤ v6 ∧ v6 < (List.length v0 : Int))) = true then (if (word_blank (((v0)[Int.toNat v6]?.getD 0).toNat : Int)) = true then ((word_Split_j6 n v0 v4 v5 v6 v7 v7).bind fun o1 =>
  some (.inr (.inr (.inl (o1.1, o1.2.1, (IntKind.wrap .i64 (v6 + 1)), o1.2.2)))))
  else (if (decide (0 ≤ v6 ∧ v6 < (List.length v0 : Int))) = true then (if ((((v0)[Int.toNat v6]?.getD 0).toNat : Int) == 39) = true then (some (.inr (.inr (.inr (.inl (v4, v5, (IntKind.wrap .i64 (v6 + 1)), true))))))
  else (if (decide (0 ≤ v6 ∧ v6 < (List.length v0 : Int))) = true then (if ((((v0)[Int.toNat v6]?.getD 0).toNat : Int) == 34) = true then (some (.inr (.inr (.inr (.inr (.inl (v4, v5, (IntKind.wrap .i64 (v6 + 1)), true)))))))
  else (if (decide (0 ≤ v6 ∧ v6 < (List.length v0 : Int))) = true then (if ((((v0)[Int.toNat v6]?.getD 0).toNat : Int) == 92) = true then (if ((IntKind.wrap .i64 (v6 + 1)) == (List.length v0 : Int)) = true then (some (.inr (.inr (.inr (.inr (.inr 3))))))
  else (some (.inl (v4, v5, (IntKind.wrap .i64 (v6 + 1))))))
  else (some (.inl (v4, v5, v6)))) else none)) else none)) else none)) else none)
theorem ok_word_Split_j5 (n : Nat) (v0 : List UInt8) (v4 : List (List UInt8)) (v5 : List (UInt8)) (v6 : Int) (v7 : Bool) (o : Sum ((List (List UInt8)) × (List (UInt8)) × Int) (Sum ((List (List UInt8)) × (List (UInt8)) × Bool) (Sum ((List (List UInt8)) × (List (UInt8)) × Int × Bool) (Sum ((List (List UInt8)) × (List (UInt8)) × Int × Bool) (Sum ((List (List UInt8)) × (List (UInt8)) × Int × Bool) (Int)))))) (h : word_Split_j5 n v0 v4 v5 v6 v7 = some o) {F0 : Fz} {w0 : Pt Tryd.prog} {Q : Exit → Act → World → Prop} (hQ : (Sum.elim (fun s => To 141 F0 w0 [(0, .str v0), (4, .row 1004), (5, .row 1005), (6, .val (.int .i64 s.2.2))] [(1004, 9, [.rowc false (α := List UInt8) [] E_string s.1]), (1005, 5, [.rowc false (α := UInt8) 0 e8 s.2.1])] .normal Q) (Sum.elim (fun s => To 141 F0 w0 [(4, .row 1004), (5, .row 1005), (7, .val (.bool s.2.2))] [(1004, 9, [.rowc false (α := List UInt8) [] E_string s.1]), (1005, 5, [.rowc false (α := UInt8) 0 e8 s.2.1])] (.goto 0) Q) (Sum.elim (fun s => To 141 F0 w0 [(0, .str v0), (4, .row 1004), (5, .row 1005), (6, .val (.int .i64 s.2.2.1)), (7, .val (.bool s.2.2.2))] [(1004, 9, [.rowc false (α := List UInt8) [] E_string s.1]), (1005, 5, [.rowc false (α := UInt8) 0 e8 s.2.1])] (.goto 1) Q) (Sum.elim (fun s => To 141 F0 w0 [(0, .str v0), (4, .row 1004), (5, .row 1005), (6, .val (.int .i64 s.2.2.1)), (7, .val (.bool s.2.2.2))] [(1004, 9, [.rowc false (α := List UInt8) [] E_string s.1]), (1005, 5, [.rowc false (α := UInt8) 0 e8 s.2.1])] (.goto 2) Q) (Sum.elim (fun s => To 141 F0 w0 [(0, .str v0), (4, .row 1004), (5, .row 1005), (6, .val (.int .i64 s.2.2.1)), (7, .val (.bool s.2.2.2))] [(1004, 9, [.rowc false (α := List UInt8) [] E_string s.1]), (1005, 5, [.rowc false (α := UInt8) 0 e8 s.2.1])] (.goto 3) Q) (fun s => To 141 F0 w0 [(2, .val (.slice none 0 0)), (3, .val (.int .i64 s))] [] .ret Q)))))) o) : Wp Tryd.prog 141 F0 w0 [(0, .str v0), (4, .row 1004), (5, .row 1005), (6, .val (.int .i64 v6)), (7, .val (.bool v7))] [(1004, 9, [.rowc false (α := List UInt8) [] E_string v4]), (1005, 5, [.rowc false (α := UInt8) 0 e8 v5])] (cA (cB (cB (cB (cB (cI (cB (cF Tryd.f17)))))))) Q := by
  unfold word_Split_j5 at h
  refine Wp.block ?_
  refine Wp.seq ?_
  refine Wp.region hΓ [] [] [] [0, 4, 5, 6, 7, 9] [1004, 1005] (K' := [(0, .str v0), (4, .row 1004), (5, .row 1005), (6, .val (.int .i64 v6)), (7, .val (.bool v7)), (9, .val (.bool (v6 == (List.length v0 : Int))))]) (L' := [(1004, 9, [.rowc false (α := List UInt8) [] E_string v4]), (1005, 5, [.rowc false (α := UInt8) 0 e8 v5])]) (ob := []) (by kernel_rfl) AllP.nil ?_
  refine To.thenN ?_
  refine Wp.cond (b := (v6 == (List.length v0 : Int))) (by kernel_rfl) (fun hb => ?_) (fun hb => ?_)
  · replace h := if_t hb h
    refine Wp.goto ?_
    refine To.blockG ?_
    refine To.keep (kk := [4, 5, 7]) (kl := [1004, 1005]) (K' := [(4, .row 1004), (5, .row 1005), (7, .val (.bool v7))]) (L' := [(1004, 9, [.rowc false (α := List UInt8) [] E_string v4]), (1005, 5, [.rowc false (α := UInt8) 0 e8 v5])]) (by kernel_rfl) (by kernel_rfl) ?_
    cases h
    exact hQ
  · replace h := if_f hb h
    refine Wp.seq ?_
    obtain ⟨hc5, h⟩ := chk_of h
    refine Wp.region hΓ [] [(3, .val (.bool (word_blank (((v0)[Int.toNat v6]?.getD 0).toNat : Int))))] [] [0, 4, 5, 6, 7, 14] [1004, 1005] (K' := [(0, .str v0), (4, .row 1004), (5, .row 1005), (6, .val (.int .i64 v6)), (7, .val (.bool v7)), (14, .val (.bool (word_blank (((v0)[Int.toNat v6]?.getD 0).toNat : Int))))]) (L' := [(1004, 9, [.rowc false (α := List UInt8) [] E_string v4]), (1005, 5, [.rowc false (α := UInt8) 0 e8 v5])]) (ob := [(decide (0 ≤ v6 ∧ v6 < (List.length v0 : Int))) = true, (true = true → CX Tryd.prog 41 [.val (.int .u8 (((v0)[Int.toNat v6]?.getD 0).toNat : Int))] (.val (.bool (word_blank (((v0)[Int.toNat v6]?.getD 0).toNat : Int)))))]) (by kernel_rfl) (AllP.cons hc5 (AllP.cons (fun _ => cx (ok_word_blank (((v0)[Int.toNat v6]?.getD 0).toNat : Int) _ rfl)) AllP.nil)) ?_
    refine To.thenN ?_
    refine Wp.cond (b := (word_blank (((v0)[Int.toNat v6]?.getD 0).toNat : Int))) (by kernel_rfl) (fun hb => ?_) (fun hb => ?_)
    · replace h := if_t hb h
      refine Wp.seq ?_
      refine Wp.seq ?_
      refine Wp.region hΓ [] [] [] [0, 4, 5, 6, 7, 19] [1004, 1005] (K' := [(0, .str v0), (4, .row 1004), (5, .row 1005), (6, .val (.int .i64 v6)), (7, .val (.bool v7)), (19, .val (.bool v7))]) (L' := [(1004, 9, [.rowc false (α := List UInt8) [] E_string v4]), (1005, 5, [.rowc false (α := UInt8) 0 e8 v5])]) (ob := []) (by kernel_rfl) AllP.nil ?_
      refine To.thenN ?_
      obtain ⟨o1, ho1, h⟩ := bind_of h
      refine Wp.keep (kk := [0, 4, 5, 6, 7, 19]) (kl := [1004, 1005]) (K' := [(0, .str v0), (4, .row 1004), (5, .row 1005), (6, .val (.int .i64 v6)), (7, .val (.bool v7)), (19, .val (.bool v7))]) (L' := [(1004, 9, [.rowc false (α := List UInt8) [] E_string v4]), (1005, 5, [.rowc false (α := UInt8) 0 e8 v5])]) (by kernel_rfl) (by kernel_rfl) ?_
      refine ok_word_Split_j6 n v0 v4 v5 v6 v7 v7 o1 ho1 ?_
      refine To.thenN ?_
      refine Wp.seq ?_
      refine Wp.region hΓ [] [] [] [0, 4, 5, 6, 7] [1004, 1005] (K' := [(0, .str v0), (4, .row 1004), (5, .row 1005), (6, .val (.int .i64 (IntKind.wrap .i64 (v6 + 1)))), (7, .val (.bool o1.2.2))]) (L' := [(1004, 9, [.rowc false (α := List UInt8) [] E_string o1.1]), (1005, 5, [.rowc false (α := UInt8) 0 e8 o1.2.1])]) (ob := []) (by kernel_rfl) AllP.nil ?_
      refine To.thenN ?_
      refine Wp.goto ?_
      refine To.blockG ?_
      refine To.keep (kk := [0, 4, 5, 6, 7]) (kl := [1004, 1005]) (K' := [(0, .str v0), (4, .row 1004), (5, .row 1005), (6, .val (.int .i64 (IntKind.wrap .i64 (v6 + 1)))), (7, .val (.bool o1.2.2))]) (L' := [(1004, 9, [.rowc false (α := List UInt8) [] E_string o1.1]), (1005, 5, [.rowc false (α := UInt8) 0 e8 o1.2.1])]) (by kernel_rfl) (by kernel_rfl) ?_
      cases h
      exact hQ
    · replace h := if_f hb h
      refine Wp.seq ?_
      obtain ⟨hc4, h⟩ := chk_of h
      refine Wp.region hΓ [] [] [] [0, 4, 5, 6, 27] [1004, 1005] (K' := [(0, .str v0), (4, .row 1004), (5, .row 1005), (6, .val (.int .i64 v6)), (27, .val (.bool ((((v0)[Int.toNat v6]?.getD 0).toNat : Int) == 39)))]) (L' := [(1004, 9, [.rowc false (α := List UInt8) [] E_string v4]), (1005, 5, [.rowc false (α := UInt8) 0 e8 v5])]) (ob := [(decide (0 ≤ v6 ∧ v6 < (List.length v0 : Int))) = true]) (by kernel_rfl) (AllP.cons hc4 AllP.nil) ?_
      refine To.thenN ?_
      refine Wp.cond (b := ((((v0)[Int.toNat v6]?.getD 0).toNat : Int) == 39)) (by kernel_rfl) (fun hb => ?_) (fun hb => ?_)
      · replace h := if_t hb h
        refine Wp.seq ?_
        refine Wp.region hΓ [] [] [] [0, 4, 5, 6, 7] [1004, 1005] (K' := [(0, .str v0), (4, .row 1004), (5, .row 1005), (6, .val (.int .i64 v6)), (7, .val (.bool true))]) (L' := [(1004, 9, [.rowc false (α := List UInt8) [] E_string v4]), (1005, 5, [.rowc false (α := UInt8) 0 e8 v5])]) (ob := []) (by kernel_rfl) AllP.nil ?_
        refine To.thenN ?_
        refine Wp.seq ?_
        refine Wp.region hΓ [] [] [] [0, 4, 5, 6, 7] [1004, 1005] (K' := [(0, .str v0), (4, .row 1004), (5, .row 1005), (6, .val (.int .i64 (IntKind.wrap .i64 (v6 + 1)))), (7, .val (.bool true))]) (L' := [(1004, 9, [.rowc false (α := List UInt8) [] E_string v4]), (1005, 5, [.rowc false (α := UInt8) 0 e8 v5])]) (ob := []) (by kernel_rfl) AllP.nil ?_
        refine To.thenN ?_
        refine Wp.goto ?_
        refine To.blockG ?_
        refine To.keep (kk := [0, 4, 5, 6, 7]) (kl := [1004, 1005]) (K' := [(0, .str v0), (4, .row 1004), (5, .row 1005), (6, .val (.int .i64 (IntKind.wrap .i64 (v6 + 1)))), (7, .val (.bool true))]) (L' := [(1004, 9, [.rowc false (α := List UInt8) [] E_string v4]), (1005, 5, [.rowc false (α := UInt8) 0 e8 v5])]) (by kernel_rfl) (by kernel_rfl) ?_
        cases h
        exact hQ
      · replace h := if_f hb h
        refine Wp.seq ?_
        obtain ⟨hc3, h⟩ := chk_of h
        refine Wp.region hΓ [] [] [] [0, 4, 5, 6, 34] [1004, 1005] (K' := [(0, .str v0), (4, .row 1004), (5, .row 1005), (6, .val (.int .i64 v6)), (34, .val (.bool ((((v0)[Int.toNat v6]?.getD 0).toNat : Int) == 34)))]) (L' := [(1004, 9, [.rowc false (α := List UInt8) [] E_string v4]), (1005, 5, [.rowc false (α := UInt8) 0 e8 v5])]) (ob := [(decide (0 ≤ v6 ∧ v6 < (List.length v0 : Int))) = true]) (by kernel_rfl) (AllP.cons hc3 AllP.nil) ?_
        refine To.thenN ?_
        refine Wp.cond (b := ((((v0)[Int.toNat v6]?.getD 0).toNat : Int) == 34)) (by kernel_rfl) (fun hb => ?_) (fun hb => ?_)
        · replace h := if_t hb h
          refine Wp.seq ?_
          refine Wp.region hΓ [] [] [] [0, 4, 5, 6, 7] [1004, 1005] (K' := [(0, .str v0), (4, .row 1004), (5, .row 1005), (6, .val (.int .i64 v6)), (7, .val (.bool true))]) (L' := [(1004, 9, [.rowc false (α := List UInt8) [] E_string v4]), (1005, 5, [.rowc false (α := UInt8) 0 e8 v5])]) (ob := []) (by kernel_rfl) AllP.nil ?_
          refine To.thenN ?_
          refine Wp.seq ?_
          refine Wp.region hΓ [] [] [] [0, 4, 5, 6, 7] [1004, 1005] (K' := [(0, .str v0), (4, .row 1004), (5, .row 1005), (6, .val (.int .i64 (IntKind.wrap .i64 (v6 + 1)))), (7, .val (.bool true))]) (L' := [(1004, 9, [.rowc false (α := List UInt8) [] E_string v4]), (1005, 5, [.rowc false (α := UInt8) 0 e8 v5])]) (ob := []) (by kernel_rfl) AllP.nil ?_
          refine To.thenN ?_
          refine Wp.goto ?_
          refine To.blockG ?_
          refine To.keep (kk := [0, 4, 5, 6, 7]) (kl := [1004, 1005]) (K' := [(0, .str v0), (4, .row 1004), (5, .row 1005), (6, .val (.int .i64 (IntKind.wrap .i64 (v6 + 1)))), (7, .val (.bool true))]) (L' := [(1004, 9, [.rowc false (α := List UInt8) [] E_string v4]), (1005, 5, [.rowc false (α := UInt8) 0 e8 v5])]) (by kernel_rfl) (by kernel_rfl) ?_
          cases h
          exact hQ
        · replace h := if_f hb h
          refine Wp.seq ?_
          obtain ⟨hc2, h⟩ := chk_of h
          refine Wp.region hΓ [] [] [] [0, 4, 5, 6, 41] [1004, 1005] (K' := [(0, .str v0), (4, .row 1004), (5, .row 1005), (6, .val (.int .i64 v6)), (41, .val (.bool ((((v0)[Int.toNat v6]?.getD 0).toNat : Int) == 92)))]) (L' := [(1004, 9, [.rowc false (α := List UInt8) [] E_string v4]), (1005, 5, [.rowc false (α := UInt8) 0 e8 v5])]) (ob := [(decide (0 ≤ v6 ∧ v6 < (List.length v0 : Int))) = true]) (by kernel_rfl) (AllP.cons hc2 AllP.nil) ?_
          refine To.thenN ?_
          refine Wp.cond (b := ((((v0)[Int.toNat v6]?.getD 0).toNat : Int) == 92)) (by kernel_rfl) (fun hb => ?_) (fun hb => ?_)
          · replace h := if_t hb h
            refine Wp.seq ?_
            refine Wp.region hΓ [] [] [] [0, 4, 5, 6] [1004, 1005] (K' := [(0, .str v0), (4, .row 1004), (5, .row 1005), (6, .val (.int .i64 (IntKind.wrap .i64 (v6 + 1))))]) (L' := [(1004, 9, [.rowc false (α := List UInt8) [] E_string v4]), (1005, 5, [.rowc false (α := UInt8) 0 e8 v5])]) (ob := []) (by kernel_rfl) AllP.nil ?_
            refine To.thenN ?_
            refine Wp.seq ?_
            refine Wp.region hΓ [] [] [] [0, 4, 5, 6, 51] [1004, 1005] (K' := [(0, .str v0), (4, .row 1004), (5, .row 1005), (6, .val (.int .i64 (IntKind.wrap .i64 (v6 + 1)))), (51, .val (.bool ((IntKind.wrap .i64 (v6 + 1)) == (List.length v0 : Int))))]) (L' := [(1004, 9, [.rowc false (α := List UInt8) [] E_string v4]), (1005, 5, [.rowc false (α := UInt8) 0 e8 v5])]) (ob := []) (by kernel_rfl) AllP.nil ?_
            refine To.thenN ?_
            refine Wp.cond (b := ((IntKind.wrap .i64 (v6 + 1)) == (List.length v0 : Int))) (by kernel_rfl) (fun hb => ?_) (fun hb => ?_)
            · replace h := if_t hb h
              refine Wp.seq ?_
              refine Wp.region hΓ [] [] [] [2, 3] [] (K' := [(2, .val (.slice none 0 0)), (3, .val (.int .i64 3))]) (L' := []) (ob := []) (by kernel_rfl) AllP.nil ?_
              refine To.thenN ?_
              refine Wp.ret ?_
              refine To.blockR ?_
              refine To.keep (kk := [2, 3]) (kl := []) (K' := [(2, .val (.slice none 0 0)), (3, .val (.int .i64 3))]) (L' := []) (by kernel_rfl) (by kernel_rfl) ?_
              cases h
              exact hQ
            · replace h := if_f hb h
              refine Wp.skip ?_
              refine To.blockN ?_
              refine To.keep (kk := [0, 4, 5, 6]) (kl := [1004, 1005]) (K' := [(0, .str v0), (4, .row 1004), (5, .row 1005), (6, .val (.int .i64 (IntKind.wrap .i64 (v6 + 1))))]) (L' := [(1004, 9, [.rowc false (α := List UInt8) [] E_string v4]), (1005, 5, [.rowc false (α := UInt8) 0 e8 v5])]) (by kernel_rfl) (by kernel_rfl) ?_
              cases h
              exact hQ
          · replace h := if_f hb h
            refine Wp.skip ?_
            refine To.blockN ?_
            refine To.keep (kk := [0, 4, 5, 6]) (kl := [1004, 1005]) (K' := [(0, .str v0), (4, .row 1004), (5, .row 1005), (6, .val (.int .i64 v6))]) (L' := [(1004, 9, [.rowc false (α := List UInt8) [] E_string v4]), (1005, 5, [.rowc false (α := UInt8) 0 e8 v5])]) (by kernel_rfl) (by kernel_rfl) ?_
            cases h
            exact hQ
def word_Split_j7 (n : Nat) (v0 : List UInt8) (v4 : List (List UInt8)) (v5 : List (UInt8)) (v6 : Int) (v7 : Bool) : Option (Sum ((List (UInt8)) × Int) (Sum ((List (UInt8)) × Int) (Int))) :=
  if ((!((((IntKind.wrap .i64 (v6 + 1)) == (List.length v0 : Int)) == true) && ((v6 == (List.length v0 : Int)) == false)) || decide (0 ≤ v6 ∧ v6 < (List.length v0 : Int)))) = true then (lett ((bif (v6 == (List.length v0 : Int)) then true else (bif ((IntKind.wrap .i64 (v6 + 1)) == (List.length v0 : Int)) then ((((v0)[Int.toNat v6]?.getD 0).toNat : Int) == 92) else false)) : Bool) fun x1 =>
  if x1 = true then (some (.inr (.inr 3)))
  else (if (decide (0 ≤ v6 ∧ v6 < (List.length v0 : Int))) = true then (if ((((v0)[Int.toNat v6]?.getD 0).toNat : Int) == 34) = true then (some (.inr (.inl (v5, (IntKind.wrap .i64 (v6 + 1))))))
  else (if (decide (0 ≤ v6 ∧ v6 < (List.length v0 : Int))) = true then (if ((((v0)[Int.toNat v6]?.getD 0).toNat : Int) == 92) = true then (if (decide (0 ≤ (IntKind.wrap .i64 (v6 + 1)) ∧ (IntKind.wrap .i64 (v6 + 1)) < (List.length v0 : Int))) = true then (if ((!(((((v0)[Int.toNat (IntKind.wrap .i64 (v6 + 1))]?.getD 0).toNat : Int) != 34) == true) || decide (0 ≤ (IntKind.wrap .i64 (v6 + 1)) ∧ (IntKind.wrap .i64 (v6 + 1)) < (List.length v0 : Int)))) = true then (lett ((bif ((((v0)[Int.toNat (IntKind.wrap .i64 (v6 + 1))]?.getD 0).toNat : Int) != 34) then ((((v0)[Int.toNat (IntKind.wrap .i64 (v6 + 1))]?.getD 0).toNat : Int) != 92) else false) : Bool) fun x2 =>
  if x2 = true then (if (decide ((List.length v5 + List.length ([92] : List (UInt8))) * (1 + 1) ≤ limit)) = true then (some (.inl ((v5 ++ ([92] : List (UInt8))), (IntKind.wrap .i64 (v6 + 1))))) else none)
  else (some (.inl (v5, (IntKind.wrap .i64 (v6 + 1)))))) else none) else none)
  else (some (.inl (v5, v6)))) else none)) else none)) else none
theorem ok_word_Split_j7 (n : Nat) (v0 : List UInt8) (v4 : List (List UInt8)) (v5 : List (UInt8)) (v6 : Int) (v7 : Bool) (o : Sum ((List (UInt8)) × Int) (Sum ((List (UInt8)) × Int) (Int))) (h : word_Split_j7 n v0 v4 v5 v6 v7 = some o) {F0 : Fz} {w0 : Pt Tryd.prog} {Q : Exit → Act → World → Prop} (hQ : (Sum.elim (fun s => To 141 F0 w0 [(0, .str v0), (4, .row 1004), (5, .row 1005), (6, .val (.int .i64 s.2)), (7, .val (.bool v7))] [(1004, 9, [.rowc false (α := List UInt8) [] E_string v4]), (1005, 5, [.rowc false (α := UInt8) 0 e8 s.1])] .normal Q) (Sum.elim (fun s => To 141 F0 w0 [(0, .str v0), (4, .row 1004), (5, .row 1005), (6, .val (.int .i64 s.2)), (7, .val (.bool v7))] [(1004, 9, [.rowc false (α := List UInt8) [] E_string v4]), (1005, 5, [.rowc false (α := UInt8) 0 e8 s.1])] (.goto 1) Q) (fun s => To 141 F0 w0 [(2, .val (.slice none 0 0)), (3, .val (.int .i64 s))] [] .ret Q))) o) : Wp Tryd.prog 141 F0 w0 [(0, .str v0), (4, .row 1004), (5, .row 1005), (6, .val (.int .i64 v6)), (7, .val (.bool v7))] [(1004, 9, [.rowc false (α := List UInt8) [] E_string v4]), (1005, 5, [.rowc false (α := UInt8) 0 e8 v5])] (cA (cB (cB (cB (cB (cB (cB (cB (cB (cB (cB (cB (cB (cI (cB (cF Tryd.f17)))))))))))))))) Q := by
  unfold word_Split_j7 at h
  refine Wp.block ?_
  refine Wp.seq ?_
  obtain ⟨hc8, h⟩ := chk_of h
  obtain ⟨x1, hx1, h⟩ := lett_of h
  refine Wp.region hΓ [] [] [] [0, 4, 5, 6, 7, 78] [1004, 1005] (K' := [(0, .str v0), (4, .row 1004), (5, .row 1005), (6, .val (.int .i64 v6)), (7, .val (.bool v7)), (78, .val (.bool (bif (v6 == (List.length v0 : Int)) then true else (bif ((IntKind.wrap .i64 (v6 + 1)) == (List.length v0 : Int)) then ((((v0)[Int.toNat v6]?.getD 0).toNat : Int) == 92) else false))))]) (L' := [(1004, 9, [.rowc false (α := List UInt8) [] E_string v4]), (1005, 5, [.rowc false (α := UInt8) 0 e8 v5])]) (ob := [(!((((IntKind.wrap .i64 (v6 + 1)) == (List.length v0 : Int)) == true) && ((v6 == (List.length v0 : Int)) == false)) || decide (0 ≤ v6 ∧ v6 < (List.length v0 : Int))) = true]) (by kernel_rfl) (AllP.cons hc8 AllP.nil) ?_
  refine To.eq (K' := [(0, .str v0), (4, .row 1004), (5, .row 1005), (6, .val (.int .i64 v6)), (7, .val (.bool v7)), (78, .val (.bool x1))]) (L' := [(1004, 9, [.rowc false (α := List UInt8) [] E_string v4]), (1005, 5, [.rowc false (α := UInt8) 0 e8 v5])]) (by cases hx1; rfl) (by cases hx1; rfl) ?_
  refine To.thenN ?_
  refine Wp.cond (b := x1) (by kernel_rfl) (fun hb => ?_) (fun hb => ?_)
  · replace h := if_t hb h
    refine Wp.seq ?_
    refine Wp.region hΓ [] [] [] [2, 3] [] (K' := [(2, .val (.slice none 0 0)), (3, .val (.int .i64 3))]) (L' := []) (ob := []) (by kernel_rfl) AllP.nil ?_
    refine To.thenN ?_
    refine Wp.ret ?_
    refine To.blockR ?_
    refine To.keep (kk := [2, 3]) (kl := []) (K' := [(2, .val (.slice none 0 0)), (3, .val (.int .i64 3))]) (L' := []) (by kernel_rfl) (by kernel_rfl) ?_
    cases h
    exact hQ
  · replace h := if_f hb h
    refine Wp.seq ?_
    obtain ⟨hc7, h⟩ := chk_of h
    refine Wp.region hΓ [] [] [] [0, 4, 5, 6, 7, 96] [1004, 1005] (K' := [(0, .str v0), (4, .row 1004), (5, .row 1005), (6, .val (.int .i64 v6)), (7, .val (.bool v7)), (96, .val (.bool ((((v0)[Int.toNat v6]?.getD 0).toNat : Int) == 34)))]) (L' := [(1004, 9, [.rowc false (α := List UInt8) [] E_string v4]), (1005, 5, [.rowc false (α := UInt8) 0 e8 v5])]) (ob := [(decide (0 ≤ v6 ∧ v6 < (List.length v0 : Int))) = true]) (by kernel_rfl) (AllP.cons hc7 AllP.nil) ?_
    refine To.thenN ?_
    refine Wp.cond (b := ((((v0)[Int.toNat v6]?.getD 0).toNat : Int) == 34)) (by kernel_rfl) (fun hb => ?_) (fun hb => ?_)
    · replace h := if_t hb h
      refine Wp.seq ?_
      refine Wp.region hΓ [] [] [] [0, 4, 5, 6, 7] [1004, 1005] (K' := [(0, .str v0), (4, .row 1004), (5, .row 1005), (6, .val (.int .i64 (IntKind.wrap .i64 (v6 + 1)))), (7, .val (.bool v7))]) (L' := [(1004, 9, [.rowc false (α := List UInt8) [] E_string v4]), (1005, 5, [.rowc false (α := UInt8) 0 e8 v5])]) (ob := []) (by kernel_rfl) AllP.nil ?_
      refine To.thenN ?_
      refine Wp.goto ?_
      refine To.blockG ?_
      refine To.keep (kk := [0, 4, 5, 6, 7]) (kl := [1004, 1005]) (K' := [(0, .str v0), (4, .row 1004), (5, .row 1005), (6, .val (.int .i64 (IntKind.wrap .i64 (v6 + 1)))), (7, .val (.bool v7))]) (L' := [(1004, 9, [.rowc false (α := List UInt8) [] E_string v4]), (1005, 5, [.rowc false (α := UInt8) 0 e8 v5])]) (by kernel_rfl) (by kernel_rfl) ?_
      cases h
      exact hQ
    · replace h := if_f hb h
      refine Wp.seq ?_
      obtain ⟨hc6, h⟩ := chk_of h
      refine Wp.region hΓ [] [] [] [0, 4, 5, 6, 7, 103] [1004, 1005] (K' := [(0, .str v0), (4, .row 1004), (5, .row 1005), (6, .val (.int .i64 v6)), (7, .val (.bool v7)), (103, .val (.bool ((((v0)[Int.toNat v6]?.getD 0).toNat : Int) == 92)))]) (L' := [(1004, 9, [.rowc false (α := List UInt8) [] E_string v4]), (1005, 5, [.rowc false (α := UInt8) 0 e8 v5])]) (ob := [(decide (0 ≤ v6 ∧ v6 < (List.length v0 : Int))) = true]) (by kernel_rfl) (AllP.cons hc6 AllP.nil) ?_
      refine To.thenN ?_
      refine Wp.cond (b := ((((v0)[Int.toNat v6]?.getD 0).toNat : Int) == 92)) (by kernel_rfl) (fun hb => ?_) (fun hb => ?_)
      · replace h := if_t hb h
        refine Wp.seq ?_
        refine Wp.region hΓ [] [] [] [0, 4, 5, 6, 7] [1004, 1005] (K' := [(0, .str v0), (4, .row 1004), (5, .row 1005), (6, .val (.int .i64 (IntKind.wrap .i64 (v6 + 1)))), (7, .val (.bool v7))]) (L' := [(1004, 9, [.rowc false (α := List UInt8) [] E_string v4]), (1005, 5, [.rowc false (α := UInt8) 0 e8 v5])]) (ob := []) (by kernel_rfl) AllP.nil ?_
        refine To.thenN ?_
        refine Wp.seq ?_
        obtain ⟨hc4, h⟩ := chk_of h
        obtain ⟨hc5, h⟩ := chk_of h
        obtain ⟨x2, hx2, h⟩ := lett_of h
        refine Wp.region hΓ [] [] [] [0, 4, 5, 6, 7, 119] [1004, 1005] (K' := [(0, .str v0), (4, .row 1004), (5, .row 1005), (6, .val (.int .i64 (IntKind.wrap .i64 (v6 + 1)))), (7, .val (.bool v7)), (119, .val (.bool (bif ((((v0)[Int.toNat (IntKind.wrap .i64 (v6 + 1))]?.getD 0).toNat : Int) != 34) then ((((v0)[Int.toNat (IntKind.wrap .i64 (v6 + 1))]?.getD 0).toNat : Int) != 92) else false)))]) (L' := [(1004, 9, [.rowc false (α := List UInt8) [] E_string v4]), (1005, 5, [.rowc false (α := UInt8) 0 e8 v5])]) (ob := [(decide (0 ≤ (IntKind.wrap .i64 (v6 + 1)) ∧ (IntKind.wrap .i64 (v6 + 1)) < (List.length v0 : Int))) = true, (!(((((v0)[Int.toNat (IntKind.wrap .i64 (v6 + 1))]?.getD 0).toNat : Int) != 34) == true) || decide (0 ≤ (IntKind.wrap .i64 (v6 + 1)) ∧ (IntKind.wrap .i64 (v6 + 1)) < (List.length v0 : Int))) = true]) (by kernel_rfl) (AllP.cons hc4 (AllP.cons hc5 AllP.nil)) ?_
        refine To.eq (K' := [(0, .str v0), (4, .row 1004), (5, .row 1005), (6, .val (.int .i64 (IntKind.wrap .i64 (v6 + 1)))), (7, .val (.bool v7)), (119, .val (.bool x2))]) (L' := [(1004, 9, [.rowc false (α := List UInt8) [] E_string v4]), (1005, 5, [.rowc false (α := UInt8) 0 e8 v5])]) (by cases hx2; rfl) (by cases hx2; rfl) ?_
        refine To.thenN ?_
        refine Wp.cond (b := x2) (by kernel_rfl) (fun hb => ?_) (fun hb => ?_)
        · replace h := if_t hb h
          obtain ⟨hc3, h⟩ := chk_of h
          refine Wp.region hΓ [] [(1, .recs (α := UInt8) 0 e8 [92]), (2, .recs (α := UInt8) 0 e8 (v5 ++ ([92] : List (UInt8))))] [] [0, 4, 5, 6, 7] [122, 1004] (K' := [(0, .str v0), (4, .row 1004), (5, .row 122), (6, .val (.int .i64 (IntKind.wrap .i64 (v6 + 1)))), (7, .val (.bool v7))]) (L' := [(122, 5, [.rowc false (α := UInt8) 0 e8 (v5 ++ ([92] : List (UInt8)))]), (1004, 9, [.rowc false (α := List UInt8) [] E_string v4])]) (ob := [(MkOb 1 [.val (.int .u8 92)] 1 (.recs (α := UInt8) 0 e8 [92]) ∧ GoodR (.recs (α := UInt8) 0 e8 [92])), (decide ((List.length v5 + List.length ([92] : List (UInt8))) * (1 + 1) ≤ limit)) = true, (AppOb 0 e8 v5 (List.flatMap e8 ([92] : List (UInt8))) (List.length ([92] : List (UInt8))) (.recs (α := UInt8) 0 e8 (v5 ++ ([92] : List (UInt8)))) ∧ GoodR (.recs (α := UInt8) 0 e8 (v5 ++ ([92] : List (UInt8)))))]) (by kernel_rfl) (AllP.cons (mkOb (All8.cells (ns := [92]) (.cons rfl .nil)) rfl rfl (good8 _)) (AllP.cons hc3 (AllP.cons (appOb rfl rfl (good8 _)) AllP.nil))) ?_
          refine To.blockN ?_
          refine To.keep (kk := [0, 4, 5, 6, 7]) (kl := [122, 1004]) (K' := [(0, .str v0), (4, .row 1004), (5, .row 122), (6, .val (.int .i64 (IntKind.wrap .i64 (v6 + 1)))), (7, .val (.bool v7))]) (L' := [(122, 5, [.rowc false (α := UInt8) 0 e8 (v5 ++ ([92] : List (UInt8)))]), (1004, 9, [.rowc false (α := List UInt8) [] E_string v4])]) (by kernel_rfl) (by kernel_rfl) ?_
          refine To.pre (St.rename 122 1005 (by decide) (K' := [(0, .str v0), (4, .row 1004), (5, .row 1005), (6, .val (.int .i64 (IntKind.wrap .i64 (v6 + 1)))), (7, .val (.bool v7))]) (L' := [(1005, 5, [.rowc false (α := UInt8) 0 e8 (v5 ++ ([92] : List (UInt8)))]), (1004, 9, [.rowc false (α := List UInt8) [] E_string v4])]) (by kernel_rfl) (by kernel_rfl) (by kernel_rfl)) ?_
          refine To.keep (kk := [0, 4, 5, 6, 7]) (kl := [1004, 1005]) (K' := [(0, .str v0), (4, .row 1004), (5, .row 1005), (6, .val (.int .i64 (IntKind.wrap .i64 (v6 + 1)))), (7, .val (.bool v7))]) (L' := [(1004, 9, [.rowc false (α := List UInt8) [] E_string v4]), (1005, 5, [.rowc false (α := UInt8) 0 e8 (v5 ++ ([92] : List (UInt8)))])]) (by kernel_rfl) (by kernel_rfl) ?_
          cases h
          exact hQ
        · replace h := if_f hb h
          refine Wp.skip ?_
          refine To.blockN ?_
          refine To.keep (kk := [0, 4, 5, 6, 7]) (kl := [1004, 1005]) (K' := [(0, .str v0), (4, .row 1004), (5, .row 1005), (6, .val (.int .i64 (IntKind.wrap .i64 (v6 + 1)))), (7, .val (.bool v7))]) (L' := [(1004, 9, [.rowc false (α := List UInt8) [] E_string v4]), (1005, 5, [.rowc false (α := UInt8) 0 e8 v5])]) (by kernel_rfl) (by kernel_rfl) ?_
          cases h
          exact hQ
      · replace h := if_f hb h
        refine Wp.skip ?_
        refine To.blockN ?_
        refine To.keep (kk := [0, 4, 5, 6, 7]) (kl := [1004, 1005]) (K' := [(0, .str v0), (4, .row 1004), (5, .row 1005), (6, .val (.int .i64 v6)), (7, .val (.bool v7))]) (L' := [(1004, 9, [.rowc false (α := List UInt8) [] E_string v4]), (1005, 5, [.rowc false (α := UInt8) 0 e8 v5])]) (by kernel_rfl) (by kernel_rfl) ?_
        cases h
        exact hQ
mutual
def word_Split_g1_e (n : Nat) : Nat → (List UInt8) → Option ((List (List UInt8)) × Int)
  | 0, _ => none
  | k + 1, v0 => (word_Split_j2 n v0 0 false).bind fun o1 =>
  (Sum.elim (fun o1 => if (decide (0 ≤ o1 ∧ o1 < (List.length v0 : Int))) = true then (if (decide (List.length ([((v0)[Int.toNat o1]?.getD 0)] : List (UInt8)) * (1 + 1) ≤ limit)) = true then (word_Split_g1_1 n k v0 ([] : List (List UInt8)) ([((v0)[Int.toNat o1]?.getD 0)] : List (UInt8)) (IntKind.wrap .i64 (o1 + 1)) true) else none) else none) (Sum.elim (fun o1 => word_Split_g1_0 n k ([] : List (List UInt8)) ([] : List (UInt8)) o1) (Sum.elim (fun o1 => word_Split_g1_1 n k v0 o1.1 ([] : List (UInt8)) o1.2.1 o1.2.2) (Sum.elim (fun o1 => word_Split_g1_2 n k v0 ([] : List (List UInt8)) ([] : List (UInt8)) o1.1 o1.2) (Sum.elim (fun o1 => word_Split_g1_3 n k v0 ([] : List (List UInt8)) ([] : List (UInt8)) o1.1 o1.2) (fun o1 => some (([] : List (List UInt8)), o1))))))) o1
def word_Split_g1_0 (n : Nat) : Nat → (List (List UInt8)) → (List (UInt8)) → Bool → Option ((List (List UInt8)) × Int)
  | 0, _, _, _ => none
  | k + 1, v4, v5, v7 => (word_Split_j4 n v4 v5 v7).bind fun o1 =>
  if (decide ((List.length o1 : Int) > 32)) = true then (some (([] : List (List UInt8)), 9))
  else (some (o1, 0))
def word_Split_g1_1 (n : Nat) : Nat → (List UInt8) → (List (List UInt8)) → (List (UInt8)) → Int → Bool → Option ((List (List UInt8)) × Int)
  | 0, _, _, _, _, _ => none
  | k + 1, v0, v4, v5, v6, v7 => (word_Split_j5 n v0 v4 v5 v6 v7).bind fun o1 =>
  (Sum.elim (fun o1 => if (decide (0 ≤ o1.2.2 ∧ o1.2.2 < (List.length v0 : Int))) = true then (if (decide ((List.length o1.2.1 + List.length ([((v0)[Int.toNat o1.2.2]?.getD 0)] : List (UInt8))) * (1 + 1) ≤ limit)) = true then (word_Split_g1_1 n k v0 o1.1 (o1.2.1 ++ ([((v0)[Int.toNat o1.2.2]?.getD 0)] : List (UInt8))) (IntKind.wrap .i64 (o1.2.2 + 1)) true) else none) else none) (Sum.elim (fun o1 => word_Split_g1_0 n k o1.1 o1.2.1 o1.2.2) (Sum.elim (fun o1 => word_Split_g1_1 n k v0 o1.1 o1.2.1 o1.2.2.1 o1.2.2.2) (Sum.elim (fun o1 => word_Split_g1_2 n k v0 o1.1 o1.2.1 o1.2.2.1 o1.2.2.2) (Sum.elim (fun o1 => word_Split_g1_3 n k v0 o1.1 o1.2.1 o1.2.2.1 o1.2.2.2) (fun o1 => some (([] : List (List UInt8)), o1))))))) o1
def word_Split_g1_2 (n : Nat) : Nat → (List UInt8) → (List (List UInt8)) → (List (UInt8)) → Int → Bool → Option ((List (List UInt8)) × Int)
  | 0, _, _, _, _, _ => none
  | k + 1, v0, v4, v5, v6, v7 => if (decide (0 ≤ v6 ∧ v6 ≤ (List.length v0 : Int))) = true then (if (decide ((Lib.indexByte (List.drop (Int.toNat v6) v0) (Int.toNat 39).toUInt8) ≥ 0)) = true then (if (decide (0 ≤ (IntKind.wrap .i64 (v6 + (Lib.indexByte (List.drop (Int.toNat v6) v0) (Int.toNat 39).toUInt8))) ∧ (IntKind.wrap .i64 (v6 + (Lib.indexByte (List.drop (Int.toNat v6) v0) (Int.toNat 39).toUInt8))) ≤ (List.length v0 : Int))) = true then (if (decide (0 ≤ v6 ∧ v6 ≤ (IntKind.wrap .i64 (v6 + (Lib.indexByte (List.drop (Int.toNat v6) v0) (Int.toNat 39).toUInt8))))) = true then (if (decide ((List.length v5 + List.length (List.take (Int.toNat (IntKind.wrap .i64 (v6 + (Lib.indexByte (List.drop (Int.toNat v6) v0) (Int.toNat 39).toUInt8))) - Int.toNat v6) (List.drop (Int.toNat v6) v0))) * (1 + 1) ≤ limit)) = true then (lett ((v5 ++ (List.take (Int.toNat (IntKind.wrap .i64 (v6 + (Lib.indexByte (List.drop (Int.toNat v6) v0) (Int.toNat 39).toUInt8))) - Int.toNat v6) (List.drop (Int.toNat v6) v0))) : List (UInt8)) fun x1 =>
  lett ((IntKind.wrap .i64 (v6 + (IntKind.wrap .i64 ((Lib.indexByte (List.drop (Int.toNat v6) v0) (Int.toNat 39).toUInt8) + 1)))) : Int) fun x2 =>
  word_Split_g1_1 n k v0 v4 x1 x2 v7) else none) else none) else none)
  else (some (([] : List (List UInt8)), 3))) else none
def word_Split_g1_3 (n : Nat) : Nat → (List UInt8) → (List (List UInt8)) → (List (UInt8)) → Int → Bool → Option ((List (List UInt8)) × Int)
  | 0, _, _, _, _, _ => none
  | k + 1, v0, v4, v5, v6, v7 => (word_Split_j7 n v0 v4 v5 v6 v7).bind fun o1 =>
  (Sum.elim (fun o1 => if (decide (0 ≤ o1.2 ∧ o1.2 < (List.length v0 : Int))) = true then (if (decide ((List.length o1.1 + List.length ([((v0)[Int.toNat o1.2]?.getD 0)] : List (UInt8))) * (1 + 1) ≤ limit)) = true then (word_Split_g1_3 n k v0 v4 (o1.1 ++ ([((v0)[Int.toNat o1.2]?.getD 0)] : List (UInt8))) (IntKind.wrap .i64 (o1.2 + 1)) v7) else none) else none) (Sum.elim (fun o1 => word_Split_g1_1 n k v0 v4 o1.1 o1.2 v7) (fun o1 => some (([] : List (List UInt8)), o1)))) o1
end
theorem ok_word_Split_g1 (n : Nat) {F0 : Fz} {w0 : Pt Tryd.prog} {Q : Exit → Act → World → Prop} (k : Nat) : (∀ (v0 : List UInt8) (o : (List (List UInt8)) × Int), word_Split_g1_e n k v0 = some o → To 141 F0 w0 [(2, .row 1002), (3, .val (.int .i64 o.2))] [(1002, 9, [.rowc false (α := List UInt8) [] E_string o.1])] .ret Q → WG Tryd.prog 141 F0 w0 [(0, .str v0)] [] (cI (cB (cF Tryd.f17))) (cI (cB (cF Tryd.f17))) Q) ∧
  (∀ (v4 : List (List UInt8)) (v5 : List (UInt8)) (v7 : Bool) (o : (List (List UInt8)) × Int), word_Split_g1_0 n k v4 v5 v7 = some o → To 141 F0 w0 [(2, .row 1002), (3, .val (.int .i64 o.2))] [(1002, 9, [.rowc false (α := List UInt8) [] E_string o.1])] .ret Q → WG Tryd.prog 141 F0 w0 [(4, .row 1004), (5, .row 1005), (7, .val (.bool v7))] [(1004, 9, [.rowc false (α := List UInt8) [] E_string v4]), (1005, 5, [.rowc false (α := UInt8) 0 e8 v5])] (cI (cB (cF Tryd.f17))) (cG 0 (cB (cF Tryd.f17))) Q) ∧
  (∀ (v0 : List UInt8) (v4 : List (List UInt8)) (v5 : List (UInt8)) (v6 : Int) (v7 : Bool) (o : (List (List UInt8)) × Int), word_Split_g1_1 n k v0 v4 v5 v6 v7 = some o → To 141 F0 w0 [(2, .row 1002), (3, .val (.int .i64 o.2))] [(1002, 9, [.rowc false (α := List UInt8) [] E_string o.1])] .ret Q → WG Tryd.prog 141 F0 w0 [(0, .str v0), (4, .row 1004), (5, .row 1005), (6, .val (.int .i64 v6)), (7, .val (.bool v7))] [(1004, 9, [.rowc false (α := List UInt8) [] E_string v4]), (1005, 5, [.rowc false (α := UInt8) 0 e8 v5])] (cI (cB (cF Tryd.f17))) (cG 1 (cB (cF Tryd.f17))) Q) ∧
  (∀ (v0 : List UInt8) (v4 : List (List UInt8)) (v5 : List (UInt8)) (v6 : Int) (v7 : Bool) (o : (List (List UInt8)) × Int), word_Split_g1_2 n k v0 v4 v5 v6 v7 = some o → To 141 F0 w0 [(2, .row 1002), (3, .val (.int .i64 o.2))] [(1002, 9, [.rowc false (α := List UInt8) [] E_string o.1])] .ret Q → WG Tryd.prog 141 F0 w0 [(0, .str v0), (4, .row 1004), (5, .row 1005), (6, .val (.int .i64 v6)), (7, .val (.bool v7))] [(1004, 9, [.rowc false (α := List UInt8) [] E_string v4]), (1005, 5, [.rowc false (α := UInt8) 0 e8 v5])] (cI (cB (cF Tryd.f17))) (cG 2 (cB (cF Tryd.f17))) Q) ∧
  (∀ (v0 : List UInt8) (v4 : List (List UInt8)) (v5 : List (UInt8)) (v6 : Int) (v7 : Bool) (o : (List (List UInt8)) × Int), word_Split_g1_3 n k v0 v4 v5 v6 v7 = some o → To 141 F0 w0 [(2, .row 1002), (3, .val (.int .i64 o.2))] [(1002, 9, [.rowc false (α := List UInt8) [] E_string o.1])] .ret Q → WG Tryd.prog 141 F0 w0 [(0, .str v0), (4, .row 1004), (5, .row 1005), (6, .val (.int .i64 v6)), (7, .val (.bool v7))] [(1004, 9, [.rowc false (α := List UInt8) [] E_string v4]), (1005, 5, [.rowc false (α := UInt8) 0 e8 v5])] (cI (cB (cF Tryd.f17))) (cG 3 (cB (cF Tryd.f17))) Q) := by
  induction k with
  | zero => exact ⟨(by intro v0 o h; cases h), (by intro v4 v5 v7 o h; cases h), (by intro v0 v4 v5 v6 v7 o h; cases h), (by intro v0 v4 v5 v6 v7 o h; cases h), (by intro v0 v4 v5 v6 v7 o h; cases h)⟩
  | succ k ih =>
    refine ⟨?_, ?_, ?_, ?_, ?_⟩
    · intro v0 o h hQ
      rw [word_Split_g1_e] at h
      refine WG.pass ?_
      refine Wp.seq ?_
      refine Wp.region hΓ [] [] [] [0, 4] [] (K' := [(0, .str v0), (4, .val (.slice none 0 0))]) (L' := []) (ob := []) (by kernel_rfl) AllP.nil ?_
      refine To.thenN ?_
      refine Wp.seq ?_
      refine Wp.region hΓ [] [] [] [0, 4, 5] [] (K' := [(0, .str v0), (4, .val (.slice none 0 0)), (5, .val (.slice none 0 0))]) (L' := []) (ob := []) (by kernel_rfl) AllP.nil ?_
      refine To.thenN ?_
      refine Wp.seq ?_
      refine Wp.region hΓ [] [] [] [0, 4, 5, 6, 7] [] (K' := [(0, .str v0), (4, .val (.slice none 0 0)), (5, .val (.slice none 0 0)), (6, .val (.int .i64 0)), (7, .val (.bool false))]) (L' := []) (ob := []) (by kernel_rfl) AllP.nil ?_
      refine To.thenN ?_
      refine Wp.seq ?_
      refine Wp.label ?_
      refine To.thenN ?_
      refine Wp.seq ?_
      obtain ⟨o1, ho1, h⟩ := bind_of h
      refine Wp.keep (kk := [0, 4, 5, 6, 7]) (kl := []) (K' := [(0, .str v0), (4, .val (.slice none 0 0)), (5, .val (.slice none 0 0)), (6, .val (.int .i64 0)), (7, .val (.bool false))]) (L' := []) (by kernel_rfl) (by kernel_rfl) ?_
      refine ok_word_Split_j2 n v0 0 false o1 ho1 ?_
      rcases o1 with o1 | o1
      · replace h := sum_l h
        refine To.thenN ?_
        refine Wp.seq ?_
        obtain ⟨hc2, h⟩ := chk_of h
        obtain ⟨hc3, h⟩ := chk_of h
        refine Wp.region hΓ [] [(4, .recs (α := UInt8) 0 e8 ([((v0)[Int.toNat o1]?.getD 0)])), (5, .recs (α := UInt8) 0 e8 ([((v0)[Int.toNat o1]?.getD 0)] : List (UInt8)))] [] [0, 4, 5, 6, 7] [57] (K' := [(0, .str v0), (4, .val (.slice none 0 0)), (5, .row 57), (6, .val (.int .i64 o1)), (7, .val (.bool true))]) (L' := [(57, 5, [.rowc false (α := UInt8) 0 e8 ([((v0)[Int.toNat o1]?.getD 0)] : List (UInt8))])]) (ob := [(decide (0 ≤ o1 ∧ o1 < (List.length v0 : Int))) = true, (MkOb 1 [.val (.int .u8 (((v0)[Int.toNat o1]?.getD 0).toNat : Int))] 1 (.recs (α := UInt8) 0 e8 ([((v0)[Int.toNat o1]?.getD 0)])) ∧ GoodR (.recs (α := UInt8) 0 e8 ([((v0)[Int.toNat o1]?.getD 0)]))), (decide (List.length ([((v0)[Int.toNat o1]?.getD 0)] : List (UInt8)) * (1 + 1) ≤ limit)) = true, (MkOb 1 (List.flatMap e8 ([((v0)[Int.toNat o1]?.getD 0)] : List (UInt8))) (List.length ([((v0)[Int.toNat o1]?.getD 0)] : List (UInt8))) (.recs (α := UInt8) 0 e8 ([((v0)[Int.toNat o1]?.getD 0)] : List (UInt8))) ∧ GoodR (.recs (α := UInt8) 0 e8 ([((v0)[Int.toNat o1]?.getD 0)] : List (UInt8))))]) (by kernel_rfl) (AllP.cons hc2 (AllP.cons (mkOb (All8.cells (ns := [(((v0)[Int.toNat o1]?.getD 0).toNat : Int)]) (.cons rfl .nil)) rfl rfl (good8 _)) (AllP.cons hc3 (AllP.cons (mkOb rfl rfl rfl (good8 _)) AllP.nil)))) ?_
        refine To.thenN ?_
        refine Wp.seq ?_
        refine Wp.region hΓ [] [] [] [0, 4, 5, 6, 7] [57] (K' := [(0, .str v0), (4, .val (.slice none 0 0)), (5, .row 57), (6, .val (.int .i64 (IntKind.wrap .i64 (o1 + 1)))), (7, .val (.bool true))]) (L' := [(57, 5, [.rowc false (α := UInt8) 0 e8 ([((v0)[Int.toNat o1]?.getD 0)] : List (UInt8))])]) (ob := []) (by kernel_rfl) AllP.nil ?_
        refine To.thenN ?_
        refine Wp.seq ?_
        refine Wp.goto ?_
        refine To.thenG ?_
        refine To.keep (kk := [0, 4, 5, 6, 7]) (kl := [57]) (K' := [(0, .str v0), (4, .val (.slice none 0 0)), (5, .row 57), (6, .val (.int .i64 (IntKind.wrap .i64 (o1 + 1)))), (7, .val (.bool true))]) (L' := [(57, 5, [.rowc false (α := UInt8) 0 e8 ([((v0)[Int.toNat o1]?.getD 0)] : List (UInt8))])]) (by kernel_rfl) (by kernel_rfl) ?_
        refine To.pre (St.vacant (t := 4) (k := 1004) (e := 9) (K' := [(0, .str v0), (4, .row 1004), (5, .row 57), (6, .val (.int .i64 (IntKind.wrap .i64 (o1 + 1)))), (7, .val (.bool true))]) (good_E_string _) (by decide) (by kernel_rfl) (by kernel_rfl)) ?_
        refine To.keep (kk := [0, 4, 5, 6, 7]) (kl := [57, 1004]) (K' := [(0, .str v0), (4, .row 1004), (5, .row 57), (6, .val (.int .i64 (IntKind.wrap .i64 (o1 + 1)))), (7, .val (.bool true))]) (L' := [(57, 5, [.rowc false (α := UInt8) 0 e8 ([((v0)[Int.toNat o1]?.getD 0)] : List (UInt8))]), (1004, 9, [.rowc false (α := List UInt8) [] E_string []])]) (by kernel_rfl) (by kernel_rfl) ?_
        refine To.pre (St.rename 57 1005 (by decide) (K' := [(0, .str v0), (4, .row 1004), (5, .row 1005), (6, .val (.int .i64 (IntKind.wrap .i64 (o1 + 1)))), (7, .val (.bool true))]) (L' := [(1005, 5, [.rowc false (α := UInt8) 0 e8 ([((v0)[Int.toNat o1]?.getD 0)] : List (UInt8))]), (1004, 9, [.rowc false (α := List UInt8) [] E_string []])]) (by kernel_rfl) (by kernel_rfl) (by kernel_rfl)) ?_
        refine To.keep (kk := [0, 4, 5, 6, 7]) (kl := [1004, 1005]) (K' := [(0, .str v0), (4, .row 1004), (5, .row 1005), (6, .val (.int .i64 (IntKind.wrap .i64 (o1 + 1)))), (7, .val (.bool true))]) (L' := [(1004, 9, [.rowc false (α := List UInt8) [] E_string []]), (1005, 5, [.rowc false (α := UInt8) 0 e8 ([((v0)[Int.toNat o1]?.getD 0)] : List (UInt8))])]) (by kernel_rfl) (by kernel_rfl) ?_
        refine To.goto (rest := cG 1 (cB (cF Tryd.f17))) (by kernel_rfl) ?_
        exact ih.2.2.1 v0 ([] : List (List UInt8)) ([((v0)[Int.toNat o1]?.getD 0)] : List (UInt8)) (IntKind.wrap .i64 (o1 + 1)) true _ h hQ
      · replace h := sum_r h
        rcases o1 with o1 | o1
        · replace h := sum_l h
          refine To.thenG ?_
          refine To.keep (kk := [4, 5, 7]) (kl := []) (K' := [(4, .val (.slice none 0 0)), (5, .val (.slice none 0 0)), (7, .val (.bool o1))]) (L' := []) (by kernel_rfl) (by kernel_rfl) ?_
          refine To.pre (St.vacant (t := 4) (k := 1004) (e := 9) (K' := [(4, .row 1004), (5, .val (.slice none 0 0)), (7, .val (.bool o1))]) (good_E_string _) (by decide) (by kernel_rfl) (by kernel_rfl)) ?_
          refine To.keep (kk := [4, 5, 7]) (kl := [1004]) (K' := [(4, .row 1004), (5, .val (.slice none 0 0)), (7, .val (.bool o1))]) (L' := [(1004, 9, [.rowc false (α := List UInt8) [] E_string []])]) (by kernel_rfl) (by kernel_rfl) ?_
          refine To.pre (St.vacant (t := 5) (k := 1005) (e := 5) (K' := [(4, .row 1004), (5, .row 1005), (7, .val (.bool o1))]) (good8 _) (by decide) (by kernel_rfl) (by kernel_rfl)) ?_
          refine To.keep (kk := [4, 5, 7]) (kl := [1004, 1005]) (K' := [(4, .row 1004), (5, .row 1005), (7, .val (.bool o1))]) (L' := [(1004, 9, [.rowc false (α := List UInt8) [] E_string []]), (1005, 5, [.rowc false (α := UInt8) 0 e8 []])]) (by kernel_rfl) (by kernel_rfl) ?_
          refine To.goto (rest := cG 0 (cB (cF Tryd.f17))) (by kernel_rfl) ?_
          exact ih.2.1 ([] : List (List UInt8)) ([] : List (UInt8)) o1 _ h hQ
        · replace h := sum_r h
          rcases o1 with o1 | o1
          · replace h := sum_l h
            refine To.thenG ?_
            refine To.keep (kk := [0, 4, 5, 6, 7]) (kl := [1004]) (K' := [(0, .str v0), (4, .row 1004), (5, .val (.slice none 0 0)), (6, .val (.int .i64 o1.2.1)), (7, .val (.bool o1.2.2))]) (L' := [(1004, 9, [.rowc false (α := List UInt8) [] E_string o1.1])]) (by kernel_rfl) (by kernel_rfl) ?_
            refine To.pre (St.vacant (t := 5) (k := 1005) (e := 5) (K' := [(0, .str v0), (4, .row 1004), (5, .row 1005), (6, .val (.int .i64 o1.2.1)), (7, .val (.bool o1.2.2))]) (good8 _) (by decide) (by kernel_rfl) (by kernel_rfl)) ?_
            refine To.keep (kk := [0, 4, 5, 6, 7]) (kl := [1004, 1005]) (K' := [(0, .str v0), (4, .row 1004), (5, .row 1005), (6, .val (.int .i64 o1.2.1)), (7, .val (.bool o1.2.2))]) (L' := [(1004, 9, [.rowc false (α := List UInt8) [] E_string o1.1]), (1005, 5, [.rowc false (α := UInt8) 0 e8 []])]) (by kernel_rfl) (by kernel_rfl) ?_
            refine To.goto (rest := cG 1 (cB (cF Tryd.f17))) (by kernel_rfl) ?_
            exact ih.2.2.1 v0 o1.1 ([] : List (UInt8)) o1.2.1 o1.2.2 _ h hQ
          · replace h := sum_r h
            rcases o1 with o1 | o1
            · replace h := sum_l h
              refine To.thenG ?_
              refine To.keep (kk := [0, 4, 5, 6, 7]) (kl := []) (K' := [(0, .str v0), (4, .val (.slice none 0 0)), (5, .val (.slice none 0 0)), (6, .val (.int .i64 o1.1)), (7, .val (.bool o1.2))]) (L' := []) (by kernel_rfl) (by kernel_rfl) ?_
              refine To.pre (St.vacant (t := 4) (k := 1004) (e := 9) (K' := [(0, .str v0), (4, .row 1004), (5, .val (.slice none 0 0)), (6, .val (.int .i64 o1.1)), (7, .val (.bool o1.2))]) (good_E_string _) (by decide) (by kernel_rfl) (by kernel_rfl)) ?_
              refine To.keep (kk := [0, 4, 5, 6, 7]) (kl := [1004]) (K' := [(0, .str v0), (4, .row 1004), (5, .val (.slice none 0 0)), (6, .val (.int .i64 o1.1)), (7, .val (.bool o1.2))]) (L' := [(1004, 9, [.rowc false (α := List UInt8) [] E_string []])]) (by kernel_rfl) (by kernel_rfl) ?_
              refine To.pre (St.vacant (t := 5) (k := 1005) (e := 5) (K' := [(0, .str v0), (4, .row 1004), (5, .row 1005), (6, .val (.int .i64 o1.1)), (7, .val (.bool o1.2))]) (good8 _) (by decide) (by kernel_rfl) (by kernel_rfl)) ?_
              refine To.keep (kk := [0, 4, 5, 6, 7]) (kl := [1004, 1005]) (K' := [(0, .str v0), (4, .row 1004), (5, .row 1005), (6, .val (.int .i64 o1.1)), (7, .val (.bool o1.2))]) (L' := [(1004, 9, [.rowc false (α := List UInt8) [] E_string []]), (1005, 5, [.rowc false (α := UInt8) 0 e8 []])]) (by kernel_rfl) (by kernel_rfl) ?_
              refine To.goto (rest := cG 2 (cB (cF Tryd.f17))) (by kernel_rfl) ?_
              exact ih.2.2.2.1 v0 ([] : List (List UInt8)) ([] : List (UInt8)) o1.1 o1.2 _ h hQ
            · replace h := sum_r h
              rcases o1 with o1 | o1
              · replace h := sum_l h
                refine To.thenG ?_
                refine To.keep (kk := [0, 4, 5, 6, 7]) (kl := []) (K' := [(0, .str v0), (4, .val (.slice none 0 0)), (5, .val (.slice none 0 0)), (6, .val (.int .i64 o1.1)), (7, .val (.bool o1.2))]) (L' := []) (by kernel_rfl) (by kernel_rfl) ?_
                refine To.pre (St.vacant (t := 4) (k := 1004) (e := 9) (K' := [(0, .str v0), (4, .row 1004), (5, .val (.slice none 0 0)), (6, .val (.int .i64 o1.1)), (7, .val (.bool o1.2))]) (good_E_string _) (by decide) (by kernel_rfl) (by kernel_rfl)) ?_
                refine To.keep (kk := [0, 4, 5, 6, 7]) (kl := [1004]) (K' := [(0, .str v0), (4, .row 1004), (5, .val (.slice none 0 0)), (6, .val (.int .i64 o1.1)), (7, .val (.bool o1.2))]) (L' := [(1004, 9, [.rowc false (α := List UInt8) [] E_string []])]) (by kernel_rfl) (by kernel_rfl) ?_
                refine To.pre (St.vacant (t := 5) (k := 1005) (e := 5) (K' := [(0, .str v0), (4, .row 1004), (5, .row 1005), (6, .val (.int .i64 o1.1)), (7, .val (.bool o1.2))]) (good8 _) (by decide) (by kernel_rfl) (by kernel_rfl)) ?_
                refine To.keep (kk := [0, 4, 5, 6, 7]) (kl := [1004, 1005]) (K' := [(0, .str v0), (4, .row 1004), (5, .row 1005), (6, .val (.int .i64 o1.1)), (7, .val (.bool o1.2))]) (L' := [(1004, 9, [.rowc false (α := List UInt8) [] E_string []]), (1005, 5, [.rowc false (α := UInt8) 0 e8 []])]) (by kernel_rfl) (by kernel_rfl) ?_
                refine To.goto (rest := cG 3 (cB (cF Tryd.f17))) (by kernel_rfl) ?_
                exact ih.2.2.2.2 v0 ([] : List (List UInt8)) ([] : List (UInt8)) o1.1 o1.2 _ h hQ
              · replace h := sum_r h
                refine To.thenR ?_
                refine To.goesO (.inr (.inl rfl)) ?_
                refine To.keep (kk := [2, 3]) (kl := []) (K' := [(2, .val (.slice none 0 0)), (3, .val (.int .i64 o1))]) (L' := []) (by kernel_rfl) (by kernel_rfl) ?_
                refine To.pre (St.vacant (t := 2) (k := 1002) (e := 9) (K' := [(2, .row 1002), (3, .val (.int .i64 o1))]) (good_E_string _) (by decide) (by kernel_rfl) (by kernel_rfl)) ?_
                refine To.keep (kk := [2, 3]) (kl := [1002]) (K' := [(2, .row 1002), (3, .val (.int .i64 o1))]) (L' := [(1002, 9, [.rowc false (α := List UInt8) [] E_string []])]) (by kernel_rfl) (by kernel_rfl) ?_
                cases h
                exact hQ
    · intro v4 v5 v7 o h hQ
      rw [word_Split_g1_0] at h
      refine WG.pass ?_
      refine Wp.seq ?_
      refine Wp.skip ?_
      refine To.thenN ?_
      refine Wp.seq ?_
      refine Wp.seq ?_
      refine Wp.region hΓ [] [] [] [4, 5, 131] [1004, 1005] (K' := [(4, .row 1004), (5, .row 1005), (131, .val (.bool v7))]) (L' := [(1004, 9, [.rowc false (α := List UInt8) [] E_string v4]), (1005, 5, [.rowc false (α := UInt8) 0 e8 v5])]) (ob := []) (by kernel_rfl) AllP.nil ?_
      refine To.thenN ?_
      obtain ⟨o1, ho1, h⟩ := bind_of h
      refine Wp.keep (kk := [4, 5, 131]) (kl := [1004, 1005]) (K' := [(4, .row 1004), (5, .row 1005), (131, .val (.bool v7))]) (L' := [(1004, 9, [.rowc false (α := List UInt8) [] E_string v4]), (1005, 5, [.rowc false (α := UInt8) 0 e8 v5])]) (by kernel_rfl) (by kernel_rfl) ?_
      refine ok_word_Split_j4 n v4 v5 v7 o1 ho1 ?_
      refine To.thenN ?_
      refine Wp.seq ?_
      refine Wp.seq ?_
      refine Wp.region hΓ [] [] [] [4, 139] [1004] (K' := [(4, .row 1004), (139, .val (.bool (decide ((List.length o1 : Int) > 32))))]) (L' := [(1004, 9, [.rowc false (α := List UInt8) [] E_string o1])]) (ob := []) (by kernel_rfl) AllP.nil ?_
      refine To.thenN ?_
      refine Wp.cond (b := (decide ((List.length o1 : Int) > 32))) (by kernel_rfl) (fun hb => ?_) (fun hb => ?_)
      · replace h := if_t hb h
        refine Wp.seq ?_
        refine Wp.region hΓ [] [] [] [2, 3] [] (K' := [(2, .val (.slice none 0 0)), (3, .val (.int .i64 9))]) (L' := []) (ob := []) (by kernel_rfl) AllP.nil ?_
        refine To.thenN ?_
        refine Wp.ret ?_
        refine To.thenR ?_
        refine To.goesO (.inr (.inl rfl)) ?_
        refine To.keep (kk := [2, 3]) (kl := []) (K' := [(2, .val (.slice none 0 0)), (3, .val (.int .i64 9))]) (L' := []) (by kernel_rfl) (by kernel_rfl) ?_
        refine To.pre (St.vacant (t := 2) (k := 1002) (e := 9) (K' := [(2, .row 1002), (3, .val (.int .i64 9))]) (good_E_string _) (by decide) (by kernel_rfl) (by kernel_rfl)) ?_
        refine To.keep (kk := [2, 3]) (kl := [1002]) (K' := [(2, .row 1002), (3, .val (.int .i64 9))]) (L' := [(1002, 9, [.rowc false (α := List UInt8) [] E_string []])]) (by kernel_rfl) (by kernel_rfl) ?_
        cases h
        exact hQ
      · replace h := if_f hb h
        refine Wp.skip ?_
        refine To.thenN ?_
        refine Wp.seq ?_
        refine Wp.region hΓ [] [] [] [2, 3] [1004] (K' := [(2, .row 1004), (3, .val (.int .i64 0))]) (L' := [(1004, 9, [.rowc false (α := List UInt8) [] E_string o1])]) (ob := []) (by kernel_rfl) AllP.nil ?_
        refine To.thenN ?_
        refine Wp.ret ?_
        refine To.goesO (.inr (.inl rfl)) ?_
        refine To.keep (kk := [2, 3]) (kl := [1004]) (K' := [(2, .row 1004), (3, .val (.int .i64 0))]) (L' := [(1004, 9, [.rowc false (α := List UInt8) [] E_string o1])]) (by kernel_rfl) (by kernel_rfl) ?_
        refine To.pre (St.rename 1004 1002 (by decide) (K' := [(2, .row 1002), (3, .val (.int .i64 0))]) (L' := [(1002, 9, [.rowc false (α := List UInt8) [] E_string o1])]) (by kernel_rfl) (by kernel_rfl) (by kernel_rfl)) ?_
        refine To.keep (kk := [2, 3]) (kl := [1002]) (K' := [(2, .row 1002), (3, .val (.int .i64 0))]) (L' := [(1002, 9, [.rowc false (α := List UInt8) [] E_string o1])]) (by kernel_rfl) (by kernel_rfl) ?_
        cases h
        exact hQ
    · intro v0 v4 v5 v6 v7 o h hQ
      rw [word_Split_g1_1] at h
      refine WG.pass ?_
      refine Wp.seq ?_
      refine Wp.skip ?_
      refine To.thenN ?_
      refine Wp.seq ?_
      obtain ⟨o1, ho1, h⟩ := bind_of h
      refine Wp.keep (kk := [0, 4, 5, 6, 7]) (kl := [1004, 1005]) (K' := [(0, .str v0), (4, .row 1004), (5, .row 1005), (6, .val (.int .i64 v6)), (7, .val (.bool v7))]) (L' := [(1004, 9, [.rowc false (α := List UInt8) [] E_string v4]), (1005, 5, [.rowc false (α := UInt8) 0 e8 v5])]) (by kernel_rfl) (by kernel_rfl) ?_
      refine ok_word_Split_j5 n v0 v4 v5 v6 v7 o1 ho1 ?_
      rcases o1 with o1 | o1
      · replace h := sum_l h
        refine To.thenN ?_
        refine Wp.seq ?_
        obtain ⟨hc2, h⟩ := chk_of h
        obtain ⟨hc3, h⟩ := chk_of h
        refine Wp.region hΓ [] [(4, .recs (α := UInt8) 0 e8 ([((v0)[Int.toNat o1.2.2]?.getD 0)])), (5, .recs (α := UInt8) 0 e8 (o1.2.1 ++ ([((v0)[Int.toNat o1.2.2]?.getD 0)] : List (UInt8))))] [] [0, 4, 5, 6, 7] [57, 1004] (K' := [(0, .str v0), (4, .row 1004), (5, .row 57), (6, .val (.int .i64 o1.2.2)), (7, .val (.bool true))]) (L' := [(57, 5, [.rowc false (α := UInt8) 0 e8 (o1.2.1 ++ ([((v0)[Int.toNat o1.2.2]?.getD 0)] : List (UInt8)))]), (1004, 9, [.rowc false (α := List UInt8) [] E_string o1.1])]) (ob := [(decide (0 ≤ o1.2.2 ∧ o1.2.2 < (List.length v0 : Int))) = true, (MkOb 1 [.val (.int .u8 (((v0)[Int.toNat o1.2.2]?.getD 0).toNat : Int))] 1 (.recs (α := UInt8) 0 e8 ([((v0)[Int.toNat o1.2.2]?.getD 0)])) ∧ GoodR (.recs (α := UInt8) 0 e8 ([((v0)[Int.toNat o1.2.2]?.getD 0)]))), (decide ((List.length o1.2.1 + List.length ([((v0)[Int.toNat o1.2.2]?.getD 0)] : List (UInt8))) * (1 + 1) ≤ limit)) = true, (AppOb 0 e8 o1.2.1 (List.flatMap e8 ([((v0)[Int.toNat o1.2.2]?.getD 0)] : List (UInt8))) (List.length ([((v0)[Int.toNat o1.2.2]?.getD 0)] : List (UInt8))) (.recs (α := UInt8) 0 e8 (o1.2.1 ++ ([((v0)[Int.toNat o1.2.2]?.getD 0)] : List (UInt8)))) ∧ GoodR (.recs (α := UInt8) 0 e8 (o1.2.1 ++ ([((v0)[Int.toNat o1.2.2]?.getD 0)] : List (UInt8)))))]) (by kernel_rfl) (AllP.cons hc2 (AllP.cons (mkOb (All8.cells (ns := [(((v0)[Int.toNat o1.2.2]?.getD 0).toNat : Int)]) (.cons rfl .nil)) rfl rfl (good8 _)) (AllP.cons hc3 (AllP.cons (appOb rfl rfl (good8 _)) AllP.nil)))) ?_
        refine To.thenN ?_
        refine Wp.seq ?_
        refine Wp.region hΓ [] [] [] [0, 4, 5, 6, 7] [57, 1004] (K' := [(0, .str v0), (4, .row 1004), (5, .row 57), (6, .val (.int .i64 (IntKind.wrap .i64 (o1.2.2 + 1)))), (7, .val (.bool true))]) (L' := [(57, 5, [.rowc false (α := UInt8) 0 e8 (o1.2.1 ++ ([((v0)[Int.toNat o1.2.2]?.getD 0)] : List (UInt8)))]), (1004, 9, [.rowc false (α := List UInt8) [] E_string o1.1])]) (ob := []) (by kernel_rfl) AllP.nil ?_
        refine To.thenN ?_
        refine Wp.seq ?_
        refine Wp.goto ?_
        refine To.thenG ?_
        refine To.keep (kk := [0, 4, 5, 6, 7]) (kl := [57, 1004]) (K' := [(0, .str v0), (4, .row 1004), (5, .row 57), (6, .val (.int .i64 (IntKind.wrap .i64 (o1.2.2 + 1)))), (7, .val (.bool true))]) (L' := [(57, 5, [.rowc false (α := UInt8) 0 e8 (o1.2.1 ++ ([((v0)[Int.toNat o1.2.2]?.getD 0)] : List (UInt8)))]), (1004, 9, [.rowc false (α := List UInt8) [] E_string o1.1])]) (by kernel_rfl) (by kernel_rfl) ?_
        refine To.pre (St.rename 57 1005 (by decide) (K' := [(0, .str v0), (4, .row 1004), (5, .row 1005), (6, .val (.int .i64 (IntKind.wrap .i64 (o1.2.2 + 1)))), (7, .val (.bool true))]) (L' := [(1005, 5, [.rowc false (α := UInt8) 0 e8 (o1.2.1 ++ ([((v0)[Int.toNat o1.2.2]?.getD 0)] : List (UInt8)))]), (1004, 9, [.rowc false (α := List UInt8) [] E_string o1.1])]) (by kernel_rfl) (by kernel_rfl) (by kernel_rfl)) ?_
        refine To.keep (kk := [0, 4, 5, 6, 7]) (kl := [1004, 1005]) (K' := [(0, .str v0), (4, .row 1004), (5, .row 1005), (6, .val (.int .i64 (IntKind.wrap .i64 (o1.2.2 + 1)))), (7, .val (.bool true))]) (L' := [(1004, 9, [.rowc false (α := List UInt8) [] E_string o1.1]), (1005, 5, [.rowc false (α := UInt8) 0 e8 (o1.2.1 ++ ([((v0)[Int.toNat o1.2.2]?.getD 0)] : List (UInt8)))])]) (by kernel_rfl) (by kernel_rfl) ?_
        refine To.goto (rest := cG 1 (cB (cF Tryd.f17))) (by kernel_rfl) ?_
        exact ih.2.2.1 v0 o1.1 (o1.2.1 ++ ([((v0)[Int.toNat o1.2.2]?.getD 0)] : List (UInt8))) (IntKind.wrap .i64 (o1.2.2 + 1)) true _ h hQ
      · replace h := sum_r h
        rcases o1 with o1 | o1
        · replace h := sum_l h
          refine To.thenG ?_
          refine To.keep (kk := [4, 5, 7]) (kl := [1004, 1005]) (K' := [(4, .row 1004), (5, .row 1005), (7, .val (.bool o1.2.2))]) (L' := [(1004, 9, [.rowc false (α := List UInt8) [] E_string o1.1]), (1005, 5, [.rowc false (α := UInt8) 0 e8 o1.2.1])]) (by kernel_rfl) (by kernel_rfl) ?_
          refine To.goto (rest := cG 0 (cB (cF Tryd.f17))) (by kernel_rfl) ?_
          exact ih.2.1 o1.1 o1.2.1 o1.2.2 _ h hQ
        · replace h := sum_r h
          rcases o1 with o1 | o1
          · replace h := sum_l h
            refine To.thenG ?_
            refine To.keep (kk := [0, 4, 5, 6, 7]) (kl := [1004, 1005]) (K' := [(0, .str v0), (4, .row 1004), (5, .row 1005), (6, .val (.int .i64 o1.2.2.1)), (7, .val (.bool o1.2.2.2))]) (L' := [(1004, 9, [.rowc false (α := List UInt8) [] E_string o1.1]), (1005, 5, [.rowc false (α := UInt8) 0 e8 o1.2.1])]) (by kernel_rfl) (by kernel_rfl) ?_
            refine To.goto (rest := cG 1 (cB (cF Tryd.f17))) (by kernel_rfl) ?_
            exact ih.2.2.1 v0 o1.1 o1.2.1 o1.2.2.1 o1.2.2.2 _ h hQ
          · replace h := sum_r h
            rcases o1 with o1 | o1
            · replace h := sum_l h
              refine To.thenG ?_
              refine To.keep (kk := [0, 4, 5, 6, 7]) (kl := [1004, 1005]) (K' := [(0, .str v0), (4, .row 1004), (5, .row 1005), (6, .val (.int .i64 o1.2.2.1)), (7, .val (.bool o1.2.2.2))]) (L' := [(1004, 9, [.rowc false (α := List UInt8) [] E_string o1.1]), (1005, 5, [.rowc false (α := UInt8) 0 e8 o1.2.1])]) (by kernel_rfl) (by kernel_rfl) ?_
              refine To.goto (rest := cG 2 (cB (cF Tryd.f17))) (by kernel_rfl) ?_
              exact ih.2.2.2.1 v0 o1.1 o1.2.1 o1.2.2.1 o1.2.2.2 _ h hQ
            · replace h := sum_r h
              rcases o1 with o1 | o1
              · replace h := sum_l h
                refine To.thenG ?_
                refine To.keep (kk := [0, 4, 5, 6, 7]) (kl := [1004, 1005]) (K' := [(0, .str v0), (4, .row 1004), (5, .row 1005), (6, .val (.int .i64 o1.2.2.1)), (7, .val (.bool o1.2.2.2))]) (L' := [(1004, 9, [.rowc false (α := List UInt8) [] E_string o1.1]), (1005, 5, [.rowc false (α := UInt8) 0 e8 o1.2.1])]) (by kernel_rfl) (by kernel_rfl) ?_
                refine To.goto (rest := cG 3 (cB (cF Tryd.f17))) (by kernel_rfl) ?_
                exact ih.2.2.2.2 v0 o1.1 o1.2.1 o1.2.2.1 o1.2.2.2 _ h hQ
              · replace h := sum_r h
                refine To.thenR ?_
                refine To.goesO (.inr (.inl rfl)) ?_
                refine To.keep (kk := [2, 3]) (kl := []) (K' := [(2, .val (.slice none 0 0)), (3, .val (.int .i64 o1))]) (L' := []) (by kernel_rfl) (by kernel_rfl) ?_
                refine To.pre (St.vacant (t := 2) (k := 1002) (e := 9) (K' := [(2, .row 1002), (3, .val (.int .i64 o1))]) (good_E_string _) (by decide) (by kernel_rfl) (by kernel_rfl)) ?_
                refine To.keep (kk := [2, 3]) (kl := [1002]) (K' := [(2, .row 1002), (3, .val (.int .i64 o1))]) (L' := [(1002, 9, [.rowc false (α := List UInt8) [] E_string []])]) (by kernel_rfl) (by kernel_rfl) ?_
                cases h
                exact hQ
    · intro v0 v4 v5 v6 v7 o h hQ
      rw [word_Split_g1_2] at h
      refine WG.pass ?_
      refine Wp.seq ?_
      refine Wp.skip ?_
      refine To.thenN ?_
      refine Wp.seq ?_
      refine Wp.seq ?_
      obtain ⟨hc6, h⟩ := chk_of h
      refine Wp.region hΓ [] [(3, .val (.int .i64 (Lib.indexByte (List.drop (Int.toNat v6) v0) (Int.toNat 39).toUInt8)))] [] [0, 4, 5, 6, 7, 8] [1004, 1005] (K' := [(0, .str v0), (4, .row 1004), (5, .row 1005), (6, .val (.int .i64 v6)), (7, .val (.bool v7)), (8, .val (.int .i64 (Lib.indexByte (List.drop (Int.toNat v6) v0) (Int.toNat 39).toUInt8)))]) (L' := [(1004, 9, [.rowc false (α := List UInt8) [] E_string v4]), (1005, 5, [.rowc false (α := UInt8) 0 e8 v5])]) (ob := [(decide (0 ≤ v6 ∧ v6 ≤ (List.length v0 : Int))) = true, (true = true → CX Tryd.prog 42 [.str (List.drop (Int.toNat v6) v0), .val (.int .u8 39)] (.val (.int .i64 (Lib.indexByte (List.drop (Int.toNat v6) v0) (Int.toNat 39).toUInt8))))]) (by kernel_rfl) (AllP.cons hc6 (AllP.cons (fun _ => cx (Sh.indexByte42)) AllP.nil)) ?_
      refine To.thenN ?_
      refine Wp.seq ?_
      refine Wp.region hΓ [] [] [] [0, 4, 5, 6, 7, 8, 65] [1004, 1005] (K' := [(0, .str v0), (4, .row 1004), (5, .row 1005), (6, .val (.int .i64 v6)), (7, .val (.bool v7)), (8, .val (.int .i64 (Lib.indexByte (List.drop (Int.toNat v6) v0) (Int.toNat 39).toUInt8))), (65, .val (.bool (decide ((Lib.indexByte (List.drop (Int.toNat v6) v0) (Int.toNat 39).toUInt8) ≥ 0))))]) (L' := [(1004, 9, [.rowc false (α := List UInt8) [] E_string v4]), (1005, 5, [.rowc false (α := UInt8) 0 e8 v5])]) (ob := []) (by kernel_rfl) AllP.nil ?_
      refine To.thenN ?_
      refine Wp.cond (b := (decide ((Lib.indexByte (List.drop (Int.toNat v6) v0) (Int.toNat 39).toUInt8) ≥ 0))) (by kernel_rfl) (fun hb => ?_) (fun hb => ?_)
      · replace h := if_t hb h
        refine Wp.seq ?_
        obtain ⟨hc3, h⟩ := chk_of h
        obtain ⟨hc4, h⟩ := chk_of h
        obtain ⟨hc5, h⟩ := chk_of h
        obtain ⟨x1, hx1, h⟩ := lett_of h
        refine Wp.region hΓ [] [(7, .recs (α := UInt8) 0 e8 (v5 ++ (List.take (Int.toNat (IntKind.wrap .i64 (v6 + (Lib.indexByte (List.drop (Int.toNat v6) v0) (Int.toNat 39).toUInt8))) - Int.toNat v6) (List.drop (Int.toNat v6) v0))))] [] [0, 4, 5, 6, 7, 8] [73, 1004] (K' := [(0, .str v0), (4, .row 1004), (5, .row 73), (6, .val (.int .i64 v6)), (7, .val (.bool v7)), (8, .val (.int .i64 (Lib.indexByte (List.drop (Int.toNat v6) v0) (Int.toNat 39).toUInt8)))]) (L' := [(73, 5, [.rowc false (α := UInt8) 0 e8 (v5 ++ (List.take (Int.toNat (IntKind.wrap .i64 (v6 + (Lib.indexByte (List.drop (Int.toNat v6) v0) (Int.toNat 39).toUInt8))) - Int.toNat v6) (List.drop (Int.toNat v6) v0)))]), (1004, 9, [.rowc false (α := List UInt8) [] E_string v4])]) (ob := [(decide (0 ≤ (IntKind.wrap .i64 (v6 + (Lib.indexByte (List.drop (Int.toNat v6) v0) (Int.toNat 39).toUInt8))) ∧ (IntKind.wrap .i64 (v6 + (Lib.indexByte (List.drop (Int.toNat v6) v0) (Int.toNat 39).toUInt8))) ≤ (List.length v0 : Int))) = true, (decide (0 ≤ v6 ∧ v6 ≤ (IntKind.wrap .i64 (v6 + (Lib.indexByte (List.drop (Int.toNat v6) v0) (Int.toNat 39).toUInt8))))) = true, (decide ((List.length v5 + List.length (List.take (Int.toNat (IntKind.wrap .i64 (v6 + (Lib.indexByte (List.drop (Int.toNat v6) v0) (Int.toNat 39).toUInt8))) - Int.toNat v6) (List.drop (Int.toNat v6) v0))) * (1 + 1) ≤ limit)) = true, (AppOb 0 e8 v5 (List.map (fun b : UInt8 => D.val (.int .u8 (b.toNat : Int))) (List.take (Int.toNat (IntKind.wrap .i64 (v6 + (Lib.indexByte (List.drop (Int.toNat v6) v0) (Int.toNat 39).toUInt8))) - Int.toNat v6) (List.drop (Int.toNat v6) v0))) (List.length (List.take (Int.toNat (IntKind.wrap .i64 (v6 + (Lib.indexByte (List.drop (Int.toNat v6) v0) (Int.toNat 39).toUInt8))) - Int.toNat v6) (List.drop (Int.toNat v6) v0))) (.recs (α := UInt8) 0 e8 (v5 ++ (List.take (Int.toNat (IntKind.wrap .i64 (v6 + (Lib.indexByte (List.drop (Int.toNat v6) v0) (Int.toNat 39).toUInt8))) - Int.toNat v6) (List.drop (Int.toNat v6) v0)))) ∧ GoodR (.recs (α := UInt8) 0 e8 (v5 ++ (List.take (Int.toNat (IntKind.wrap .i64 (v6 + (Lib.indexByte (List.drop (Int.toNat v6) v0) (Int.toNat 39).toUInt8))) - Int.toNat v6) (List.drop (Int.toNat v6) v0)))))]) (by kernel_rfl) (AllP.cons hc3 (AllP.cons hc4 (AllP.cons hc5 (AllP.cons (appOb (flat8 _) rfl (good8 _)) AllP.nil)))) ?_
        refine To.eq (K' := [(0, .str v0), (4, .row 1004), (5, .row 73), (6, .val (.int .i64 v6)), (7, .val (.bool v7)), (8, .val (.int .i64 (Lib.indexByte (List.drop (Int.toNat v6) v0) (Int.toNat 39).toUInt8)))]) (L' := [(73, 5, [.rowc false (α := UInt8) 0 e8 x1]), (1004, 9, [.rowc false (α := List UInt8) [] E_string v4])]) (by cases hx1; rfl) (by cases hx1; rfl) ?_
        refine To.thenN ?_
        refine Wp.seq ?_
        obtain ⟨x2, hx2, h⟩ := lett_of h
        refine Wp.region hΓ [] [] [] [0, 4, 5, 6, 7] [73, 1004] (K' := [(0, .str v0), (4, .row 1004), (5, .row 73), (6, .val (.int .i64 (IntKind.wrap .i64 (v6 + (IntKind.wrap .i64 ((Lib.indexByte (List.drop (Int.toNat v6) v0) (Int.toNat 39).toUInt8) + 1)))))), (7, .val (.bool v7))]) (L' := [(73, 5, [.rowc false (α := UInt8) 0 e8 x1]), (1004, 9, [.rowc false (α := List UInt8) [] E_string v4])]) (ob := []) (by kernel_rfl) AllP.nil ?_
        refine To.eq (K' := [(0, .str v0), (4, .row 1004), (5, .row 73), (6, .val (.int .i64 x2)), (7, .val (.bool v7))]) (L' := [(73, 5, [.rowc false (α := UInt8) 0 e8 x1]), (1004, 9, [.rowc false (α := List UInt8) [] E_string v4])]) (by cases hx2; rfl) (by cases hx2; rfl) ?_
        refine To.thenN ?_
        refine Wp.goto ?_
        refine To.thenG ?_
        refine To.keep (kk := [0, 4, 5, 6, 7]) (kl := [73, 1004]) (K' := [(0, .str v0), (4, .row 1004), (5, .row 73), (6, .val (.int .i64 x2)), (7, .val (.bool v7))]) (L' := [(73, 5, [.rowc false (α := UInt8) 0 e8 x1]), (1004, 9, [.rowc false (α := List UInt8) [] E_string v4])]) (by kernel_rfl) (by kernel_rfl) ?_
        refine To.pre (St.rename 73 1005 (by decide) (K' := [(0, .str v0), (4, .row 1004), (5, .row 1005), (6, .val (.int .i64 x2)), (7, .val (.bool v7))]) (L' := [(1005, 5, [.rowc false (α := UInt8) 0 e8 x1]), (1004, 9, [.rowc false (α := List UInt8) [] E_string v4])]) (by kernel_rfl) (by kernel_rfl) (by kernel_rfl)) ?_
        refine To.keep (kk := [0, 4, 5, 6, 7]) (kl := [1004, 1005]) (K' := [(0, .str v0), (4, .row 1004), (5, .row 1005), (6, .val (.int .i64 x2)), (7, .val (.bool v7))]) (L' := [(1004, 9, [.rowc false (α := List UInt8) [] E_string v4]), (1005, 5, [.rowc false (α := UInt8) 0 e8 x1])]) (by kernel_rfl) (by kernel_rfl) ?_
        refine To.goto (rest := cG 1 (cB (cF Tryd.f17))) (by kernel_rfl) ?_
        exact ih.2.2.1 v0 v4 x1 x2 v7 _ h hQ
      · replace h := if_f hb h
        refine Wp.skip ?_
        refine To.thenN ?_
        refine Wp.seq ?_
        refine Wp.seq ?_
        refine Wp.region hΓ [] [] [] [2, 3] [] (K' := [(2, .val (.slice none 0 0)), (3, .val (.int .i64 3))]) (L' := []) (ob := []) (by kernel_rfl) AllP.nil ?_
        refine To.thenN ?_
        refine Wp.ret ?_
        refine To.thenR ?_
        refine To.goesO (.inr (.inl rfl)) ?_
        refine To.keep (kk := [2, 3]) (kl := []) (K' := [(2, .val (.slice none 0 0)), (3, .val (.int .i64 3))]) (L' := []) (by kernel_rfl) (by kernel_rfl) ?_
        refine To.pre (St.vacant (t := 2) (k := 1002) (e := 9) (K' := [(2, .row 1002), (3, .val (.int .i64 3))]) (good_E_string _) (by decide) (by kernel_rfl) (by kernel_rfl)) ?_
        refine To.keep (kk := [2, 3]) (kl := [1002]) (K' := [(2, .row 1002), (3, .val (.int .i64 3))]) (L' := [(1002, 9, [.rowc false (α := List UInt8) [] E_string []])]) (by kernel_rfl) (by kernel_rfl) ?_
        cases h
        exact hQ
    · intro v0 v4 v5 v6 v7 o h hQ
      rw [word_Split_g1_3] at h
      refine WG.pass ?_
      refine Wp.seq ?_
      refine Wp.skip ?_
      refine To.thenN ?_
      refine Wp.seq ?_
      obtain ⟨o1, ho1, h⟩ := bind_of h
      refine Wp.keep (kk := [0, 4, 5, 6, 7]) (kl := [1004, 1005]) (K' := [(0, .str v0), (4, .row 1004), (5, .row 1005), (6, .val (.int .i64 v6)), (7, .val (.bool v7))]) (L' := [(1004, 9, [.rowc false (α := List UInt8) [] E_string v4]), (1005, 5, [.rowc false (α := UInt8) 0 e8 v5])]) (by kernel_rfl) (by kernel_rfl) ?_
      refine ok_word_Split_j7 n v0 v4 v5 v6 v7 o1 ho1 ?_
      rcases o1 with o1 | o1
      · replace h := sum_l h
        refine To.thenN ?_
        refine Wp.seq ?_
        obtain ⟨hc2, h⟩ := chk_of h
        obtain ⟨hc3, h⟩ := chk_of h
        refine Wp.region hΓ [] [(4, .recs (α := UInt8) 0 e8 ([((v0)[Int.toNat o1.2]?.getD 0)])), (5, .recs (α := UInt8) 0 e8 (o1.1 ++ ([((v0)[Int.toNat o1.2]?.getD 0)] : List (UInt8))))] [] [0, 4, 5, 6, 7] [128, 1004] (K' := [(0, .str v0), (4, .row 1004), (5, .row 128), (6, .val (.int .i64 o1.2)), (7, .val (.bool v7))]) (L' := [(128, 5, [.rowc false (α := UInt8) 0 e8 (o1.1 ++ ([((v0)[Int.toNat o1.2]?.getD 0)] : List (UInt8)))]), (1004, 9, [.rowc false (α := List UInt8) [] E_string v4])]) (ob := [(decide (0 ≤ o1.2 ∧ o1.2 < (List.length v0 : Int))) = true, (MkOb 1 [.val (.int .u8 (((v0)[Int.toNat o1.2]?.getD 0).toNat : Int))] 1 (.recs (α := UInt8) 0 e8 ([((v0)[Int.toNat o1.2]?.getD 0)])) ∧ GoodR (.recs (α := UInt8) 0 e8 ([((v0)[Int.toNat o1.2]?.getD 0)]))), (decide ((List.length o1.1 + List.length ([((v0)[Int.toNat o1.2]?.getD 0)] : List (UInt8))) * (1 + 1) ≤ limit)) = true, (AppOb 0 e8 o1.1 (List.flatMap e8 ([((v0)[Int.toNat o1.2]?.getD 0)] : List (UInt8))) (List.length ([((v0)[Int.toNat o1.2]?.getD 0)] : List (UInt8))) (.recs (α := UInt8) 0 e8 (o1.1 ++ ([((v0)[Int.toNat o1.2]?.getD 0)] : List (UInt8)))) ∧ GoodR (.recs (α := UInt8) 0 e8 (o1.1 ++ ([((v0)[Int.toNat o1.2]?.getD 0)] : List (UInt8)))))]) (by kernel_rfl) (AllP.cons hc2 (AllP.cons (mkOb (All8.cells (ns := [(((v0)[Int.toNat o1.2]?.getD 0).toNat : Int)]) (.cons rfl .nil)) rfl rfl (good8 _)) (AllP.cons hc3 (AllP.cons (appOb rfl rfl (good8 _)) AllP.nil)))) ?_
        refine To.thenN ?_
        refine Wp.seq ?_
        refine Wp.region hΓ [] [] [] [0, 4, 5, 6, 7] [128, 1004] (K' := [(0, .str v0), (4, .row 1004), (5, .row 128), (6, .val (.int .i64 (IntKind.wrap .i64 (o1.2 + 1)))), (7, .val (.bool v7))]) (L' := [(128, 5, [.rowc false (α := UInt8) 0 e8 (o1.1 ++ ([((v0)[Int.toNat o1.2]?.getD 0)] : List (UInt8)))]), (1004, 9, [.rowc false (α := List UInt8) [] E_string v4])]) (ob := []) (by kernel_rfl) AllP.nil ?_
        refine To.thenN ?_
        refine Wp.seq ?_
        refine Wp.goto ?_
        refine To.thenG ?_
        refine To.keep (kk := [0, 4, 5, 6, 7]) (kl := [128, 1004]) (K' := [(0, .str v0), (4, .row 1004), (5, .row 128), (6, .val (.int .i64 (IntKind.wrap .i64 (o1.2 + 1)))), (7, .val (.bool v7))]) (L' := [(128, 5, [.rowc false (α := UInt8) 0 e8 (o1.1 ++ ([((v0)[Int.toNat o1.2]?.getD 0)] : List (UInt8)))]), (1004, 9, [.rowc false (α := List UInt8) [] E_string v4])]) (by kernel_rfl) (by kernel_rfl) ?_
        refine To.pre (St.rename 128 1005 (by decide) (K' := [(0, .str v0), (4, .row 1004), (5, .row 1005), (6, .val (.int .i64 (IntKind.wrap .i64 (o1.2 + 1)))), (7, .val (.bool v7))]) (L' := [(1005, 5, [.rowc false (α := UInt8) 0 e8 (o1.1 ++ ([((v0)[Int.toNat o1.2]?.getD 0)] : List (UInt8)))]), (1004, 9, [.rowc false (α := List UInt8) [] E_string v4])]) (by kernel_rfl) (by kernel_rfl) (by kernel_rfl)) ?_
        refine To.keep (kk := [0, 4, 5, 6, 7]) (kl := [1004, 1005]) (K' := [(0, .str v0), (4, .row 1004), (5, .row 1005), (6, .val (.int .i64 (IntKind.wrap .i64 (o1.2 + 1)))), (7, .val (.bool v7))]) (L' := [(1004, 9, [.rowc false (α := List UInt8) [] E_string v4]), (1005, 5, [.rowc false (α := UInt8) 0 e8 (o1.1 ++ ([((v0)[Int.toNat o1.2]?.getD 0)] : List (UInt8)))])]) (by kernel_rfl) (by kernel_rfl) ?_
        refine To.goto (rest := cG 3 (cB (cF Tryd.f17))) (by kernel_rfl) ?_
        exact ih.2.2.2.2 v0 v4 (o1.1 ++ ([((v0)[Int.toNat o1.2]?.getD 0)] : List (UInt8))) (IntKind.wrap .i64 (o1.2 + 1)) v7 _ h hQ
      · replace h := sum_r h
        rcases o1 with o1 | o1
        · replace h := sum_l h
          refine To.thenG ?_
          refine To.keep (kk := [0, 4, 5, 6, 7]) (kl := [1004, 1005]) (K' := [(0, .str v0), (4, .row 1004), (5, .row 1005), (6, .val (.int .i64 o1.2)), (7, .val (.bool v7))]) (L' := [(1004, 9, [.rowc false (α := List UInt8) [] E_string v4]), (1005, 5, [.rowc false (α := UInt8) 0 e8 o1.1])]) (by kernel_rfl) (by kernel_rfl) ?_
          refine To.goto (rest := cG 1 (cB (cF Tryd.f17))) (by kernel_rfl) ?_
          exact ih.2.2.1 v0 v4 o1.1 o1.2 v7 _ h hQ
        · replace h := sum_r h
          refine To.thenR ?_
          refine To.goesO (.inr (.inl rfl)) ?_
          refine To.keep (kk := [2, 3]) (kl := []) (K' := [(2, .val (.slice none 0 0)), (3, .val (.int .i64 o1))]) (L' := []) (by kernel_rfl) (by kernel_rfl) ?_
          refine To.pre (St.vacant (t := 2) (k := 1002) (e := 9) (K' := [(2, .row 1002), (3, .val (.int .i64 o1))]) (good_E_string _) (by decide) (by kernel_rfl) (by kernel_rfl)) ?_
          refine To.keep (kk := [2, 3]) (kl := [1002]) (K' := [(2, .row 1002), (3, .val (.int .i64 o1))]) (L' := [(1002, 9, [.rowc false (α := List UInt8) [] E_string []])]) (by kernel_rfl) (by kernel_rfl) ?_
          cases h
          exact hQ
def word_Split (n : Nat) (a0 : List UInt8) : Option ((List (List UInt8)) × Int) :=
  (word_Split_g1_e n n a0).bind fun o1 =>
  some (o1.1, o1.2)
theorem ok_word_Split (n : Nat) (a0 : List UInt8) (r : (List (List UInt8)) × Int) (h : word_Split n a0 = some r) : CallsX Tryd.prog 17 [.str a0] (.tup [.recs (α := List UInt8) [] E_string r.1, .val (.int .i64 r.2)]) := by
  unfold word_Split at h
  refine callsX_of (fn := Tryd.f17) (by kernel_rfl) rfl (by kernel_rfl) (Nat.le_of_ble_eq_true (by kernel_rfl)) fun F0 w0 _ => ?_
  refine Wp.keep (kk := [0]) (kl := []) (K' := [(0, .str a0)]) (L' := []) (by kernel_rfl) (by kernel_rfl) ?_
  refine Wp.seq ?_
  refine Wp.region hΓ [] [] [] [0] [] (K' := [(0, .str a0)]) (L' := []) (ob := []) (by kernel_rfl) AllP.nil ?_
  refine To.thenN ?_
  obtain ⟨o1, ho1, h⟩ := bind_of h
  refine Wp.keep (kk := [0]) (kl := []) (K' := [(0, .str a0)]) (L' := []) (by kernel_rfl) (by kernel_rfl) ?_
  refine Wp.scopeG ?_
  refine (ok_word_Split_g1 n n).1 a0 o1 ho1 ?_
  refine To.keep (kk := [2, 3]) (kl := [1002]) (K' := [(2, .row 1002), (3, .val (.int .i64 o1.2))]) (L' := [(1002, 9, [.rowc false (α := List UInt8) [] E_string o1.1])]) (by kernel_rfl) (by kernel_rfl) ?_
  refine To.pre (St.settle (ks := [1002]) (kk := [2, 3]) (kl := [1002]) (K' := [(2, .row 1002), (3, .val (.int .i64 o1.2))]) (L' := [(1002, 9, [.rowc true (α := List UInt8) [] E_string o1.1])]) (by kernel_rfl)) ?_
  refine To.pre (St.sealK [2] (K' := [(2, .recs (α := List UInt8) [] E_string o1.1), (3, .val (.int .i64 o1.2))]) (by kernel_rfl)) ?_
  refine To.keep (kk := [2, 3]) (kl := []) (K' := [(2, .recs (α := List UInt8) [] E_string o1.1), (3, .val (.int .i64 o1.2))]) (L' := []) (by kernel_rfl) (by kernel_rfl) ?_
  cases h
  exact To.done hΓ (by kernel_rfl)
def ref02_Same_l1 (n : Nat) (v0 : List (List UInt8)) (v1 : List (List UInt8)) : Nat → Int → Option (Sum (Unit) (Bool))
  | 0, _ => none
  | k + 1, v5 => if (decide (v5 < (List.length v0 : Int))) = true then (if (decide (0 ≤ v5 ∧ v5 < (List.length v0 : Int))) = true then (if (decide (0 ≤ v5 ∧ v5 < (List.length v1 : Int))) = true then (if (!(((v0)[Int.toNat v5]?.getD []) == ((v1)[Int.toNat v5]?.getD []))) = true then (some (.inr false))
  else (ref02_Same_l1 n v0 v1 k (IntKind.wrap .i64 (v5 + 1)))) else none) else none)
  else (some (.inl ()))
theorem ok_ref02_Same_l1 (n : Nat) (v0 : List (List UInt8)) (v1 : List (List UInt8)) {F0 : Fz} {w0 : Pt Tryd.prog} {Q : Exit → Act → World → Prop} (k : Nat) : ∀ (v5 : Int) (o : Sum (Unit) (Bool)), ref02_Same_l1 n v0 v1 k v5 = some o → (Sum.elim (fun s => To 26 F0 w0 [] [] (.exit 0) Q) (fun s => To 26 F0 w0 [(4, .val (.bool s))] [] .ret Q)) o → WL Tryd.prog 26 F0 w0 [(0, .recs (α := List UInt8) [] E_string v0), (1, .recs (α := List UInt8) [] E_string v1), (5, .val (.int .i64 v5))] [] (cI (cI (cB (cA (cB (cB (cF Tryd.f19))))))) Q := by
  induction k with
  | zero => intro v5 o h; cases h
  | succ k ih =>
    intro v5 o h hQ
    rw [ref02_Same_l1] at h
    refine WL.round ?_
    refine Wp.seq ?_
    refine Wp.seq ?_
    refine Wp.region hΓ [] [] [] [0, 1, 5, 14] [] (K' := [(0, .recs (α := List UInt8) [] E_string v0), (1, .recs (α := List UInt8) [] E_string v1), (5, .val (.int .i64 v5)), (14, .val (.bool (decide (v5 < (List.length v0 : Int)))))]) (L' := []) (ob := []) (by kernel_rfl) AllP.nil ?_
    refine To.thenN ?_
    refine Wp.cond (b := (decide (v5 < (List.length v0 : Int)))) (by kernel_rfl) (fun hb => ?_) (fun hb => ?_)
    · replace h := if_t hb h
      refine Wp.skip ?_
      refine To.thenN ?_
      refine Wp.seq ?_
      refine Wp.block ?_
      refine Wp.seq ?_
      obtain ⟨hc1, h⟩ := chk_of h
      obtain ⟨hc2, h⟩ := chk_of h
      refine Wp.regionD hm hΓ [] [0, 1, 5, 25] [] (K' := [(0, .recs (α := List UInt8) [] E_string v0), (1, .recs (α := List UInt8) [] E_string v1), (5, .val (.int .i64 v5)), (25, .val (.bool (!(((v0)[Int.toNat v5]?.getD []) == ((v1)[Int.toNat v5]?.getD [])))))]) (L' := []) (ob := [(decide (0 ≤ v5 ∧ v5 < (List.length v0 : Int))) = true, (decide (0 ≤ v5 ∧ v5 < (List.length v1 : Int))) = true]) (by kernel_rfl) (AllP.cons hc1 (AllP.cons hc2 AllP.nil)) ?_
      refine To.thenN ?_
      refine Wp.cond (b := (!(((v0)[Int.toNat v5]?.getD []) == ((v1)[Int.toNat v5]?.getD [])))) (by kernel_rfl) (fun hb => ?_) (fun hb => ?_)
      · replace h := if_t hb h
        refine Wp.seq ?_
        refine Wp.region hΓ [] [] [] [4] [] (K' := [(4, .val (.bool false))]) (L' := []) (ob := []) (by kernel_rfl) AllP.nil ?_
        refine To.thenN ?_
        refine Wp.ret ?_
        refine To.blockR ?_
        refine To.thenR ?_
        refine To.thenR ?_
        refine To.keep (kk := [4]) (kl := []) (K' := [(4, .val (.bool false))]) (L' := []) (by kernel_rfl) (by kernel_rfl) ?_
        cases h
        exact hQ
      · replace h := if_f hb h
        refine Wp.skip ?_
        refine To.blockN ?_
        refine To.thenN ?_
        refine Wp.region hΓ [] [] [] [0, 1, 5] [] (K' := [(0, .recs (α := List UInt8) [] E_string v0), (1, .recs (α := List UInt8) [] E_string v1), (5, .val (.int .i64 (IntKind.wrap .i64 (v5 + 1))))]) (L' := []) (ob := []) (by kernel_rfl) AllP.nil ?_
        refine To.keep (kk := [0, 1, 5]) (kl := []) (K' := [(0, .recs (α := List UInt8) [] E_string v0), (1, .recs (α := List UInt8) [] E_string v1), (5, .val (.int .i64 (IntKind.wrap .i64 (v5 + 1))))]) (L' := []) (by kernel_rfl) (by kernel_rfl) ?_
        refine To.again ?_
        exact ih (IntKind.wrap .i64 (v5 + 1)) _ h hQ
    · replace h := if_f hb h
      refine Wp.exit ?_
      refine To.thenX ?_
      refine To.thenX ?_
      refine To.keep (kk := []) (kl := []) (K' := []) (L' := []) (by kernel_rfl) (by kernel_rfl) ?_
      cases h
      exact hQ
def ref02_Same (n : Nat) (a0 : List (List UInt8)) (a1 : List (List UInt8)) : Option (Bool) :=
  if ((List.length a0 : Int) != (List.length a1 : Int)) = true then some false
  else ((ref02_Same_l1 n a0 a1 n 0).bind fun o1 =>
  (Sum.elim (fun o1 => some true) (fun o1 => some o1)) o1)
theorem ok_ref02_Same (n : Nat) (a0 : List (List UInt8)) (a1 : List (List UInt8)) (r : Bool) (h : ref02_Same n a0 a1 = some r) : CallsX Tryd.prog 19 [.recs (α := List UInt8) [] E_string a0, .recs (α := List UInt8) [] E_string a1] (.val (.bool r)) := by
  unfold ref02_Same at h
  refine callsX_of (fn := Tryd.f19) (by kernel_rfl) rfl (by kernel_rfl) (Nat.le_of_ble_eq_true (by kernel_rfl)) fun F0 w0 _ => ?_
  refine Wp.keep (kk := [0, 1]) (kl := []) (K' := [(0, .recs (α := List UInt8) [] E_string a0), (1, .recs (α := List UInt8) [] E_string a1)]) (L' := []) (by kernel_rfl) (by kernel_rfl) ?_
  refine Wp.seq ?_
  refine Wp.region hΓ [] [] [] [0, 1] [] (K' := [(0, .recs (α := List UInt8) [] E_string a0), (1, .recs (α := List UInt8) [] E_string a1)]) (L' := []) (ob := []) (by kernel_rfl) AllP.nil ?_
  refine To.thenN ?_
  refine Wp.seq ?_
  refine Wp.seq ?_
  refine Wp.region hΓ [] [] [] [0, 1, 10] [] (K' := [(0, .recs (α := List UInt8) [] E_string a0), (1, .recs (α := List UInt8) [] E_string a1), (10, .val (.bool ((List.length a0 : Int) != (List.length a1 : Int))))]) (L' := []) (ob := []) (by kernel_rfl) AllP.nil ?_
  refine To.thenN ?_
  refine Wp.cond (b := ((List.length a0 : Int) != (List.length a1 : Int))) (by kernel_rfl) (fun hb => ?_) (fun hb => ?_)
  · replace h := if_t hb h
    refine Wp.seq ?_
    refine Wp.region hΓ [] [] [] [4] [] (K' := [(4, .val (.bool false))]) (L' := []) (ob := []) (by kernel_rfl) AllP.nil ?_
    refine To.thenN ?_
    refine Wp.ret ?_
    refine To.thenR ?_
    refine To.keep (kk := [4]) (kl := []) (K' := [(4, .val (.bool false))]) (L' := []) (by kernel_rfl) (by kernel_rfl) ?_
    cases h
    exact To.done hΓ (by kernel_rfl)
  · replace h := if_f hb h
    refine Wp.skip ?_
    refine To.thenN ?_
    refine Wp.seq ?_
    refine Wp.seq ?_
    refine Wp.region hΓ [] [] [] [0, 1, 5] [] (K' := [(0, .recs (α := List UInt8) [] E_string a0), (1, .recs (α := List UInt8) [] E_string a1), (5, .val (.int .i64 0))]) (L' := []) (ob := []) (by kernel_rfl) AllP.nil ?_
    refine To.thenN ?_
    refine Wp.block ?_
    obtain ⟨o1, ho1, h⟩ := bind_of h
    refine Wp.keep (kk := [0, 1, 5]) (kl := []) (K' := [(0, .recs (α := List UInt8) [] E_string a0), (1, .recs (α := List UInt8) [] E_string a1), (5, .val (.int .i64 0))]) (L' := []) (by kernel_rfl) (by kernel_rfl) ?_
    refine Wp.loopL ?_
    refine ok_ref02_Same_l1 n a0 a1 n 0 o1 ho1 ?_
    rcases o1 with o1 | o1
    · replace h := sum_l h
      refine To.blockX ?_
      refine To.thenN ?_
      refine Wp.seq ?_
      refine Wp.region hΓ [] [] [] [4] [] (K' := [(4, .val (.bool true))]) (L' := []) (ob := []) (by kernel_rfl) AllP.nil ?_
      refine To.thenN ?_
      refine Wp.ret ?_
      refine To.keep (kk := [4]) (kl := []) (K' := [(4, .val (.bool true))]) (L' := []) (by kernel_rfl) (by kernel_rfl) ?_
      cases h
      exact To.done hΓ (by kernel_rfl)
    · replace h := sum_r h
      refine To.blockR ?_
      refine To.thenR ?_
      refine To.keep (kk := [4]) (kl := []) (K' := [(4, .val (.bool o1))]) (L' := []) (by kernel_rfl) (by kernel_rfl) ?_
      cases h
      exact To.done hΓ (by kernel_rfl)
def word_Bare_l1 (n : Nat) (v0 : List UInt8) (v6 : Int) : Nat → Int → Option (Sum (Unit) (Bool))
  | 0, _ => none
  | k + 1, v7 => if (decide (v7 < v6)) = true then (if (decide (0 ≤ v7 ∧ v7 < (List.length v0 : Int))) = true then (lett ((bif (bif (bif (bif (decide ((((v0)[Int.toNat v7]?.getD 0).toNat : Int) < 97)) then true else (decide ((((v0)[Int.toNat v7]?.getD 0).toNat : Int) > 122))) then (bif (decide ((((v0)[Int.toNat v7]?.getD 0).toNat : Int) < 65)) then true else (decide ((((v0)[Int.toNat v7]?.getD 0).toNat : Int) > 90))) else false) then (bif (decide ((((v0)[Int.toNat v7]?.getD 0).toNat : Int) < 48)) then true else (decide ((((v0)[Int.toNat v7]?.getD 0).toNat : Int) > 57))) else false) then (decide ((Lib.indexByte ([46, 95, 45, 47, 58, 61, 44, 43, 64, 37] : List UInt8) (Int.toNat (((v0)[Int.toNat v7]?.getD 0).toNat : Int)).toUInt8) < 0)) else false) : Bool) fun x1 =>
  if x1 = true then (some (.inr false))
  else (word_Bare_l1 n v0 v6 k (IntKind.wrap .i64 (v7 + 1)))) else none)
  else (some (.inl ()))
theorem ok_word_Bare_l1 (n : Nat) (v0 : List UInt8) (v6 : Int) {F0 : Fz} {w0 : Pt Tryd.prog} {Q : Exit → Act → World → Prop} (k : Nat) : ∀ (v7 : Int) (o : Sum (Unit) (Bool)), word_Bare_l1 n v0 v6 k v7 = some o → (Sum.elim (fun s => To 43 F0 w0 [(0, .str v0)] [] (.exit 0) Q) (fun s => To 43 F0 w0 [(2, .val (.bool s))] [] .ret Q)) o → WL Tryd.prog 43 F0 w0 [(0, .str v0), (6, .val (.int .i64 v6)), (7, .val (.int .i64 v7))] [] (cI (cI (cB (cA (cB (cF Tryd.f20)))))) Q := by
  induction k with
  | zero => intro v7 o h; cases h
  | succ k ih =>
    intro v7 o h hQ
    rw [word_Bare_l1] at h
    refine WL.round ?_
    refine Wp.seq ?_
    refine Wp.region hΓ [] [] [] [0, 6, 7, 8] [] (K' := [(0, .str v0), (6, .val (.int .i64 v6)), (7, .val (.int .i64 v7)), (8, .val (.bool (decide (v7 < v6))))]) (L' := []) (ob := []) (by kernel_rfl) AllP.nil ?_
    refine To.thenN ?_
    refine Wp.seq ?_
    refine Wp.cond (b := (decide (v7 < v6))) (by kernel_rfl) (fun hb => ?_) (fun hb => ?_)
    · replace h := if_t hb h
      refine Wp.skip ?_
      refine To.thenN ?_
      refine Wp.seq ?_
      refine Wp.block ?_
      refine Wp.seq ?_
      refine Wp.region hΓ [] [] [] [0, 3, 6, 7] [] (K' := [(0, .str v0), (3, .val (.int .i64 v7)), (6, .val (.int .i64 v6)), (7, .val (.int .i64 v7))]) (L' := []) (ob := []) (by kernel_rfl) AllP.nil ?_
      refine To.thenN ?_
      refine Wp.seq ?_
      obtain ⟨hc2, h⟩ := chk_of h
      refine Wp.region hΓ [] [] [] [0, 4, 6, 7] [] (K' := [(0, .str v0), (4, .val (.int .u8 (((v0)[Int.toNat v7]?.getD 0).toNat : Int))), (6, .val (.int .i64 v6)), (7, .val (.int .i64 v7))]) (L' := []) (ob := [(decide (0 ≤ v7 ∧ v7 < (List.length v0 : Int))) = true]) (by kernel_rfl) (AllP.cons hc2 AllP.nil) ?_
      refine To.thenN ?_
      refine Wp.seq ?_
      obtain ⟨x1, hx1, h⟩ := lett_of h
      refine Wp.region hΓ [] [(24, .val (.int .i64 (Lib.indexByte ([46, 95, 45, 47, 58, 61, 44, 43, 64, 37] : List UInt8) (Int.toNat (((v0)[Int.toNat v7]?.getD 0).toNat : Int)).toUInt8)))] [] [0, 6, 7, 39] [] (K' := [(0, .str v0), (6, .val (.int .i64 v6)), (7, .val (.int .i64 v7)), (39, .val (.bool (bif (bif (bif (bif (decide ((((v0)[Int.toNat v7]?.getD 0).toNat : Int) < 97)) then true else (decide ((((v0)[Int.toNat v7]?.getD 0).toNat : Int) > 122))) then (bif (decide ((((v0)[Int.toNat v7]?.getD 0).toNat : Int) < 65)) then true else (decide ((((v0)[Int.toNat v7]?.getD 0).toNat : Int) > 90))) else false) then (bif (decide ((((v0)[Int.toNat v7]?.getD 0).toNat : Int) < 48)) then true else (decide ((((v0)[Int.toNat v7]?.getD 0).toNat : Int) > 57))) else false) then (decide ((Lib.indexByte ([46, 95, 45, 47, 58, 61, 44, 43, 64, 37] : List UInt8) (Int.toNat (((v0)[Int.toNat v7]?.getD 0).toNat : Int)).toUInt8) < 0)) else false)))]) (L' := []) (ob := [(((bif (bif (bif (decide ((((v0)[Int.toNat v7]?.getD 0).toNat : Int) < 97)) then true else (decide ((((v0)[Int.toNat v7]?.getD 0).toNat : Int) > 122))) then (bif (decide ((((v0)[Int.toNat v7]?.getD 0).toNat : Int) < 65)) then true else (decide ((((v0)[Int.toNat v7]?.getD 0).toNat : Int) > 90))) else false) then (bif (decide ((((v0)[Int.toNat v7]?.getD 0).toNat : Int) < 48)) then true else (decide ((((v0)[Int.toNat v7]?.getD 0).toNat : Int) > 57))) else false) == true) = true → CX Tryd.prog 42 [.str [46, 95, 45, 47, 58, 61, 44, 43, 64, 37], .val (.int .u8 (((v0)[Int.toNat v7]?.getD 0).toNat : Int))] (.val (.int .i64 (Lib.indexByte ([46, 95, 45, 47, 58, 61, 44, 43, 64, 37] : List UInt8) (Int.toNat (((v0)[Int.toNat v7]?.getD 0).toNat : Int)).toUInt8))))]) (by kernel_rfl) (AllP.cons (fun _ => cx (Sh.indexByte42)) AllP.nil) ?_
      refine To.eq (K' := [(0, .str v0), (6, .val (.int .i64 v6)), (7, .val (.int .i64 v7)), (39, .val (.bool x1))]) (L' := []) (by cases hx1; rfl) (by cases hx1; rfl) ?_
      refine To.thenN ?_
      refine Wp.cond (b := x1) (by kernel_rfl) (fun hb => ?_) (fun hb => ?_)
      · replace h := if_t hb h
        refine Wp.seq ?_
        refine Wp.region hΓ [] [] [] [2] [] (K' := [(2, .val (.bool false))]) (L' := []) (ob := []) (by kernel_rfl) AllP.nil ?_
        refine To.thenN ?_
        refine Wp.ret ?_
        refine To.blockR ?_
        refine To.thenR ?_
        refine To.thenR ?_
        refine To.keep (kk := [2]) (kl := []) (K' := [(2, .val (.bool false))]) (L' := []) (by kernel_rfl) (by kernel_rfl) ?_
        cases h
        exact hQ
      · replace h := if_f hb h
        refine Wp.skip ?_
        refine To.blockN ?_
        refine To.thenN ?_
        refine Wp.region hΓ [] [] [] [0, 6, 7] [] (K' := [(0, .str v0), (6, .val (.int .i64 v6)), (7, .val (.int .i64 (IntKind.wrap .i64 (v7 + 1))))]) (L' := []) (ob := []) (by kernel_rfl) AllP.nil ?_
        refine To.keep (kk := [0, 6, 7]) (kl := []) (K' := [(0, .str v0), (6, .val (.int .i64 v6)), (7, .val (.int .i64 (IntKind.wrap .i64 (v7 + 1))))]) (L' := []) (by kernel_rfl) (by kernel_rfl) ?_
        refine To.again ?_
        exact ih (IntKind.wrap .i64 (v7 + 1)) _ h hQ
    · replace h := if_f hb h
      refine Wp.exit ?_
      refine To.thenX ?_
      refine To.thenX ?_
      refine To.keep (kk := [0]) (kl := []) (K' := [(0, .str v0)]) (L' := []) (by kernel_rfl) (by kernel_rfl) ?_
      cases h
      exact hQ
def word_Bare (n : Nat) (a0 : List UInt8) : Option (Bool) :=
  (word_Bare_l1 n a0 (List.length a0 : Int) n 0).bind fun o1 =>
  (Sum.elim (fun o1 => some (!(a0 == []))) (fun o1 => some o1)) o1
theorem ok_word_Bare (n : Nat) (a0 : List UInt8) (r : Bool) (h : word_Bare n a0 = some r) : CallsX Tryd.prog 20 [.str a0] (.val (.bool r)) := by
  unfold word_Bare at h
  refine callsX_of (fn := Tryd.f20) (by kernel_rfl) rfl (by kernel_rfl) (Nat.le_of_ble_eq_true (by kernel_rfl)) fun F0 w0 _ => ?_
  refine Wp.keep (kk := [0]) (kl := []) (K' := [(0, .str a0)]) (L' := []) (by kernel_rfl) (by kernel_rfl) ?_
  refine Wp.seq ?_
  refine Wp.region hΓ [] [] [] [0] [] (K' := [(0, .str a0)]) (L' := []) (ob := []) (by kernel_rfl) AllP.nil ?_
  refine To.thenN ?_
  refine Wp.seq ?_
  refine Wp.seq ?_
  refine Wp.region hΓ [] [] [] [0, 6, 7] [] (K' := [(0, .str a0), (6, .val (.int .i64 (List.length a0 : Int))), (7, .val (.int .i64 0))]) (L' := []) (ob := []) (by kernel_rfl) AllP.nil ?_
  refine To.thenN ?_
  refine Wp.block ?_
  obtain ⟨o1, ho1, h⟩ := bind_of h
  refine Wp.keep (kk := [0, 6, 7]) (kl := []) (K' := [(0, .str a0), (6, .val (.int .i64 (List.length a0 : Int))), (7, .val (.int .i64 0))]) (L' := []) (by kernel_rfl) (by kernel_rfl) ?_
  refine Wp.loopL ?_
  refine ok_word_Bare_l1 n a0 (List.length a0 : Int) n 0 o1 ho1 ?_
  rcases o1 with o1 | o1
  · replace h := sum_l h
    refine To.blockX ?_
    refine To.thenN ?_
    refine Wp.seq ?_
    refine Wp.region hΓ [] [] [] [2] [] (K' := [(2, .val (.bool (!(a0 == []))))]) (L' := []) (ob := []) (by kernel_rfl) AllP.nil ?_
    refine To.thenN ?_
    refine Wp.ret ?_
    refine To.keep (kk := [2]) (kl := []) (K' := [(2, .val (.bool (!(a0 == []))))]) (L' := []) (by kernel_rfl) (by kernel_rfl) ?_
    cases h
    exact To.done hΓ (by kernel_rfl)
  · replace h := sum_r h
    refine To.blockR ?_
    refine To.thenR ?_
    refine To.keep (kk := [2]) (kl := []) (K' := [(2, .val (.bool o1))]) (L' := []) (by kernel_rfl) (by kernel_rfl) ?_
    cases h
    exact To.done hΓ (by kernel_rfl)
def word_Join_j3 (n : Nat) (v3 : List (List UInt8)) (v5 : List UInt8) (v6 : List (List UInt8)) (v7 : Int) (v8 : Int) (v14 : Bool) : Option ((List UInt8)) :=
  if v14 = true then (if (decide (List.length v5 < 4294967281 ∧ 1 ≤ List.length ([39] : List UInt8) ∧ List.length v5 + Lib.countB ⟨List.toArray v5⟩ ⟨List.toArray ([39] : List UInt8)⟩ * List.length ([39, 92, 39, 39] : List UInt8) ≤ limit)) = true then (if (decide (((List.length ([39] : List UInt8) + List.length (Lib.replaceAll v5 ([39] : List UInt8) ([39, 92, 39, 39] : List UInt8)) : Nat) : Int) ≤ 9223372036854775807)) = true then (if (decide (((List.length (([39] : List UInt8) ++ (Lib.replaceAll v5 ([39] : List UInt8) ([39, 92, 39, 39] : List UInt8))) + List.length ([39] : List UInt8) : Nat) : Int) ≤ 9223372036854775807)) = true then (some ((([39] : List UInt8) ++ (Lib.replaceAll v5 ([39] : List UInt8) ([39, 92, 39, 39] : List UInt8))) ++ [39])) else none) else none) else none)
  else some v5
theorem ok_word_Join_j3 (n : Nat) (v3 : List (List UInt8)) (v5 : List UInt8) (v6 : List (List UInt8)) (v7 : Int) (v8 : Int) (v14 : Bool) (o : (List UInt8)) (h : word_Join_j3 n v3 v5 v6 v7 v8 v14 = some o) {F0 : Fz} {w0 : Pt Tryd.prog} {Q : Exit → Act → World → Prop} (hQ : To 26 F0 w0 [(3, .row 1003), (5, .str o), (6, .recs (α := List UInt8) [] E_string v6), (7, .val (.int .i64 v7)), (8, .val (.int .i64 v8))] [(1003, 9, [.rowc false (α := List UInt8) [] E_string v3])] .normal Q) : Wp Tryd.prog 26 F0 w0 [(3, .row 1003), (5, .str v5), (6, .recs (α := List UInt8) [] E_string v6), (7, .val (.int .i64 v7)), (8, .val (.int .i64 v8)), (14, .val (.bool v14))] [(1003, 9, [.rowc false (α := List UInt8) [] E_string v3])] (cB (cA (cB (cI (cA (cB (cB (cI (cI (cB (cA (cB (cB (cF Tryd.f23)))))))))))))) Q := by
  unfold word_Join_j3 at h
  refine Wp.cond (b := v14) (by kernel_rfl) (fun hb => ?_) (fun hb => ?_)
  · replace h := if_t hb h
    obtain ⟨u2, h⟩ := chk_of h
    obtain ⟨hc3, h⟩ := chk_of h
    obtain ⟨hc4, h⟩ := chk_of h
    refine Wp.region hΓ [] [(1, .str (Lib.replaceAll v5 ([39] : List UInt8) ([39, 92, 39, 39] : List UInt8)))] [] [3, 5, 6, 7, 8] [1003] (K' := [(3, .row 1003), (5, .str ((([39] : List UInt8) ++ (Lib.replaceAll v5 ([39] : List UInt8) ([39, 92, 39, 39] : List UInt8))) ++ [39])), (6, .recs (α := List UInt8) [] E_string v6), (7, .val (.int .i64 v7)), (8, .val (.int .i64 v8))]) (L' := [(1003, 9, [.rowc false (α := List UInt8) [] E_string v3])]) (ob := [(true = true → CX Tryd.prog 45 [.str v5, .str [39], .str [39, 92, 39, 39]] (.str (Lib.replaceAll v5 ([39] : List UInt8) ([39, 92, 39, 39] : List UInt8)))), (decide (((List.length ([39] : List UInt8) + List.length (Lib.replaceAll v5 ([39] : List UInt8) ([39, 92, 39, 39] : List UInt8)) : Nat) : Int) ≤ 9223372036854775807)) = true, (decide (((List.length (([39] : List UInt8) ++ (Lib.replaceAll v5 ([39] : List UInt8) ([39, 92, 39, 39] : List UInt8))) + List.length ([39] : List UInt8) : Nat) : Int) ≤ 9223372036854775807)) = true]) (by kernel_rfl) (AllP.cons (fun _ => cx (Sh.replaceAll45 u2)) (AllP.cons hc3 (AllP.cons hc4 AllP.nil))) ?_
    refine To.keep (kk := [3, 5, 6, 7, 8]) (kl := [1003]) (K' := [(3, .row 1003), (5, .str ((([39] : List UInt8) ++ (Lib.replaceAll v5 ([39] : List UInt8) ([39, 92, 39, 39] : List UInt8))) ++ [39])), (6, .recs (α := List UInt8) [] E_string v6), (7, .val (.int .i64 v7)), (8, .val (.int .i64 v8))]) (L' := [(1003, 9, [.rowc false (α := List UInt8) [] E_string v3])]) (by kernel_rfl) (by kernel_rfl) ?_
    cases h
    exact hQ
  · replace h := if_f hb h
    refine Wp.skip ?_
    refine To.keep (kk := [3, 5, 6, 7, 8]) (kl := [1003]) (K' := [(3, .row 1003), (5, .str v5), (6, .recs (α := List UInt8) [] E_string v6), (7, .val (.int .i64 v7)), (8, .val (.int .i64 v8))]) (L' := [(1003, 9, [.rowc false (α := List UInt8) [] E_string v3])]) (by kernel_rfl) (by kernel_rfl) ?_
    cases h
    exact hQ
def word_Join_j2 (n : Nat) (v3 : List (List UInt8)) (v6 : List (List UInt8)) (v7 : Int) (v8 : Int) : Option ((List (List UInt8))) :=
  if (decide (0 ≤ v8 ∧ v8 < (List.length v6 : Int))) = true then ((word_Bare n ((v6)[Int.toNat v8]?.getD [])).bind fun r1 =>
  (word_Join_j3 n v3 ((v6)[Int.toNat v8]?.getD []) v6 v7 v8 (!r1)).bind fun o2 =>
  if (decide ((List.length v3 + List.length ([o2] : List (List UInt8))) * (16 + 1) ≤ limit)) = true then (some (v3 ++ ([o2] : List (List UInt8)))) else none) else none
theorem ok_word_Join_j2 (n : Nat) (v3 : List (List UInt8)) (v6 : List (List UInt8)) (v7 : Int) (v8 : Int) (o : (List (List UInt8))) (h : word_Join_j2 n v3 v6 v7 v8 = some o) {F0 : Fz} {w0 : Pt Tryd.prog} {Q : Exit → Act → World → Prop} (hQ : To 26 F0 w0 [(3, .row 1003), (6, .recs (α := List UInt8) [] E_string v6), (7, .val (.int .i64 v7)), (8, .val (.int .i64 v8))] [(1003, 9, [.rowc false (α := List UInt8) [] E_string o])] .normal Q) : Wp Tryd.prog 26 F0 w0 [(3, .row 1003), (6, .recs (α := List UInt8) [] E_string v6), (7, .val (.int .i64 v7)), (8, .val (.int .i64 v8))] [(1003, 9, [.rowc false (α := List UInt8) [] E_string v3])] (cA (cB (cB (cI (cI (cB (cA (cB (cB (cF Tryd.f23)))))))))) Q := by
  unfold word_Join_j2 at h
  refine Wp.block ?_
  refine Wp.seq ?_
  obtain ⟨hc4, h⟩ := chk_of h
  refine Wp.region hΓ [] [] [] [3, 5, 6, 7, 8] [1003] (K' := [(3, .row 1003), (5, .str ((v6)[Int.toNat v8]?.getD [])), (6, .recs (α := List UInt8) [] E_string v6), (7, .val (.int .i64 v7)), (8, .val (.int .i64 v8))]) (L' := [(1003, 9, [.rowc false (α := List UInt8) [] E_string v3])]) (ob := [(decide (0 ≤ v8 ∧ v8 < (List.length v6 : Int))) = true]) (by kernel_rfl) (AllP.cons hc4 AllP.nil) ?_
  refine To.thenN ?_
  refine Wp.seq ?_
  refine Wp.seq ?_
  obtain ⟨r1, hr1, h⟩ := bind_of h
  refine Wp.region hΓ [] [(1, .val (.bool r1))] [] [3, 5, 6, 7, 8, 14] [1003] (K' := [(3, .row 1003), (5, .str ((v6)[Int.toNat v8]?.getD [])), (6, .recs (α := List UInt8) [] E_string v6), (7, .val (.int .i64 v7)), (8, .val (.int .i64 v8)), (14, .val (.bool (!r1)))]) (L' := [(1003, 9, [.rowc false (α := List UInt8) [] E_string v3])]) (ob := [(true = true → CX Tryd.prog 20 [.str ((v6)[Int.toNat v8]?.getD [])] (.val (.bool r1)))]) (by kernel_rfl) (AllP.cons (fun _ => cx (ok_word_Bare n ((v6)[Int.toNat v8]?.getD []) _ hr1)) AllP.nil) ?_
  refine To.thenN ?_
  obtain ⟨o2, ho2, h⟩ := bind_of h
  refine Wp.keep (kk := [3, 5, 6, 7, 8, 14]) (kl := [1003]) (K' := [(3, .row 1003), (5, .str ((v6)[Int.toNat v8]?.getD [])), (6, .recs (α := List UInt8) [] E_string v6), (7, .val (.int .i64 v7)), (8, .val (.int .i64 v8)), (14, .val (.bool (!r1)))]) (L' := [(1003, 9, [.rowc false (α := List UInt8) [] E_string v3])]) (by kernel_rfl) (by kernel_rfl) ?_
  refine ok_word_Join_j3 n v3 ((v6)[Int.toNat v8]?.getD []) v6 v7 v8 (!r1) o2 ho2 ?_
  refine To.thenN ?_
  obtain ⟨hc3, h⟩ := chk_of h
  refine Wp.region hΓ [] [(2, .recs (α := List UInt8) [] E_string [o2]), (3, .recs (α := List UInt8) [] E_string (v3 ++ ([o2] : List (List UInt8))))] [] [3, 6, 7, 8] [22] (K' := [(3, .row 22), (6, .recs (α := List UInt8) [] E_string v6), (7, .val (.int .i64 v7)), (8, .val (.int .i64 v8))]) (L' := [(22, 9, [.rowc false (α := List UInt8) [] E_string (v3 ++ ([o2] : List (List UInt8)))])]) (ob := [(MkOb 1 [.str o2] 1 (.recs (α := List UInt8) [] E_string [o2]) ∧ GoodR (.recs (α := List UInt8) [] E_string [o2])), (decide ((List.length v3 + List.length ([o2] : List (List UInt8))) * (16 + 1) ≤ limit)) = true, (AppOb [] E_string v3 (List.flatMap E_string ([o2] : List (List UInt8))) (List.length ([o2] : List (List UInt8))) (.recs (α := List UInt8) [] E_string (v3 ++ ([o2] : List (List UInt8)))) ∧ GoodR (.recs (α := List UInt8) [] E_string (v3 ++ ([o2] : List (List UInt8)))))]) (by kernel_rfl) (AllP.cons (mkOb (by kernel_rfl) rfl (by kernel_rfl) (good_E_string _)) (AllP.cons hc3 (AllP.cons (appOb rfl rfl (good_E_string _)) AllP.nil))) ?_
  refine To.blockN ?_
  refine To.keep (kk := [3, 6, 7, 8]) (kl := [22]) (K' := [(3, .row 22), (6, .recs (α := List UInt8) [] E_string v6), (7, .val (.int .i64 v7)), (8, .val (.int .i64 v8))]) (L' := [(22, 9, [.rowc false (α := List UInt8) [] E_string (v3 ++ ([o2] : List (List UInt8)))])]) (by kernel_rfl) (by kernel_rfl) ?_
  refine To.pre (St.rename 22 1003 (by decide) (K' := [(3, .row 1003), (6, .recs (α := List UInt8) [] E_string v6), (7, .val (.int .i64 v7)), (8, .val (.int .i64 v8))]) (L' := [(1003, 9, [.rowc false (α := List UInt8) [] E_string (v3 ++ ([o2] : List (List UInt8)))])]) (by kernel_rfl) (by kernel_rfl) (by kernel_rfl)) ?_
  refine To.keep (kk := [3, 6, 7, 8]) (kl := [1003]) (K' := [(3, .row 1003), (6, .recs (α := List UInt8) [] E_string v6), (7, .val (.int .i64 v7)), (8, .val (.int .i64 v8))]) (L' := [(1003, 9, [.rowc false (α := List UInt8) [] E_string (v3 ++ ([o2] : List (List UInt8)))])]) (by kernel_rfl) (by kernel_rfl) ?_
  cases h
  exact hQ
def word_Join_l1 (n : Nat) (v6 : List (List UInt8)) (v7 : Int) : Nat → (List (List UInt8)) → Int → Option ((List (List UInt8)))
  | 0, _, _ => none
  | k + 1, v3, v8 => if (decide (v8 < v7)) = true then ((word_Join_j2 n v3 v6 v7 v8).bind fun o1 =>
  word_Join_l1 n v6 v7 k o1 (IntKind.wrap .i64 (v8 + 1)))
  else some v3
theorem ok_word_Join_l1 (n : Nat) (v6 : List (List UInt8)) (v7 : Int) {F0 : Fz} {w0 : Pt Tryd.prog} {Q : Exit → Act → World → Prop} (k : Nat) : ∀ (v3 : List (List UInt8)) (v8 : Int) (o : (List (List UInt8))), word_Join_l1 n v6 v7 k v3 v8 = some o → To 26 F0 w0 [(3, .row 1003)] [(1003, 9, [.rowc false (α := List UInt8) [] E_string o])] (.exit 0) Q → WL Tryd.prog 26 F0 w0 [(3, .row 1003), (6, .recs (α := List UInt8) [] E_string v6), (7, .val (.int .i64 v7)), (8, .val (.int .i64 v8))] [(1003, 9, [.rowc false (α := List UInt8) [] E_string v3])] (cI (cI (cB (cA (cB (cB (cF Tryd.f23))))))) Q := by
  induction k with
  | zero => intro v3 v8 o h; cases h
  | succ k ih =>
    intro v3 v8 o h hQ
    rw [word_Join_l1] at h
    refine WL.round ?_
    refine Wp.seq ?_
    refine Wp.region hΓ [] [] [] [3, 6, 7, 8, 9] [1003] (K' := [(3, .row 1003), (6, .recs (α := List UInt8) [] E_string v6), (7, .val (.int .i64 v7)), (8, .val (.int .i64 v8)), (9, .val (.bool (decide (v8 < v7))))]) (L' := [(1003, 9, [.rowc false (α := List UInt8) [] E_string v3])]) (ob := []) (by kernel_rfl) AllP.nil ?_
    refine To.thenN ?_
    refine Wp.seq ?_
    refine Wp.cond (b := (decide (v8 < v7))) (by kernel_rfl) (fun hb => ?_) (fun hb => ?_)
    · replace h := if_t hb h
      refine Wp.skip ?_
      refine To.thenN ?_
      refine Wp.seq ?_
      obtain ⟨o1, ho1, h⟩ := bind_of h
      refine Wp.keep (kk := [3, 6, 7, 8]) (kl := [1003]) (K' := [(3, .row 1003), (6, .recs (α := List UInt8) [] E_string v6), (7, .val (.int .i64 v7)), (8, .val (.int .i64 v8))]) (L' := [(1003, 9, [.rowc false (α := List UInt8) [] E_string v3])]) (by kernel_rfl) (by kernel_rfl) ?_
      refine ok_word_Join_j2 n v3 v6 v7 v8 o1 ho1 ?_
      refine To.thenN ?_
      refine Wp.region hΓ [] [] [] [3, 6, 7, 8] [1003] (K' := [(3, .row 1003), (6, .recs (α := List UInt8) [] E_string v6), (7, .val (.int .i64 v7)), (8, .val (.int .i64 (IntKind.wrap .i64 (v8 + 1))))]) (L' := [(1003, 9, [.rowc false (α := List UInt8) [] E_string o1])]) (ob := []) (by kernel_rfl) AllP.nil ?_
      refine To.keep (kk := [3, 6, 7, 8]) (kl := [1003]) (K' := [(3, .row 1003), (6, .recs (α := List UInt8) [] E_string v6), (7, .val (.int .i64 v7)), (8, .val (.int .i64 (IntKind.wrap .i64 (v8 + 1))))]) (L' := [(1003, 9, [.rowc false (α := List UInt8) [] E_string o1])]) (by kernel_rfl) (by kernel_rfl) ?_
      refine To.again ?_
      exact ih o1 (IntKind.wrap .i64 (v8 + 1)) _ h hQ
    · replace h := if_f hb h
      refine Wp.exit ?_
      refine To.thenX ?_
      refine To.thenX ?_
      refine To.keep (kk := [3]) (kl := [1003]) (K' := [(3, .row 1003)]) (L' := [(1003, 9, [.rowc false (α := List UInt8) [] E_string v3])]) (by kernel_rfl) (by kernel_rfl) ?_
      cases h
      exact hQ
def word_Join (n : Nat) (a0 : List (List UInt8)) : Option ((List UInt8)) :=
  (word_Join_l1 n a0 (List.length a0 : Int) n ([] : List (List UInt8)) 0).bind fun o1 =>
  if (decide (List.length o1 ≤ limit ∧ List.length (Lib.join o1 ([32] : List UInt8)) ≤ limit)) = true then (some (Lib.join o1 ([32] : List UInt8))) else none
theorem ok_word_Join (n : Nat) (a0 : List (List UInt8)) (r : (List UInt8)) (h : word_Join n a0 = some r) : CallsX Tryd.prog 23 [.recs (α := List UInt8) [] E_string a0] (.str r) := by
  unfold word_Join at h
  refine callsX_of (fn := Tryd.f23) (by kernel_rfl) rfl (by kernel_rfl) (Nat.le_of_ble_eq_true (by kernel_rfl)) fun F0 w0 _ => ?_
  refine Wp.keep (kk := [0]) (kl := []) (K' := [(0, .recs (α := List UInt8) [] E_string a0)]) (L' := []) (by kernel_rfl) (by kernel_rfl) ?_
  refine Wp.seq ?_
  refine Wp.region hΓ [] [] [] [0] [] (K' := [(0, .recs (α := List UInt8) [] E_string a0)]) (L' := []) (ob := []) (by kernel_rfl) AllP.nil ?_
  refine To.thenN ?_
  refine Wp.seq ?_
  refine Wp.region hΓ [] [] [] [0, 3] [] (K' := [(0, .recs (α := List UInt8) [] E_string a0), (3, .val (.slice none 0 0))]) (L' := []) (ob := []) (by kernel_rfl) AllP.nil ?_
  refine To.thenN ?_
  refine Wp.seq ?_
  refine Wp.seq ?_
  refine Wp.region hΓ [] [] [] [3, 6, 7, 8] [] (K' := [(3, .val (.slice none 0 0)), (6, .recs (α := List UInt8) [] E_string a0), (7, .val (.int .i64 (List.length a0 : Int))), (8, .val (.int .i64 0))]) (L' := []) (ob := []) (by kernel_rfl) AllP.nil ?_
  refine To.thenN ?_
  refine Wp.block ?_
  obtain ⟨o1, ho1, h⟩ := bind_of h
  refine Wp.keep (kk := [3, 6, 7, 8]) (kl := []) (K' := [(3, .val (.slice none 0 0)), (6, .recs (α := List UInt8) [] E_string a0), (7, .val (.int .i64 (List.length a0 : Int))), (8, .val (.int .i64 0))]) (L' := []) (by kernel_rfl) (by kernel_rfl) ?_
  refine Wp.pre (St.vacant (t := 3) (k := 1003) (e := 9) (K' := [(3, .row 1003), (6, .recs (α := List UInt8) [] E_string a0), (7, .val (.int .i64 (List.length a0 : Int))), (8, .val (.int .i64 0))]) (good_E_string _) (by decide) (by kernel_rfl) (by kernel_rfl)) ?_
  refine Wp.keep (kk := [3, 6, 7, 8]) (kl := [1003]) (K' := [(3, .row 1003), (6, .recs (α := List UInt8) [] E_string a0), (7, .val (.int .i64 (List.length a0 : Int))), (8, .val (.int .i64 0))]) (L' := [(1003, 9, [.rowc false (α := List UInt8) [] E_string []])]) (by kernel_rfl) (by kernel_rfl) ?_
  refine Wp.loopL ?_
  refine ok_word_Join_l1 n a0 (List.length a0 : Int) n ([] : List (List UInt8)) 0 o1 ho1 ?_
  refine To.blockX ?_
  refine To.thenN ?_
  refine Wp.seq ?_
  obtain ⟨u2, h⟩ := chk_of h
  refine Wp.region hΓ [(1, [1003])] [(1, .str (Lib.join o1 ([32] : List UInt8)))] [] [2] [] (K' := [(2, .str (Lib.join o1 ([32] : List UInt8)))]) (L' := []) (ob := [(true = true → CX Tryd.prog 46 [.recs (α := List UInt8) [] E_string o1, .str [32]] (.str (Lib.join o1 ([32] : List UInt8))))]) (by kernel_rfl) (AllP.cons (fun _ => cx (Sh.join46 u2)) AllP.nil) ?_
  refine To.thenN ?_
  refine Wp.ret ?_
  refine To.keep (kk := [2]) (kl := []) (K' := [(2, .str (Lib.join o1 ([32] : List UInt8)))]) (L' := []) (by kernel_rfl) (by kernel_rfl) ?_
  cases h
  exact To.done hΓ (by kernel_rfl)
def law15_awake (n : Nat) : Option (Bool) :=
  (word_Split n [97, 32, 34, 98, 32, 99, 34, 39, 100, 39, 32, 92, 101]).bind fun r1 =>
  ((if ((r1.2 == 0) == true) = true then ref02_Same n r1.1 ([[97], [98, 32, 99, 100], [101]]) else some false)).bind fun r2 =>
  ((if ((bif (r1.2 == 0) then r2 else false) == true) = true then word_Join n ([[105, 116, 39, 115]]) else some [])).bind fun r3 =>
  some (bif (bif (r1.2 == 0) then r2 else false) then (r3 == [39, 105, 116, 39, 92, 39, 39, 115, 39]) else false)
theorem ok_law15_awake (n : Nat) (r : Bool) (h : law15_awake n = some r) : CallsX Tryd.prog 16 [] (.val (.bool r)) := by
  unfold law15_awake at h
  refine callsX_of (fn := Tryd.f16) (by kernel_rfl) rfl (by kernel_rfl) (Nat.le_of_ble_eq_true (by kernel_rfl)) fun F0 w0 _ => ?_
  refine Wp.keep (kk := []) (kl := []) (K' := []) (L' := []) (by kernel_rfl) (by kernel_rfl) ?_
  refine Wp.seq ?_
  refine Wp.region hΓ [] [] [] [] [] (K' := []) (L' := []) (ob := []) (by kernel_rfl) AllP.nil ?_
  refine To.thenN ?_
  refine Wp.seq ?_
  obtain ⟨r1, hr1, h⟩ := bind_of h
  refine Wp.region hΓ [] [(0, .tup [.recs (α := List UInt8) [] E_string r1.1, .val (.int .i64 r1.2)])] [] [1, 2] [] (K' := [(1, .recs (α := List UInt8) [] E_string r1.1), (2, .val (.int .i64 r1.2))]) (L' := []) (ob := [(true = true → CX Tryd.prog 17 [.str [97, 32, 34, 98, 32, 99, 34, 39, 100, 39, 32, 92, 101]] (.tup [.recs (α := List UInt8) [] E_string r1.1, .val (.int .i64 r1.2)]))]) (by kernel_rfl) (AllP.cons (fun _ => cx (ok_word_Split n [97, 32, 34, 98, 32, 99, 34, 39, 100, 39, 32, 92, 101] _ hr1)) AllP.nil) ?_
  refine To.thenN ?_
  refine Wp.seq ?_
  obtain ⟨r2, hr2, h⟩ := bind_of h
  obtain ⟨r3, hr3, h⟩ := bind_of h
  refine Wp.region hΓ [] [(4, .recs (α := List UInt8) [] E_string ([[97], [98, 32, 99, 100], [101]])), (5, .val (.bool r2)), (8, .recs (α := List UInt8) [] E_string ([[105, 116, 39, 115]])), (9, .str r3)] [] [0] [] (K' := [(0, .val (.bool (bif (bif (r1.2 == 0) then r2 else false) then (r3 == [39, 105, 116, 39, 92, 39, 39, 115, 39]) else false)))]) (L' := []) (ob := [(((r1.2 == 0) == true) = true → MkOb 1 [.str [97], .str [98, 32, 99, 100], .str [101]] 3 (.recs (α := List UInt8) [] E_string ([[97], [98, 32, 99, 100], [101]])) ∧ GoodR (.recs (α := List UInt8) [] E_string ([[97], [98, 32, 99, 100], [101]]))), (((r1.2 == 0) == true) = true → CX Tryd.prog 19 [.recs (α := List UInt8) [] E_string r1.1, .recs (α := List UInt8) [] E_string ([[97], [98, 32, 99, 100], [101]])] (.val (.bool r2))), (((bif (r1.2 == 0) then r2 else false) == true) = true → MkOb 1 [.str [105, 116, 39, 115]] 1 (.recs (α := List UInt8) [] E_string ([[105, 116, 39, 115]])) ∧ GoodR (.recs (α := List UInt8) [] E_string ([[105, 116, 39, 115]]))), (((bif (r1.2 == 0) then r2 else false) == true) = true → CX Tryd.prog 23 [.recs (α := List UInt8) [] E_string ([[105, 116, 39, 115]])] (.str r3))]) (by kernel_rfl) (AllP.cons (fun _ => mkOb (by kernel_rfl) rfl (by kernel_rfl) (good_E_string _)) (AllP.cons (fun hg => cx (ok_ref02_Same n r1.1 ([[97], [98, 32, 99, 100], [101]]) _ (if_t hg hr2))) (AllP.cons (fun _ => mkOb (by kernel_rfl) rfl (by kernel_rfl) (good_E_string _)) (AllP.cons (fun hg => cx (ok_word_Join n ([[105, 116, 39, 115]]) _ (if_t hg hr3))) AllP.nil)))) ?_
  refine To.thenN ?_
  refine Wp.ret ?_
  refine To.keep (kk := [0]) (kl := []) (K' := [(0, .val (.bool (bif (bif (r1.2 == 0) then r2 else false) then (r3 == [39, 105, 116, 39, 92, 39, 39, 115, 39]) else false)))]) (L' := []) (by kernel_rfl) (by kernel_rfl) ?_
  cases h
  exact To.done hΓ (by kernel_rfl)
def ref15_blank (a0 : Int) : Bool :=
  (bif (a0 == 32) then true else (a0 == 9))
theorem ok_ref15_blank (a0 : Int) (r : Bool) (h : ref15_blank a0 = r) : CallsX Tryd.prog 43 [.val (.int .u8 a0)] (.val (.bool r)) := by
  unfold ref15_blank at h
  refine callsX_of (fn := Tryd.f43) (by kernel_rfl) rfl (by kernel_rfl) (Nat.le_of_ble_eq_true (by kernel_rfl)) fun F0 w0 _ => ?_
  refine Wp.keep (kk := [0]) (kl := []) (K' := [(0, .val (.int .u8 a0))]) (L' := []) (by kernel_rfl) (by kernel_rfl) ?_
  refine Wp.seq ?_
  refine Wp.region hΓ [] [] [] [0] [] (K' := [(0, .val (.int .u8 a0))]) (L' := []) (ob := []) (by kernel_rfl) AllP.nil ?_
  refine To.thenN ?_
  refine Wp.seq ?_
  refine Wp.region hΓ [] [] [] [2] [] (K' := [(2, .val (.bool (bif (a0 == 32) then true else (a0 == 9))))]) (L' := []) (ob := []) (by kernel_rfl) AllP.nil ?_
  refine To.thenN ?_
  refine Wp.ret ?_
  refine To.keep (kk := [2]) (kl := []) (K' := [(2, .val (.bool (bif (a0 == 32) then true else (a0 == 9))))]) (L' := []) (by kernel_rfl) (by kernel_rfl) ?_
  cases h
  exact To.done hΓ (by kernel_rfl)
def ref15_piece_l1 (n : Nat) (v0 : List UInt8) (v1 : Int) : Nat → Int → Option (Sum (Unit) ((List UInt8) × Int))
  | 0, _ => none
  | k + 1, v7 => if (decide (v7 < (List.length v0 : Int))) = true then (if (decide (0 ≤ v7 ∧ v7 < (List.length v0 : Int))) = true then (if ((((v0)[Int.toNat v7]?.getD 0).toNat : Int) == 39) = true then (if (decide (0 ≤ v7 ∧ v7 ≤ (List.length v0 : Int))) = true then (if (decide (0 ≤ (IntKind.wrap .i64 (v1 + 1)) ∧ (IntKind.wrap .i64 (v1 + 1)) ≤ v7)) = true then (lett ((List.take (Int.toNat v7 - Int.toNat (IntKind.wrap .i64 (v1 + 1))) (List.drop (Int.toNat (IntKind.wrap .i64 (v1 + 1))) v0)) : List UInt8) fun x4 =>
  some (.inr (x4, (IntKind.wrap .i64 (v7 + 1))))) else none) else none)
  else (ref15_piece_l1 n v0 v1 k (IntKind.wrap .i64 (v7 + 1)))) else none)
  else (some (.inl ()))
theorem ok_ref15_piece_l1 (n : Nat) (v0 : List UInt8) (v1 : Int) {F0 : Fz} {w0 : Pt Tryd.prog} {Q : Exit → Act → World → Prop} (k : Nat) : ∀ (v7 : Int) (o : Sum (Unit) ((List UInt8) × Int)), ref15_piece_l1 n v0 v1 k v7 = some o → (Sum.elim (fun s => To 109 F0 w0 [] [] (.exit 0) Q) (fun s => To 109 F0 w0 [(4, .str s.1), (5, .val (.int .i64 s.2))] [] .ret Q)) o → WL Tryd.prog 109 F0 w0 [(0, .str v0), (1, .val (.int .i64 v1)), (7, .val (.int .i64 v7))] [] (cI (cI (cB (cA (cT (cB (cA (cB (cB (cB (cF Tryd.f44))))))))))) Q := by
  induction k with
  | zero => intro v7 o h; cases h
  | succ k ih =>
    intro v7 o h hQ
    rw [ref15_piece_l1] at h
    refine WL.round ?_
    refine Wp.seq ?_
    refine Wp.seq ?_
    refine Wp.region hΓ [] [] [] [0, 1, 7, 34] [] (K' := [(0, .str v0), (1, .val (.int .i64 v1)), (7, .val (.int .i64 v7)), (34, .val (.bool (decide (v7 < (List.length v0 : Int)))))]) (L' := []) (ob := []) (by kernel_rfl) AllP.nil ?_
    refine To.thenN ?_
    refine Wp.cond (b := (decide (v7 < (List.length v0 : Int)))) (by kernel_rfl) (fun hb => ?_) (fun hb => ?_)
    · replace h := if_t hb h
      refine Wp.skip ?_
      refine To.thenN ?_
      refine Wp.seq ?_
      refine Wp.block ?_
      refine Wp.seq ?_
      obtain ⟨hc7, h⟩ := chk_of h
      refine Wp.region hΓ [] [] [] [0, 1, 7, 40] [] (K' := [(0, .str v0), (1, .val (.int .i64 v1)), (7, .val (.int .i64 v7)), (40, .val (.bool ((((v0)[Int.toNat v7]?.getD 0).toNat : Int) == 39)))]) (L' := []) (ob := [(decide (0 ≤ v7 ∧ v7 < (List.length v0 : Int))) = true]) (by kernel_rfl) (AllP.cons hc7 AllP.nil) ?_
      refine To.thenN ?_
      refine Wp.cond (b := ((((v0)[Int.toNat v7]?.getD 0).toNat : Int) == 39)) (by kernel_rfl) (fun hb => ?_) (fun hb => ?_)
      · replace h := if_t hb h
        refine Wp.seq ?_
        obtain ⟨hc5, h⟩ := chk_of h
        obtain ⟨hc6, h⟩ := chk_of h
        obtain ⟨x4, hx4, h⟩ := lett_of h
        refine Wp.region hΓ [] [] [] [4, 5] [] (K' := [(4, .str (List.take (Int.toNat v7 - Int.toNat (IntKind.wrap .i64 (v1 + 1))) (List.drop (Int.toNat (IntKind.wrap .i64 (v1 + 1))) v0))), (5, .val (.int .i64 (IntKind.wrap .i64 (v7 + 1))))]) (L' := []) (ob := [(decide (0 ≤ v7 ∧ v7 ≤ (List.length v0 : Int))) = true, (decide (0 ≤ (IntKind.wrap .i64 (v1 + 1)) ∧ (IntKind.wrap .i64 (v1 + 1)) ≤ v7)) = true]) (by kernel_rfl) (AllP.cons hc5 (AllP.cons hc6 AllP.nil)) ?_
        refine To.eq (K' := [(4, .str x4), (5, .val (.int .i64 (IntKind.wrap .i64 (v7 + 1))))]) (L' := []) (by cases hx4; rfl) (by cases hx4; rfl) ?_
        refine To.thenN ?_
        refine Wp.ret ?_
        refine To.blockR ?_
        refine To.thenR ?_
        refine To.thenR ?_
        refine To.keep (kk := [4, 5]) (kl := []) (K' := [(4, .str x4), (5, .val (.int .i64 (IntKind.wrap .i64 (v7 + 1))))]) (L' := []) (by kernel_rfl) (by kernel_rfl) ?_
        cases h
        exact hQ
      · replace h := if_f hb h
        refine Wp.skip ?_
        refine To.blockN ?_
        refine To.thenN ?_
        refine Wp.region hΓ [] [] [] [0, 1, 7] [] (K' := [(0, .str v0), (1, .val (.int .i64 v1)), (7, .val (.int .i64 (IntKind.wrap .i64 (v7 + 1))))]) (L' := []) (ob := []) (by kernel_rfl) AllP.nil ?_
        refine To.keep (kk := [0, 1, 7]) (kl := []) (K' := [(0, .str v0), (1, .val (.int .i64 v1)), (7, .val (.int .i64 (IntKind.wrap .i64 (v7 + 1))))]) (L' := []) (by kernel_rfl) (by kernel_rfl) ?_
        refine To.again ?_
        exact ih (IntKind.wrap .i64 (v7 + 1)) _ h hQ
    · replace h := if_f hb h
      refine Wp.exit ?_
      refine To.thenX ?_
      refine To.thenX ?_
      refine To.keep (kk := []) (kl := []) (K' := []) (L' := []) (by kernel_rfl) (by kernel_rfl) ?_
      cases h
      exact hQ
def ref15_piece_j4 (n : Nat) (v0 : List UInt8) (v1 : Int) (v8 : List UInt8) (v90 : Bool) : Option ((List UInt8)) :=
  if v90 = true then (if (decide (0 ≤ (IntKind.wrap .i64 (v1 + 1)) ∧ (IntKind.wrap .i64 (v1 + 1)) ≤ (List.length v0 : Int))) = true then (if (decide (0 ≤ v1 ∧ v1 ≤ (IntKind.wrap .i64 (v1 + 1)))) = true then (if (decide (((List.length v8 + List.length (List.take (Int.toNat (IntKind.wrap .i64 (v1 + 1)) - Int.toNat v1) (List.drop (Int.toNat v1) v0)) : Nat) : Int) ≤ 9223372036854775807)) = true then (some (v8 ++ (List.take (Int.toNat (IntKind.wrap .i64 (v1 + 1)) - Int.toNat v1) (List.drop (Int.toNat v1) v0)))) else none) else none) else none)
  else some v8
theorem ok_ref15_piece_j4 (n : Nat) (v0 : List UInt8) (v1 : Int) (v8 : List UInt8) (v90 : Bool) (o : (List UInt8)) (h : ref15_piece_j4 n v0 v1 v8 v90 = some o) {F0 : Fz} {w0 : Pt Tryd.prog} {Q : Exit → Act → World → Prop} (hQ : To 109 F0 w0 [(0, .str v0), (1, .val (.int .i64 v1)), (8, .str o)] [] .normal Q) : Wp Tryd.prog 109 F0 w0 [(0, .str v0), (1, .val (.int .i64 v1)), (8, .str v8), (90, .val (.bool v90))] [] (cB (cA (cB (cT (cB (cA (cB (cI (cB (cI (cI (cA (cB (cB (cB (cB (cB (cB (cB (cF Tryd.f44)))))))))))))))))))) Q := by
  unfold ref15_piece_j4 at h
  refine Wp.cond (b := v90) (by kernel_rfl) (fun hb => ?_) (fun hb => ?_)
  · replace h := if_t hb h
    obtain ⟨hc8, h⟩ := chk_of h
    obtain ⟨hc9, h⟩ := chk_of h
    obtain ⟨hc10, h⟩ := chk_of h
    refine Wp.region hΓ [] [] [] [0, 1, 8] [] (K' := [(0, .str v0), (1, .val (.int .i64 v1)), (8, .str (v8 ++ (List.take (Int.toNat (IntKind.wrap .i64 (v1 + 1)) - Int.toNat v1) (List.drop (Int.toNat v1) v0))))]) (L' := []) (ob := [(decide (0 ≤ (IntKind.wrap .i64 (v1 + 1)) ∧ (IntKind.wrap .i64 (v1 + 1)) ≤ (List.length v0 : Int))) = true, (decide (0 ≤ v1 ∧ v1 ≤ (IntKind.wrap .i64 (v1 + 1)))) = true, (decide (((List.length v8 + List.length (List.take (Int.toNat (IntKind.wrap .i64 (v1 + 1)) - Int.toNat v1) (List.drop (Int.toNat v1) v0)) : Nat) : Int) ≤ 9223372036854775807)) = true]) (by kernel_rfl) (AllP.cons hc8 (AllP.cons hc9 (AllP.cons hc10 AllP.nil))) ?_
    refine To.keep (kk := [0, 1, 8]) (kl := []) (K' := [(0, .str v0), (1, .val (.int .i64 v1)), (8, .str (v8 ++ (List.take (Int.toNat (IntKind.wrap .i64 (v1 + 1)) - Int.toNat v1) (List.drop (Int.toNat v1) v0))))]) (L' := []) (by kernel_rfl) (by kernel_rfl) ?_
    cases h
    exact hQ
  · replace h := if_f hb h
    refine Wp.skip ?_
    refine To.keep (kk := [0, 1, 8]) (kl := []) (K' := [(0, .str v0), (1, .val (.int .i64 v1)), (8, .str v8)]) (L' := []) (by kernel_rfl) (by kernel_rfl) ?_
    cases h
    exact hQ
def ref15_piece_j3 (n : Nat) (v0 : List UInt8) (v1 : Int) (v8 : List UInt8) (v73 : Bool) : Option (Sum (Int × (List UInt8)) ((List UInt8) × Int)) :=
  if v73 = true then (if ((IntKind.wrap .i64 (v1 + 1)) == (List.length v0 : Int)) = true then (some (.inr ([], (-1))))
  else (if (decide (0 ≤ (IntKind.wrap .i64 (v1 + 1)) ∧ (IntKind.wrap .i64 (v1 + 1)) < (List.length v0 : Int))) = true then (if ((!(((((v0)[Int.toNat (IntKind.wrap .i64 (v1 + 1))]?.getD 0).toNat : Int) != 34) == true) || decide (0 ≤ (IntKind.wrap .i64 (v1 + 1)) ∧ (IntKind.wrap .i64 (v1 + 1)) < (List.length v0 : Int)))) = true then (lett ((bif ((((v0)[Int.toNat (IntKind.wrap .i64 (v1 + 1))]?.getD 0).toNat : Int) != 34) then ((((v0)[Int.toNat (IntKind.wrap .i64 (v1 + 1))]?.getD 0).toNat : Int) != 92) else false) : Bool) fun x7 =>
  (ref15_piece_j4 n v0 v1 v8 x7).bind fun o8 =>
  some (.inl ((IntKind.wrap .i64 (v1 + 1)), o8))) else none) else none))
  else (some (.inl (v1, v8)))
theorem ok_ref15_piece_j3 (n : Nat) (v0 : List UInt8) (v1 : Int) (v8 : List UInt8) (v73 : Bool) (o : Sum (Int × (List UInt8)) ((List UInt8) × Int)) (h : ref15_piece_j3 n v0 v1 v8 v73 = some o) {F0 : Fz} {w0 : Pt Tryd.prog} {Q : Exit → Act → World → Prop} (hQ : (Sum.elim (fun s => To 109 F0 w0 [(0, .str v0), (1, .val (.int .i64 s.1)), (8, .str s.2)] [] .normal Q) (fun s => To 109 F0 w0 [(4, .str s.1), (5, .val (.int .i64 s.2))] [] .ret Q)) o) : Wp Tryd.prog 109 F0 w0 [(0, .str v0), (1, .val (.int .i64 v1)), (8, .str v8), (73, .val (.bool v73))] [] (cB (cA (cB (cI (cB (cI (cI (cA (cB (cB (cB (cB (cB (cB (cB (cF Tryd.f44)))))))))))))))) Q := by
  unfold ref15_piece_j3 at h
  refine Wp.cond (b := v73) (by kernel_rfl) (fun hb => ?_) (fun hb => ?_)
  · replace h := if_t hb h
    refine Wp.seq ?_
    refine Wp.seq ?_
    refine Wp.region hΓ [] [] [] [0, 1, 8, 78] [] (K' := [(0, .str v0), (1, .val (.int .i64 v1)), (8, .str v8), (78, .val (.bool ((IntKind.wrap .i64 (v1 + 1)) == (List.length v0 : Int))))]) (L' := []) (ob := []) (by kernel_rfl) AllP.nil ?_
    refine To.thenN ?_
    refine Wp.cond (b := ((IntKind.wrap .i64 (v1 + 1)) == (List.length v0 : Int))) (by kernel_rfl) (fun hb => ?_) (fun hb => ?_)
    · replace h := if_t hb h
      refine Wp.seq ?_
      refine Wp.region hΓ [] [] [] [4, 5] [] (K' := [(4, .str []), (5, .val (.int .i64 (-1)))]) (L' := []) (ob := []) (by kernel_rfl) AllP.nil ?_
      refine To.thenN ?_
      refine Wp.ret ?_
      refine To.thenR ?_
      refine To.keep (kk := [4, 5]) (kl := []) (K' := [(4, .str []), (5, .val (.int .i64 (-1)))]) (L' := []) (by kernel_rfl) (by kernel_rfl) ?_
      cases h
      exact hQ
    · replace h := if_f hb h
      refine Wp.skip ?_
      refine To.thenN ?_
      refine Wp.seq ?_
      refine Wp.seq ?_
      obtain ⟨hc9, h⟩ := chk_of h
      obtain ⟨hc10, h⟩ := chk_of h
      obtain ⟨x7, hx7, h⟩ := lett_of h
      refine Wp.region hΓ [] [] [] [0, 1, 8, 90] [] (K' := [(0, .str v0), (1, .val (.int .i64 v1)), (8, .str v8), (90, .val (.bool (bif ((((v0)[Int.toNat (IntKind.wrap .i64 (v1 + 1))]?.getD 0).toNat : Int) != 34) then ((((v0)[Int.toNat (IntKind.wrap .i64 (v1 + 1))]?.getD 0).toNat : Int) != 92) else false)))]) (L' := []) (ob := [(decide (0 ≤ (IntKind.wrap .i64 (v1 + 1)) ∧ (IntKind.wrap .i64 (v1 + 1)) < (List.length v0 : Int))) = true, (!(((((v0)[Int.toNat (IntKind.wrap .i64 (v1 + 1))]?.getD 0).toNat : Int) != 34) == true) || decide (0 ≤ (IntKind.wrap .i64 (v1 + 1)) ∧ (IntKind.wrap .i64 (v1 + 1)) < (List.length v0 : Int))) = true]) (by kernel_rfl) (AllP.cons hc9 (AllP.cons hc10 AllP.nil)) ?_
      refine To.eq (K' := [(0, .str v0), (1, .val (.int .i64 v1)), (8, .str v8), (90, .val (.bool x7))]) (L' := []) (by cases hx7; rfl) (by cases hx7; rfl) ?_
      refine To.thenN ?_
      obtain ⟨o8, ho8, h⟩ := bind_of h
      refine Wp.keep (kk := [0, 1, 8, 90]) (kl := []) (K' := [(0, .str v0), (1, .val (.int .i64 v1)), (8, .str v8), (90, .val (.bool x7))]) (L' := []) (by kernel_rfl) (by kernel_rfl) ?_
      refine ok_ref15_piece_j4 n v0 v1 v8 x7 o8 ho8 ?_
      refine To.thenN ?_
      refine Wp.region hΓ [] [] [] [0, 1, 8] [] (K' := [(0, .str v0), (1, .val (.int .i64 (IntKind.wrap .i64 (v1 + 1)))), (8, .str o8)]) (L' := []) (ob := []) (by kernel_rfl) AllP.nil ?_
      refine To.keep (kk := [0, 1, 8]) (kl := []) (K' := [(0, .str v0), (1, .val (.int .i64 (IntKind.wrap .i64 (v1 + 1)))), (8, .str o8)]) (L' := []) (by kernel_rfl) (by kernel_rfl) ?_
      cases h
      exact hQ
  · replace h := if_f hb h
    refine Wp.skip ?_
    refine To.keep (kk := [0, 1, 8]) (kl := []) (K' := [(0, .str v0), (1, .val (.int .i64 v1)), (8, .str v8)]) (L' := []) (by kernel_rfl) (by kernel_rfl) ?_
    cases h
    exact hQ
def ref15_piece_l2 (n : Nat) (v0 : List UInt8) : Nat → Int → (List UInt8) → Option (Sum (Unit) ((List UInt8) × Int))
  | 0, _, _ => none
  | k + 1, v1, v8 => if (decide (v1 < (List.length v0 : Int))) = true then (if (decide (0 ≤ v1 ∧ v1 < (List.length v0 : Int))) = true then (if ((((v0)[Int.toNat v1]?.getD 0).toNat : Int) == 34) = true then (some (.inr (v8, (IntKind.wrap .i64 (v1 + 1)))))
  else (if (decide (0 ≤ v1 ∧ v1 < (List.length v0 : Int))) = true then ((ref15_piece_j3 n v0 v1 v8 ((((v0)[Int.toNat v1]?.getD 0).toNat : Int) == 92)).bind fun o7 =>
  (Sum.elim (fun o7 => if (decide (0 ≤ (IntKind.wrap .i64 (o7.1 + 1)) ∧ (IntKind.wrap .i64 (o7.1 + 1)) ≤ (List.length v0 : Int))) = true then (if (decide (0 ≤ o7.1 ∧ o7.1 ≤ (IntKind.wrap .i64 (o7.1 + 1)))) = true then (if (decide (((List.length o7.2 + List.length (List.take (Int.toNat (IntKind.wrap .i64 (o7.1 + 1)) - Int.toNat o7.1) (List.drop (Int.toNat o7.1) v0)) : Nat) : Int) ≤ 9223372036854775807)) = true then (ref15_piece_l2 n v0 k (IntKind.wrap .i64 (o7.1 + 1)) (o7.2 ++ (List.take (Int.toNat (IntKind.wrap .i64 (o7.1 + 1)) - Int.toNat o7.1) (List.drop (Int.toNat o7.1) v0)))) else none) else none) else none) (fun o7 => some (.inr (o7.1, o7.2)))) o7) else none)) else none)
  else (some (.inl ()))
theorem ok_ref15_piece_l2 (n : Nat) (v0 : List UInt8) {F0 : Fz} {w0 : Pt Tryd.prog} {Q : Exit → Act → World → Prop} (k : Nat) : ∀ (v1 : Int) (v8 : List UInt8) (o : Sum (Unit) ((List UInt8) × Int)), ref15_piece_l2 n v0 k v1 v8 = some o → (Sum.elim (fun s => To 109 F0 w0 [] [] (.exit 2) Q) (fun s => To 109 F0 w0 [(4, .str s.1), (5, .val (.int .i64 s.2))] [] .ret Q)) o → WL Tryd.prog 109 F0 w0 [(0, .str v0), (1, .val (.int .i64 v1)), (8, .str v8)] [] (cI (cI (cA (cB (cB (cB (cB (cB (cB (cB (cF Tryd.f44))))))))))) Q := by
  induction k with
  | zero => intro v1 v8 o h; cases h
  | succ k ih =>
    intro v1 v8 o h hQ
    rw [ref15_piece_l2] at h
    refine WL.round ?_
    refine Wp.seq ?_
    refine Wp.seq ?_
    refine Wp.region hΓ [] [] [] [0, 1, 8, 62] [] (K' := [(0, .str v0), (1, .val (.int .i64 v1)), (8, .str v8), (62, .val (.bool (decide (v1 < (List.length v0 : Int)))))]) (L' := []) (ob := []) (by kernel_rfl) AllP.nil ?_
    refine To.thenN ?_
    refine Wp.cond (b := (decide (v1 < (List.length v0 : Int)))) (by kernel_rfl) (fun hb => ?_) (fun hb => ?_)
    · replace h := if_t hb h
      refine Wp.skip ?_
      refine To.thenN ?_
      refine Wp.block ?_
      refine Wp.seq ?_
      refine Wp.seq ?_
      obtain ⟨hc12, h⟩ := chk_of h
      refine Wp.region hΓ [] [] [] [0, 1, 8, 66] [] (K' := [(0, .str v0), (1, .val (.int .i64 v1)), (8, .str v8), (66, .val (.bool ((((v0)[Int.toNat v1]?.getD 0).toNat : Int) == 34)))]) (L' := []) (ob := [(decide (0 ≤ v1 ∧ v1 < (List.length v0 : Int))) = true]) (by kernel_rfl) (AllP.cons hc12 AllP.nil) ?_
      refine To.thenN ?_
      refine Wp.cond (b := ((((v0)[Int.toNat v1]?.getD 0).toNat : Int) == 34)) (by kernel_rfl) (fun hb => ?_) (fun hb => ?_)
      · replace h := if_t hb h
        refine Wp.seq ?_
        refine Wp.region hΓ [] [] [] [4, 5] [] (K' := [(4, .str v8), (5, .val (.int .i64 (IntKind.wrap .i64 (v1 + 1))))]) (L' := []) (ob := []) (by kernel_rfl) AllP.nil ?_
        refine To.thenN ?_
        refine Wp.ret ?_
        refine To.thenR ?_
        refine To.blockR ?_
        refine To.thenR ?_
        refine To.keep (kk := [4, 5]) (kl := []) (K' := [(4, .str v8), (5, .val (.int .i64 (IntKind.wrap .i64 (v1 + 1))))]) (L' := []) (by kernel_rfl) (by kernel_rfl) ?_
        cases h
        exact hQ
      · replace h := if_f hb h
        refine Wp.skip ?_
        refine To.thenN ?_
        refine Wp.seq ?_
        refine Wp.seq ?_
        obtain ⟨hc11, h⟩ := chk_of h
        refine Wp.region hΓ [] [] [] [0, 1, 8, 73] [] (K' := [(0, .str v0), (1, .val (.int .i64 v1)), (8, .str v8), (73, .val (.bool ((((v0)[Int.toNat v1]?.getD 0).toNat : Int) == 92)))]) (L' := []) (ob := [(decide (0 ≤ v1 ∧ v1 < (List.length v0 : Int))) = true]) (by kernel_rfl) (AllP.cons hc11 AllP.nil) ?_
        refine To.thenN ?_
        obtain ⟨o7, ho7, h⟩ := bind_of h
        refine Wp.keep (kk := [0, 1, 8, 73]) (kl := []) (K' := [(0, .str v0), (1, .val (.int .i64 v1)), (8, .str v8), (73, .val (.bool ((((v0)[Int.toNat v1]?.getD 0).toNat : Int) == 92)))]) (L' := []) (by kernel_rfl) (by kernel_rfl) ?_
        refine ok_ref15_piece_j3 n v0 v1 v8 ((((v0)[Int.toNat v1]?.getD 0).toNat : Int) == 92) o7 ho7 ?_
        rcases o7 with o7 | o7
        · replace h := sum_l h
          refine To.thenN ?_
          refine Wp.seq ?_
          obtain ⟨hc8, h⟩ := chk_of h
          obtain ⟨hc9, h⟩ := chk_of h
          obtain ⟨hc10, h⟩ := chk_of h
          refine Wp.region hΓ [] [] [] [0, 1, 8] [] (K' := [(0, .str v0), (1, .val (.int .i64 o7.1)), (8, .str (o7.2 ++ (List.take (Int.toNat (IntKind.wrap .i64 (o7.1 + 1)) - Int.toNat o7.1) (List.drop (Int.toNat o7.1) v0))))]) (L' := []) (ob := [(decide (0 ≤ (IntKind.wrap .i64 (o7.1 + 1)) ∧ (IntKind.wrap .i64 (o7.1 + 1)) ≤ (List.length v0 : Int))) = true, (decide (0 ≤ o7.1 ∧ o7.1 ≤ (IntKind.wrap .i64 (o7.1 + 1)))) = true, (decide (((List.length o7.2 + List.length (List.take (Int.toNat (IntKind.wrap .i64 (o7.1 + 1)) - Int.toNat o7.1) (List.drop (Int.toNat o7.1) v0)) : Nat) : Int) ≤ 9223372036854775807)) = true]) (by kernel_rfl) (AllP.cons hc8 (AllP.cons hc9 (AllP.cons hc10 AllP.nil))) ?_
          refine To.thenN ?_
          refine Wp.region hΓ [] [] [] [0, 1, 8] [] (K' := [(0, .str v0), (1, .val (.int .i64 (IntKind.wrap .i64 (o7.1 + 1)))), (8, .str (o7.2 ++ (List.take (Int.toNat (IntKind.wrap .i64 (o7.1 + 1)) - Int.toNat o7.1) (List.drop (Int.toNat o7.1) v0))))]) (L' := []) (ob := []) (by kernel_rfl) AllP.nil ?_
          refine To.blockN ?_
          refine To.keep (kk := [0, 1, 8]) (kl := []) (K' := [(0, .str v0), (1, .val (.int .i64 (IntKind.wrap .i64 (o7.1 + 1)))), (8, .str (o7.2 ++ (List.take (Int.toNat (IntKind.wrap .i64 (o7.1 + 1)) - Int.toNat o7.1) (List.drop (Int.toNat o7.1) v0))))]) (L' := []) (by kernel_rfl) (by kernel_rfl) ?_
          refine To.again ?_
          exact ih (IntKind.wrap .i64 (o7.1 + 1)) (o7.2 ++ (List.take (Int.toNat (IntKind.wrap .i64 (o7.1 + 1)) - Int.toNat o7.1) (List.drop (Int.toNat o7.1) v0))) _ h hQ
        · replace h := sum_r h
          refine To.thenR ?_
          refine To.blockR ?_
          refine To.thenR ?_
          refine To.keep (kk := [4, 5]) (kl := []) (K' := [(4, .str o7.1), (5, .val (.int .i64 o7.2))]) (L' := []) (by kernel_rfl) (by kernel_rfl) ?_
          cases h
          exact hQ
    · replace h := if_f hb h
      refine Wp.exit ?_
      refine To.thenX ?_
      refine To.thenX ?_
      refine To.keep (kk := []) (kl := []) (K' := []) (L' := []) (by kernel_rfl) (by kernel_rfl) ?_
      cases h
      exact hQ
def ref15_piece (n : Nat) (a0 : List UInt8) (a1 : Int) : Option ((List UInt8) × Int) :=
  if (decide (0 ≤ a1 ∧ a1 < (List.length a0 : Int))) = true then (if ((((a0)[Int.toNat a1]?.getD 0).toNat : Int) == 92) = true then (if ((IntKind.wrap .i64 (a1 + 1)) == (List.length a0 : Int)) = true then (some ([], (-1)))
  else (if (decide (0 ≤ (IntKind.wrap .i64 (a1 + 2)) ∧ (IntKind.wrap .i64 (a1 + 2)) ≤ (List.length a0 : Int))) = true then (if (decide (0 ≤ (IntKind.wrap .i64 (a1 + 1)) ∧ (IntKind.wrap .i64 (a1 + 1)) ≤ (IntKind.wrap .i64 (a1 + 2)))) = true then (lett ((List.take (Int.toNat (IntKind.wrap .i64 (a1 + 2)) - Int.toNat (IntKind.wrap .i64 (a1 + 1))) (List.drop (Int.toNat (IntKind.wrap .i64 (a1 + 1))) a0)) : List UInt8) fun x1 =>
  some (x1, (IntKind.wrap .i64 (a1 + 2)))) else none) else none))
  else (if ((((a0)[Int.toNat a1]?.getD 0).toNat : Int) == 39) = true then ((ref15_piece_l1 n a0 a1 n (IntKind.wrap .i64 (a1 + 1))).bind fun o4 =>
  (Sum.elim (fun o4 => some ([], (-1))) (fun o4 => some (o4.1, o4.2))) o4)
  else (if ((((a0)[Int.toNat a1]?.getD 0).toNat : Int) != 34) = true then (if (decide (0 ≤ (IntKind.wrap .i64 (a1 + 1)) ∧ (IntKind.wrap .i64 (a1 + 1)) ≤ (List.length a0 : Int))) = true then (if (decide (0 ≤ a1 ∧ a1 ≤ (IntKind.wrap .i64 (a1 + 1)))) = true then (some ((List.take (Int.toNat (IntKind.wrap .i64 (a1 + 1)) - Int.toNat a1) (List.drop (Int.toNat a1) a0)), (IntKind.wrap .i64 (a1 + 1)))) else none) else none)
  else ((ref15_piece_l2 n a0 n (IntKind.wrap .i64 (a1 + 1)) []).bind fun o7 =>
  (Sum.elim (fun o7 => some ([], (-1))) (fun o7 => some (o7.1, o7.2))) o7)))) else none
theorem ok_ref15_piece (n : Nat) (a0 : List UInt8) (a1 : Int) (r : (List UInt8) × Int) (h : ref15_piece n a0 a1 = some r) : CallsX Tryd.prog 44 [.str a0, .val (.int .i64 a1)] (.tup [.str r.1, .val (.int .i64 r.2)]) := by
  unfold ref15_piece at h
  refine callsX_of (fn := Tryd.f44) (by kernel_rfl) rfl (by kernel_rfl) (Nat.le_of_ble_eq_true (by kernel_rfl)) fun F0 w0 _ => ?_
  refine Wp.keep (kk := [0, 1]) (kl := []) (K' := [(0, .str a0), (1, .val (.int .i64 a1))]) (L' := []) (by kernel_rfl) (by kernel_rfl) ?_
  refine Wp.seq ?_
  refine Wp.region hΓ [] [] [] [0, 1] [] (K' := [(0, .str a0), (1, .val (.int .i64 a1))]) (L' := []) (ob := []) (by kernel_rfl) AllP.nil ?_
  refine To.thenN ?_
  refine Wp.seq ?_
  obtain ⟨hc8, h⟩ := chk_of h
  refine Wp.region hΓ [] [] [] [0, 1, 6] [] (K' := [(0, .str a0), (1, .val (.int .i64 a1)), (6, .val (.int .u8 (((a0)[Int.toNat a1]?.getD 0).toNat : Int)))]) (L' := []) (ob := [(decide (0 ≤ a1 ∧ a1 < (List.length a0 : Int))) = true]) (by kernel_rfl) (AllP.cons hc8 AllP.nil) ?_
  refine To.thenN ?_
  refine Wp.seq ?_
  refine Wp.seq ?_
  refine Wp.region hΓ [] [] [] [0, 1, 6, 13] [] (K' := [(0, .str a0), (1, .val (.int .i64 a1)), (6, .val (.int .u8 (((a0)[Int.toNat a1]?.getD 0).toNat : Int))), (13, .val (.bool ((((a0)[Int.toNat a1]?.getD 0).toNat : Int) == 92)))]) (L' := []) (ob := []) (by kernel_rfl) AllP.nil ?_
  refine To.thenN ?_
  refine Wp.cond (b := ((((a0)[Int.toNat a1]?.getD 0).toNat : Int) == 92)) (by kernel_rfl) (fun hb => ?_) (fun hb => ?_)
  · replace h := if_t hb h
    refine Wp.seq ?_
    refine Wp.seq ?_
    refine Wp.region hΓ [] [] [] [0, 1, 18] [] (K' := [(0, .str a0), (1, .val (.int .i64 a1)), (18, .val (.bool ((IntKind.wrap .i64 (a1 + 1)) == (List.length a0 : Int))))]) (L' := []) (ob := []) (by kernel_rfl) AllP.nil ?_
    refine To.thenN ?_
    refine Wp.cond (b := ((IntKind.wrap .i64 (a1 + 1)) == (List.length a0 : Int))) (by kernel_rfl) (fun hb => ?_) (fun hb => ?_)
    · replace h := if_t hb h
      refine Wp.seq ?_
      refine Wp.region hΓ [] [] [] [4, 5] [] (K' := [(4, .str []), (5, .val (.int .i64 (-1)))]) (L' := []) (ob := []) (by kernel_rfl) AllP.nil ?_
      refine To.thenN ?_
      refine Wp.ret ?_
      refine To.thenR ?_
      refine To.thenR ?_
      refine To.keep (kk := [4, 5]) (kl := []) (K' := [(4, .str []), (5, .val (.int .i64 (-1)))]) (L' := []) (by kernel_rfl) (by kernel_rfl) ?_
      cases h
      exact To.done hΓ (by kernel_rfl)
    · replace h := if_f hb h
      refine Wp.skip ?_
      refine To.thenN ?_
      refine Wp.seq ?_
      obtain ⟨hc2, h⟩ := chk_of h
      obtain ⟨hc3, h⟩ := chk_of h
      obtain ⟨x1, hx1, h⟩ := lett_of h
      refine Wp.region hΓ [] [] [] [4, 5] [] (K' := [(4, .str (List.take (Int.toNat (IntKind.wrap .i64 (a1 + 2)) - Int.toNat (IntKind.wrap .i64 (a1 + 1))) (List.drop (Int.toNat (IntKind.wrap .i64 (a1 + 1))) a0))), (5, .val (.int .i64 (IntKind.wrap .i64 (a1 + 2))))]) (L' := []) (ob := [(decide (0 ≤ (IntKind.wrap .i64 (a1 + 2)) ∧ (IntKind.wrap .i64 (a1 + 2)) ≤ (List.length a0 : Int))) = true, (decide (0 ≤ (IntKind.wrap .i64 (a1 + 1)) ∧ (IntKind.wrap .i64 (a1 + 1)) ≤ (IntKind.wrap .i64 (a1 + 2)))) = true]) (by kernel_rfl) (AllP.cons hc2 (AllP.cons hc3 AllP.nil)) ?_
      refine To.eq (K' := [(4, .str x1), (5, .val (.int .i64 (IntKind.wrap .i64 (a1 + 2))))]) (L' := []) (by cases hx1; rfl) (by cases hx1; rfl) ?_
      refine To.thenN ?_
      refine Wp.ret ?_
      refine To.thenR ?_
      refine To.keep (kk := [4, 5]) (kl := []) (K' := [(4, .str x1), (5, .val (.int .i64 (IntKind.wrap .i64 (a1 + 2))))]) (L' := []) (by kernel_rfl) (by kernel_rfl) ?_
      cases h
      exact To.done hΓ (by kernel_rfl)
  · replace h := if_f hb h
    refine Wp.skip ?_
    refine To.thenN ?_
    refine Wp.seq ?_
    refine Wp.seq ?_
    refine Wp.region hΓ [] [] [] [0, 1, 6, 28] [] (K' := [(0, .str a0), (1, .val (.int .i64 a1)), (6, .val (.int .u8 (((a0)[Int.toNat a1]?.getD 0).toNat : Int))), (28, .val (.bool ((((a0)[Int.toNat a1]?.getD 0).toNat : Int) == 39)))]) (L' := []) (ob := []) (by kernel_rfl) AllP.nil ?_
    refine To.thenN ?_
    refine Wp.cond (b := ((((a0)[Int.toNat a1]?.getD 0).toNat : Int) == 39)) (by kernel_rfl) (fun hb => ?_) (fun hb => ?_)
    · replace h := if_t hb h
      refine Wp.seq ?_
      refine Wp.seq ?_
      refine Wp.region hΓ [] [] [] [0, 1, 7] [] (K' := [(0, .str a0), (1, .val (.int .i64 a1)), (7, .val (.int .i64 (IntKind.wrap .i64 (a1 + 1))))]) (L' := []) (ob := []) (by kernel_rfl) AllP.nil ?_
      refine To.thenN ?_
      refine Wp.block ?_
      obtain ⟨o4, ho4, h⟩ := bind_of h
      refine Wp.keep (kk := [0, 1, 7]) (kl := []) (K' := [(0, .str a0), (1, .val (.int .i64 a1)), (7, .val (.int .i64 (IntKind.wrap .i64 (a1 + 1))))]) (L' := []) (by kernel_rfl) (by kernel_rfl) ?_
      refine Wp.loopL ?_
      refine ok_ref15_piece_l1 n a0 a1 n (IntKind.wrap .i64 (a1 + 1)) o4 ho4 ?_
      rcases o4 with o4 | o4
      · replace h := sum_l h
        refine To.blockX ?_
        refine To.thenN ?_
        refine Wp.seq ?_
        refine Wp.region hΓ [] [] [] [4, 5] [] (K' := [(4, .str []), (5, .val (.int .i64 (-1)))]) (L' := []) (ob := []) (by kernel_rfl) AllP.nil ?_
        refine To.thenN ?_
        refine Wp.ret ?_
        refine To.thenR ?_
        refine To.keep (kk := [4, 5]) (kl := []) (K' := [(4, .str []), (5, .val (.int .i64 (-1)))]) (L' := []) (by kernel_rfl) (by kernel_rfl) ?_
        cases h
        exact To.done hΓ (by kernel_rfl)
      · replace h := sum_r h
        refine To.blockR ?_
        refine To.thenR ?_
        refine To.thenR ?_
        refine To.keep (kk := [4, 5]) (kl := []) (K' := [(4, .str o4.1), (5, .val (.int .i64 o4.2))]) (L' := []) (by kernel_rfl) (by kernel_rfl) ?_
        cases h
        exact To.done hΓ (by kernel_rfl)
    · replace h := if_f hb h
      refine Wp.skip ?_
      refine To.thenN ?_
      refine Wp.seq ?_
      refine Wp.seq ?_
      refine Wp.region hΓ [] [] [] [0, 1, 49] [] (K' := [(0, .str a0), (1, .val (.int .i64 a1)), (49, .val (.bool ((((a0)[Int.toNat a1]?.getD 0).toNat : Int) != 34)))]) (L' := []) (ob := []) (by kernel_rfl) AllP.nil ?_
      refine To.thenN ?_
      refine Wp.cond (b := ((((a0)[Int.toNat a1]?.getD 0).toNat : Int) != 34)) (by kernel_rfl) (fun hb => ?_) (fun hb => ?_)
      · replace h := if_t hb h
        refine Wp.seq ?_
        obtain ⟨hc5, h⟩ := chk_of h
        obtain ⟨hc6, h⟩ := chk_of h
        refine Wp.region hΓ [] [] [] [4, 5] [] (K' := [(4, .str (List.take (Int.toNat (IntKind.wrap .i64 (a1 + 1)) - Int.toNat a1) (List.drop (Int.toNat a1) a0))), (5, .val (.int .i64 (IntKind.wrap .i64 (a1 + 1))))]) (L' := []) (ob := [(decide (0 ≤ (IntKind.wrap .i64 (a1 + 1)) ∧ (IntKind.wrap .i64 (a1 + 1)) ≤ (List.length a0 : Int))) = true, (decide (0 ≤ a1 ∧ a1 ≤ (IntKind.wrap .i64 (a1 + 1)))) = true]) (by kernel_rfl) (AllP.cons hc5 (AllP.cons hc6 AllP.nil)) ?_
        refine To.thenN ?_
        refine Wp.ret ?_
        refine To.thenR ?_
        refine To.keep (kk := [4, 5]) (kl := []) (K' := [(4, .str (List.take (Int.toNat (IntKind.wrap .i64 (a1 + 1)) - Int.toNat a1) (List.drop (Int.toNat a1) a0))), (5, .val (.int .i64 (IntKind.wrap .i64 (a1 + 1))))]) (L' := []) (by kernel_rfl) (by kernel_rfl) ?_
        cases h
        exact To.done hΓ (by kernel_rfl)
      · replace h := if_f hb h
        refine Wp.skip ?_
        refine To.thenN ?_
        refine Wp.seq ?_
        refine Wp.region hΓ [] [] [] [0, 1, 8] [] (K' := [(0, .str a0), (1, .val (.int .i64 a1)), (8, .str [])]) (L' := []) (ob := []) (by kernel_rfl) AllP.nil ?_
        refine To.thenN ?_
        refine Wp.seq ?_
        refine Wp.region hΓ [] [] [] [0, 1, 8] [] (K' := [(0, .str a0), (1, .val (.int .i64 (IntKind.wrap .i64 (a1 + 1)))), (8, .str [])]) (L' := []) (ob := []) (by kernel_rfl) AllP.nil ?_
        refine To.thenN ?_
        refine Wp.seq ?_
        refine Wp.block ?_
        obtain ⟨o7, ho7, h⟩ := bind_of h
        refine Wp.keep (kk := [0, 1, 8]) (kl := []) (K' := [(0, .str a0), (1, .val (.int .i64 (IntKind.wrap .i64 (a1 + 1)))), (8, .str [])]) (L' := []) (by kernel_rfl) (by kernel_rfl) ?_
        refine Wp.loopL ?_
        refine ok_ref15_piece_l2 n a0 n (IntKind.wrap .i64 (a1 + 1)) [] o7 ho7 ?_
        rcases o7 with o7 | o7
        · replace h := sum_l h
          refine To.blockX ?_
          refine To.thenN ?_
          refine Wp.seq ?_
          refine Wp.region hΓ [] [] [] [4, 5] [] (K' := [(4, .str []), (5, .val (.int .i64 (-1)))]) (L' := []) (ob := []) (by kernel_rfl) AllP.nil ?_
          refine To.thenN ?_
          refine Wp.ret ?_
          refine To.keep (kk := [4, 5]) (kl := []) (K' := [(4, .str []), (5, .val (.int .i64 (-1)))]) (L' := []) (by kernel_rfl) (by kernel_rfl) ?_
          cases h
          exact To.done hΓ (by kernel_rfl)
        · replace h := sum_r h
          refine To.blockR ?_
          refine To.thenR ?_
          refine To.keep (kk := [4, 5]) (kl := []) (K' := [(4, .str o7.1), (5, .val (.int .i64 o7.2))]) (L' := []) (by kernel_rfl) (by kernel_rfl) ?_
          cases h
          exact To.done hΓ (by kernel_rfl)
def ref15_Split_l2 (n : Nat) (v0 : List UInt8) (v4 : List (List UInt8)) : Nat → Int → (List UInt8) → Option (Sum (Int × (List UInt8)) (Int))
  | 0, _, _ => none
  | k + 1, v5, v6 => if ((!((decide (v5 < (List.length v0 : Int))) == true) || decide (0 ≤ v5 ∧ v5 < (List.length v0 : Int)))) = true then (if (bif (decide (v5 < (List.length v0 : Int))) then (!(ref15_blank (((v0)[Int.toNat v5]?.getD 0).toNat : Int))) else false) = true then ((ref15_piece n v0 v5).bind fun r1 =>
  if (decide (r1.2 < 0)) = true then (some (.inr 3))
  else (if (decide (((List.length v6 + List.length r1.1 : Nat) : Int) ≤ 9223372036854775807)) = true then (ref15_Split_l2 n v0 v4 k r1.2 (v6 ++ r1.1)) else none))
  else (some (.inl (v5, v6)))) else none
theorem ok_ref15_Split_l2 (n : Nat) (v0 : List UInt8) (v4 : List (List UInt8)) {F0 : Fz} {w0 : Pt Tryd.prog} {Q : Exit → Act → World → Prop} (k : Nat) : ∀ (v5 : Int) (v6 : List UInt8) (o : Sum (Int × (List UInt8)) (Int)), ref15_Split_l2 n v0 v4 k v5 v6 = some o → (Sum.elim (fun s => To 51 F0 w0 [(0, .str v0), (4, .row 1004), (5, .val (.int .i64 s.1)), (6, .str s.2)] [(1004, 9, [.rowc false (α := List UInt8) [] E_string v4])] (.exit 2) Q) (fun s => To 51 F0 w0 [(2, .val (.slice none 0 0)), (3, .val (.int .i64 s))] [] .ret Q)) o → WL Tryd.prog 51 F0 w0 [(0, .str v0), (4, .row 1004), (5, .val (.int .i64 v5)), (6, .str v6)] [(1004, 9, [.rowc false (α := List UInt8) [] E_string v4])] (cI (cI (cA (cB (cB (cI (cB (cI (cI (cA (cB (cB (cB (cF Tryd.f18)))))))))))))) Q := by
  induction k with
  | zero => intro v5 v6 o h; cases h
  | succ k ih =>
    intro v5 v6 o h hQ
    rw [ref15_Split_l2] at h
    refine WL.round ?_
    refine Wp.seq ?_
    refine Wp.seq ?_
    obtain ⟨hc3, h⟩ := chk_of h
    refine Wp.region hΓ [] [(8, .val (.bool (ref15_blank (((v0)[Int.toNat v5]?.getD 0).toNat : Int))))] [] [0, 4, 5, 6, 30] [1004] (K' := [(0, .str v0), (4, .row 1004), (5, .val (.int .i64 v5)), (6, .str v6), (30, .val (.bool (bif (decide (v5 < (List.length v0 : Int))) then (!(ref15_blank (((v0)[Int.toNat v5]?.getD 0).toNat : Int))) else false)))]) (L' := [(1004, 9, [.rowc false (α := List UInt8) [] E_string v4])]) (ob := [(!((decide (v5 < (List.length v0 : Int))) == true) || decide (0 ≤ v5 ∧ v5 < (List.length v0 : Int))) = true, (((decide (v5 < (List.length v0 : Int))) == true) = true → CX Tryd.prog 43 [.val (.int .u8 (((v0)[Int.toNat v5]?.getD 0).toNat : Int))] (.val (.bool (ref15_blank (((v0)[Int.toNat v5]?.getD 0).toNat : Int)))))]) (by kernel_rfl) (AllP.cons hc3 (AllP.cons (fun _ => cx (ok_ref15_blank (((v0)[Int.toNat v5]?.getD 0).toNat : Int) _ rfl)) AllP.nil)) ?_
    refine To.thenN ?_
    refine Wp.cond (b := (bif (decide (v5 < (List.length v0 : Int))) then (!(ref15_blank (((v0)[Int.toNat v5]?.getD 0).toNat : Int))) else false)) (by kernel_rfl) (fun hb => ?_) (fun hb => ?_)
    · replace h := if_t hb h
      refine Wp.skip ?_
      refine To.thenN ?_
      refine Wp.block ?_
      refine Wp.seq ?_
      obtain ⟨r1, hr1, h⟩ := bind_of h
      refine Wp.region hΓ [] [(2, .tup [.str r1.1, .val (.int .i64 r1.2)])] [] [0, 4, 6, 7, 8] [1004] (K' := [(0, .str v0), (4, .row 1004), (6, .str v6), (7, .str r1.1), (8, .val (.int .i64 r1.2))]) (L' := [(1004, 9, [.rowc false (α := List UInt8) [] E_string v4])]) (ob := [(true = true → CX Tryd.prog 44 [.str v0, .val (.int .i64 v5)] (.tup [.str r1.1, .val (.int .i64 r1.2)]))]) (by kernel_rfl) (AllP.cons (fun _ => cx (ok_ref15_piece n v0 v5 _ hr1)) AllP.nil) ?_
      refine To.thenN ?_
      refine Wp.seq ?_
      refine Wp.seq ?_
      refine Wp.region hΓ [] [] [] [0, 4, 6, 7, 8, 38] [1004] (K' := [(0, .str v0), (4, .row 1004), (6, .str v6), (7, .str r1.1), (8, .val (.int .i64 r1.2)), (38, .val (.bool (decide (r1.2 < 0))))]) (L' := [(1004, 9, [.rowc false (α := List UInt8) [] E_string v4])]) (ob := []) (by kernel_rfl) AllP.nil ?_
      refine To.thenN ?_
      refine Wp.cond (b := (decide (r1.2 < 0))) (by kernel_rfl) (fun hb => ?_) (fun hb => ?_)
      · replace h := if_t hb h
        refine Wp.seq ?_
        refine Wp.region hΓ [] [] [] [2, 3] [] (K' := [(2, .val (.slice none 0 0)), (3, .val (.int .i64 3))]) (L' := []) (ob := []) (by kernel_rfl) AllP.nil ?_
        refine To.thenN ?_
        refine Wp.ret ?_
        refine To.thenR ?_
        refine To.blockR ?_
        refine To.thenR ?_
        refine To.keep (kk := [2, 3]) (kl := []) (K' := [(2, .val (.slice none 0 0)), (3, .val (.int .i64 3))]) (L' := []) (by kernel_rfl) (by kernel_rfl) ?_
        cases h
        exact hQ
      · replace h := if_f hb h
        refine Wp.skip ?_
        refine To.thenN ?_
        refine Wp.seq ?_
        obtain ⟨hc2, h⟩ := chk_of h
        refine Wp.region hΓ [] [] [] [0, 4, 6, 8] [1004] (K' := [(0, .str v0), (4, .row 1004), (6, .str (v6 ++ r1.1)), (8, .val (.int .i64 r1.2))]) (L' := [(1004, 9, [.rowc false (α := List UInt8) [] E_string v4])]) (ob := [(decide (((List.length v6 + List.length r1.1 : Nat) : Int) ≤ 9223372036854775807)) = true]) (by kernel_rfl) (AllP.cons hc2 AllP.nil) ?_
        refine To.thenN ?_
        refine Wp.region hΓ [] [] [] [0, 4, 5, 6] [1004] (K' := [(0, .str v0), (4, .row 1004), (5, .val (.int .i64 r1.2)), (6, .str (v6 ++ r1.1))]) (L' := [(1004, 9, [.rowc false (α := List UInt8) [] E_string v4])]) (ob := []) (by kernel_rfl) AllP.nil ?_
        refine To.blockN ?_
        refine To.keep (kk := [0, 4, 5, 6]) (kl := [1004]) (K' := [(0, .str v0), (4, .row 1004), (5, .val (.int .i64 r1.2)), (6, .str (v6 ++ r1.1))]) (L' := [(1004, 9, [.rowc false (α := List UInt8) [] E_string v4])]) (by kernel_rfl) (by kernel_rfl) ?_
        refine To.again ?_
        exact ih r1.2 (v6 ++ r1.1) _ h hQ
    · replace h := if_f hb h
      refine Wp.exit ?_
      refine To.thenX ?_
      refine To.thenX ?_
      refine To.keep (kk := [0, 4, 5, 6]) (kl := [1004]) (K' := [(0, .str v0), (4, .row 1004), (5, .val (.int .i64 v5)), (6, .str v6)]) (L' := [(1004, 9, [.rowc false (α := List UInt8) [] E_string v4])]) (by kernel_rfl) (by kernel_rfl) ?_
      cases h
      exact hQ
def ref15_Split_l1 (n : Nat) (v0 : List UInt8) : Nat → (List (List UInt8)) → Int → Option (Sum ((List (List UInt8))) (Int))
  | 0, _, _ => none
  | k + 1, v4, v5 => if (decide (v5 < (List.length v0 : Int))) = true then (if (decide (0 ≤ v5 ∧ v5 < (List.length v0 : Int))) = true then (if (ref15_blank (((v0)[Int.toNat v5]?.getD 0).toNat : Int)) = true then (ref15_Split_l1 n v0 k v4 (IntKind.wrap .i64 (v5 + 1)))
  else ((ref15_Split_l2 n v0 v4 n v5 []).bind fun o1 =>
  (Sum.elim (fun o1 => if (decide ((List.length v4 + List.length ([o1.2] : List (List UInt8))) * (16 + 1) ≤ limit)) = true then (ref15_Split_l1 n v0 k (v4 ++ ([o1.2] : List (List UInt8))) o1.1) else none) (fun o1 => some (.inr o1))) o1)) else none)
  else (some (.inl v4))
theorem ok_ref15_Split_l1 (n : Nat) (v0 : List UInt8) {F0 : Fz} {w0 : Pt Tryd.prog} {Q : Exit → Act → World → Prop} (k : Nat) : ∀ (v4 : List (List UInt8)) (v5 : Int) (o : Sum ((List (List UInt8))) (Int)), ref15_Split_l1 n v0 k v4 v5 = some o → (Sum.elim (fun s => To 51 F0 w0 [(4, .row 1004)] [(1004, 9, [.rowc false (α := List UInt8) [] E_string s])] (.exit 0) Q) (fun s => To 51 F0 w0 [(2, .val (.slice none 0 0)), (3, .val (.int .i64 s))] [] .ret Q)) o → WL Tryd.prog 51 F0 w0 [(0, .str v0), (4, .row 1004), (5, .val (.int .i64 v5))] [(1004, 9, [.rowc false (α := List UInt8) [] E_string v4])] (cI (cI (cA (cB (cB (cB (cF Tryd.f18))))))) Q := by
  induction k with
  | zero => intro v4 v5 o h; cases h
  | succ k ih =>
    intro v4 v5 o h hQ
    rw [ref15_Split_l1] at h
    refine WL.round ?_
    refine Wp.seq ?_
    refine Wp.seq ?_
    refine Wp.region hΓ [] [] [] [0, 4, 5, 13] [1004] (K' := [(0, .str v0), (4, .row 1004), (5, .val (.int .i64 v5)), (13, .val (.bool (decide (v5 < (List.length v0 : Int)))))]) (L' := [(1004, 9, [.rowc false (α := List UInt8) [] E_string v4])]) (ob := []) (by kernel_rfl) AllP.nil ?_
    refine To.thenN ?_
    refine Wp.cond (b := (decide (v5 < (List.length v0 : Int)))) (by kernel_rfl) (fun hb => ?_) (fun hb => ?_)
    · replace h := if_t hb h
      refine Wp.skip ?_
      refine To.thenN ?_
      refine Wp.block ?_
      refine Wp.seq ?_
      refine Wp.seq ?_
      obtain ⟨hc3, h⟩ := chk_of h
      refine Wp.region hΓ [] [(3, .val (.bool (ref15_blank (((v0)[Int.toNat v5]?.getD 0).toNat : Int))))] [] [0, 4, 5, 17] [1004] (K' := [(0, .str v0), (4, .row 1004), (5, .val (.int .i64 v5)), (17, .val (.bool (ref15_blank (((v0)[Int.toNat v5]?.getD 0).toNat : Int))))]) (L' := [(1004, 9, [.rowc false (α := List UInt8) [] E_string v4])]) (ob := [(decide (0 ≤ v5 ∧ v5 < (List.length v0 : Int))) = true, (true = true → CX Tryd.prog 43 [.val (.int .u8 (((v0)[Int.toNat v5]?.getD 0).toNat : Int))] (.val (.bool (ref15_blank (((v0)[Int.toNat v5]?.getD 0).toNat : Int)))))]) (by kernel_rfl) (AllP.cons hc3 (AllP.cons (fun _ => cx (ok_ref15_blank (((v0)[Int.toNat v5]?.getD 0).toNat : Int) _ rfl)) AllP.nil)) ?_
      refine To.thenN ?_
      refine Wp.cond (b := (ref15_blank (((v0)[Int.toNat v5]?.getD 0).toNat : Int))) (by kernel_rfl) (fun hb => ?_) (fun hb => ?_)
      · replace h := if_t hb h
        refine Wp.seq ?_
        refine Wp.region hΓ [] [] [] [0, 4, 5] [1004] (K' := [(0, .str v0), (4, .row 1004), (5, .val (.int .i64 (IntKind.wrap .i64 (v5 + 1))))]) (L' := [(1004, 9, [.rowc false (α := List UInt8) [] E_string v4])]) (ob := []) (by kernel_rfl) AllP.nil ?_
        refine To.thenN ?_
        refine Wp.exit ?_
        refine To.thenX ?_
        refine To.blockX ?_
        refine To.keep (kk := [0, 4, 5]) (kl := [1004]) (K' := [(0, .str v0), (4, .row 1004), (5, .val (.int .i64 (IntKind.wrap .i64 (v5 + 1))))]) (L' := [(1004, 9, [.rowc false (α := List UInt8) [] E_string v4])]) (by kernel_rfl) (by kernel_rfl) ?_
        refine To.again ?_
        exact ih v4 (IntKind.wrap .i64 (v5 + 1)) _ h hQ
      · replace h := if_f hb h
        refine Wp.skip ?_
        refine To.thenN ?_
        refine Wp.seq ?_
        refine Wp.region hΓ [] [] [] [0, 4, 5, 6] [1004] (K' := [(0, .str v0), (4, .row 1004), (5, .val (.int .i64 v5)), (6, .str [])]) (L' := [(1004, 9, [.rowc false (α := List UInt8) [] E_string v4])]) (ob := []) (by kernel_rfl) AllP.nil ?_
        refine To.thenN ?_
        refine Wp.seq ?_
        refine Wp.block ?_
        obtain ⟨o1, ho1, h⟩ := bind_of h
        refine Wp.keep (kk := [0, 4, 5, 6]) (kl := [1004]) (K' := [(0, .str v0), (4, .row 1004), (5, .val (.int .i64 v5)), (6, .str [])]) (L' := [(1004, 9, [.rowc false (α := List UInt8) [] E_string v4])]) (by kernel_rfl) (by kernel_rfl) ?_
        refine Wp.loopL ?_
        refine ok_ref15_Split_l2 n v0 v4 n v5 [] o1 ho1 ?_
        rcases o1 with o1 | o1
        · replace h := sum_l h
          refine To.blockX ?_
          refine To.thenN ?_
          obtain ⟨hc2, h⟩ := chk_of h
          refine Wp.region hΓ [] [(2, .recs (α := List UInt8) [] E_string [o1.2]), (3, .recs (α := List UInt8) [] E_string (v4 ++ ([o1.2] : List (List UInt8))))] [] [0, 4, 5] [46] (K' := [(0, .str v0), (4, .row 46), (5, .val (.int .i64 o1.1))]) (L' := [(46, 9, [.rowc false (α := List UInt8) [] E_string (v4 ++ ([o1.2] : List (List UInt8)))])]) (ob := [(MkOb 1 [.str o1.2] 1 (.recs (α := List UInt8) [] E_string [o1.2]) ∧ GoodR (.recs (α := List UInt8) [] E_string [o1.2])), (decide ((List.length v4 + List.length ([o1.2] : List (List UInt8))) * (16 + 1) ≤ limit)) = true, (AppOb [] E_string v4 (List.flatMap E_string ([o1.2] : List (List UInt8))) (List.length ([o1.2] : List (List UInt8))) (.recs (α := List UInt8) [] E_string (v4 ++ ([o1.2] : List (List UInt8)))) ∧ GoodR (.recs (α := List UInt8) [] E_string (v4 ++ ([o1.2] : List (List UInt8)))))]) (by kernel_rfl) (AllP.cons (mkOb (by kernel_rfl) rfl (by kernel_rfl) (good_E_string _)) (AllP.cons hc2 (AllP.cons (appOb rfl rfl (good_E_string _)) AllP.nil))) ?_
          refine To.blockN ?_
          refine To.keep (kk := [0, 4, 5]) (kl := [46]) (K' := [(0, .str v0), (4, .row 46), (5, .val (.int .i64 o1.1))]) (L' := [(46, 9, [.rowc false (α := List UInt8) [] E_string (v4 ++ ([o1.2] : List (List UInt8)))])]) (by kernel_rfl) (by kernel_rfl) ?_
          refine To.pre (St.rename 46 1004 (by decide) (K' := [(0, .str v0), (4, .row 1004), (5, .val (.int .i64 o1.1))]) (L' := [(1004, 9, [.rowc false (α := List UInt8) [] E_string (v4 ++ ([o1.2] : List (List UInt8)))])]) (by kernel_rfl) (by kernel_rfl) (by kernel_rfl)) ?_
          refine To.keep (kk := [0, 4, 5]) (kl := [1004]) (K' := [(0, .str v0), (4, .row 1004), (5, .val (.int .i64 o1.1))]) (L' := [(1004, 9, [.rowc false (α := List UInt8) [] E_string (v4 ++ ([o1.2] : List (List UInt8)))])]) (by kernel_rfl) (by kernel_rfl) ?_
          refine To.again ?_
          exact ih (v4 ++ ([o1.2] : List (List UInt8))) o1.1 _ h hQ
        · replace h := sum_r h
          refine To.blockR ?_
          refine To.thenR ?_
          refine To.blockR ?_
          refine To.thenR ?_
          refine To.keep (kk := [2, 3]) (kl := []) (K' := [(2, .val (.slice none 0 0)), (3, .val (.int .i64 o1))]) (L' := []) (by kernel_rfl) (by kernel_rfl) ?_
          cases h
          exact hQ
    · replace h := if_f hb h
      refine Wp.exit ?_
      refine To.thenX ?_
      refine To.thenX ?_
      refine To.keep (kk := [4]) (kl := [1004]) (K' := [(4, .row 1004)]) (L' := [(1004, 9, [.rowc false (α := List UInt8) [] E_string v4])]) (by kernel_rfl) (by kernel_rfl) ?_
      cases h
      exact hQ
def ref15_Split (n : Nat) (a0 : List UInt8) : Option ((List (List UInt8)) × Int) :=
  (ref15_Split_l1 n a0 n ([] : List (List UInt8)) 0).bind fun o1 =>
  (Sum.elim (fun o1 => if (decide ((List.length o1 : Int) > 32)) = true then (some ([], 9))
  else (some (o1, 0))) (fun o1 => some ([], o1))) o1
theorem ok_ref15_Split (n : Nat) (a0 : List UInt8) (r : (List (List UInt8)) × Int) (h : ref15_Split n a0 = some r) : CallsX Tryd.prog 18 [.str a0] (.tup [.recs (α := List UInt8) [] E_string r.1, .val (.int .i64 r.2)]) := by
  unfold ref15_Split at h
  refine callsX_of (fn := Tryd.f18) (by kernel_rfl) rfl (by kernel_rfl) (Nat.le_of_ble_eq_true (by kernel_rfl)) fun F0 w0 _ => ?_
  refine Wp.keep (kk := [0]) (kl := []) (K' := [(0, .str a0)]) (L' := []) (by kernel_rfl) (by kernel_rfl) ?_
  refine Wp.seq ?_
  refine Wp.region hΓ [] [] [] [0] [] (K' := [(0, .str a0)]) (L' := []) (ob := []) (by kernel_rfl) AllP.nil ?_
  refine To.thenN ?_
  refine Wp.seq ?_
  refine Wp.region hΓ [] [(0, .recs (α := List UInt8) [] E_string [])] [] [0, 4] [9] (K' := [(0, .str a0), (4, .row 9)]) (L' := [(9, 9, [.rowc false (α := List UInt8) [] E_string []])]) (ob := [(MkOb 1 [] 0 (.recs (α := List UInt8) [] E_string []) ∧ GoodR (.recs (α := List UInt8) [] E_string []))]) (by kernel_rfl) (AllP.cons (mkOb (by kernel_rfl) rfl (by kernel_rfl) (good_E_string _)) AllP.nil) ?_
  refine To.thenN ?_
  refine Wp.seq ?_
  refine Wp.region hΓ [] [] [] [0, 4, 5] [9] (K' := [(0, .str a0), (4, .row 9), (5, .val (.int .i64 0))]) (L' := [(9, 9, [.rowc false (α := List UInt8) [] E_string []])]) (ob := []) (by kernel_rfl) AllP.nil ?_
  refine To.thenN ?_
  refine Wp.seq ?_
  refine Wp.block ?_
  obtain ⟨o1, ho1, h⟩ := bind_of h
  refine Wp.keep (kk := [0, 4, 5]) (kl := [9]) (K' := [(0, .str a0), (4, .row 9), (5, .val (.int .i64 0))]) (L' := [(9, 9, [.rowc false (α := List UInt8) [] E_string []])]) (by kernel_rfl) (by kernel_rfl) ?_
  refine Wp.pre (St.rename 9 1004 (by decide) (K' := [(0, .str a0), (4, .row 1004), (5, .val (.int .i64 0))]) (L' := [(1004, 9, [.rowc false (α := List UInt8) [] E_string []])]) (by kernel_rfl) (by kernel_rfl) (by kernel_rfl)) ?_
  refine Wp.keep (kk := [0, 4, 5]) (kl := [1004]) (K' := [(0, .str a0), (4, .row 1004), (5, .val (.int .i64 0))]) (L' := [(1004, 9, [.rowc false (α := List UInt8) [] E_string []])]) (by kernel_rfl) (by kernel_rfl) ?_
  refine Wp.loopL ?_
  refine ok_ref15_Split_l1 n a0 n ([] : List (List UInt8)) 0 o1 ho1 ?_
  rcases o1 with o1 | o1
  · replace h := sum_l h
    refine To.blockX ?_
    refine To.thenN ?_
    refine Wp.seq ?_
    refine Wp.seq ?_
    refine Wp.region hΓ [] [] [] [4, 49] [1004] (K' := [(4, .row 1004), (49, .val (.bool (decide ((List.length o1 : Int) > 32))))]) (L' := [(1004, 9, [.rowc false (α := List UInt8) [] E_string o1])]) (ob := []) (by kernel_rfl) AllP.nil ?_
    refine To.thenN ?_
    refine Wp.cond (b := (decide ((List.length o1 : Int) > 32))) (by kernel_rfl) (fun hb => ?_) (fun hb => ?_)
    · replace h := if_t hb h
      refine Wp.seq ?_
      refine Wp.region hΓ [] [] [] [2, 3] [] (K' := [(2, .val (.slice none 0 0)), (3, .val (.int .i64 9))]) (L' := []) (ob := []) (by kernel_rfl) AllP.nil ?_
      refine To.thenN ?_
      refine Wp.ret ?_
      refine To.thenR ?_
      refine To.keep (kk := [2, 3]) (kl := []) (K' := [(2, .val (.slice none 0 0)), (3, .val (.int .i64 9))]) (L' := []) (by kernel_rfl) (by kernel_rfl) ?_
      refine To.weak (K' := [(2, .recs (α := List UInt8) [] E_string []), (3, .val (.int .i64 9))]) (L' := []) (.cons (.zero _ _) (.cons (.refl _) .nil)) .nil ?_
      cases h
      exact To.done hΓ (by kernel_rfl)
    · replace h := if_f hb h
      refine Wp.skip ?_
      refine To.thenN ?_
      refine Wp.seq ?_
      refine Wp.region hΓ [] [] [] [2, 3] [1004] (K' := [(2, .row 1004), (3, .val (.int .i64 0))]) (L' := [(1004, 9, [.rowc false (α := List UInt8) [] E_string o1])]) (ob := []) (by kernel_rfl) AllP.nil ?_
      refine To.thenN ?_
      refine Wp.ret ?_
      refine To.keep (kk := [2, 3]) (kl := [1004]) (K' := [(2, .row 1004), (3, .val (.int .i64 0))]) (L' := [(1004, 9, [.rowc false (α := List UInt8) [] E_string o1])]) (by kernel_rfl) (by kernel_rfl) ?_
      refine To.pre (St.settle (ks := [1004]) (kk := [2, 3]) (kl := [1004]) (K' := [(2, .row 1004), (3, .val (.int .i64 0))]) (L' := [(1004, 9, [.rowc true (α := List UInt8) [] E_string o1])]) (by kernel_rfl)) ?_
      refine To.pre (St.sealK [2] (K' := [(2, .recs (α := List UInt8) [] E_string o1), (3, .val (.int .i64 0))]) (by kernel_rfl)) ?_
      refine To.keep (kk := [2, 3]) (kl := []) (K' := [(2, .recs (α := List UInt8) [] E_string o1), (3, .val (.int .i64 0))]) (L' := []) (by kernel_rfl) (by kernel_rfl) ?_
      cases h
      exact To.done hΓ (by kernel_rfl)
  · replace h := sum_r h
    refine To.blockR ?_
    refine To.thenR ?_
    refine To.keep (kk := [2, 3]) (kl := []) (K' := [(2, .val (.slice none 0 0)), (3, .val (.int .i64 o1))]) (L' := []) (by kernel_rfl) (by kernel_rfl) ?_
    refine To.weak (K' := [(2, .recs (α := List UInt8) [] E_string []), (3, .val (.int .i64 o1))]) (L' := []) (.cons (.zero _ _) (.cons (.refl _) .nil)) .nil ?_
    cases h
    exact To.done hΓ (by kernel_rfl)
def ref15_Bare_l2 (n : Nat) (v0 : List UInt8) (v3 : List UInt8) (v4 : Int) (v5 : Int) : Nat → Bool → Int → Option (Bool)
  | 0, _, _ => none
  | k + 1, v6, v7 => if (decide (v7 < (List.length v3 : Int))) = true then (if ((!(v6 == false) || decide (0 ≤ v7 ∧ v7 < (List.length v3 : Int)))) = true then (ref15_Bare_l2 n v0 v3 v4 v5 k (bif v6 then true else ((((v3)[Int.toNat v7]?.getD 0).toNat : Int) == v5)) (IntKind.wrap .i64 (v7 + 1))) else none)
  else some v6
theorem ok_ref15_Bare_l2 (n : Nat) (v0 : List UInt8) (v3 : List UInt8) (v4 : Int) (v5 : Int) {F0 : Fz} {w0 : Pt Tryd.prog} {Q : Exit → Act → World → Prop} (k : Nat) : ∀ (v6 : Bool) (v7 : Int) (o : Bool), ref15_Bare_l2 n v0 v3 v4 v5 k v6 v7 = some o → To 58 F0 w0 [(0, .str v0), (3, .str v3), (4, .val (.int .i64 v4)), (6, .val (.bool o))] [] (.exit 2) Q → WL Tryd.prog 58 F0 w0 [(0, .str v0), (3, .str v3), (4, .val (.int .i64 v4)), (5, .val (.int .u8 v5)), (6, .val (.bool v6)), (7, .val (.int .i64 v7))] [] (cI (cI (cB (cA (cB (cB (cI (cA (cB (cI (cI (cB (cA (cB (cB (cF Tryd.f21)))))))))))))))) Q := by
  induction k with
  | zero => intro v6 v7 o h; cases h
  | succ k ih =>
    intro v6 v7 o h hQ
    rw [ref15_Bare_l2] at h
    refine WL.round ?_
    refine Wp.seq ?_
    refine Wp.seq ?_
    refine Wp.region hΓ [] [] [] [0, 3, 4, 5, 6, 7, 42] [] (K' := [(0, .str v0), (3, .str v3), (4, .val (.int .i64 v4)), (5, .val (.int .u8 v5)), (6, .val (.bool v6)), (7, .val (.int .i64 v7)), (42, .val (.bool (decide (v7 < (List.length v3 : Int)))))]) (L' := []) (ob := []) (by kernel_rfl) AllP.nil ?_
    refine To.thenN ?_
    refine Wp.cond (b := (decide (v7 < (List.length v3 : Int)))) (by kernel_rfl) (fun hb => ?_) (fun hb => ?_)
    · replace h := if_t hb h
      refine Wp.skip ?_
      refine To.thenN ?_
      refine Wp.seq ?_
      refine Wp.block ?_
      obtain ⟨hc2, h⟩ := chk_of h
      refine Wp.region hΓ [] [] [] [0, 3, 4, 5, 6, 7] [] (K' := [(0, .str v0), (3, .str v3), (4, .val (.int .i64 v4)), (5, .val (.int .u8 v5)), (6, .val (.bool (bif v6 then true else ((((v3)[Int.toNat v7]?.getD 0).toNat : Int) == v5)))), (7, .val (.int .i64 v7))]) (L' := []) (ob := [(!(v6 == false) || decide (0 ≤ v7 ∧ v7 < (List.length v3 : Int))) = true]) (by kernel_rfl) (AllP.cons hc2 AllP.nil) ?_
      refine To.blockN ?_
      refine To.thenN ?_
      refine Wp.region hΓ [] [] [] [0, 3, 4, 5, 6, 7] [] (K' := [(0, .str v0), (3, .str v3), (4, .val (.int .i64 v4)), (5, .val (.int .u8 v5)), (6, .val (.bool (bif v6 then true else ((((v3)[Int.toNat v7]?.getD 0).toNat : Int) == v5)))), (7, .val (.int .i64 (IntKind.wrap .i64 (v7 + 1))))]) (L' := []) (ob := []) (by kernel_rfl) AllP.nil ?_
      refine To.keep (kk := [0, 3, 4, 5, 6, 7]) (kl := []) (K' := [(0, .str v0), (3, .str v3), (4, .val (.int .i64 v4)), (5, .val (.int .u8 v5)), (6, .val (.bool (bif v6 then true else ((((v3)[Int.toNat v7]?.getD 0).toNat : Int) == v5)))), (7, .val (.int .i64 (IntKind.wrap .i64 (v7 + 1))))]) (L' := []) (by kernel_rfl) (by kernel_rfl) ?_
      refine To.again ?_
      exact ih (bif v6 then true else ((((v3)[Int.toNat v7]?.getD 0).toNat : Int) == v5)) (IntKind.wrap .i64 (v7 + 1)) _ h hQ
    · replace h := if_f hb h
      refine Wp.exit ?_
      refine To.thenX ?_
      refine To.thenX ?_
      refine To.keep (kk := [0, 3, 4, 6]) (kl := []) (K' := [(0, .str v0), (3, .str v3), (4, .val (.int .i64 v4)), (6, .val (.bool v6))]) (L' := []) (by kernel_rfl) (by kernel_rfl) ?_
      cases h
      exact hQ
def ref15_Bare_l1 (n : Nat) (v0 : List UInt8) (v3 : List UInt8) : Nat → Int → Option (Sum (Unit) (Bool))
  | 0, _ => none
  | k + 1, v4 => if (decide (v4 < (List.length v0 : Int))) = true then (if (decide (0 ≤ v4 ∧ v4 < (List.length v0 : Int))) = true then (lett ((bif (bif (bif (decide ((((v0)[Int.toNat v4]?.getD 0).toNat : Int) ≥ 97)) then (decide ((((v0)[Int.toNat v4]?.getD 0).toNat : Int) ≤ 122)) else false) then true else (bif (decide ((((v0)[Int.toNat v4]?.getD 0).toNat : Int) ≥ 65)) then (decide ((((v0)[Int.toNat v4]?.getD 0).toNat : Int) ≤ 90)) else false)) then true else (bif (decide ((((v0)[Int.toNat v4]?.getD 0).toNat : Int) ≥ 48)) then (decide ((((v0)[Int.toNat v4]?.getD 0).toNat : Int) ≤ 57)) else false)) : Bool) fun x1 =>
  (ref15_Bare_l2 n v0 v3 v4 (((v0)[Int.toNat v4]?.getD 0).toNat : Int) n x1 0).bind fun o2 =>
  if (!o2) = true then (some (.inr false))
  else (ref15_Bare_l1 n v0 v3 k (IntKind.wrap .i64 (v4 + 1)))) else none)
  else (some (.inl ()))
theorem ok_ref15_Bare_l1 (n : Nat) (v0 : List UInt8) (v3 : List UInt8) {F0 : Fz} {w0 : Pt Tryd.prog} {Q : Exit → Act → World → Prop} (k : Nat) : ∀ (v4 : Int) (o : Sum (Unit) (Bool)), ref15_Bare_l1 n v0 v3 k v4 = some o → (Sum.elim (fun s => To 58 F0 w0 [(0, .str v0)] [] (.exit 0) Q) (fun s => To 58 F0 w0 [(2, .val (.bool s))] [] .ret Q)) o → WL Tryd.prog 58 F0 w0 [(0, .str v0), (3, .str v3), (4, .val (.int .i64 v4))] [] (cI (cI (cB (cA (cB (cB (cF Tryd.f21))))))) Q := by
  induction k with
  | zero => intro v4 o h; cases h
  | succ k ih =>
    intro v4 o h hQ
    rw [ref15_Bare_l1] at h
    refine WL.round ?_
    refine Wp.seq ?_
    refine Wp.seq ?_
    refine Wp.region hΓ [] [] [] [0, 3, 4, 11] [] (K' := [(0, .str v0), (3, .str v3), (4, .val (.int .i64 v4)), (11, .val (.bool (decide (v4 < (List.length v0 : Int)))))]) (L' := []) (ob := []) (by kernel_rfl) AllP.nil ?_
    refine To.thenN ?_
    refine Wp.cond (b := (decide (v4 < (List.length v0 : Int)))) (by kernel_rfl) (fun hb => ?_) (fun hb => ?_)
    · replace h := if_t hb h
      refine Wp.skip ?_
      refine To.thenN ?_
      refine Wp.seq ?_
      refine Wp.block ?_
      refine Wp.seq ?_
      obtain ⟨hc3, h⟩ := chk_of h
      refine Wp.region hΓ [] [] [] [0, 3, 4, 5] [] (K' := [(0, .str v0), (3, .str v3), (4, .val (.int .i64 v4)), (5, .val (.int .u8 (((v0)[Int.toNat v4]?.getD 0).toNat : Int)))]) (L' := []) (ob := [(decide (0 ≤ v4 ∧ v4 < (List.length v0 : Int))) = true]) (by kernel_rfl) (AllP.cons hc3 AllP.nil) ?_
      refine To.thenN ?_
      refine Wp.seq ?_
      obtain ⟨x1, hx1, h⟩ := lett_of h
      refine Wp.region hΓ [] [] [] [0, 3, 4, 5, 6] [] (K' := [(0, .str v0), (3, .str v3), (4, .val (.int .i64 v4)), (5, .val (.int .u8 (((v0)[Int.toNat v4]?.getD 0).toNat : Int))), (6, .val (.bool (bif (bif (bif (decide ((((v0)[Int.toNat v4]?.getD 0).toNat : Int) ≥ 97)) then (decide ((((v0)[Int.toNat v4]?.getD 0).toNat : Int) ≤ 122)) else false) then true else (bif (decide ((((v0)[Int.toNat v4]?.getD 0).toNat : Int) ≥ 65)) then (decide ((((v0)[Int.toNat v4]?.getD 0).toNat : Int) ≤ 90)) else false)) then true else (bif (decide ((((v0)[Int.toNat v4]?.getD 0).toNat : Int) ≥ 48)) then (decide ((((v0)[Int.toNat v4]?.getD 0).toNat : Int) ≤ 57)) else false))))]) (L' := []) (ob := []) (by kernel_rfl) AllP.nil ?_
      refine To.eq (K' := [(0, .str v0), (3, .str v3), (4, .val (.int .i64 v4)), (5, .val (.int .u8 (((v0)[Int.toNat v4]?.getD 0).toNat : Int))), (6, .val (.bool x1))]) (L' := []) (by cases hx1; rfl) (by cases hx1; rfl) ?_
      refine To.thenN ?_
      refine Wp.seq ?_
      refine Wp.seq ?_
      refine Wp.region hΓ [] [] [] [0, 3, 4, 5, 6, 7] [] (K' := [(0, .str v0), (3, .str v3), (4, .val (.int .i64 v4)), (5, .val (.int .u8 (((v0)[Int.toNat v4]?.getD 0).toNat : Int))), (6, .val (.bool x1)), (7, .val (.int .i64 0))]) (L' := []) (ob := []) (by kernel_rfl) AllP.nil ?_
      refine To.thenN ?_
      refine Wp.block ?_
      obtain ⟨o2, ho2, h⟩ := bind_of h
      refine Wp.keep (kk := [0, 3, 4, 5, 6, 7]) (kl := []) (K' := [(0, .str v0), (3, .str v3), (4, .val (.int .i64 v4)), (5, .val (.int .u8 (((v0)[Int.toNat v4]?.getD 0).toNat : Int))), (6, .val (.bool x1)), (7, .val (.int .i64 0))]) (L' := []) (by kernel_rfl) (by kernel_rfl) ?_
      refine Wp.loopL ?_
      refine ok_ref15_Bare_l2 n v0 v3 v4 (((v0)[Int.toNat v4]?.getD 0).toNat : Int) n x1 0 o2 ho2 ?_
      refine To.blockX ?_
      refine To.thenN ?_
      refine Wp.seq ?_
      refine Wp.region hΓ [] [] [] [0, 3, 4, 54] [] (K' := [(0, .str v0), (3, .str v3), (4, .val (.int .i64 v4)), (54, .val (.bool (!o2)))]) (L' := []) (ob := []) (by kernel_rfl) AllP.nil ?_
      refine To.thenN ?_
      refine Wp.cond (b := (!o2)) (by kernel_rfl) (fun hb => ?_) (fun hb => ?_)
      · replace h := if_t hb h
        refine Wp.seq ?_
        refine Wp.region hΓ [] [] [] [2] [] (K' := [(2, .val (.bool false))]) (L' := []) (ob := []) (by kernel_rfl) AllP.nil ?_
        refine To.thenN ?_
        refine Wp.ret ?_
        refine To.blockR ?_
        refine To.thenR ?_
        refine To.thenR ?_
        refine To.keep (kk := [2]) (kl := []) (K' := [(2, .val (.bool false))]) (L' := []) (by kernel_rfl) (by kernel_rfl) ?_
        cases h
        exact hQ
      · replace h := if_f hb h
        refine Wp.skip ?_
        refine To.blockN ?_
        refine To.thenN ?_
        refine Wp.region hΓ [] [] [] [0, 3, 4] [] (K' := [(0, .str v0), (3, .str v3), (4, .val (.int .i64 (IntKind.wrap .i64 (v4 + 1))))]) (L' := []) (ob := []) (by kernel_rfl) AllP.nil ?_
        refine To.keep (kk := [0, 3, 4]) (kl := []) (K' := [(0, .str v0), (3, .str v3), (4, .val (.int .i64 (IntKind.wrap .i64 (v4 + 1))))]) (L' := []) (by kernel_rfl) (by kernel_rfl) ?_
        refine To.again ?_
        exact ih (IntKind.wrap .i64 (v4 + 1)) _ h hQ
    · replace h := if_f hb h
      refine Wp.exit ?_
      refine To.thenX ?_
      refine To.thenX ?_
      refine To.keep (kk := [0]) (kl := []) (K' := [(0, .str v0)]) (L' := []) (by kernel_rfl) (by kernel_rfl) ?_
      cases h
      exact hQ
def ref15_Bare (n : Nat) (a0 : List UInt8) : Option (Bool) :=
  (ref15_Bare_l1 n a0 [46, 95, 45, 47, 58, 61, 44, 43, 64, 37] n 0).bind fun o1 =>
  (Sum.elim (fun o1 => some (decide ((List.length a0 : Int) > 0))) (fun o1 => some o1)) o1
theorem ok_ref15_Bare (n : Nat) (a0 : List UInt8) (r : Bool) (h : ref15_Bare n a0 = some r) : CallsX Tryd.prog 21 [.str a0] (.val (.bool r)) := by
  unfold ref15_Bare at h
  refine callsX_of (fn := Tryd.f21) (by kernel_rfl) rfl (by kernel_rfl) (Nat.le_of_ble_eq_true (by kernel_rfl)) fun F0 w0 _ => ?_
  refine Wp.keep (kk := [0]) (kl := []) (K' := [(0, .str a0)]) (L' := []) (by kernel_rfl) (by kernel_rfl) ?_
  refine Wp.seq ?_
  refine Wp.region hΓ [] [] [] [0] [] (K' := [(0, .str a0)]) (L' := []) (ob := []) (by kernel_rfl) AllP.nil ?_
  refine To.thenN ?_
  refine Wp.seq ?_
  refine Wp.region hΓ [] [] [] [0, 3] [] (K' := [(0, .str a0), (3, .str [46, 95, 45, 47, 58, 61, 44, 43, 64, 37])]) (L' := []) (ob := []) (by kernel_rfl) AllP.nil ?_
  refine To.thenN ?_
  refine Wp.seq ?_
  refine Wp.seq ?_
  refine Wp.region hΓ [] [] [] [0, 3, 4] [] (K' := [(0, .str a0), (3, .str [46, 95, 45, 47, 58, 61, 44, 43, 64, 37]), (4, .val (.int .i64 0))]) (L' := []) (ob := []) (by kernel_rfl) AllP.nil ?_
  refine To.thenN ?_
  refine Wp.block ?_
  obtain ⟨o1, ho1, h⟩ := bind_of h
  refine Wp.keep (kk := [0, 3, 4]) (kl := []) (K' := [(0, .str a0), (3, .str [46, 95, 45, 47, 58, 61, 44, 43, 64, 37]), (4, .val (.int .i64 0))]) (L' := []) (by kernel_rfl) (by kernel_rfl) ?_
  refine Wp.loopL ?_
  refine ok_ref15_Bare_l1 n a0 [46, 95, 45, 47, 58, 61, 44, 43, 64, 37] n 0 o1 ho1 ?_
  rcases o1 with o1 | o1
  · replace h := sum_l h
    refine To.blockX ?_
    refine To.thenN ?_
    refine Wp.seq ?_
    refine Wp.region hΓ [] [] [] [2] [] (K' := [(2, .val (.bool (decide ((List.length a0 : Int) > 0))))]) (L' := []) (ob := []) (by kernel_rfl) AllP.nil ?_
    refine To.thenN ?_
    refine Wp.ret ?_
    refine To.keep (kk := [2]) (kl := []) (K' := [(2, .val (.bool (decide ((List.length a0 : Int) > 0))))]) (L' := []) (by kernel_rfl) (by kernel_rfl) ?_
    cases h
    exact To.done hΓ (by kernel_rfl)
  · replace h := sum_r h
    refine To.blockR ?_
    refine To.thenR ?_
    refine To.keep (kk := [2]) (kl := []) (K' := [(2, .val (.bool o1))]) (L' := []) (by kernel_rfl) (by kernel_rfl) ?_
    cases h
    exact To.done hΓ (by kernel_rfl)
def law15_WordSplits (n : Nat) (a0 : List UInt8) : Option (Bool) :=
  if (decide ((List.length a0 : Int) > 2000)) = true then ((law15_awake n).bind fun r1 =>
  some r1)
  else ((word_Split n a0).bind fun r2 =>
  (ref15_Split n a0).bind fun r3 =>
  (ref02_Same n r2.1 r3.1).bind fun r4 =>
  ((if ((bif r4 then (r2.2 == r3.2) else false) == true) = true then word_Bare n a0 else some false)).bind fun r5 =>
  ((if ((bif r4 then (r2.2 == r3.2) else false) == true) = true then ref15_Bare n a0 else some false)).bind fun r6 =>
  ((if ((bif (bif r4 then (r2.2 == r3.2) else false) then (r5 == r6) else false) == true) = true then law15_awake n else some false)).bind fun r7 =>
  some (bif (bif (bif r4 then (r2.2 == r3.2) else false) then (r5 == r6) else false) then r7 else false))
theorem ok_law15_WordSplits (n : Nat) (a0 : List UInt8) (r : Bool) (h : law15_WordSplits n a0 = some r) : CallsX Tryd.prog 5 [.str a0] (.val (.bool r)) := by
  unfold law15_WordSplits at h
  refine callsX_of (fn := Tryd.f5) (by kernel_rfl) rfl (by kernel_rfl) (Nat.le_of_ble_eq_true (by kernel_rfl)) fun F0 w0 _ => ?_
  refine Wp.keep (kk := [0]) (kl := []) (K' := [(0, .str a0)]) (L' := []) (by kernel_rfl) (by kernel_rfl) ?_
  refine Wp.seq ?_
  refine Wp.region hΓ [] [] [] [0] [] (K' := [(0, .str a0)]) (L' := []) (ob := []) (by kernel_rfl) AllP.nil ?_
  refine To.thenN ?_
  refine Wp.seq ?_
  refine Wp.seq ?_
  refine Wp.region hΓ [] [] [] [0, 9] [] (K' := [(0, .str a0), (9, .val (.bool (decide ((List.length a0 : Int) > 2000))))]) (L' := []) (ob := []) (by kernel_rfl) AllP.nil ?_
  refine To.thenN ?_
  refine Wp.cond (b := (decide ((List.length a0 : Int) > 2000))) (by kernel_rfl) (fun hb => ?_) (fun hb => ?_)
  · replace h := if_t hb h
    refine Wp.seq ?_
    obtain ⟨r1, hr1, h⟩ := bind_of h
    refine Wp.region hΓ [] [(0, .val (.bool r1))] [] [2] [] (K' := [(2, .val (.bool r1))]) (L' := []) (ob := [(true = true → CX Tryd.prog 16 [] (.val (.bool r1)))]) (by kernel_rfl) (AllP.cons (fun _ => cx (ok_law15_awake n  _ hr1)) AllP.nil) ?_
    refine To.thenN ?_
    refine Wp.ret ?_
    refine To.thenR ?_
    refine To.keep (kk := [2]) (kl := []) (K' := [(2, .val (.bool r1))]) (L' := []) (by kernel_rfl) (by kernel_rfl) ?_
    cases h
    exact To.done hΓ (by kernel_rfl)
  · replace h := if_f hb h
    refine Wp.skip ?_
    refine To.thenN ?_
    refine Wp.seq ?_
    obtain ⟨r2, hr2, h⟩ := bind_of h
    refine Wp.region hΓ [] [(1, .tup [.recs (α := List UInt8) [] E_string r2.1, .val (.int .i64 r2.2)])] [] [0, 3, 4] [] (K' := [(0, .str a0), (3, .recs (α := List UInt8) [] E_string r2.1), (4, .val (.int .i64 r2.2))]) (L' := []) (ob := [(true = true → CX Tryd.prog 17 [.str a0] (.tup [.recs (α := List UInt8) [] E_string r2.1, .val (.int .i64 r2.2)]))]) (by kernel_rfl) (AllP.cons (fun _ => cx (ok_word_Split n a0 _ hr2)) AllP.nil) ?_
    refine To.thenN ?_
    refine Wp.seq ?_
    obtain ⟨r3, hr3, h⟩ := bind_of h
    refine Wp.region hΓ [] [(1, .tup [.recs (α := List UInt8) [] E_string r3.1, .val (.int .i64 r3.2)])] [] [0, 3, 4, 5, 6] [] (K' := [(0, .str a0), (3, .recs (α := List UInt8) [] E_string r2.1), (4, .val (.int .i64 r2.2)), (5, .recs (α := List UInt8) [] E_string r3.1), (6, .val (.int .i64 r3.2))]) (L' := []) (ob := [(true = true → CX Tryd.prog 18 [.str a0] (.tup [.recs (α := List UInt8) [] E_string r3.1, .val (.int .i64 r3.2)]))]) (by kernel_rfl) (AllP.cons (fun _ => cx (ok_ref15_Split n a0 _ hr3)) AllP.nil) ?_
    refine To.thenN ?_
    refine Wp.seq ?_
    obtain ⟨r4, hr4, h⟩ := bind_of h
    obtain ⟨r5, hr5, h⟩ := bind_of h
    obtain ⟨r6, hr6, h⟩ := bind_of h
    obtain ⟨r7, hr7, h⟩ := bind_of h
    refine Wp.region hΓ [] [(2, .val (.bool r4)), (10, .val (.bool r5)), (12, .val (.bool r6)), (16, .val (.bool r7))] [] [2] [] (K' := [(2, .val (.bool (bif (bif (bif r4 then (r2.2 == r3.2) else false) then (r5 == r6) else false) then r7 else false)))]) (L' := []) (ob := [(true = true → CX Tryd.prog 19 [.recs (α := List UInt8) [] E_string r2.1, .recs (α := List UInt8) [] E_string r3.1] (.val (.bool r4))), (((bif r4 then (r2.2 == r3.2) else false) == true) = true → CX Tryd.prog 20 [.str a0] (.val (.bool r5))), (((bif r4 then (r2.2 == r3.2) else false) == true) = true → CX Tryd.prog 21 [.str a0] (.val (.bool r6))), (((bif (bif r4 then (r2.2 == r3.2) else false) then (r5 == r6) else false) == true) = true → CX Tryd.prog 16 [] (.val (.bool r7)))]) (by kernel_rfl) (AllP.cons (fun _ => cx (ok_ref02_Same n r2.1 r3.1 _ hr4)) (AllP.cons (fun hg => cx (ok_word_Bare n a0 _ (if_t hg hr5))) (AllP.cons (fun hg => cx (ok_ref15_Bare n a0 _ (if_t hg hr6))) (AllP.cons (fun hg => cx (ok_law15_awake n  _ (if_t hg hr7))) AllP.nil)))) ?_
    refine To.thenN ?_
    refine Wp.ret ?_
    refine To.keep (kk := [2]) (kl := []) (K' := [(2, .val (.bool (bif (bif (bif r4 then (r2.2 == r3.2) else false) then (r5 == r6) else false) then r7 else false)))]) (L' := []) (by kernel_rfl) (by kernel_rfl) ?_
    cases h
    exact To.done hΓ (by kernel_rfl)
def law02_Few_l1 (n : Nat) (v0 : List (List UInt8)) : Nat → Int → Option (Sum (Unit) (Bool))
  | 0, _ => none
  | k + 1, v5 => if (decide (v5 < (List.length v0 : Int))) = true then (if (decide (0 ≤ v5 ∧ v5 < (List.length v0 : Int))) = true then (if (decide ((List.length ((v0)[Int.toNat v5]?.getD []) : Int) > 100)) = true then (some (.inr false))
  else (law02_Few_l1 n v0 k (IntKind.wrap .i64 (v5 + 1)))) else none)
  else (some (.inl ()))
theorem ok_law02_Few_l1 (n : Nat) (v0 : List (List UInt8)) {F0 : Fz} {w0 : Pt Tryd.prog} {Q : Exit → Act → World → Prop} (k : Nat) : ∀ (v5 : Int) (o : Sum (Unit) (Bool)), law02_Few_l1 n v0 k v5 = some o → (Sum.elim (fun s => To 22 F0 w0 [] [] (.exit 0) Q) (fun s => To 22 F0 w0 [(4, .val (.bool s))] [] .ret Q)) o → WL Tryd.prog 22 F0 w0 [(0, .recs (α := List UInt8) [] E_string v0), (5, .val (.int .i64 v5))] [] (cI (cI (cB (cA (cB (cB (cF Tryd.f22))))))) Q := by
  induction k with
  | zero => intro v5 o h; cases h
  | succ k ih =>
    intro v5 o h hQ
    rw [law02_Few_l1] at h
    refine WL.round ?_
    refine Wp.seq ?_
    refine Wp.seq ?_
    refine Wp.region hΓ [] [] [] [0, 5, 13] [] (K' := [(0, .recs (α := List UInt8) [] E_string v0), (5, .val (.int .i64 v5)), (13, .val (.bool (decide (v5 < (List.length v0 : Int)))))]) (L' := []) (ob := []) (by kernel_rfl) AllP.nil ?_
    refine To.thenN ?_
    refine Wp.cond (b := (decide (v5 < (List.length v0 : Int)))) (by kernel_rfl) (fun hb => ?_) (fun hb => ?_)
    · replace h := if_t hb h
      refine Wp.skip ?_
      refine To.thenN ?_
      refine Wp.seq ?_
      refine Wp.block ?_
      refine Wp.seq ?_
      obtain ⟨hc1, h⟩ := chk_of h
      refine Wp.region hΓ [] [] [] [0, 5, 21] [] (K' := [(0, .recs (α := List UInt8) [] E_string v0), (5, .val (.int .i64 v5)), (21, .val (.bool (decide ((List.length ((v0)[Int.toNat v5]?.getD []) : Int) > 100))))]) (L' := []) (ob := [(decide (0 ≤ v5 ∧ v5 < (List.length v0 : Int))) = true]) (by kernel_rfl) (AllP.cons hc1 AllP.nil) ?_
      refine To.thenN ?_
      refine Wp.cond (b := (decide ((List.length ((v0)[Int.toNat v5]?.getD []) : Int) > 100))) (by kernel_rfl) (fun hb => ?_) (fun hb => ?_)
      · replace h := if_t hb h
        refine Wp.seq ?_
        refine Wp.region hΓ [] [] [] [4] [] (K' := [(4, .val (.bool false))]) (L' := []) (ob := []) (by kernel_rfl) AllP.nil ?_
        refine To.thenN ?_
        refine Wp.ret ?_
        refine To.blockR ?_
        refine To.thenR ?_
        refine To.thenR ?_
        refine To.keep (kk := [4]) (kl := []) (K' := [(4, .val (.bool false))]) (L' := []) (by kernel_rfl) (by kernel_rfl) ?_
        cases h
        exact hQ
      · replace h := if_f hb h
        refine Wp.skip ?_
        refine To.blockN ?_
        refine To.thenN ?_
        refine Wp.region hΓ [] [] [] [0, 5] [] (K' := [(0, .recs (α := List UInt8) [] E_string v0), (5, .val (.int .i64 (IntKind.wrap .i64 (v5 + 1))))]) (L' := []) (ob := []) (by kernel_rfl) AllP.nil ?_
        refine To.keep (kk := [0, 5]) (kl := []) (K' := [(0, .recs (α := List UInt8) [] E_string v0), (5, .val (.int .i64 (IntKind.wrap .i64 (v5 + 1))))]) (L' := []) (by kernel_rfl) (by kernel_rfl) ?_
        refine To.again ?_
        exact ih (IntKind.wrap .i64 (v5 + 1)) _ h hQ
    · replace h := if_f hb h
      refine Wp.exit ?_
      refine To.thenX ?_
      refine To.thenX ?_
      refine To.keep (kk := []) (kl := []) (K' := []) (L' := []) (by kernel_rfl) (by kernel_rfl) ?_
      cases h
      exact hQ
def law02_Few (n : Nat) (a0 : List (List UInt8)) (a1 : Int) : Option (Bool) :=
  if (decide ((List.length a0 : Int) > a1)) = true then some false
  else ((law02_Few_l1 n a0 n 0).bind fun o1 =>
  (Sum.elim (fun o1 => some true) (fun o1 => some o1)) o1)
theorem ok_law02_Few (n : Nat) (a0 : List (List UInt8)) (a1 : Int) (r : Bool) (h : law02_Few n a0 a1 = some r) : CallsX Tryd.prog 22 [.recs (α := List UInt8) [] E_string a0, .val (.int .i64 a1)] (.val (.bool r)) := by
  unfold law02_Few at h
  refine callsX_of (fn := Tryd.f22) (by kernel_rfl) rfl (by kernel_rfl) (Nat.le_of_ble_eq_true (by kernel_rfl)) fun F0 w0 _ => ?_
  refine Wp.keep (kk := [0, 1]) (kl := []) (K' := [(0, .recs (α := List UInt8) [] E_string a0), (1, .val (.int .i64 a1))]) (L' := []) (by kernel_rfl) (by kernel_rfl) ?_
  refine Wp.seq ?_
  refine Wp.region hΓ [] [] [] [0, 1] [] (K' := [(0, .recs (α := List UInt8) [] E_string a0), (1, .val (.int .i64 a1))]) (L' := []) (ob := []) (by kernel_rfl) AllP.nil ?_
  refine To.thenN ?_
  refine Wp.seq ?_
  refine Wp.seq ?_
  refine Wp.region hΓ [] [] [] [0, 9] [] (K' := [(0, .recs (α := List UInt8) [] E_string a0), (9, .val (.bool (decide ((List.length a0 : Int) > a1))))]) (L' := []) (ob := []) (by kernel_rfl) AllP.nil ?_
  refine To.thenN ?_
  refine Wp.cond (b := (decide ((List.length a0 : Int) > a1))) (by kernel_rfl) (fun hb => ?_) (fun hb => ?_)
  · replace h := if_t hb h
    refine Wp.seq ?_
    refine Wp.region hΓ [] [] [] [4] [] (K' := [(4, .val (.bool false))]) (L' := []) (ob := []) (by kernel_rfl) AllP.nil ?_
    refine To.thenN ?_
    refine Wp.ret ?_
    refine To.thenR ?_
    refine To.keep (kk := [4]) (kl := []) (K' := [(4, .val (.bool false))]) (L' := []) (by kernel_rfl) (by kernel_rfl) ?_
    cases h
    exact To.done hΓ (by kernel_rfl)
  · replace h := if_f hb h
    refine Wp.skip ?_
    refine To.thenN ?_
    refine Wp.seq ?_
    refine Wp.seq ?_
    refine Wp.region hΓ [] [] [] [0, 5] [] (K' := [(0, .recs (α := List UInt8) [] E_string a0), (5, .val (.int .i64 0))]) (L' := []) (ob := []) (by kernel_rfl) AllP.nil ?_
    refine To.thenN ?_
    refine Wp.block ?_
    obtain ⟨o1, ho1, h⟩ := bind_of h
    refine Wp.keep (kk := [0, 5]) (kl := []) (K' := [(0, .recs (α := List UInt8) [] E_string a0), (5, .val (.int .i64 0))]) (L' := []) (by kernel_rfl) (by kernel_rfl) ?_
    refine Wp.loopL ?_
    refine ok_law02_Few_l1 n a0 n 0 o1 ho1 ?_
    rcases o1 with o1 | o1
    · replace h := sum_l h
      refine To.blockX ?_
      refine To.thenN ?_
      refine Wp.seq ?_
      refine Wp.region hΓ [] [] [] [4] [] (K' := [(4, .val (.bool true))]) (L' := []) (ob := []) (by kernel_rfl) AllP.nil ?_
      refine To.thenN ?_
      refine Wp.ret ?_
      refine To.keep (kk := [4]) (kl := []) (K' := [(4, .val (.bool true))]) (L' := []) (by kernel_rfl) (by kernel_rfl) ?_
      cases h
      exact To.done hΓ (by kernel_rfl)
    · replace h := sum_r h
      refine To.blockR ?_
      refine To.thenR ?_
      refine To.keep (kk := [4]) (kl := []) (K' := [(4, .val (.bool o1))]) (L' := []) (by kernel_rfl) (by kernel_rfl) ?_
      cases h
      exact To.done hΓ (by kernel_rfl)
def ref15_Join_j3 (n : Nat) (v0 : List (List UInt8)) (v3 : List UInt8) (v4 : Int) (v13 : Bool) : Option ((List UInt8)) :=
  if v13 = true then (if (decide (((List.length v3 + List.length ([32] : List UInt8) : Nat) : Int) ≤ 9223372036854775807)) = true then (some (v3 ++ [32])) else none)
  else some v3
theorem ok_ref15_Join_j3 (n : Nat) (v0 : List (List UInt8)) (v3 : List UInt8) (v4 : Int) (v13 : Bool) (o : (List UInt8)) (h : ref15_Join_j3 n v0 v3 v4 v13 = some o) {F0 : Fz} {w0 : Pt Tryd.prog} {Q : Exit → Act → World → Prop} (hQ : To 60 F0 w0 [(0, .recs (α := List UInt8) [] E_string v0), (3, .str o), (4, .val (.int .i64 v4))] [] .normal Q) : Wp Tryd.prog 60 F0 w0 [(0, .recs (α := List UInt8) [] E_string v0), (3, .str v3), (4, .val (.int .i64 v4)), (13, .val (.bool v13))] [] (cB (cA (cI (cA (cB (cI (cI (cB (cA (cB (cB (cF Tryd.f24)))))))))))) Q := by
  unfold ref15_Join_j3 at h
  refine Wp.cond (b := v13) (by kernel_rfl) (fun hb => ?_) (fun hb => ?_)
  · replace h := if_t hb h
    obtain ⟨hc1, h⟩ := chk_of h
    refine Wp.region hΓ [] [] [] [0, 3, 4] [] (K' := [(0, .recs (α := List UInt8) [] E_string v0), (3, .str (v3 ++ [32])), (4, .val (.int .i64 v4))]) (L' := []) (ob := [(decide (((List.length v3 + List.length ([32] : List UInt8) : Nat) : Int) ≤ 9223372036854775807)) = true]) (by kernel_rfl) (AllP.cons hc1 AllP.nil) ?_
    refine To.keep (kk := [0, 3, 4]) (kl := []) (K' := [(0, .recs (α := List UInt8) [] E_string v0), (3, .str (v3 ++ [32])), (4, .val (.int .i64 v4))]) (L' := []) (by kernel_rfl) (by kernel_rfl) ?_
    cases h
    exact hQ
  · replace h := if_f hb h
    refine Wp.skip ?_
    refine To.keep (kk := [0, 3, 4]) (kl := []) (K' := [(0, .recs (α := List UInt8) [] E_string v0), (3, .str v3), (4, .val (.int .i64 v4))]) (L' := []) (by kernel_rfl) (by kernel_rfl) ?_
    cases h
    exact hQ
def ref15_Join_j6 (n : Nat) (v0 : List (List UInt8)) (v3 : List UInt8) (v4 : Int) (v5 : Int) (v44 : Bool) : Option ((List UInt8)) :=
  if v44 = true then (if (decide (((List.length v3 + List.length ([39, 92, 39] : List UInt8) : Nat) : Int) ≤ 9223372036854775807)) = true then (some (v3 ++ [39, 92, 39])) else none)
  else some v3
theorem ok_ref15_Join_j6 (n : Nat) (v0 : List (List UInt8)) (v3 : List UInt8) (v4 : Int) (v5 : Int) (v44 : Bool) (o : (List UInt8)) (h : ref15_Join_j6 n v0 v3 v4 v5 v44 = some o) {F0 : Fz} {w0 : Pt Tryd.prog} {Q : Exit → Act → World → Prop} (hQ : To 60 F0 w0 [(0, .recs (α := List UInt8) [] E_string v0), (3, .str o), (4, .val (.int .i64 v4)), (5, .val (.int .i64 v5))] [] .normal Q) : Wp Tryd.prog 60 F0 w0 [(0, .recs (α := List UInt8) [] E_string v0), (3, .str v3), (4, .val (.int .i64 v4)), (5, .val (.int .i64 v5)), (44, .val (.bool v44))] [] (cB (cA (cI (cA (cB (cI (cI (cB (cA (cB (cB (cB (cI (cA (cB (cI (cI (cB (cA (cB (cB (cF Tryd.f24)))))))))))))))))))))) Q := by
  unfold ref15_Join_j6 at h
  refine Wp.cond (b := v44) (by kernel_rfl) (fun hb => ?_) (fun hb => ?_)
  · replace h := if_t hb h
    obtain ⟨hc5, h⟩ := chk_of h
    refine Wp.region hΓ [] [] [] [0, 3, 4, 5] [] (K' := [(0, .recs (α := List UInt8) [] E_string v0), (3, .str (v3 ++ [39, 92, 39])), (4, .val (.int .i64 v4)), (5, .val (.int .i64 v5))]) (L' := []) (ob := [(decide (((List.length v3 + List.length ([39, 92, 39] : List UInt8) : Nat) : Int) ≤ 9223372036854775807)) = true]) (by kernel_rfl) (AllP.cons hc5 AllP.nil) ?_
    refine To.keep (kk := [0, 3, 4, 5]) (kl := []) (K' := [(0, .recs (α := List UInt8) [] E_string v0), (3, .str (v3 ++ [39, 92, 39])), (4, .val (.int .i64 v4)), (5, .val (.int .i64 v5))]) (L' := []) (by kernel_rfl) (by kernel_rfl) ?_
    cases h
    exact hQ
  · replace h := if_f hb h
    refine Wp.skip ?_
    refine To.keep (kk := [0, 3, 4, 5]) (kl := []) (K' := [(0, .recs (α := List UInt8) [] E_string v0), (3, .str v3), (4, .val (.int .i64 v4)), (5, .val (.int .i64 v5))]) (L' := []) (by kernel_rfl) (by kernel_rfl) ?_
    cases h
    exact hQ
def ref15_Join_j5 (n : Nat) (v0 : List (List UInt8)) (v3 : List UInt8) (v4 : Int) (v5 : Int) : Option ((List UInt8)) :=
  if (decide (0 ≤ v4 ∧ v4 < (List.length v0 : Int))) = true then (if (decide (0 ≤ v5 ∧ v5 < (List.length ((v0)[Int.toNat v4]?.getD []) : Int))) = true then ((ref15_Join_j6 n v0 v3 v4 v5 ((((((v0)[Int.toNat v4]?.getD []))[Int.toNat v5]?.getD 0).toNat : Int) == 39)).bind fun o5 =>
  if (decide (0 ≤ v4 ∧ v4 < (List.length v0 : Int))) = true then (if (decide (0 ≤ (IntKind.wrap .i64 (v5 + 1)) ∧ (IntKind.wrap .i64 (v5 + 1)) ≤ (List.length ((v0)[Int.toNat v4]?.getD []) : Int))) = true then (if (decide (0 ≤ v5 ∧ v5 ≤ (IntKind.wrap .i64 (v5 + 1)))) = true then (if (decide (((List.length o5 + List.length (List.take (Int.toNat (IntKind.wrap .i64 (v5 + 1)) - Int.toNat v5) (List.drop (Int.toNat v5) ((v0)[Int.toNat v4]?.getD []))) : Nat) : Int) ≤ 9223372036854775807)) = true then (lett ((o5 ++ (List.take (Int.toNat (IntKind.wrap .i64 (v5 + 1)) - Int.toNat v5) (List.drop (Int.toNat v5) ((v0)[Int.toNat v4]?.getD [])))) : List UInt8) fun x6 =>
  some x6) else none) else none) else none) else none) else none) else none
theorem ok_ref15_Join_j5 (n : Nat) (v0 : List (List UInt8)) (v3 : List UInt8) (v4 : Int) (v5 : Int) (o : (List UInt8)) (h : ref15_Join_j5 n v0 v3 v4 v5 = some o) {F0 : Fz} {w0 : Pt Tryd.prog} {Q : Exit → Act → World → Prop} (hQ : To 60 F0 w0 [(0, .recs (α := List UInt8) [] E_string v0), (3, .str o), (4, .val (.int .i64 v4)), (5, .val (.int .i64 v5))] [] .normal Q) : Wp Tryd.prog 60 F0 w0 [(0, .recs (α := List UInt8) [] E_string v0), (3, .str v3), (4, .val (.int .i64 v4)), (5, .val (.int .i64 v5))] [] (cA (cB (cI (cI (cB (cA (cB (cB (cB (cI (cA (cB (cI (cI (cB (cA (cB (cB (cF Tryd.f24))))))))))))))))))) Q := by
  unfold ref15_Join_j5 at h
  refine Wp.block ?_
  refine Wp.seq ?_
  refine Wp.seq ?_
  obtain ⟨hc11, h⟩ := chk_of h
  obtain ⟨hc12, h⟩ := chk_of h
  refine Wp.region hΓ [] [] [] [0, 3, 4, 5, 44] [] (K' := [(0, .recs (α := List UInt8) [] E_string v0), (3, .str v3), (4, .val (.int .i64 v4)), (5, .val (.int .i64 v5)), (44, .val (.bool ((((((v0)[Int.toNat v4]?.getD []))[Int.toNat v5]?.getD 0).toNat : Int) == 39)))]) (L' := []) (ob := [(decide (0 ≤ v4 ∧ v4 < (List.length v0 : Int))) = true, (decide (0 ≤ v5 ∧ v5 < (List.length ((v0)[Int.toNat v4]?.getD []) : Int))) = true]) (by kernel_rfl) (AllP.cons hc11 (AllP.cons hc12 AllP.nil)) ?_
  refine To.thenN ?_
  obtain ⟨o5, ho5, h⟩ := bind_of h
  refine Wp.keep (kk := [0, 3, 4, 5, 44]) (kl := []) (K' := [(0, .recs (α := List UInt8) [] E_string v0), (3, .str v3), (4, .val (.int .i64 v4)), (5, .val (.int .i64 v5)), (44, .val (.bool ((((((v0)[Int.toNat v4]?.getD []))[Int.toNat v5]?.getD 0).toNat : Int) == 39)))]) (L' := []) (by kernel_rfl) (by kernel_rfl) ?_
  refine ok_ref15_Join_j6 n v0 v3 v4 v5 ((((((v0)[Int.toNat v4]?.getD []))[Int.toNat v5]?.getD 0).toNat : Int) == 39) o5 ho5 ?_
  refine To.thenN ?_
  obtain ⟨hc7, h⟩ := chk_of h
  obtain ⟨hc8, h⟩ := chk_of h
  obtain ⟨hc9, h⟩ := chk_of h
  obtain ⟨hc10, h⟩ := chk_of h
  obtain ⟨x6, hx6, h⟩ := lett_of h
  refine Wp.region hΓ [] [] [] [0, 3, 4, 5] [] (K' := [(0, .recs (α := List UInt8) [] E_string v0), (3, .str (o5 ++ (List.take (Int.toNat (IntKind.wrap .i64 (v5 + 1)) - Int.toNat v5) (List.drop (Int.toNat v5) ((v0)[Int.toNat v4]?.getD []))))), (4, .val (.int .i64 v4)), (5, .val (.int .i64 v5))]) (L' := []) (ob := [(decide (0 ≤ v4 ∧ v4 < (List.length v0 : Int))) = true, (decide (0 ≤ (IntKind.wrap .i64 (v5 + 1)) ∧ (IntKind.wrap .i64 (v5 + 1)) ≤ (List.length ((v0)[Int.toNat v4]?.getD []) : Int))) = true, (decide (0 ≤ v5 ∧ v5 ≤ (IntKind.wrap .i64 (v5 + 1)))) = true, (decide (((List.length o5 + List.length (List.take (Int.toNat (IntKind.wrap .i64 (v5 + 1)) - Int.toNat v5) (List.drop (Int.toNat v5) ((v0)[Int.toNat v4]?.getD []))) : Nat) : Int) ≤ 9223372036854775807)) = true]) (by kernel_rfl) (AllP.cons hc7 (AllP.cons hc8 (AllP.cons hc9 (AllP.cons hc10 AllP.nil)))) ?_
  refine To.eq (K' := [(0, .recs (α := List UInt8) [] E_string v0), (3, .str x6), (4, .val (.int .i64 v4)), (5, .val (.int .i64 v5))]) (L' := []) (by cases hx6; rfl) (by cases hx6; rfl) ?_
  refine To.blockN ?_
  refine To.keep (kk := [0, 3, 4, 5]) (kl := []) (K' := [(0, .recs (α := List UInt8) [] E_string v0), (3, .str x6), (4, .val (.int .i64 v4)), (5, .val (.int .i64 v5))]) (L' := []) (by kernel_rfl) (by kernel_rfl) ?_
  cases h
  exact hQ
def ref15_Join_l4 (n : Nat) (v0 : List (List UInt8)) (v4 : Int) : Nat → (List UInt8) → Int → Option ((List UInt8))
  | 0, _, _ => none
  | k + 1, v3, v5 => if (decide (0 ≤ v4 ∧ v4 < (List.length v0 : Int))) = true then (if (decide (v5 < (List.length ((v0)[Int.toNat v4]?.getD []) : Int))) = true then ((ref15_Join_j5 n v0 v3 v4 v5).bind fun o5 =>
  ref15_Join_l4 n v0 v4 k o5 (IntKind.wrap .i64 (v5 + 1)))
  else some v3) else none
theorem ok_ref15_Join_l4 (n : Nat) (v0 : List (List UInt8)) (v4 : Int) {F0 : Fz} {w0 : Pt Tryd.prog} {Q : Exit → Act → World → Prop} (k : Nat) : ∀ (v3 : List UInt8) (v5 : Int) (o : (List UInt8)), ref15_Join_l4 n v0 v4 k v3 v5 = some o → To 60 F0 w0 [(0, .recs (α := List UInt8) [] E_string v0), (3, .str o), (4, .val (.int .i64 v4))] [] (.exit 2) Q → WL Tryd.prog 60 F0 w0 [(0, .recs (α := List UInt8) [] E_string v0), (3, .str v3), (4, .val (.int .i64 v4)), (5, .val (.int .i64 v5))] [] (cI (cI (cB (cA (cB (cB (cB (cI (cA (cB (cI (cI (cB (cA (cB (cB (cF Tryd.f24))))))))))))))))) Q := by
  induction k with
  | zero => intro v3 v5 o h; cases h
  | succ k ih =>
    intro v3 v5 o h hQ
    rw [ref15_Join_l4] at h
    refine WL.round ?_
    refine Wp.seq ?_
    refine Wp.seq ?_
    obtain ⟨hc6, h⟩ := chk_of h
    refine Wp.region hΓ [] [] [] [0, 3, 4, 5, 35] [] (K' := [(0, .recs (α := List UInt8) [] E_string v0), (3, .str v3), (4, .val (.int .i64 v4)), (5, .val (.int .i64 v5)), (35, .val (.bool (decide (v5 < (List.length ((v0)[Int.toNat v4]?.getD []) : Int)))))]) (L' := []) (ob := [(decide (0 ≤ v4 ∧ v4 < (List.length v0 : Int))) = true]) (by kernel_rfl) (AllP.cons hc6 AllP.nil) ?_
    refine To.thenN ?_
    refine Wp.cond (b := (decide (v5 < (List.length ((v0)[Int.toNat v4]?.getD []) : Int)))) (by kernel_rfl) (fun hb => ?_) (fun hb => ?_)
    · replace h := if_t hb h
      refine Wp.skip ?_
      refine To.thenN ?_
      refine Wp.seq ?_
      obtain ⟨o5, ho5, h⟩ := bind_of h
      refine Wp.keep (kk := [0, 3, 4, 5]) (kl := []) (K' := [(0, .recs (α := List UInt8) [] E_string v0), (3, .str v3), (4, .val (.int .i64 v4)), (5, .val (.int .i64 v5))]) (L' := []) (by kernel_rfl) (by kernel_rfl) ?_
      refine ok_ref15_Join_j5 n v0 v3 v4 v5 o5 ho5 ?_
      refine To.thenN ?_
      refine Wp.region hΓ [] [] [] [0, 3, 4, 5] [] (K' := [(0, .recs (α := List UInt8) [] E_string v0), (3, .str o5), (4, .val (.int .i64 v4)), (5, .val (.int .i64 (IntKind.wrap .i64 (v5 + 1))))]) (L' := []) (ob := []) (by kernel_rfl) AllP.nil ?_
      refine To.keep (kk := [0, 3, 4, 5]) (kl := []) (K' := [(0, .recs (α := List UInt8) [] E_string v0), (3, .str o5), (4, .val (.int .i64 v4)), (5, .val (.int .i64 (IntKind.wrap .i64 (v5 + 1))))]) (L' := []) (by kernel_rfl) (by kernel_rfl) ?_
      refine To.again ?_
      exact ih o5 (IntKind.wrap .i64 (v5 + 1)) _ h hQ
    · replace h := if_f hb h
      refine Wp.exit ?_
      refine To.thenX ?_
      refine To.thenX ?_
      refine To.keep (kk := [0, 3, 4]) (kl := []) (K' := [(0, .recs (α := List UInt8) [] E_string v0), (3, .str v3), (4, .val (.int .i64 v4))]) (L' := []) (by kernel_rfl) (by kernel_rfl) ?_
      cases h
      exact hQ
def ref15_Join_j2 (n : Nat) (v0 : List (List UInt8)) (v3 : List UInt8) (v4 : Int) : Option ((List UInt8)) :=
  (ref15_Join_j3 n v0 v3 v4 (decide (v4 > 0))).bind fun o1 =>
  if (decide (0 ≤ v4 ∧ v4 < (List.length v0 : Int))) = true then ((ref15_Bare n ((v0)[Int.toNat v4]?.getD [])).bind fun r2 =>
  if r2 = true then (if (decide (0 ≤ v4 ∧ v4 < (List.length v0 : Int))) = true then (if (decide (((List.length o1 + List.length ((v0)[Int.toNat v4]?.getD []) : Nat) : Int) ≤ 9223372036854775807)) = true then (some (o1 ++ ((v0)[Int.toNat v4]?.getD []))) else none) else none)
  else (if (decide (((List.length o1 + List.length ([39] : List UInt8) : Nat) : Int) ≤ 9223372036854775807)) = true then ((ref15_Join_l4 n v0 v4 n (o1 ++ [39]) 0).bind fun o5 =>
  if (decide (((List.length o5 + List.length ([39] : List UInt8) : Nat) : Int) ≤ 9223372036854775807)) = true then (some (o5 ++ [39])) else none) else none)) else none
end Go.Proofs.YtonjhkefnijlhaaDoor.M