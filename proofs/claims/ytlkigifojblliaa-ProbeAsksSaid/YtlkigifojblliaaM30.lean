/-
  Printed by wip/tools/gen.py: models and walks of functions.
-/
import Derived.Test.YtlkigifojblliaaRxArgs
import Derived.Test.YtlkigifojblliaaProg
namespace Go.Proofs.Ytlkigifojblliaa.M
open Go.RowKit Go.Proofs.Ytlkigifojblliaa.RX
set_option maxRecDepth 100000
def tab : List (Nat × TI) := [
  (3, { agg := false, size := 1, zero := [.int .i64 0], kind := .int .i64, eqs := [] }),
  (4, { agg := false, size := 1, zero := [.bool false], kind := .bool, eqs := [] }),
  (9, { agg := false, size := 1, zero := [.string ⟨#[]⟩], kind := .str, eqs := [] }),
  (29, { agg := true, size := 4, zero := [.string ⟨#[]⟩, .int .i64 0, .int .i64 0, .int .i64 0], kind := .struct [(0, 1, false), (1, 1, false), (2, 1, false), (3, 1, false)], eqs := [] }),
  (31, { agg := true, size := 4, zero := [.int .i64 0, .int .i64 0, .int .i64 0, .int .i64 0], kind := .struct [(0, 1, false), (1, 1, false), (2, 1, false), (3, 1, false)], eqs := [] }),
  (32, { agg := true, size := 4, zero := [.int .i64 0, .int .i64 0, .int .i64 0, .int .i64 0], kind := .struct [(0, 1, false), (1, 1, false), (2, 1, false), (3, 1, false)], eqs := [0, 0, 0, 0] }),
  (44, { agg := false, size := 1, zero := [.slice none 0 0], kind := .slice 1 false, elt := 4, eb := 1, ez := [.bool false], ek := none, eqs := [] }),
  (48, { agg := false, size := 1, zero := [.slice none 0 0], kind := .slice 1 false, elt := 9, eb := 16, ez := [.string ⟨#[]⟩], ek := none, eqs := [] })]
theorem tabOK : TabOK Try.prog tab := ⟨⟨by kernel_rfl, fun h => absurd rfl h⟩, ⟨by kernel_rfl, fun h => absurd rfl h⟩, ⟨by kernel_rfl, fun h => absurd rfl h⟩, ⟨by kernel_rfl, fun h => absurd rfl h⟩, ⟨by kernel_rfl, fun h => absurd rfl h⟩, ⟨by kernel_rfl, fun _ => eqCells_of (by kernel_rfl)⟩, ⟨by kernel_rfl, fun h => absurd rfl h⟩, ⟨by kernel_rfl, fun h => absurd rfl h⟩, trivial⟩
theorem hΓ : ΓOK Try.prog (tabΓ tab) := ΓOK.of tabOK
theorem hm : Try.prog.follows .mixedOrders = true := by kernel_rfl
structure S28 where
  f_Test : List UInt8
  f_Every : Int
  f_Start : Int
  f_Retries : Int
def probe_Right (a0 : S28) : Bool :=
  lett ((bif (bif (bif (bif (bif (bif (!(a0.f_Test == [])) then (decide (a0.f_Every ≥ 1)) else false) then (decide (a0.f_Every ≤ 1099511627776)) else false) then (decide (a0.f_Start ≥ 0)) else false) then (decide (a0.f_Start ≤ 1099511627776)) else false) then (decide (a0.f_Retries ≥ 1)) else false) then (decide (a0.f_Retries ≤ 10)) else false) : Bool) fun x1 =>
  x1
theorem ok_probe_Right (a0 : S28) (r : Bool) (h : probe_Right a0 = r) : CallsX Try.prog 20 [.agg [.str a0.f_Test, .val (.int .i64 a0.f_Every), .val (.int .i64 a0.f_Start), .val (.int .i64 a0.f_Retries)]] (.val (.bool r)) := by
  unfold probe_Right at h
  refine callsX_of (fn := Try.f20) (by kernel_rfl) rfl (by kernel_rfl) (Nat.le_of_ble_eq_true (by kernel_rfl)) fun F0 w0 => ?_
  refine Wp.keep (kk := [0]) (kl := []) (K' := [(0, .agg [.str a0.f_Test, .val (.int .i64 a0.f_Every), .val (.int .i64 a0.f_Start), .val (.int .i64 a0.f_Retries)])]) (L' := []) (by kernel_rfl) (by kernel_rfl) ?_
  refine Wp.seq ?_
  refine Wp.region hΓ [] [] [1] [1] (K' := [(1, .own 1 0)]) (L' := [(1, 29, [.str a0.f_Test, .val (.int .i64 a0.f_Every), .val (.int .i64 a0.f_Start), .val (.int .i64 a0.f_Retries)])]) (ob := []) (by kernel_rfl) AllP.nil ?_
  refine To.thenN ?_
  refine Wp.seq ?_
  obtain ⟨x1, hx1, h⟩ := lett_of h
  refine Wp.region hΓ [] [] [2] [] (K' := [(2, .val (.bool (bif (bif (bif (bif (bif (bif (!(a0.f_Test == [])) then (decide (a0.f_Every ≥ 1)) else false) then (decide (a0.f_Every ≤ 1099511627776)) else false) then (decide (a0.f_Start ≥ 0)) else false) then (decide (a0.f_Start ≤ 1099511627776)) else false) then (decide (a0.f_Retries ≥ 1)) else false) then (decide (a0.f_Retries ≤ 10)) else false)))]) (L' := []) (ob := []) (by kernel_rfl) AllP.nil ?_
  refine To.eq (K' := [(2, .val (.bool x1))]) (L' := []) (by cases hx1; rfl) (by cases hx1; rfl) ?_
  refine To.thenN ?_
  refine Wp.ret ?_
  refine To.keep (kk := [2]) (kl := []) (K' := [(2, .val (.bool x1))]) (L' := []) (by kernel_rfl) (by kernel_rfl) ?_
  cases h
  exact To.done hΓ (by kernel_rfl)
structure S30 where
  f_Health : Int
  f_Fails : Int
  f_Began : Int
  f_Next : Int
def probe_Begin (a0 : S28) (a1 : Int) : S30 :=
  if (!(probe_Right a0)) = true then ((S30.mk 0 0 0 0))
  else ((S30.mk 1 0 a1 (IntKind.wrap .i64 (a1 + a0.f_Every))))
theorem ok_probe_Begin (a0 : S28) (a1 : Int) (r : S30) (h : probe_Begin a0 a1 = r) : CallsX Try.prog 22 [.agg [.str a0.f_Test, .val (.int .i64 a0.f_Every), .val (.int .i64 a0.f_Start), .val (.int .i64 a0.f_Retries)], .val (.int .i64 a1)] (.agg [.val (.int .i64 r.f_Health), .val (.int .i64 r.f_Fails), .val (.int .i64 r.f_Began), .val (.int .i64 r.f_Next)]) := by
  unfold probe_Begin at h
  refine callsX_of (fn := Try.f22) (by kernel_rfl) rfl (by kernel_rfl) (Nat.le_of_ble_eq_true (by kernel_rfl)) fun F0 w0 => ?_
  refine Wp.keep (kk := [0, 1]) (kl := []) (K' := [(0, .agg [.str a0.f_Test, .val (.int .i64 a0.f_Every), .val (.int .i64 a0.f_Start), .val (.int .i64 a0.f_Retries)]), (1, .val (.int .i64 a1))]) (L' := []) (by kernel_rfl) (by kernel_rfl) ?_
  refine Wp.seq ?_
  refine Wp.region hΓ [] [] [1, 2, 4] [2, 4] (K' := [(1, .val (.int .i64 a1)), (2, .own 2 0), (4, .own 4 0)]) (L' := [(2, 29, [.str a0.f_Test, .val (.int .i64 a0.f_Every), .val (.int .i64 a0.f_Start), .val (.int .i64 a0.f_Retries)]), (4, 32, [.val (.int .i64 0), .val (.int .i64 0), .val (.int .i64 0), .val (.int .i64 0)])]) (ob := []) (by kernel_rfl) AllP.nil ?_
  refine To.thenN ?_
  refine Wp.seq ?_
  refine Wp.seq ?_
  refine Wp.region hΓ [] [(1, .val (.bool (probe_Right a0)))] [1, 2, 4, 7] [2, 4] (K' := [(1, .val (.int .i64 a1)), (2, .own 2 0), (4, .own 4 0), (7, .val (.bool (!(probe_Right a0))))]) (L' := [(2, 29, [.str a0.f_Test, .val (.int .i64 a0.f_Every), .val (.int .i64 a0.f_Start), .val (.int .i64 a0.f_Retries)]), (4, 32, [.val (.int .i64 0), .val (.int .i64 0), .val (.int .i64 0), .val (.int .i64 0)])]) (ob := [(true = true → CX Try.prog 20 [.agg [.str a0.f_Test, .val (.int .i64 a0.f_Every), .val (.int .i64 a0.f_Start), .val (.int .i64 a0.f_Retries)]] (.val (.bool (probe_Right a0))))]) (by kernel_rfl) (AllP.cons (fun _ => cx (ok_probe_Right a0 _ rfl)) AllP.nil) ?_
  refine To.thenN ?_
  refine Wp.cond (b := (!(probe_Right a0))) (by kernel_rfl) (fun hb => ?_) (fun hb => ?_)
  · replace h := if_t hb h
    refine Wp.seq ?_
    refine Wp.region hΓ [] [] [4] [4] (K' := [(4, .own 4 0)]) (L' := [(4, 32, [.val (.int .i64 0), .val (.int .i64 0), .val (.int .i64 0), .val (.int .i64 0)])]) (ob := []) (by kernel_rfl) AllP.nil ?_
    refine To.thenN ?_
    refine Wp.ret ?_
    refine To.thenR ?_
    refine To.keep (kk := [4]) (kl := [4]) (K' := [(4, .own 4 0)]) (L' := [(4, 32, [.val (.int .i64 0), .val (.int .i64 0), .val (.int .i64 0), .val (.int .i64 0)])]) (by kernel_rfl) (by kernel_rfl) ?_
    cases h
    exact To.done hΓ (by kernel_rfl)
  · replace h := if_f hb h
    refine Wp.skip ?_
    refine To.thenN ?_
    refine Wp.seq ?_
    refine Wp.region hΓ [] [] [4] [4] (K' := [(4, .own 4 0)]) (L' := [(4, 32, [.val (.int .i64 1), .val (.int .i64 0), .val (.int .i64 a1), .val (.int .i64 (IntKind.wrap .i64 (a1 + a0.f_Every)))])]) (ob := []) (by kernel_rfl) AllP.nil ?_
    refine To.thenN ?_
    refine Wp.ret ?_
    refine To.keep (kk := [4]) (kl := [4]) (K' := [(4, .own 4 0)]) (L' := [(4, 32, [.val (.int .i64 1), .val (.int .i64 0), .val (.int .i64 a1), .val (.int .i64 (IntKind.wrap .i64 (a1 + a0.f_Every)))])]) (by kernel_rfl) (by kernel_rfl) ?_
    cases h
    exact To.done hΓ (by kernel_rfl)
def probe_asked (a0 : S28) (a1 : S30) : Bool :=
  (bif (bif (probe_Right a0) then (decide (a1.f_Health ≥ 1)) else false) then (decide (a1.f_Health ≤ 3)) else false)
theorem ok_probe_asked (a0 : S28) (a1 : S30) (r : Bool) (h : probe_asked a0 a1 = r) : CallsX Try.prog 28 [.agg [.str a0.f_Test, .val (.int .i64 a0.f_Every), .val (.int .i64 a0.f_Start), .val (.int .i64 a0.f_Retries)], .agg [.val (.int .i64 a1.f_Health), .val (.int .i64 a1.f_Fails), .val (.int .i64 a1.f_Began), .val (.int .i64 a1.f_Next)]] (.val (.bool r)) := by
  unfold probe_asked at h
  refine callsX_of (fn := Try.f28) (by kernel_rfl) rfl (by kernel_rfl) (Nat.le_of_ble_eq_true (by kernel_rfl)) fun F0 w0 => ?_
  refine Wp.keep (kk := [0, 1]) (kl := []) (K' := [(0, .agg [.str a0.f_Test, .val (.int .i64 a0.f_Every), .val (.int .i64 a0.f_Start), .val (.int .i64 a0.f_Retries)]), (1, .agg [.val (.int .i64 a1.f_Health), .val (.int .i64 a1.f_Fails), .val (.int .i64 a1.f_Began), .val (.int .i64 a1.f_Next)])]) (L' := []) (by kernel_rfl) (by kernel_rfl) ?_
  refine Wp.seq ?_
  refine Wp.region hΓ [] [] [2, 3] [2, 3] (K' := [(2, .own 2 0), (3, .own 3 0)]) (L' := [(2, 29, [.str a0.f_Test, .val (.int .i64 a0.f_Every), .val (.int .i64 a0.f_Start), .val (.int .i64 a0.f_Retries)]), (3, 32, [.val (.int .i64 a1.f_Health), .val (.int .i64 a1.f_Fails), .val (.int .i64 a1.f_Began), .val (.int .i64 a1.f_Next)])]) (ob := []) (by kernel_rfl) AllP.nil ?_
  refine To.thenN ?_
  refine Wp.seq ?_
  refine Wp.region hΓ [] [(1, .val (.bool (probe_Right a0)))] [4] [] (K' := [(4, .val (.bool (bif (bif (probe_Right a0) then (decide (a1.f_Health ≥ 1)) else false) then (decide (a1.f_Health ≤ 3)) else false)))]) (L' := []) (ob := [(true = true → CX Try.prog 20 [.agg [.str a0.f_Test, .val (.int .i64 a0.f_Every), .val (.int .i64 a0.f_Start), .val (.int .i64 a0.f_Retries)]] (.val (.bool (probe_Right a0))))]) (by kernel_rfl) (AllP.cons (fun _ => cx (ok_probe_Right a0 _ rfl)) AllP.nil) ?_
  refine To.thenN ?_
  refine Wp.ret ?_
  refine To.keep (kk := [4]) (kl := []) (K' := [(4, .val (.bool (bif (bif (probe_Right a0) then (decide (a1.f_Health ≥ 1)) else false) then (decide (a1.f_Health ≤ 3)) else false)))]) (L' := []) (by kernel_rfl) (by kernel_rfl) ?_
  cases h
  exact To.done hΓ (by kernel_rfl)
def probe_Ask_j1 (v3 : Bool) (v10 : Int) (b4 : S28) (b5 : S30) (b8 : S30) : S30 :=
  if (!v3) = true then ((S30.mk 2 0 b5.f_Began b5.f_Next))
  else (if (bif (b5.f_Health == 1) then (decide ((IntKind.wrap .i64 (v10 - b5.f_Began)) < b4.f_Start)) else false) = true then b5
  else (if (decide ((IntKind.wrap .i64 (b5.f_Fails + 1)) ≥ b4.f_Retries)) = true then ((S30.mk 3 b4.f_Retries b5.f_Began b5.f_Next))
  else ((S30.mk b5.f_Health (IntKind.wrap .i64 (b5.f_Fails + 1)) b5.f_Began b5.f_Next))))
theorem ok_probe_Ask_j1 (v3 : Bool) (v10 : Int) (b4 : S28) (b5 : S30) (b8 : S30) (o : S30) (h : probe_Ask_j1 v3 v10 b4 b5 b8 = o) {F0 : Fz} {w0 : Pt} {Q : Exit → Act → World → Prop} (hQ : To 62 F0 w0 [(5, .own 5 0), (8, .own 8 0)] [(5, 32, [.val (.int .i64 o.f_Health), .val (.int .i64 o.f_Fails), .val (.int .i64 o.f_Began), .val (.int .i64 o.f_Next)]), (8, 32, [.val (.int .i64 b8.f_Health), .val (.int .i64 b8.f_Fails), .val (.int .i64 b8.f_Began), .val (.int .i64 b8.f_Next)])] .normal Q) : Wp Try.prog 62 F0 w0 [(3, .val (.bool v3)), (4, .own 4 0), (5, .own 5 0), (8, .own 8 0), (10, .val (.int .i64 v10))] [(4, 29, [.str b4.f_Test, .val (.int .i64 b4.f_Every), .val (.int .i64 b4.f_Start), .val (.int .i64 b4.f_Retries)]), (5, 32, [.val (.int .i64 b5.f_Health), .val (.int .i64 b5.f_Fails), .val (.int .i64 b5.f_Began), .val (.int .i64 b5.f_Next)]), (8, 32, [.val (.int .i64 b8.f_Health), .val (.int .i64 b8.f_Fails), .val (.int .i64 b8.f_Began), .val (.int .i64 b8.f_Next)])] (cA (cB (cB (cB (cB (cF Try.f18)))))) Q := by
  unfold probe_Ask_j1 at h
  refine Wp.block ?_
  refine Wp.seq ?_
  refine Wp.region hΓ [] [] [4, 5, 8, 10, 43] [4, 5, 8] (K' := [(4, .own 4 0), (5, .own 5 0), (8, .own 8 0), (10, .val (.int .i64 v10)), (43, .val (.bool (!v3)))]) (L' := [(4, 29, [.str b4.f_Test, .val (.int .i64 b4.f_Every), .val (.int .i64 b4.f_Start), .val (.int .i64 b4.f_Retries)]), (5, 32, [.val (.int .i64 b5.f_Health), .val (.int .i64 b5.f_Fails), .val (.int .i64 b5.f_Began), .val (.int .i64 b5.f_Next)]), (8, 32, [.val (.int .i64 b8.f_Health), .val (.int .i64 b8.f_Fails), .val (.int .i64 b8.f_Began), .val (.int .i64 b8.f_Next)])]) (ob := []) (by kernel_rfl) AllP.nil ?_
  refine To.thenN ?_
  refine Wp.cond (b := (!v3)) (by kernel_rfl) (fun hb => ?_) (fun hb => ?_)
  · replace h := if_t hb h
    refine Wp.region hΓ [] [] [5, 8] [5, 8] (K' := [(5, .own 5 0), (8, .own 8 0)]) (L' := [(5, 32, [.val (.int .i64 2), .val (.int .i64 0), .val (.int .i64 b5.f_Began), .val (.int .i64 b5.f_Next)]), (8, 32, [.val (.int .i64 b8.f_Health), .val (.int .i64 b8.f_Fails), .val (.int .i64 b8.f_Began), .val (.int .i64 b8.f_Next)])]) (ob := []) (by kernel_rfl) AllP.nil ?_
    refine To.blockN ?_
    refine To.keep (kk := [5, 8]) (kl := [5, 8]) (K' := [(5, .own 5 0), (8, .own 8 0)]) (L' := [(5, 32, [.val (.int .i64 2), .val (.int .i64 0), .val (.int .i64 b5.f_Began), .val (.int .i64 b5.f_Next)]), (8, 32, [.val (.int .i64 b8.f_Health), .val (.int .i64 b8.f_Fails), .val (.int .i64 b8.f_Began), .val (.int .i64 b8.f_Next)])]) (by kernel_rfl) (by kernel_rfl) ?_
    cases h
    exact hQ
  · replace h := if_f hb h
    refine Wp.seq ?_
    refine Wp.region hΓ [] [] [4, 5, 8, 48] [4, 5, 8] (K' := [(4, .own 4 0), (5, .own 5 0), (8, .own 8 0), (48, .val (.bool (bif (b5.f_Health == 1) then (decide ((IntKind.wrap .i64 (v10 - b5.f_Began)) < b4.f_Start)) else false)))]) (L' := [(4, 29, [.str b4.f_Test, .val (.int .i64 b4.f_Every), .val (.int .i64 b4.f_Start), .val (.int .i64 b4.f_Retries)]), (5, 32, [.val (.int .i64 b5.f_Health), .val (.int .i64 b5.f_Fails), .val (.int .i64 b5.f_Began), .val (.int .i64 b5.f_Next)]), (8, 32, [.val (.int .i64 b8.f_Health), .val (.int .i64 b8.f_Fails), .val (.int .i64 b8.f_Began), .val (.int .i64 b8.f_Next)])]) (ob := []) (by kernel_rfl) AllP.nil ?_
    refine To.thenN ?_
    refine Wp.cond (b := (bif (b5.f_Health == 1) then (decide ((IntKind.wrap .i64 (v10 - b5.f_Began)) < b4.f_Start)) else false)) (by kernel_rfl) (fun hb => ?_) (fun hb => ?_)
    · replace h := if_t hb h
      refine Wp.skip ?_
      refine To.blockN ?_
      refine To.keep (kk := [5, 8]) (kl := [5, 8]) (K' := [(5, .own 5 0), (8, .own 8 0)]) (L' := [(5, 32, [.val (.int .i64 b5.f_Health), .val (.int .i64 b5.f_Fails), .val (.int .i64 b5.f_Began), .val (.int .i64 b5.f_Next)]), (8, 32, [.val (.int .i64 b8.f_Health), .val (.int .i64 b8.f_Fails), .val (.int .i64 b8.f_Began), .val (.int .i64 b8.f_Next)])]) (by kernel_rfl) (by kernel_rfl) ?_
      cases h
      exact hQ
    · replace h := if_f hb h
      refine Wp.seq ?_
      refine Wp.region hΓ [] [] [4, 5, 8] [4, 5, 8] (K' := [(4, .own 4 0), (5, .own 5 0), (8, .own 8 0)]) (L' := [(4, 29, [.str b4.f_Test, .val (.int .i64 b4.f_Every), .val (.int .i64 b4.f_Start), .val (.int .i64 b4.f_Retries)]), (5, 32, [.val (.int .i64 b5.f_Health), .val (.int .i64 (IntKind.wrap .i64 (b5.f_Fails + 1))), .val (.int .i64 b5.f_Began), .val (.int .i64 b5.f_Next)]), (8, 32, [.val (.int .i64 b8.f_Health), .val (.int .i64 b8.f_Fails), .val (.int .i64 b8.f_Began), .val (.int .i64 b8.f_Next)])]) (ob := []) (by kernel_rfl) AllP.nil ?_
      refine To.thenN ?_
      refine Wp.seq ?_
      refine Wp.region hΓ [] [] [4, 5, 8, 38] [4, 5, 8] (K' := [(4, .own 4 0), (5, .own 5 0), (8, .own 8 0), (38, .val (.bool (decide ((IntKind.wrap .i64 (b5.f_Fails + 1)) ≥ b4.f_Retries))))]) (L' := [(4, 29, [.str b4.f_Test, .val (.int .i64 b4.f_Every), .val (.int .i64 b4.f_Start), .val (.int .i64 b4.f_Retries)]), (5, 32, [.val (.int .i64 b5.f_Health), .val (.int .i64 (IntKind.wrap .i64 (b5.f_Fails + 1))), .val (.int .i64 b5.f_Began), .val (.int .i64 b5.f_Next)]), (8, 32, [.val (.int .i64 b8.f_Health), .val (.int .i64 b8.f_Fails), .val (.int .i64 b8.f_Began), .val (.int .i64 b8.f_Next)])]) (ob := []) (by kernel_rfl) AllP.nil ?_
      refine To.thenN ?_
      refine Wp.cond (b := (decide ((IntKind.wrap .i64 (b5.f_Fails + 1)) ≥ b4.f_Retries))) (by kernel_rfl) (fun hb => ?_) (fun hb => ?_)
      · replace h := if_t hb h
        refine Wp.regionD hm hΓ [] [5, 8] [5, 8] (K' := [(5, .own 5 0), (8, .own 8 0)]) (L' := [(5, 32, [.val (.int .i64 3), .val (.int .i64 b4.f_Retries), .val (.int .i64 b5.f_Began), .val (.int .i64 b5.f_Next)]), (8, 32, [.val (.int .i64 b8.f_Health), .val (.int .i64 b8.f_Fails), .val (.int .i64 b8.f_Began), .val (.int .i64 b8.f_Next)])]) (ob := []) (by kernel_rfl) AllP.nil ?_
        refine To.blockN ?_
        refine To.keep (kk := [5, 8]) (kl := [5, 8]) (K' := [(5, .own 5 0), (8, .own 8 0)]) (L' := [(5, 32, [.val (.int .i64 3), .val (.int .i64 b4.f_Retries), .val (.int .i64 b5.f_Began), .val (.int .i64 b5.f_Next)]), (8, 32, [.val (.int .i64 b8.f_Health), .val (.int .i64 b8.f_Fails), .val (.int .i64 b8.f_Began), .val (.int .i64 b8.f_Next)])]) (by kernel_rfl) (by kernel_rfl) ?_
        cases h
        exact hQ
      · replace h := if_f hb h
        refine Wp.skip ?_
        refine To.blockN ?_
        refine To.keep (kk := [5, 8]) (kl := [5, 8]) (K' := [(5, .own 5 0), (8, .own 8 0)]) (L' := [(5, 32, [.val (.int .i64 b5.f_Health), .val (.int .i64 (IntKind.wrap .i64 (b5.f_Fails + 1))), .val (.int .i64 b5.f_Began), .val (.int .i64 b5.f_Next)]), (8, 32, [.val (.int .i64 b8.f_Health), .val (.int .i64 b8.f_Fails), .val (.int .i64 b8.f_Began), .val (.int .i64 b8.f_Next)])]) (by kernel_rfl) (by kernel_rfl) ?_
        cases h
        exact hQ
def probe_Ask (a0 : S28) (a1 : S30) (a2 : Int) (a3 : Bool) : S30 × Bool :=
  if (bif (!(probe_asked a0 a1)) then true else (decide (a2 < a1.f_Next))) = true then ((a1, false))
  else (lett (probe_Ask_j1 a3 a1.f_Next a0 (S30.mk a1.f_Health a1.f_Fails a1.f_Began (IntKind.wrap .i64 (a1.f_Next + a0.f_Every))) (S30.mk 0 0 0 0)) fun o1 =>
  (o1, true))
theorem ok_probe_Ask (a0 : S28) (a1 : S30) (a2 : Int) (a3 : Bool) (r : S30 × Bool) (h : probe_Ask a0 a1 a2 a3 = r) : CallsX Try.prog 18 [.agg [.str a0.f_Test, .val (.int .i64 a0.f_Every), .val (.int .i64 a0.f_Start), .val (.int .i64 a0.f_Retries)], .agg [.val (.int .i64 a1.f_Health), .val (.int .i64 a1.f_Fails), .val (.int .i64 a1.f_Began), .val (.int .i64 a1.f_Next)], .val (.int .i64 a2), .val (.bool a3)] (.tup [.agg [.val (.int .i64 r.1.f_Health), .val (.int .i64 r.1.f_Fails), .val (.int .i64 r.1.f_Began), .val (.int .i64 r.1.f_Next)], .val (.bool r.2)]) := by
  unfold probe_Ask at h
  refine callsX_of (fn := Try.f18) (by kernel_rfl) rfl (by kernel_rfl) (Nat.le_of_ble_eq_true (by kernel_rfl)) fun F0 w0 => ?_
  refine Wp.keep (kk := [0, 1, 2, 3]) (kl := []) (K' := [(0, .agg [.str a0.f_Test, .val (.int .i64 a0.f_Every), .val (.int .i64 a0.f_Start), .val (.int .i64 a0.f_Retries)]), (1, .agg [.val (.int .i64 a1.f_Health), .val (.int .i64 a1.f_Fails), .val (.int .i64 a1.f_Began), .val (.int .i64 a1.f_Next)]), (2, .val (.int .i64 a2)), (3, .val (.bool a3))]) (L' := []) (by kernel_rfl) (by kernel_rfl) ?_
  refine Wp.seq ?_
  refine Wp.region hΓ [] [] [2, 3, 4, 5, 8] [4, 5, 8] (K' := [(2, .val (.int .i64 a2)), (3, .val (.bool a3)), (4, .own 4 0), (5, .own 5 0), (8, .own 8 0)]) (L' := [(4, 29, [.str a0.f_Test, .val (.int .i64 a0.f_Every), .val (.int .i64 a0.f_Start), .val (.int .i64 a0.f_Retries)]), (5, 32, [.val (.int .i64 a1.f_Health), .val (.int .i64 a1.f_Fails), .val (.int .i64 a1.f_Began), .val (.int .i64 a1.f_Next)]), (8, 32, [.val (.int .i64 0), .val (.int .i64 0), .val (.int .i64 0), .val (.int .i64 0)])]) (ob := []) (by kernel_rfl) AllP.nil ?_
  refine To.thenN ?_
  refine Wp.seq ?_
  refine Wp.seq ?_
  refine Wp.region hΓ [] [(2, .val (.bool (probe_asked a0 a1)))] [3, 4, 5, 8, 20] [4, 5, 8] (K' := [(3, .val (.bool a3)), (4, .own 4 0), (5, .own 5 0), (8, .own 8 0), (20, .val (.bool (bif (!(probe_asked a0 a1)) then true else (decide (a2 < a1.f_Next)))))]) (L' := [(4, 29, [.str a0.f_Test, .val (.int .i64 a0.f_Every), .val (.int .i64 a0.f_Start), .val (.int .i64 a0.f_Retries)]), (5, 32, [.val (.int .i64 a1.f_Health), .val (.int .i64 a1.f_Fails), .val (.int .i64 a1.f_Began), .val (.int .i64 a1.f_Next)]), (8, 32, [.val (.int .i64 0), .val (.int .i64 0), .val (.int .i64 0), .val (.int .i64 0)])]) (ob := [(true = true → CX Try.prog 28 [.agg [.str a0.f_Test, .val (.int .i64 a0.f_Every), .val (.int .i64 a0.f_Start), .val (.int .i64 a0.f_Retries)], .agg [.val (.int .i64 a1.f_Health), .val (.int .i64 a1.f_Fails), .val (.int .i64 a1.f_Began), .val (.int .i64 a1.f_Next)]] (.val (.bool (probe_asked a0 a1))))]) (by kernel_rfl) (AllP.cons (fun _ => cx (ok_probe_asked a0 a1 _ rfl)) AllP.nil) ?_
  refine To.thenN ?_
  refine Wp.cond (b := (bif (!(probe_asked a0 a1)) then true else (decide (a2 < a1.f_Next)))) (by kernel_rfl) (fun hb => ?_) (fun hb => ?_)
  · replace h := if_t hb h
    refine Wp.seq ?_
    refine Wp.region hΓ [] [] [8, 9] [8] (K' := [(8, .own 8 0), (9, .val (.bool false))]) (L' := [(8, 32, [.val (.int .i64 a1.f_Health), .val (.int .i64 a1.f_Fails), .val (.int .i64 a1.f_Began), .val (.int .i64 a1.f_Next)])]) (ob := []) (by kernel_rfl) AllP.nil ?_
    refine To.thenN ?_
    refine Wp.ret ?_
    refine To.thenR ?_
    refine To.keep (kk := [8, 9]) (kl := [8]) (K' := [(8, .own 8 0), (9, .val (.bool false))]) (L' := [(8, 32, [.val (.int .i64 a1.f_Health), .val (.int .i64 a1.f_Fails), .val (.int .i64 a1.f_Began), .val (.int .i64 a1.f_Next)])]) (by kernel_rfl) (by kernel_rfl) ?_
    cases h
    exact To.done hΓ (by kernel_rfl)
  · replace h := if_f hb h
    refine Wp.skip ?_
    refine To.thenN ?_
    refine Wp.seq ?_
    refine Wp.region hΓ [] [] [3, 4, 5, 8, 10] [4, 5, 8] (K' := [(3, .val (.bool a3)), (4, .own 4 0), (5, .own 5 0), (8, .own 8 0), (10, .val (.int .i64 a1.f_Next))]) (L' := [(4, 29, [.str a0.f_Test, .val (.int .i64 a0.f_Every), .val (.int .i64 a0.f_Start), .val (.int .i64 a0.f_Retries)]), (5, 32, [.val (.int .i64 a1.f_Health), .val (.int .i64 a1.f_Fails), .val (.int .i64 a1.f_Began), .val (.int .i64 a1.f_Next)]), (8, 32, [.val (.int .i64 0), .val (.int .i64 0), .val (.int .i64 0), .val (.int .i64 0)])]) (ob := []) (by kernel_rfl) AllP.nil ?_
    refine To.thenN ?_
    refine Wp.seq ?_
    refine Wp.region hΓ [] [] [3, 4, 5, 8, 10] [4, 5, 8] (K' := [(3, .val (.bool a3)), (4, .own 4 0), (5, .own 5 0), (8, .own 8 0), (10, .val (.int .i64 a1.f_Next))]) (L' := [(4, 29, [.str a0.f_Test, .val (.int .i64 a0.f_Every), .val (.int .i64 a0.f_Start), .val (.int .i64 a0.f_Retries)]), (5, 32, [.val (.int .i64 a1.f_Health), .val (.int .i64 a1.f_Fails), .val (.int .i64 a1.f_Began), .val (.int .i64 (IntKind.wrap .i64 (a1.f_Next + a0.f_Every)))]), (8, 32, [.val (.int .i64 0), .val (.int .i64 0), .val (.int .i64 0), .val (.int .i64 0)])]) (ob := []) (by kernel_rfl) AllP.nil ?_
    refine To.thenN ?_
    refine Wp.seq ?_
    obtain ⟨o1, ho1, h⟩ := lett_of h
    refine Wp.keep (kk := [3, 4, 5, 8, 10]) (kl := [4, 5, 8]) (K' := [(3, .val (.bool a3)), (4, .own 4 0), (5, .own 5 0), (8, .own 8 0), (10, .val (.int .i64 a1.f_Next))]) (L' := [(4, 29, [.str a0.f_Test, .val (.int .i64 a0.f_Every), .val (.int .i64 a0.f_Start), .val (.int .i64 a0.f_Retries)]), (5, 32, [.val (.int .i64 a1.f_Health), .val (.int .i64 a1.f_Fails), .val (.int .i64 a1.f_Began), .val (.int .i64 (IntKind.wrap .i64 (a1.f_Next + a0.f_Every)))]), (8, 32, [.val (.int .i64 0), .val (.int .i64 0), .val (.int .i64 0), .val (.int .i64 0)])]) (by kernel_rfl) (by kernel_rfl) ?_
    refine ok_probe_Ask_j1 a3 a1.f_Next a0 (S30.mk a1.f_Health a1.f_Fails a1.f_Began (IntKind.wrap .i64 (a1.f_Next + a0.f_Every))) (S30.mk 0 0 0 0) o1 ho1 ?_
    refine To.thenN ?_
    refine Wp.seq ?_
    refine Wp.region hΓ [] [] [8, 9] [8] (K' := [(8, .own 8 0), (9, .val (.bool true))]) (L' := [(8, 32, [.val (.int .i64 o1.f_Health), .val (.int .i64 o1.f_Fails), .val (.int .i64 o1.f_Began), .val (.int .i64 o1.f_Next)])]) (ob := []) (by kernel_rfl) AllP.nil ?_
    refine To.thenN ?_
    refine Wp.ret ?_
    refine To.keep (kk := [8, 9]) (kl := [8]) (K' := [(8, .own 8 0), (9, .val (.bool true))]) (L' := [(8, 32, [.val (.int .i64 o1.f_Health), .val (.int .i64 o1.f_Fails), .val (.int .i64 o1.f_Began), .val (.int .i64 o1.f_Next)])]) (by kernel_rfl) (by kernel_rfl) ?_
    cases h
    exact To.done hΓ (by kernel_rfl)
def probe_Due (a0 : S28) (a1 : S30) : Int :=
  if (!(probe_asked a0 a1)) = true then ((-1))
  else a1.f_Next
theorem ok_probe_Due (a0 : S28) (a1 : S30) (r : Int) (h : probe_Due a0 a1 = r) : CallsX Try.prog 24 [.agg [.str a0.f_Test, .val (.int .i64 a0.f_Every), .val (.int .i64 a0.f_Start), .val (.int .i64 a0.f_Retries)], .agg [.val (.int .i64 a1.f_Health), .val (.int .i64 a1.f_Fails), .val (.int .i64 a1.f_Began), .val (.int .i64 a1.f_Next)]] (.val (.int .i64 r)) := by
  unfold probe_Due at h
  refine callsX_of (fn := Try.f24) (by kernel_rfl) rfl (by kernel_rfl) (Nat.le_of_ble_eq_true (by kernel_rfl)) fun F0 w0 => ?_
  refine Wp.keep (kk := [0, 1]) (kl := []) (K' := [(0, .agg [.str a0.f_Test, .val (.int .i64 a0.f_Every), .val (.int .i64 a0.f_Start), .val (.int .i64 a0.f_Retries)]), (1, .agg [.val (.int .i64 a1.f_Health), .val (.int .i64 a1.f_Fails), .val (.int .i64 a1.f_Began), .val (.int .i64 a1.f_Next)])]) (L' := []) (by kernel_rfl) (by kernel_rfl) ?_
  refine Wp.seq ?_
  refine Wp.region hΓ [] [] [2, 3] [2, 3] (K' := [(2, .own 2 0), (3, .own 3 0)]) (L' := [(2, 29, [.str a0.f_Test, .val (.int .i64 a0.f_Every), .val (.int .i64 a0.f_Start), .val (.int .i64 a0.f_Retries)]), (3, 32, [.val (.int .i64 a1.f_Health), .val (.int .i64 a1.f_Fails), .val (.int .i64 a1.f_Began), .val (.int .i64 a1.f_Next)])]) (ob := []) (by kernel_rfl) AllP.nil ?_
  refine To.thenN ?_
  refine Wp.seq ?_
  refine Wp.seq ?_
  refine Wp.region hΓ [] [(2, .val (.bool (probe_asked a0 a1)))] [3, 8] [3] (K' := [(3, .own 3 0), (8, .val (.bool (!(probe_asked a0 a1))))]) (L' := [(3, 32, [.val (.int .i64 a1.f_Health), .val (.int .i64 a1.f_Fails), .val (.int .i64 a1.f_Began), .val (.int .i64 a1.f_Next)])]) (ob := [(true = true → CX Try.prog 28 [.agg [.str a0.f_Test, .val (.int .i64 a0.f_Every), .val (.int .i64 a0.f_Start), .val (.int .i64 a0.f_Retries)], .agg [.val (.int .i64 a1.f_Health), .val (.int .i64 a1.f_Fails), .val (.int .i64 a1.f_Began), .val (.int .i64 a1.f_Next)]] (.val (.bool (probe_asked a0 a1))))]) (by kernel_rfl) (AllP.cons (fun _ => cx (ok_probe_asked a0 a1 _ rfl)) AllP.nil) ?_
  refine To.thenN ?_
  refine Wp.cond (b := (!(probe_asked a0 a1))) (by kernel_rfl) (fun hb => ?_) (fun hb => ?_)
  · replace h := if_t hb h
    refine Wp.seq ?_
    refine Wp.region hΓ [] [] [4] [] (K' := [(4, .val (.int .i64 (-1)))]) (L' := []) (ob := []) (by kernel_rfl) AllP.nil ?_
    refine To.thenN ?_
    refine Wp.ret ?_
    refine To.thenR ?_
    refine To.keep (kk := [4]) (kl := []) (K' := [(4, .val (.int .i64 (-1)))]) (L' := []) (by kernel_rfl) (by kernel_rfl) ?_
    cases h
    exact To.done hΓ (by kernel_rfl)
  · replace h := if_f hb h
    refine Wp.skip ?_
    refine To.thenN ?_
    refine Wp.seq ?_
    refine Wp.region hΓ [] [] [4] [] (K' := [(4, .val (.int .i64 a1.f_Next))]) (L' := []) (ob := []) (by kernel_rfl) AllP.nil ?_
    refine To.thenN ?_
    refine Wp.ret ?_
    refine To.keep (kk := [4]) (kl := []) (K' := [(4, .val (.int .i64 a1.f_Next))]) (L' := []) (by kernel_rfl) (by kernel_rfl) ?_
    cases h
    exact To.done hΓ (by kernel_rfl)
def probe_Name_j2 (n : Nat) (v3 : List UInt8) (v4 : Int) : Option (Sum ((List UInt8)) (Sum ((List UInt8)) (Sum (Unit) (Unit)))) :=
  if (v4 == 3) = true then (some (.inl [117, 110]))
  else (if (v4 == 2) = true then (some (.inl v3))
  else (if (v4 == 1) = true then (some (.inr (.inr (.inl ()))))
  else (if (v4 == 0) = true then (some (.inr (.inr (.inr ()))))
  else (some (.inr (.inl v3))))))
theorem ok_probe_Name_j2 (n : Nat) (v3 : List UInt8) (v4 : Int) (o : Sum ((List UInt8)) (Sum ((List UInt8)) (Sum (Unit) (Unit)))) (h : probe_Name_j2 n v3 v4 = some o) {F0 : Fz} {w0 : Pt} {Q : Exit → Act → World → Prop} (hQ : (Sum.elim (fun s => To 16 F0 w0 [(3, .str s)] [] .normal Q) (Sum.elim (fun s => To 16 F0 w0 [(3, .str s)] [] (.exit 0) Q) (Sum.elim (fun s => To 16 F0 w0 [] [] (.exit 3) Q) (fun s => To 16 F0 w0 [] [] (.exit 4) Q)))) o) : Wp Try.prog 16 F0 w0 [(3, .str v3), (4, .val (.int .i64 v4))] [] (cA (cI (cA (cI (cA (cI (cB (cA (cB (cB (cF Try.f26))))))))))) Q := by
  unfold probe_Name_j2 at h
  refine Wp.block ?_
  refine Wp.seq ?_
  refine Wp.block ?_
  refine Wp.seq ?_
  refine Wp.seq ?_
  refine Wp.seq ?_
  refine Wp.region hΓ [] [] [3, 4, 5] [] (K' := [(3, .str v3), (4, .val (.int .i64 v4)), (5, .val (.bool (v4 == 3)))]) (L' := []) (ob := []) (by kernel_rfl) AllP.nil ?_
  refine To.thenN ?_
  refine Wp.cond (b := (v4 == 3)) (by kernel_rfl) (fun hb => ?_) (fun hb => ?_)
  · replace h := if_t hb h
    refine Wp.exit ?_
    refine To.thenX ?_
    refine To.thenX ?_
    refine To.blockX ?_
    refine To.thenN ?_
    refine Wp.region hΓ [] [] [3] [] (K' := [(3, .str [117, 110])]) (L' := []) (ob := []) (by kernel_rfl) AllP.nil ?_
    refine To.blockN ?_
    refine To.keep (kk := [3]) (kl := []) (K' := [(3, .str [117, 110])]) (L' := []) (by kernel_rfl) (by kernel_rfl) ?_
    cases h
    exact hQ
  · replace h := if_f hb h
    refine Wp.skip ?_
    refine To.thenN ?_
    refine Wp.seq ?_
    refine Wp.seq ?_
    refine Wp.region hΓ [] [] [3, 4, 7] [] (K' := [(3, .str v3), (4, .val (.int .i64 v4)), (7, .val (.bool (v4 == 2)))]) (L' := []) (ob := []) (by kernel_rfl) AllP.nil ?_
    refine To.thenN ?_
    refine Wp.cond (b := (v4 == 2)) (by kernel_rfl) (fun hb => ?_) (fun hb => ?_)
    · replace h := if_t hb h
      refine Wp.exit ?_
      refine To.thenX ?_
      refine To.thenX ?_
      refine To.blockO (by decide) ?_
      refine To.thenX ?_
      refine To.blockX ?_
      refine To.keep (kk := [3]) (kl := []) (K' := [(3, .str v3)]) (L' := []) (by kernel_rfl) (by kernel_rfl) ?_
      cases h
      exact hQ
    · replace h := if_f hb h
      refine Wp.skip ?_
      refine To.thenN ?_
      refine Wp.seq ?_
      refine Wp.seq ?_
      refine Wp.region hΓ [] [] [3, 4, 9] [] (K' := [(3, .str v3), (4, .val (.int .i64 v4)), (9, .val (.bool (v4 == 1)))]) (L' := []) (ob := []) (by kernel_rfl) AllP.nil ?_
      refine To.thenN ?_
      refine Wp.cond (b := (v4 == 1)) (by kernel_rfl) (fun hb => ?_) (fun hb => ?_)
      · replace h := if_t hb h
        refine Wp.exit ?_
        refine To.thenX ?_
        refine To.thenX ?_
        refine To.blockO (by decide) ?_
        refine To.thenX ?_
        refine To.blockO (by decide) ?_
        refine To.keep (kk := []) (kl := []) (K' := []) (L' := []) (by kernel_rfl) (by kernel_rfl) ?_
        cases h
        exact hQ
      · replace h := if_f hb h
        refine Wp.skip ?_
        refine To.thenN ?_
        refine Wp.seq ?_
        refine Wp.region hΓ [] [] [3, 11] [] (K' := [(3, .str v3), (11, .val (.bool (v4 == 0)))]) (L' := []) (ob := []) (by kernel_rfl) AllP.nil ?_
        refine To.thenN ?_
        refine Wp.cond (b := (v4 == 0)) (by kernel_rfl) (fun hb => ?_) (fun hb => ?_)
        · replace h := if_t hb h
          refine Wp.exit ?_
          refine To.thenX ?_
          refine To.blockO (by decide) ?_
          refine To.thenX ?_
          refine To.blockO (by decide) ?_
          refine To.keep (kk := []) (kl := []) (K' := []) (L' := []) (by kernel_rfl) (by kernel_rfl) ?_
          cases h
          exact hQ
        · replace h := if_f hb h
          refine Wp.skip ?_
          refine To.thenN ?_
          refine Wp.exit ?_
          refine To.blockO (by decide) ?_
          refine To.thenX ?_
          refine To.blockO (by decide) ?_
          refine To.keep (kk := [3]) (kl := []) (K' := [(3, .str v3)]) (L' := []) (by kernel_rfl) (by kernel_rfl) ?_
          cases h
          exact hQ
def probe_Name_j1 (n : Nat) (v3 : List UInt8) (v4 : Int) : Option ((List UInt8)) :=
  (probe_Name_j2 n v3 v4).bind fun o1 =>
  (Sum.elim (fun o1 => if (decide (((List.length o1 + List.length ([104, 101, 97, 108, 116, 104, 121] : List UInt8) : Nat) : Int) ≤ 9223372036854775807)) = true then (some (o1 ++ [104, 101, 97, 108, 116, 104, 121])) else none) (Sum.elim (fun o1 => some o1) (Sum.elim (fun o1 => some [115, 116, 97, 114, 116, 105, 110, 103]) (fun o1 => some [110, 111, 110, 101])))) o1
theorem ok_probe_Name_j1 (n : Nat) (v3 : List UInt8) (v4 : Int) (o : (List UInt8)) (h : probe_Name_j1 n v3 v4 = some o) {F0 : Fz} {w0 : Pt} {Q : Exit → Act → World → Prop} (hQ : To 16 F0 w0 [(3, .str o)] [] .normal Q) : Wp Try.prog 16 F0 w0 [(3, .str v3), (4, .val (.int .i64 v4))] [] (cB (cA (cB (cB (cF Try.f26))))) Q := by
  unfold probe_Name_j1 at h
  refine Wp.block ?_
  refine Wp.seq ?_
  refine Wp.block ?_
  refine Wp.seq ?_
  refine Wp.block ?_
  refine Wp.seq ?_
  obtain ⟨o1, ho1, h⟩ := bind_of h
  refine Wp.keep (kk := [3, 4]) (kl := []) (K' := [(3, .str v3), (4, .val (.int .i64 v4))]) (L' := []) (by kernel_rfl) (by kernel_rfl) ?_
  refine ok_probe_Name_j2 n v3 v4 o1 ho1 ?_
  rcases o1 with o1 | o1
  · replace h := sum_l h
    refine To.thenN ?_
    refine Wp.seq ?_
    obtain ⟨hc2, h⟩ := chk_of h
    refine Wp.region hΓ [] [] [3] [] (K' := [(3, .str (o1 ++ [104, 101, 97, 108, 116, 104, 121]))]) (L' := []) (ob := [(decide (((List.length o1 + List.length ([104, 101, 97, 108, 116, 104, 121] : List UInt8) : Nat) : Int) ≤ 9223372036854775807)) = true]) (by kernel_rfl) (AllP.cons hc2 AllP.nil) ?_
    refine To.thenN ?_
    refine Wp.exit ?_
    refine To.blockO (by decide) ?_
    refine To.thenX ?_
    refine To.blockO (by decide) ?_
    refine To.thenX ?_
    refine To.blockX ?_
    refine To.keep (kk := [3]) (kl := []) (K' := [(3, .str (o1 ++ [104, 101, 97, 108, 116, 104, 121]))]) (L' := []) (by kernel_rfl) (by kernel_rfl) ?_
    cases h
    exact hQ
  · replace h := sum_r h
    rcases o1 with o1 | o1
    · replace h := sum_l h
      refine To.thenX ?_
      refine To.blockO (by decide) ?_
      refine To.thenX ?_
      refine To.blockO (by decide) ?_
      refine To.thenX ?_
      refine To.blockX ?_
      refine To.keep (kk := [3]) (kl := []) (K' := [(3, .str o1)]) (L' := []) (by kernel_rfl) (by kernel_rfl) ?_
      cases h
      exact hQ
    · replace h := sum_r h
      rcases o1 with o1 | o1
      · replace h := sum_l h
        refine To.thenX ?_
        refine To.blockX ?_
        refine To.thenN ?_
        refine Wp.seq ?_
        refine Wp.region hΓ [] [] [3] [] (K' := [(3, .str [115, 116, 97, 114, 116, 105, 110, 103])]) (L' := []) (ob := []) (by kernel_rfl) AllP.nil ?_
        refine To.thenN ?_
        refine Wp.exit ?_
        refine To.blockO (by decide) ?_
        refine To.thenX ?_
        refine To.blockX ?_
        refine To.keep (kk := [3]) (kl := []) (K' := [(3, .str [115, 116, 97, 114, 116, 105, 110, 103])]) (L' := []) (by kernel_rfl) (by kernel_rfl) ?_
        cases h
        exact hQ
      · replace h := sum_r h
        refine To.thenX ?_
        refine To.blockO (by decide) ?_
        refine To.thenX ?_
        refine To.blockX ?_
        refine To.thenN ?_
        refine Wp.seq ?_
        refine Wp.region hΓ [] [] [3] [] (K' := [(3, .str [110, 111, 110, 101])]) (L' := []) (ob := []) (by kernel_rfl) AllP.nil ?_
        refine To.thenN ?_
        refine Wp.exit ?_
        refine To.blockX ?_
        refine To.keep (kk := [3]) (kl := []) (K' := [(3, .str [110, 111, 110, 101])]) (L' := []) (by kernel_rfl) (by kernel_rfl) ?_
        cases h
        exact hQ
def probe_Name (n : Nat) (a0 : Int) : Option ((List UInt8)) :=
  (probe_Name_j1 n [] a0).bind fun o1 =>
  some o1
theorem ok_probe_Name (n : Nat) (a0 : Int) (r : (List UInt8)) (h : probe_Name n a0 = some r) : CallsX Try.prog 26 [.val (.int .i64 a0)] (.str r) := by
  unfold probe_Name at h
  refine callsX_of (fn := Try.f26) (by kernel_rfl) rfl (by kernel_rfl) (Nat.le_of_ble_eq_true (by kernel_rfl)) fun F0 w0 => ?_
  refine Wp.keep (kk := [0]) (kl := []) (K' := [(0, .val (.int .i64 a0))]) (L' := []) (by kernel_rfl) (by kernel_rfl) ?_
  refine Wp.seq ?_
  refine Wp.region hΓ [] [] [0] [] (K' := [(0, .val (.int .i64 a0))]) (L' := []) (ob := []) (by kernel_rfl) AllP.nil ?_
  refine To.thenN ?_
  refine Wp.seq ?_
  refine Wp.region hΓ [] [] [0, 3] [] (K' := [(0, .val (.int .i64 a0)), (3, .str [])]) (L' := []) (ob := []) (by kernel_rfl) AllP.nil ?_
  refine To.thenN ?_
  refine Wp.seq ?_
  refine Wp.seq ?_
  refine Wp.region hΓ [] [] [3, 4] [] (K' := [(3, .str []), (4, .val (.int .i64 a0))]) (L' := []) (ob := []) (by kernel_rfl) AllP.nil ?_
  refine To.thenN ?_
  obtain ⟨o1, ho1, h⟩ := bind_of h
  refine Wp.keep (kk := [3, 4]) (kl := []) (K' := [(3, .str []), (4, .val (.int .i64 a0))]) (L' := []) (by kernel_rfl) (by kernel_rfl) ?_
  refine ok_probe_Name_j1 n [] a0 o1 ho1 ?_
  refine To.thenN ?_
  refine Wp.seq ?_
  refine Wp.region hΓ [] [] [2] [] (K' := [(2, .str o1)]) (L' := []) (ob := []) (by kernel_rfl) AllP.nil ?_
  refine To.thenN ?_
  refine Wp.ret ?_
  refine To.keep (kk := [2]) (kl := []) (K' := [(2, .str o1)]) (L' := []) (by kernel_rfl) (by kernel_rfl) ?_
  cases h
  exact To.done hΓ (by kernel_rfl)
def law30_awake (n : Nat) : Option (Bool) :=
  lett (probe_Begin (S28.mk [116] 5 0 2) 0) fun r1 =>
  lett (probe_Ask (S28.mk [116] 5 0 2) r1 5 true) fun r2 =>
  lett (probe_Ask (S28.mk [116] 5 0 2) r2.1 10 true) fun r3 =>
  lett (probe_Ask (S28.mk [116] 5 0 2) r3.1 15 false) fun r4 =>
  ((if ((bif (bif (bif (r3.1.f_Health == 3) then r4.2 else false) then (r4.1.f_Health == 2) else false) then ((probe_Due (S28.mk [116] 5 0 2) r4.1) == 20) else false) == true) = true then probe_Name n 2 else some [])).bind fun r5 =>
  lett ((bif (bif (bif (bif (r3.1.f_Health == 3) then r4.2 else false) then (r4.1.f_Health == 2) else false) then ((probe_Due (S28.mk [116] 5 0 2) r4.1) == 20) else false) then (r5 == [104, 101, 97, 108, 116, 104, 121]) else false) : Bool) fun x6 =>
  some x6
theorem ok_law30_awake (n : Nat) (r : Bool) (h : law30_awake n = some r) : CallsX Try.prog 17 [] (.val (.bool r)) := by
  unfold law30_awake at h
  refine callsX_of (fn := Try.f17) (by kernel_rfl) rfl (by kernel_rfl) (Nat.le_of_ble_eq_true (by kernel_rfl)) fun F0 w0 => ?_
  refine Wp.keep (kk := []) (kl := []) (K' := []) (L' := []) (by kernel_rfl) (by kernel_rfl) ?_
  refine Wp.seq ?_
  refine Wp.region hΓ [] [] [] [] (K' := []) (L' := []) (ob := []) (by kernel_rfl) AllP.nil ?_
  refine To.thenN ?_
  refine Wp.seq ?_
  refine Wp.region hΓ [] [] [1] [1] (K' := [(1, .own 1 0)]) (L' := [(1, 29, [.str [116], .val (.int .i64 5), .val (.int .i64 0), .val (.int .i64 2)])]) (ob := []) (by kernel_rfl) AllP.nil ?_
  refine To.thenN ?_
  refine Wp.seq ?_
  obtain ⟨r1, hr1, h⟩ := lett_of h
  refine Wp.region hΓ [] [(1, .agg [.val (.int .i64 r1.f_Health), .val (.int .i64 r1.f_Fails), .val (.int .i64 r1.f_Began), .val (.int .i64 r1.f_Next)])] [1, 2] [1, 2] (K' := [(1, .own 1 0), (2, .own 2 0)]) (L' := [(1, 29, [.str [116], .val (.int .i64 5), .val (.int .i64 0), .val (.int .i64 2)]), (2, 32, [.val (.int .i64 r1.f_Health), .val (.int .i64 r1.f_Fails), .val (.int .i64 r1.f_Began), .val (.int .i64 r1.f_Next)])]) (ob := [(true = true → CX Try.prog 22 [.agg [.str [116], .val (.int .i64 5), .val (.int .i64 0), .val (.int .i64 2)], .val (.int .i64 0)] (.agg [.val (.int .i64 r1.f_Health), .val (.int .i64 r1.f_Fails), .val (.int .i64 r1.f_Began), .val (.int .i64 r1.f_Next)]))]) (by kernel_rfl) (AllP.cons (fun _ => cx (ok_probe_Begin (S28.mk [116] 5 0 2) 0 _ hr1)) AllP.nil) ?_
  refine To.thenN ?_
  refine Wp.seq ?_
  obtain ⟨r2, hr2, h⟩ := lett_of h
  refine Wp.region hΓ [] [(2, .tup [.agg [.val (.int .i64 r2.1.f_Health), .val (.int .i64 r2.1.f_Fails), .val (.int .i64 r2.1.f_Began), .val (.int .i64 r2.1.f_Next)], .val (.bool r2.2)])] [1, 2] [1, 2] (K' := [(1, .own 1 0), (2, .own 2 0)]) (L' := [(1, 29, [.str [116], .val (.int .i64 5), .val (.int .i64 0), .val (.int .i64 2)]), (2, 32, [.val (.int .i64 r2.1.f_Health), .val (.int .i64 r2.1.f_Fails), .val (.int .i64 r2.1.f_Began), .val (.int .i64 r2.1.f_Next)])]) (ob := [(true = true → CX Try.prog 18 [.agg [.str [116], .val (.int .i64 5), .val (.int .i64 0), .val (.int .i64 2)], .agg [.val (.int .i64 r1.f_Health), .val (.int .i64 r1.f_Fails), .val (.int .i64 r1.f_Began), .val (.int .i64 r1.f_Next)], .val (.int .i64 5), .val (.bool true)] (.tup [.agg [.val (.int .i64 r2.1.f_Health), .val (.int .i64 r2.1.f_Fails), .val (.int .i64 r2.1.f_Began), .val (.int .i64 r2.1.f_Next)], .val (.bool r2.2)]))]) (by kernel_rfl) (AllP.cons (fun _ => cx (ok_probe_Ask (S28.mk [116] 5 0 2) r1 5 true _ hr2)) AllP.nil) ?_
  refine To.thenN ?_
  refine Wp.seq ?_
  obtain ⟨r3, hr3, h⟩ := lett_of h
  refine Wp.region hΓ [] [(2, .tup [.agg [.val (.int .i64 r3.1.f_Health), .val (.int .i64 r3.1.f_Fails), .val (.int .i64 r3.1.f_Began), .val (.int .i64 r3.1.f_Next)], .val (.bool r3.2)])] [1, 2] [1, 2] (K' := [(1, .own 1 0), (2, .own 2 0)]) (L' := [(1, 29, [.str [116], .val (.int .i64 5), .val (.int .i64 0), .val (.int .i64 2)]), (2, 32, [.val (.int .i64 r3.1.f_Health), .val (.int .i64 r3.1.f_Fails), .val (.int .i64 r3.1.f_Began), .val (.int .i64 r3.1.f_Next)])]) (ob := [(true = true → CX Try.prog 18 [.agg [.str [116], .val (.int .i64 5), .val (.int .i64 0), .val (.int .i64 2)], .agg [.val (.int .i64 r2.1.f_Health), .val (.int .i64 r2.1.f_Fails), .val (.int .i64 r2.1.f_Began), .val (.int .i64 r2.1.f_Next)], .val (.int .i64 10), .val (.bool true)] (.tup [.agg [.val (.int .i64 r3.1.f_Health), .val (.int .i64 r3.1.f_Fails), .val (.int .i64 r3.1.f_Began), .val (.int .i64 r3.1.f_Next)], .val (.bool r3.2)]))]) (by kernel_rfl) (AllP.cons (fun _ => cx (ok_probe_Ask (S28.mk [116] 5 0 2) r2.1 10 true _ hr3)) AllP.nil) ?_
  refine To.thenN ?_
  refine Wp.seq ?_
  obtain ⟨r4, hr4, h⟩ := lett_of h
  refine Wp.region hΓ [] [(2, .tup [.agg [.val (.int .i64 r4.1.f_Health), .val (.int .i64 r4.1.f_Fails), .val (.int .i64 r4.1.f_Began), .val (.int .i64 r4.1.f_Next)], .val (.bool r4.2)])] [1, 2, 3, 4] [1, 2, 3] (K' := [(1, .own 1 0), (2, .own 2 0), (3, .own 3 0), (4, .val (.bool r4.2))]) (L' := [(1, 29, [.str [116], .val (.int .i64 5), .val (.int .i64 0), .val (.int .i64 2)]), (2, 32, [.val (.int .i64 r3.1.f_Health), .val (.int .i64 r3.1.f_Fails), .val (.int .i64 r3.1.f_Began), .val (.int .i64 r3.1.f_Next)]), (3, 32, [.val (.int .i64 r4.1.f_Health), .val (.int .i64 r4.1.f_Fails), .val (.int .i64 r4.1.f_Began), .val (.int .i64 r4.1.f_Next)])]) (ob := [(true = true → CX Try.prog 18 [.agg [.str [116], .val (.int .i64 5), .val (.int .i64 0), .val (.int .i64 2)], .agg [.val (.int .i64 r3.1.f_Health), .val (.int .i64 r3.1.f_Fails), .val (.int .i64 r3.1.f_Began), .val (.int .i64 r3.1.f_Next)], .val (.int .i64 15), .val (.bool false)] (.tup [.agg [.val (.int .i64 r4.1.f_Health), .val (.int .i64 r4.1.f_Fails), .val (.int .i64 r4.1.f_Began), .val (.int .i64 r4.1.f_Next)], .val (.bool r4.2)]))]) (by kernel_rfl) (AllP.cons (fun _ => cx (ok_probe_Ask (S28.mk [116] 5 0 2) r3.1 15 false _ hr4)) AllP.nil) ?_
  refine To.thenN ?_
  refine Wp.seq ?_
  obtain ⟨r5, hr5, h⟩ := bind_of h
  obtain ⟨x6, hx6, h⟩ := lett_of h
  refine Wp.region hΓ [] [(14, .val (.int .i64 (probe_Due (S28.mk [116] 5 0 2) r4.1))), (18, .str r5)] [0] [] (K' := [(0, .val (.bool (bif (bif (bif (bif (r3.1.f_Health == 3) then r4.2 else false) then (r4.1.f_Health == 2) else false) then ((probe_Due (S28.mk [116] 5 0 2) r4.1) == 20) else false) then (r5 == [104, 101, 97, 108, 116, 104, 121]) else false)))]) (L' := []) (ob := [(((bif (bif (r3.1.f_Health == 3) then r4.2 else false) then (r4.1.f_Health == 2) else false) == true) = true → CX Try.prog 24 [.agg [.str [116], .val (.int .i64 5), .val (.int .i64 0), .val (.int .i64 2)], .agg [.val (.int .i64 r4.1.f_Health), .val (.int .i64 r4.1.f_Fails), .val (.int .i64 r4.1.f_Began), .val (.int .i64 r4.1.f_Next)]] (.val (.int .i64 (probe_Due (S28.mk [116] 5 0 2) r4.1)))), (((bif (bif (bif (r3.1.f_Health == 3) then r4.2 else false) then (r4.1.f_Health == 2) else false) then ((probe_Due (S28.mk [116] 5 0 2) r4.1) == 20) else false) == true) = true → CX Try.prog 26 [.val (.int .i64 2)] (.str r5))]) (by kernel_rfl) (AllP.cons (fun _ => cx (ok_probe_Due (S28.mk [116] 5 0 2) r4.1 _ rfl)) (AllP.cons (fun hg => cx (ok_probe_Name n 2 _ (if_t hg hr5))) AllP.nil)) ?_
  refine To.eq (K' := [(0, .val (.bool x6))]) (L' := []) (by cases hx6; rfl) (by cases hx6; rfl) ?_
  refine To.thenN ?_
  refine Wp.ret ?_
  refine To.keep (kk := [0]) (kl := []) (K' := [(0, .val (.bool x6))]) (L' := []) (by kernel_rfl) (by kernel_rfl) ?_
  cases h
  exact To.done hΓ (by kernel_rfl)
def E4 : Bool → List D := fun x => [.val (.bool x)]
def law30_ProbeRuns_j3 (n : Nat) (v1 : Int) (v2 : List (Bool)) (v8 : Int) (v9 : Bool) (v10 : Int) (v11 : Int) (v14 : Int) (v99 : Bool) (b3 : S28) (b7 : S30) : Option (Int × Bool) :=
  if v99 = true then (some (0, true))
  else (if (bif (v14 != 1) then true else (decide ((IntKind.wrap .i64 (v10 - v1)) ≥ b3.f_Start))) = true then (some ((IntKind.wrap .i64 (v8 + 1)), v9))
  else (some (v8, v9)))
theorem ok_law30_ProbeRuns_j3 (n : Nat) (v1 : Int) (v2 : List (Bool)) (v8 : Int) (v9 : Bool) (v10 : Int) (v11 : Int) (v14 : Int) (v99 : Bool) (b3 : S28) (b7 : S30) (o : Int × Bool) (h : law30_ProbeRuns_j3 n v1 v2 v8 v9 v10 v11 v14 v99 b3 b7 = some o) {F0 : Fz} {w0 : Pt} {Q : Exit → Act → World → Prop} (hQ : To 138 F0 w0 [(1, .val (.int .i64 v1)), (2, .recs (α := Bool) false E4 v2), (3, .own 3 0), (7, .own 7 0), (8, .val (.int .i64 o.1)), (9, .val (.bool o.2)), (10, .val (.int .i64 v10)), (11, .val (.int .i64 v11))] [(3, 29, [.str b3.f_Test, .val (.int .i64 b3.f_Every), .val (.int .i64 b3.f_Start), .val (.int .i64 b3.f_Retries)]), (7, 32, [.val (.int .i64 b7.f_Health), .val (.int .i64 b7.f_Fails), .val (.int .i64 b7.f_Began), .val (.int .i64 b7.f_Next)])] .normal Q) : Wp Try.prog 138 F0 w0 [(1, .val (.int .i64 v1)), (2, .recs (α := Bool) false E4 v2), (3, .own 3 0), (7, .own 7 0), (8, .val (.int .i64 v8)), (9, .val (.bool v9)), (10, .val (.int .i64 v10)), (11, .val (.int .i64 v11)), (14, .val (.int .i64 v14)), (99, .val (.bool v99))] [(3, 29, [.str b3.f_Test, .val (.int .i64 b3.f_Every), .val (.int .i64 b3.f_Start), .val (.int .i64 b3.f_Retries)]), (7, 32, [.val (.int .i64 b7.f_Health), .val (.int .i64 b7.f_Fails), .val (.int .i64 b7.f_Began), .val (.int .i64 b7.f_Next)])] (cB (cA (cB (cB (cB (cB (cB (cB (cI (cA (cB (cI (cI (cB (cA (cB (cB (cB (cB (cB (cF Try.f7))))))))))))))))))))) Q := by
  unfold law30_ProbeRuns_j3 at h
  refine Wp.cond (b := v99) (by kernel_rfl) (fun hb => ?_) (fun hb => ?_)
  · replace h := if_t hb h
    refine Wp.seq ?_
    refine Wp.region hΓ [] [] [1, 2, 3, 7, 8, 10, 11] [3, 7] (K' := [(1, .val (.int .i64 v1)), (2, .recs (α := Bool) false E4 v2), (3, .own 3 0), (7, .own 7 0), (8, .val (.int .i64 0)), (10, .val (.int .i64 v10)), (11, .val (.int .i64 v11))]) (L' := [(3, 29, [.str b3.f_Test, .val (.int .i64 b3.f_Every), .val (.int .i64 b3.f_Start), .val (.int .i64 b3.f_Retries)]), (7, 32, [.val (.int .i64 b7.f_Health), .val (.int .i64 b7.f_Fails), .val (.int .i64 b7.f_Began), .val (.int .i64 b7.f_Next)])]) (ob := []) (by kernel_rfl) AllP.nil ?_
    refine To.thenN ?_
    refine Wp.region hΓ [] [] [1, 2, 3, 7, 8, 9, 10, 11] [3, 7] (K' := [(1, .val (.int .i64 v1)), (2, .recs (α := Bool) false E4 v2), (3, .own 3 0), (7, .own 7 0), (8, .val (.int .i64 0)), (9, .val (.bool true)), (10, .val (.int .i64 v10)), (11, .val (.int .i64 v11))]) (L' := [(3, 29, [.str b3.f_Test, .val (.int .i64 b3.f_Every), .val (.int .i64 b3.f_Start), .val (.int .i64 b3.f_Retries)]), (7, 32, [.val (.int .i64 b7.f_Health), .val (.int .i64 b7.f_Fails), .val (.int .i64 b7.f_Began), .val (.int .i64 b7.f_Next)])]) (ob := []) (by kernel_rfl) AllP.nil ?_
    refine To.keep (kk := [1, 2, 3, 7, 8, 9, 10, 11]) (kl := [3, 7]) (K' := [(1, .val (.int .i64 v1)), (2, .recs (α := Bool) false E4 v2), (3, .own 3 0), (7, .own 7 0), (8, .val (.int .i64 0)), (9, .val (.bool true)), (10, .val (.int .i64 v10)), (11, .val (.int .i64 v11))]) (L' := [(3, 29, [.str b3.f_Test, .val (.int .i64 b3.f_Every), .val (.int .i64 b3.f_Start), .val (.int .i64 b3.f_Retries)]), (7, 32, [.val (.int .i64 b7.f_Health), .val (.int .i64 b7.f_Fails), .val (.int .i64 b7.f_Began), .val (.int .i64 b7.f_Next)])]) (by kernel_rfl) (by kernel_rfl) ?_
    cases h
    exact hQ
  · replace h := if_f hb h
    refine Wp.seq ?_
    refine Wp.region hΓ [] [] [1, 2, 3, 7, 8, 9, 10, 11, 109] [3, 7] (K' := [(1, .val (.int .i64 v1)), (2, .recs (α := Bool) false E4 v2), (3, .own 3 0), (7, .own 7 0), (8, .val (.int .i64 v8)), (9, .val (.bool v9)), (10, .val (.int .i64 v10)), (11, .val (.int .i64 v11)), (109, .val (.bool (bif (v14 != 1) then true else (decide ((IntKind.wrap .i64 (v10 - v1)) ≥ b3.f_Start)))))]) (L' := [(3, 29, [.str b3.f_Test, .val (.int .i64 b3.f_Every), .val (.int .i64 b3.f_Start), .val (.int .i64 b3.f_Retries)]), (7, 32, [.val (.int .i64 b7.f_Health), .val (.int .i64 b7.f_Fails), .val (.int .i64 b7.f_Began), .val (.int .i64 b7.f_Next)])]) (ob := []) (by kernel_rfl) AllP.nil ?_
    refine To.thenN ?_
    refine Wp.cond (b := (bif (v14 != 1) then true else (decide ((IntKind.wrap .i64 (v10 - v1)) ≥ b3.f_Start)))) (by kernel_rfl) (fun hb => ?_) (fun hb => ?_)
    · replace h := if_t hb h
      refine Wp.region hΓ [] [] [1, 2, 3, 7, 8, 9, 10, 11] [3, 7] (K' := [(1, .val (.int .i64 v1)), (2, .recs (α := Bool) false E4 v2), (3, .own 3 0), (7, .own 7 0), (8, .val (.int .i64 (IntKind.wrap .i64 (v8 + 1)))), (9, .val (.bool v9)), (10, .val (.int .i64 v10)), (11, .val (.int .i64 v11))]) (L' := [(3, 29, [.str b3.f_Test, .val (.int .i64 b3.f_Every), .val (.int .i64 b3.f_Start), .val (.int .i64 b3.f_Retries)]), (7, 32, [.val (.int .i64 b7.f_Health), .val (.int .i64 b7.f_Fails), .val (.int .i64 b7.f_Began), .val (.int .i64 b7.f_Next)])]) (ob := []) (by kernel_rfl) AllP.nil ?_
      refine To.keep (kk := [1, 2, 3, 7, 8, 9, 10, 11]) (kl := [3, 7]) (K' := [(1, .val (.int .i64 v1)), (2, .recs (α := Bool) false E4 v2), (3, .own 3 0), (7, .own 7 0), (8, .val (.int .i64 (IntKind.wrap .i64 (v8 + 1)))), (9, .val (.bool v9)), (10, .val (.int .i64 v10)), (11, .val (.int .i64 v11))]) (L' := [(3, 29, [.str b3.f_Test, .val (.int .i64 b3.f_Every), .val (.int .i64 b3.f_Start), .val (.int .i64 b3.f_Retries)]), (7, 32, [.val (.int .i64 b7.f_Health), .val (.int .i64 b7.f_Fails), .val (.int .i64 b7.f_Began), .val (.int .i64 b7.f_Next)])]) (by kernel_rfl) (by kernel_rfl) ?_
      cases h
      exact hQ
    · replace h := if_f hb h
      refine Wp.skip ?_
      refine To.keep (kk := [1, 2, 3, 7, 8, 9, 10, 11]) (kl := [3, 7]) (K' := [(1, .val (.int .i64 v1)), (2, .recs (α := Bool) false E4 v2), (3, .own 3 0), (7, .own 7 0), (8, .val (.int .i64 v8)), (9, .val (.bool v9)), (10, .val (.int .i64 v10)), (11, .val (.int .i64 v11))]) (L' := [(3, 29, [.str b3.f_Test, .val (.int .i64 b3.f_Every), .val (.int .i64 b3.f_Start), .val (.int .i64 b3.f_Retries)]), (7, 32, [.val (.int .i64 b7.f_Health), .val (.int .i64 b7.f_Fails), .val (.int .i64 b7.f_Began), .val (.int .i64 b7.f_Next)])]) (by kernel_rfl) (by kernel_rfl) ?_
      cases h
      exact hQ
def law30_ProbeRuns_j2 (n : Nat) (v1 : Int) (v2 : List (Bool)) (v8 : Int) (v9 : Bool) (v10 : Int) (v11 : Int) (b3 : S28) (b7 : S30) : Option (Sum (Int × Bool × Int × S30) (Bool)) :=
  if (decide (0 ≤ v11 ∧ v11 < (List.length v2 : Int))) = true then (lett (probe_Ask b3 b7 (IntKind.wrap .i64 ((IntKind.wrap .i64 (v10 + b3.f_Every)) - 1)) ((v2)[Int.toNat v11]?.getD false)) fun r4 =>
  if r4.2 = true then (some (.inr false))
  else (if (decide (0 ≤ v11 ∧ v11 < (List.length v2 : Int))) = true then (lett (probe_Ask b3 b7 (IntKind.wrap .i64 (v10 + b3.f_Every)) ((v2)[Int.toNat v11]?.getD false)) fun r5 =>
  lett ((bif (!r5.2) then true else ((probe_Due b3 r5.1) != (IntKind.wrap .i64 ((IntKind.wrap .i64 (v10 + b3.f_Every)) + b3.f_Every)))) : Bool) fun x6 =>
  if x6 = true then (some (.inr false))
  else (if (decide (0 ≤ v11 ∧ v11 < (List.length v2 : Int))) = true then ((law30_ProbeRuns_j3 n v1 v2 v8 v9 (IntKind.wrap .i64 (v10 + b3.f_Every)) v11 b7.f_Health (!((v2)[Int.toNat v11]?.getD false)) b3 r5.1).bind fun o7 =>
  lett ((bif (bif (!((r5.1.f_Health == 3) == (decide (o7.1 ≥ b3.f_Retries)))) then true else (bif (r5.1.f_Health == 2) then (!o7.2) else false)) then true else (bif (r5.1.f_Health == 1) then o7.2 else false)) : Bool) fun x8 =>
  if x8 = true then (some (.inr false))
  else (some (.inl (o7.1, o7.2, (IntKind.wrap .i64 (v10 + b3.f_Every)), r5.1)))) else none)) else none)) else none
theorem ok_law30_ProbeRuns_j2 (n : Nat) (v1 : Int) (v2 : List (Bool)) (v8 : Int) (v9 : Bool) (v10 : Int) (v11 : Int) (b3 : S28) (b7 : S30) (o : Sum (Int × Bool × Int × S30) (Bool)) (h : law30_ProbeRuns_j2 n v1 v2 v8 v9 v10 v11 b3 b7 = some o) {F0 : Fz} {w0 : Pt} {Q : Exit → Act → World → Prop} (hQ : (Sum.elim (fun s => To 138 F0 w0 [(1, .val (.int .i64 v1)), (2, .recs (α := Bool) false E4 v2), (3, .own 3 0), (7, .own 7 0), (8, .val (.int .i64 s.1)), (9, .val (.bool s.2.1)), (10, .val (.int .i64 s.2.2.1)), (11, .val (.int .i64 v11))] [(3, 29, [.str b3.f_Test, .val (.int .i64 b3.f_Every), .val (.int .i64 b3.f_Start), .val (.int .i64 b3.f_Retries)]), (7, 32, [.val (.int .i64 s.2.2.2.f_Health), .val (.int .i64 s.2.2.2.f_Fails), .val (.int .i64 s.2.2.2.f_Began), .val (.int .i64 s.2.2.2.f_Next)])] .normal Q) (fun s => To 138 F0 w0 [(6, .val (.bool s))] [] .ret Q)) o) : Wp Try.prog 138 F0 w0 [(1, .val (.int .i64 v1)), (2, .recs (α := Bool) false E4 v2), (3, .own 3 0), (7, .own 7 0), (8, .val (.int .i64 v8)), (9, .val (.bool v9)), (10, .val (.int .i64 v10)), (11, .val (.int .i64 v11))] [(3, 29, [.str b3.f_Test, .val (.int .i64 b3.f_Every), .val (.int .i64 b3.f_Start), .val (.int .i64 b3.f_Retries)]), (7, 32, [.val (.int .i64 b7.f_Health), .val (.int .i64 b7.f_Fails), .val (.int .i64 b7.f_Began), .val (.int .i64 b7.f_Next)])] (cA (cB (cI (cI (cB (cA (cB (cB (cB (cB (cB (cF Try.f7)))))))))))) Q := by
  unfold law30_ProbeRuns_j2 at h
  refine Wp.block ?_
  refine Wp.seq ?_
  refine Wp.seq ?_
  obtain ⟨hc11, h⟩ := chk_of h
  obtain ⟨r4, hr4, h⟩ := lett_of h
  refine Wp.regionD hm hΓ [(11, .tup [.agg [.val (.int .i64 r4.1.f_Health), .val (.int .i64 r4.1.f_Fails), .val (.int .i64 r4.1.f_Began), .val (.int .i64 r4.1.f_Next)], .val (.bool r4.2)])] [1, 2, 3, 7, 8, 9, 10, 11, 13] [3, 7] (K' := [(1, .val (.int .i64 v1)), (2, .recs (α := Bool) false E4 v2), (3, .own 3 0), (7, .own 7 0), (8, .val (.int .i64 v8)), (9, .val (.bool v9)), (10, .val (.int .i64 v10)), (11, .val (.int .i64 v11)), (13, .val (.bool r4.2))]) (L' := [(3, 29, [.str b3.f_Test, .val (.int .i64 b3.f_Every), .val (.int .i64 b3.f_Start), .val (.int .i64 b3.f_Retries)]), (7, 32, [.val (.int .i64 b7.f_Health), .val (.int .i64 b7.f_Fails), .val (.int .i64 b7.f_Began), .val (.int .i64 b7.f_Next)])]) (ob := [(decide (0 ≤ v11 ∧ v11 < (List.length v2 : Int))) = true, (true = true → CX Try.prog 18 [.agg [.str b3.f_Test, .val (.int .i64 b3.f_Every), .val (.int .i64 b3.f_Start), .val (.int .i64 b3.f_Retries)], .agg [.val (.int .i64 b7.f_Health), .val (.int .i64 b7.f_Fails), .val (.int .i64 b7.f_Began), .val (.int .i64 b7.f_Next)], .val (.int .i64 (IntKind.wrap .i64 ((IntKind.wrap .i64 (v10 + b3.f_Every)) - 1))), .val (.bool ((v2)[Int.toNat v11]?.getD false))] (.tup [.agg [.val (.int .i64 r4.1.f_Health), .val (.int .i64 r4.1.f_Fails), .val (.int .i64 r4.1.f_Began), .val (.int .i64 r4.1.f_Next)], .val (.bool r4.2)]))]) (by kernel_rfl) (AllP.cons hc11 (AllP.cons (fun _ => cx (ok_probe_Ask b3 b7 (IntKind.wrap .i64 ((IntKind.wrap .i64 (v10 + b3.f_Every)) - 1)) ((v2)[Int.toNat v11]?.getD false) _ hr4)) AllP.nil)) ?_
  refine To.thenN ?_
  refine Wp.seq ?_
  refine Wp.region hΓ [] [] [1, 2, 3, 7, 8, 9, 10, 11, 64] [3, 7] (K' := [(1, .val (.int .i64 v1)), (2, .recs (α := Bool) false E4 v2), (3, .own 3 0), (7, .own 7 0), (8, .val (.int .i64 v8)), (9, .val (.bool v9)), (10, .val (.int .i64 v10)), (11, .val (.int .i64 v11)), (64, .val (.bool r4.2))]) (L' := [(3, 29, [.str b3.f_Test, .val (.int .i64 b3.f_Every), .val (.int .i64 b3.f_Start), .val (.int .i64 b3.f_Retries)]), (7, 32, [.val (.int .i64 b7.f_Health), .val (.int .i64 b7.f_Fails), .val (.int .i64 b7.f_Began), .val (.int .i64 b7.f_Next)])]) (ob := []) (by kernel_rfl) AllP.nil ?_
  refine To.thenN ?_
  refine Wp.cond (b := r4.2) (by kernel_rfl) (fun hb => ?_) (fun hb => ?_)
  · replace h := if_t hb h
    refine Wp.seq ?_
    refine Wp.region hΓ [] [] [6] [] (K' := [(6, .val (.bool false))]) (L' := []) (ob := []) (by kernel_rfl) AllP.nil ?_
    refine To.thenN ?_
    refine Wp.ret ?_
    refine To.thenR ?_
    refine To.blockR ?_
    refine To.keep (kk := [6]) (kl := []) (K' := [(6, .val (.bool false))]) (L' := []) (by kernel_rfl) (by kernel_rfl) ?_
    cases h
    exact hQ
  · replace h := if_f hb h
    refine Wp.skip ?_
    refine To.thenN ?_
    refine Wp.seq ?_
    refine Wp.region hΓ [] [] [1, 2, 3, 7, 8, 9, 10, 11] [3, 7] (K' := [(1, .val (.int .i64 v1)), (2, .recs (α := Bool) false E4 v2), (3, .own 3 0), (7, .own 7 0), (8, .val (.int .i64 v8)), (9, .val (.bool v9)), (10, .val (.int .i64 (IntKind.wrap .i64 (v10 + b3.f_Every)))), (11, .val (.int .i64 v11))]) (L' := [(3, 29, [.str b3.f_Test, .val (.int .i64 b3.f_Every), .val (.int .i64 b3.f_Start), .val (.int .i64 b3.f_Retries)]), (7, 32, [.val (.int .i64 b7.f_Health), .val (.int .i64 b7.f_Fails), .val (.int .i64 b7.f_Began), .val (.int .i64 b7.f_Next)])]) (ob := []) (by kernel_rfl) AllP.nil ?_
    refine To.thenN ?_
    refine Wp.seq ?_
    refine Wp.region hΓ [] [] [1, 2, 3, 7, 8, 9, 10, 11, 14] [3, 7] (K' := [(1, .val (.int .i64 v1)), (2, .recs (α := Bool) false E4 v2), (3, .own 3 0), (7, .own 7 0), (8, .val (.int .i64 v8)), (9, .val (.bool v9)), (10, .val (.int .i64 (IntKind.wrap .i64 (v10 + b3.f_Every)))), (11, .val (.int .i64 v11)), (14, .val (.int .i64 b7.f_Health))]) (L' := [(3, 29, [.str b3.f_Test, .val (.int .i64 b3.f_Every), .val (.int .i64 b3.f_Start), .val (.int .i64 b3.f_Retries)]), (7, 32, [.val (.int .i64 b7.f_Health), .val (.int .i64 b7.f_Fails), .val (.int .i64 b7.f_Began), .val (.int .i64 b7.f_Next)])]) (ob := []) (by kernel_rfl) AllP.nil ?_
    refine To.thenN ?_
    refine Wp.seq ?_
    obtain ⟨hc10, h⟩ := chk_of h
    obtain ⟨r5, hr5, h⟩ := lett_of h
    refine Wp.regionD hm hΓ [(7, .tup [.agg [.val (.int .i64 r5.1.f_Health), .val (.int .i64 r5.1.f_Fails), .val (.int .i64 r5.1.f_Began), .val (.int .i64 r5.1.f_Next)], .val (.bool r5.2)])] [1, 2, 3, 7, 8, 9, 10, 11, 14, 15, 16] [3, 7, 15] (K' := [(1, .val (.int .i64 v1)), (2, .recs (α := Bool) false E4 v2), (3, .own 3 0), (7, .own 7 0), (8, .val (.int .i64 v8)), (9, .val (.bool v9)), (10, .val (.int .i64 (IntKind.wrap .i64 (v10 + b3.f_Every)))), (11, .val (.int .i64 v11)), (14, .val (.int .i64 b7.f_Health)), (15, .own 15 0), (16, .val (.bool r5.2))]) (L' := [(3, 29, [.str b3.f_Test, .val (.int .i64 b3.f_Every), .val (.int .i64 b3.f_Start), .val (.int .i64 b3.f_Retries)]), (7, 32, [.val (.int .i64 b7.f_Health), .val (.int .i64 b7.f_Fails), .val (.int .i64 b7.f_Began), .val (.int .i64 b7.f_Next)]), (15, 32, [.val (.int .i64 r5.1.f_Health), .val (.int .i64 r5.1.f_Fails), .val (.int .i64 r5.1.f_Began), .val (.int .i64 r5.1.f_Next)])]) (ob := [(decide (0 ≤ v11 ∧ v11 < (List.length v2 : Int))) = true, (true = true → CX Try.prog 18 [.agg [.str b3.f_Test, .val (.int .i64 b3.f_Every), .val (.int .i64 b3.f_Start), .val (.int .i64 b3.f_Retries)], .agg [.val (.int .i64 b7.f_Health), .val (.int .i64 b7.f_Fails), .val (.int .i64 b7.f_Began), .val (.int .i64 b7.f_Next)], .val (.int .i64 (IntKind.wrap .i64 (v10 + b3.f_Every))), .val (.bool ((v2)[Int.toNat v11]?.getD false))] (.tup [.agg [.val (.int .i64 r5.1.f_Health), .val (.int .i64 r5.1.f_Fails), .val (.int .i64 r5.1.f_Began), .val (.int .i64 r5.1.f_Next)], .val (.bool r5.2)]))]) (by kernel_rfl) (AllP.cons hc10 (AllP.cons (fun _ => cx (ok_probe_Ask b3 b7 (IntKind.wrap .i64 (v10 + b3.f_Every)) ((v2)[Int.toNat v11]?.getD false) _ hr5)) AllP.nil)) ?_
    refine To.thenN ?_
    refine Wp.seq ?_
    refine Wp.region hΓ [] [] [1, 2, 3, 7, 8, 9, 10, 11, 14, 16] [3, 7] (K' := [(1, .val (.int .i64 v1)), (2, .recs (α := Bool) false E4 v2), (3, .own 3 0), (7, .own 7 0), (8, .val (.int .i64 v8)), (9, .val (.bool v9)), (10, .val (.int .i64 (IntKind.wrap .i64 (v10 + b3.f_Every)))), (11, .val (.int .i64 v11)), (14, .val (.int .i64 b7.f_Health)), (16, .val (.bool r5.2))]) (L' := [(3, 29, [.str b3.f_Test, .val (.int .i64 b3.f_Every), .val (.int .i64 b3.f_Start), .val (.int .i64 b3.f_Retries)]), (7, 32, [.val (.int .i64 r5.1.f_Health), .val (.int .i64 r5.1.f_Fails), .val (.int .i64 r5.1.f_Began), .val (.int .i64 r5.1.f_Next)])]) (ob := []) (by kernel_rfl) AllP.nil ?_
    refine To.thenN ?_
    refine Wp.seq ?_
    refine Wp.seq ?_
    obtain ⟨x6, hx6, h⟩ := lett_of h
    refine Wp.regionD hm hΓ [(5, .val (.int .i64 (probe_Due b3 r5.1)))] [1, 2, 3, 7, 8, 9, 10, 11, 14, 94] [3, 7] (K' := [(1, .val (.int .i64 v1)), (2, .recs (α := Bool) false E4 v2), (3, .own 3 0), (7, .own 7 0), (8, .val (.int .i64 v8)), (9, .val (.bool v9)), (10, .val (.int .i64 (IntKind.wrap .i64 (v10 + b3.f_Every)))), (11, .val (.int .i64 v11)), (14, .val (.int .i64 b7.f_Health)), (94, .val (.bool (bif (!r5.2) then true else ((probe_Due b3 r5.1) != (IntKind.wrap .i64 ((IntKind.wrap .i64 (v10 + b3.f_Every)) + b3.f_Every))))))]) (L' := [(3, 29, [.str b3.f_Test, .val (.int .i64 b3.f_Every), .val (.int .i64 b3.f_Start), .val (.int .i64 b3.f_Retries)]), (7, 32, [.val (.int .i64 r5.1.f_Health), .val (.int .i64 r5.1.f_Fails), .val (.int .i64 r5.1.f_Began), .val (.int .i64 r5.1.f_Next)])]) (ob := [(((!r5.2) == false) = true → CX Try.prog 24 [.agg [.str b3.f_Test, .val (.int .i64 b3.f_Every), .val (.int .i64 b3.f_Start), .val (.int .i64 b3.f_Retries)], .agg [.val (.int .i64 r5.1.f_Health), .val (.int .i64 r5.1.f_Fails), .val (.int .i64 r5.1.f_Began), .val (.int .i64 r5.1.f_Next)]] (.val (.int .i64 (probe_Due b3 r5.1))))]) (by kernel_rfl) (AllP.cons (fun _ => cx (ok_probe_Due b3 r5.1 _ rfl)) AllP.nil) ?_
    refine To.eq (K' := [(1, .val (.int .i64 v1)), (2, .recs (α := Bool) false E4 v2), (3, .own 3 0), (7, .own 7 0), (8, .val (.int .i64 v8)), (9, .val (.bool v9)), (10, .val (.int .i64 (IntKind.wrap .i64 (v10 + b3.f_Every)))), (11, .val (.int .i64 v11)), (14, .val (.int .i64 b7.f_Health)), (94, .val (.bool x6))]) (L' := [(3, 29, [.str b3.f_Test, .val (.int .i64 b3.f_Every), .val (.int .i64 b3.f_Start), .val (.int .i64 b3.f_Retries)]), (7, 32, [.val (.int .i64 r5.1.f_Health), .val (.int .i64 r5.1.f_Fails), .val (.int .i64 r5.1.f_Began), .val (.int .i64 r5.1.f_Next)])]) (by cases hx6; rfl) (by cases hx6; rfl) ?_
    refine To.thenN ?_
    refine Wp.cond (b := x6) (by kernel_rfl) (fun hb => ?_) (fun hb => ?_)
    · replace h := if_t hb h
      refine Wp.seq ?_
      refine Wp.region hΓ [] [] [6] [] (K' := [(6, .val (.bool false))]) (L' := []) (ob := []) (by kernel_rfl) AllP.nil ?_
      refine To.thenN ?_
      refine Wp.ret ?_
      refine To.thenR ?_
      refine To.blockR ?_
      refine To.keep (kk := [6]) (kl := []) (K' := [(6, .val (.bool false))]) (L' := []) (by kernel_rfl) (by kernel_rfl) ?_
      cases h
      exact hQ
    · replace h := if_f hb h
      refine Wp.skip ?_
      refine To.thenN ?_
      refine Wp.seq ?_
      refine Wp.seq ?_
      obtain ⟨hc9, h⟩ := chk_of h
      refine Wp.region hΓ [] [] [1, 2, 3, 7, 8, 9, 10, 11, 14, 99] [3, 7] (K' := [(1, .val (.int .i64 v1)), (2, .recs (α := Bool) false E4 v2), (3, .own 3 0), (7, .own 7 0), (8, .val (.int .i64 v8)), (9, .val (.bool v9)), (10, .val (.int .i64 (IntKind.wrap .i64 (v10 + b3.f_Every)))), (11, .val (.int .i64 v11)), (14, .val (.int .i64 b7.f_Health)), (99, .val (.bool (!((v2)[Int.toNat v11]?.getD false))))]) (L' := [(3, 29, [.str b3.f_Test, .val (.int .i64 b3.f_Every), .val (.int .i64 b3.f_Start), .val (.int .i64 b3.f_Retries)]), (7, 32, [.val (.int .i64 r5.1.f_Health), .val (.int .i64 r5.1.f_Fails), .val (.int .i64 r5.1.f_Began), .val (.int .i64 r5.1.f_Next)])]) (ob := [(decide (0 ≤ v11 ∧ v11 < (List.length v2 : Int))) = true]) (by kernel_rfl) (AllP.cons hc9 AllP.nil) ?_
      refine To.thenN ?_
      obtain ⟨o7, ho7, h⟩ := bind_of h
      refine Wp.keep (kk := [1, 2, 3, 7, 8, 9, 10, 11, 14, 99]) (kl := [3, 7]) (K' := [(1, .val (.int .i64 v1)), (2, .recs (α := Bool) false E4 v2), (3, .own 3 0), (7, .own 7 0), (8, .val (.int .i64 v8)), (9, .val (.bool v9)), (10, .val (.int .i64 (IntKind.wrap .i64 (v10 + b3.f_Every)))), (11, .val (.int .i64 v11)), (14, .val (.int .i64 b7.f_Health)), (99, .val (.bool (!((v2)[Int.toNat v11]?.getD false))))]) (L' := [(3, 29, [.str b3.f_Test, .val (.int .i64 b3.f_Every), .val (.int .i64 b3.f_Start), .val (.int .i64 b3.f_Retries)]), (7, 32, [.val (.int .i64 r5.1.f_Health), .val (.int .i64 r5.1.f_Fails), .val (.int .i64 r5.1.f_Began), .val (.int .i64 r5.1.f_Next)])]) (by kernel_rfl) (by kernel_rfl) ?_
      refine ok_law30_ProbeRuns_j3 n v1 v2 v8 v9 (IntKind.wrap .i64 (v10 + b3.f_Every)) v11 b7.f_Health (!((v2)[Int.toNat v11]?.getD false)) b3 r5.1 o7 ho7 ?_
      refine To.thenN ?_
      refine Wp.seq ?_
      obtain ⟨x8, hx8, h⟩ := lett_of h
      refine Wp.region hΓ [] [] [1, 2, 3, 7, 8, 9, 10, 11, 136] [3, 7] (K' := [(1, .val (.int .i64 v1)), (2, .recs (α := Bool) false E4 v2), (3, .own 3 0), (7, .own 7 0), (8, .val (.int .i64 o7.1)), (9, .val (.bool o7.2)), (10, .val (.int .i64 (IntKind.wrap .i64 (v10 + b3.f_Every)))), (11, .val (.int .i64 v11)), (136, .val (.bool (bif (bif (!((r5.1.f_Health == 3) == (decide (o7.1 ≥ b3.f_Retries)))) then true else (bif (r5.1.f_Health == 2) then (!o7.2) else false)) then true else (bif (r5.1.f_Health == 1) then o7.2 else false))))]) (L' := [(3, 29, [.str b3.f_Test, .val (.int .i64 b3.f_Every), .val (.int .i64 b3.f_Start), .val (.int .i64 b3.f_Retries)]), (7, 32, [.val (.int .i64 r5.1.f_Health), .val (.int .i64 r5.1.f_Fails), .val (.int .i64 r5.1.f_Began), .val (.int .i64 r5.1.f_Next)])]) (ob := []) (by kernel_rfl) AllP.nil ?_
      refine To.eq (K' := [(1, .val (.int .i64 v1)), (2, .recs (α := Bool) false E4 v2), (3, .own 3 0), (7, .own 7 0), (8, .val (.int .i64 o7.1)), (9, .val (.bool o7.2)), (10, .val (.int .i64 (IntKind.wrap .i64 (v10 + b3.f_Every)))), (11, .val (.int .i64 v11)), (136, .val (.bool x8))]) (L' := [(3, 29, [.str b3.f_Test, .val (.int .i64 b3.f_Every), .val (.int .i64 b3.f_Start), .val (.int .i64 b3.f_Retries)]), (7, 32, [.val (.int .i64 r5.1.f_Health), .val (.int .i64 r5.1.f_Fails), .val (.int .i64 r5.1.f_Began), .val (.int .i64 r5.1.f_Next)])]) (by cases hx8; rfl) (by cases hx8; rfl) ?_
      refine To.thenN ?_
      refine Wp.cond (b := x8) (by kernel_rfl) (fun hb => ?_) (fun hb => ?_)
      · replace h := if_t hb h
        refine Wp.seq ?_
        refine Wp.region hΓ [] [] [6] [] (K' := [(6, .val (.bool false))]) (L' := []) (ob := []) (by kernel_rfl) AllP.nil ?_
        refine To.thenN ?_
        refine Wp.ret ?_
        refine To.blockR ?_
        refine To.keep (kk := [6]) (kl := []) (K' := [(6, .val (.bool false))]) (L' := []) (by kernel_rfl) (by kernel_rfl) ?_
        cases h
        exact hQ
      · replace h := if_f hb h
        refine Wp.skip ?_
        refine To.blockN ?_
        refine To.keep (kk := [1, 2, 3, 7, 8, 9, 10, 11]) (kl := [3, 7]) (K' := [(1, .val (.int .i64 v1)), (2, .recs (α := Bool) false E4 v2), (3, .own 3 0), (7, .own 7 0), (8, .val (.int .i64 o7.1)), (9, .val (.bool o7.2)), (10, .val (.int .i64 (IntKind.wrap .i64 (v10 + b3.f_Every)))), (11, .val (.int .i64 v11))]) (L' := [(3, 29, [.str b3.f_Test, .val (.int .i64 b3.f_Every), .val (.int .i64 b3.f_Start), .val (.int .i64 b3.f_Retries)]), (7, 32, [.val (.int .i64 r5.1.f_Health), .val (.int .i64 r5.1.f_Fails), .val (.int .i64 r5.1.f_Began), .val (.int .i64 r5.1.f_Next)])]) (by kernel_rfl) (by kernel_rfl) ?_
        cases h
        exact hQ
def law30_ProbeRuns_l1 (n : Nat) (v1 : Int) (v2 : List (Bool)) (b3 : S28) : Nat → Int → Bool → Int → Int → S30 → Option (Sum (Unit) (Bool))
  | 0, _, _, _, _, _ => none
  | k + 1, v8, v9, v10, v11, b7 => if (decide (v11 < (List.length v2 : Int))) = true then ((law30_ProbeRuns_j2 n v1 v2 v8 v9 v10 v11 b3 b7).bind fun o4 =>
  (Sum.elim (fun o4 => law30_ProbeRuns_l1 n v1 v2 b3 k o4.1 o4.2.1 o4.2.2.1 (IntKind.wrap .i64 (v11 + 1)) o4.2.2.2) (fun o4 => some (.inr o4))) o4)
  else (some (.inl ()))
theorem ok_law30_ProbeRuns_l1 (n : Nat) (v1 : Int) (v2 : List (Bool)) (b3 : S28) {F0 : Fz} {w0 : Pt} {Q : Exit → Act → World → Prop} (k : Nat) : ∀ (v8 : Int) (v9 : Bool) (v10 : Int) (v11 : Int) (b7 : S30) (o : Sum (Unit) (Bool)), law30_ProbeRuns_l1 n v1 v2 b3 k v8 v9 v10 v11 b7 = some o → (Sum.elim (fun s => To 138 F0 w0 [] [] (.exit 0) Q) (fun s => To 138 F0 w0 [(6, .val (.bool s))] [] .ret Q)) o → WL Try.prog 138 F0 w0 [(1, .val (.int .i64 v1)), (2, .recs (α := Bool) false E4 v2), (3, .own 3 0), (7, .own 7 0), (8, .val (.int .i64 v8)), (9, .val (.bool v9)), (10, .val (.int .i64 v10)), (11, .val (.int .i64 v11))] [(3, 29, [.str b3.f_Test, .val (.int .i64 b3.f_Every), .val (.int .i64 b3.f_Start), .val (.int .i64 b3.f_Retries)]), (7, 32, [.val (.int .i64 b7.f_Health), .val (.int .i64 b7.f_Fails), .val (.int .i64 b7.f_Began), .val (.int .i64 b7.f_Next)])] (cI (cI (cB (cA (cB (cB (cB (cB (cB (cF Try.f7)))))))))) Q := by
  induction k with
  | zero => intro v8 v9 v10 v11 b7 o h; cases h
  | succ k ih =>
    intro v8 v9 v10 v11 b7 o h hQ
    rw [law30_ProbeRuns_l1] at h
    refine WL.round ?_
    refine Wp.seq ?_
    refine Wp.seq ?_
    refine Wp.region hΓ [] [] [1, 2, 3, 7, 8, 9, 10, 11, 46] [3, 7] (K' := [(1, .val (.int .i64 v1)), (2, .recs (α := Bool) false E4 v2), (3, .own 3 0), (7, .own 7 0), (8, .val (.int .i64 v8)), (9, .val (.bool v9)), (10, .val (.int .i64 v10)), (11, .val (.int .i64 v11)), (46, .val (.bool (decide (v11 < (List.length v2 : Int)))))]) (L' := [(3, 29, [.str b3.f_Test, .val (.int .i64 b3.f_Every), .val (.int .i64 b3.f_Start), .val (.int .i64 b3.f_Retries)]), (7, 32, [.val (.int .i64 b7.f_Health), .val (.int .i64 b7.f_Fails), .val (.int .i64 b7.f_Began), .val (.int .i64 b7.f_Next)])]) (ob := []) (by kernel_rfl) AllP.nil ?_
    refine To.thenN ?_
    refine Wp.cond (b := (decide (v11 < (List.length v2 : Int)))) (by kernel_rfl) (fun hb => ?_) (fun hb => ?_)
    · replace h := if_t hb h
      refine Wp.skip ?_
      refine To.thenN ?_
      refine Wp.seq ?_
      obtain ⟨o4, ho4, h⟩ := bind_of h
      refine Wp.keep (kk := [1, 2, 3, 7, 8, 9, 10, 11]) (kl := [3, 7]) (K' := [(1, .val (.int .i64 v1)), (2, .recs (α := Bool) false E4 v2), (3, .own 3 0), (7, .own 7 0), (8, .val (.int .i64 v8)), (9, .val (.bool v9)), (10, .val (.int .i64 v10)), (11, .val (.int .i64 v11))]) (L' := [(3, 29, [.str b3.f_Test, .val (.int .i64 b3.f_Every), .val (.int .i64 b3.f_Start), .val (.int .i64 b3.f_Retries)]), (7, 32, [.val (.int .i64 b7.f_Health), .val (.int .i64 b7.f_Fails), .val (.int .i64 b7.f_Began), .val (.int .i64 b7.f_Next)])]) (by kernel_rfl) (by kernel_rfl) ?_
      refine ok_law30_ProbeRuns_j2 n v1 v2 v8 v9 v10 v11 b3 b7 o4 ho4 ?_
      rcases o4 with o4 | o4
      · replace h := sum_l h
        refine To.thenN ?_
        refine Wp.region hΓ [] [] [1, 2, 3, 7, 8, 9, 10, 11] [3, 7] (K' := [(1, .val (.int .i64 v1)), (2, .recs (α := Bool) false E4 v2), (3, .own 3 0), (7, .own 7 0), (8, .val (.int .i64 o4.1)), (9, .val (.bool o4.2.1)), (10, .val (.int .i64 o4.2.2.1)), (11, .val (.int .i64 (IntKind.wrap .i64 (v11 + 1))))]) (L' := [(3, 29, [.str b3.f_Test, .val (.int .i64 b3.f_Every), .val (.int .i64 b3.f_Start), .val (.int .i64 b3.f_Retries)]), (7, 32, [.val (.int .i64 o4.2.2.2.f_Health), .val (.int .i64 o4.2.2.2.f_Fails), .val (.int .i64 o4.2.2.2.f_Began), .val (.int .i64 o4.2.2.2.f_Next)])]) (ob := []) (by kernel_rfl) AllP.nil ?_
        refine To.keep (kk := [1, 2, 3, 7, 8, 9, 10, 11]) (kl := [3, 7]) (K' := [(1, .val (.int .i64 v1)), (2, .recs (α := Bool) false E4 v2), (3, .own 3 0), (7, .own 7 0), (8, .val (.int .i64 o4.1)), (9, .val (.bool o4.2.1)), (10, .val (.int .i64 o4.2.2.1)), (11, .val (.int .i64 (IntKind.wrap .i64 (v11 + 1))))]) (L' := [(3, 29, [.str b3.f_Test, .val (.int .i64 b3.f_Every), .val (.int .i64 b3.f_Start), .val (.int .i64 b3.f_Retries)]), (7, 32, [.val (.int .i64 o4.2.2.2.f_Health), .val (.int .i64 o4.2.2.2.f_Fails), .val (.int .i64 o4.2.2.2.f_Began), .val (.int .i64 o4.2.2.2.f_Next)])]) (by kernel_rfl) (by kernel_rfl) ?_
        refine To.again ?_
        exact ih o4.1 o4.2.1 o4.2.2.1 (IntKind.wrap .i64 (v11 + 1)) o4.2.2.2 _ h hQ
      · replace h := sum_r h
        refine To.thenR ?_
        refine To.thenR ?_
        refine To.keep (kk := [6]) (kl := []) (K' := [(6, .val (.bool o4))]) (L' := []) (by kernel_rfl) (by kernel_rfl) ?_
        cases h
        exact hQ
    · replace h := if_f hb h
      refine Wp.exit ?_
      refine To.thenX ?_
      refine To.thenX ?_
      refine To.keep (kk := []) (kl := []) (K' := []) (L' := []) (by kernel_rfl) (by kernel_rfl) ?_
      cases h
      exact hQ
def law30_ProbeRuns (n : Nat) (a0 : S28) (a1 : Int) (a2 : List (Bool)) : Option (Bool) :=
  lett ((bif (bif (bif (bif (!(probe_Right a0)) then true else (decide (a0.f_Every > 1000))) then true else (decide (a1 < 0))) then true else (decide (a1 > 1099511627776))) then true else (decide ((List.length a2 : Int) > 200))) : Bool) fun x1 =>
  if x1 = true then ((law30_awake n).bind fun r2 =>
  some r2)
  else (lett (probe_Begin a0 a1) fun r3 =>
  (law30_ProbeRuns_l1 n a1 a2 a0 n 0 false a1 0 r3).bind fun o4 =>
  (Sum.elim (fun o4 => (law30_awake n).bind fun r5 =>
  some r5) (fun o4 => some o4)) o4)
theorem ok_law30_ProbeRuns (n : Nat) (a0 : S28) (a1 : Int) (a2 : List (Bool)) (r : Bool) (h : law30_ProbeRuns n a0 a1 a2 = some r) : CallsX Try.prog 7 [.agg [.str a0.f_Test, .val (.int .i64 a0.f_Every), .val (.int .i64 a0.f_Start), .val (.int .i64 a0.f_Retries)], .val (.int .i64 a1), .recs (α := Bool) false E4 a2] (.val (.bool r)) := by
  unfold law30_ProbeRuns at h
  refine callsX_of (fn := Try.f7) (by kernel_rfl) rfl (by kernel_rfl) (Nat.le_of_ble_eq_true (by kernel_rfl)) fun F0 w0 => ?_
  refine Wp.keep (kk := [0, 1, 2]) (kl := []) (K' := [(0, .agg [.str a0.f_Test, .val (.int .i64 a0.f_Every), .val (.int .i64 a0.f_Start), .val (.int .i64 a0.f_Retries)]), (1, .val (.int .i64 a1)), (2, .recs (α := Bool) false E4 a2)]) (L' := []) (by kernel_rfl) (by kernel_rfl) ?_
  refine Wp.seq ?_
  refine Wp.region hΓ [] [] [1, 2, 3] [3] (K' := [(1, .val (.int .i64 a1)), (2, .recs (α := Bool) false E4 a2), (3, .own 3 0)]) (L' := [(3, 29, [.str a0.f_Test, .val (.int .i64 a0.f_Every), .val (.int .i64 a0.f_Start), .val (.int .i64 a0.f_Retries)])]) (ob := []) (by kernel_rfl) AllP.nil ?_
  refine To.thenN ?_
  refine Wp.seq ?_
  refine Wp.seq ?_
  obtain ⟨x1, hx1, h⟩ := lett_of h
  refine Wp.region hΓ [] [(1, .val (.bool (probe_Right a0)))] [1, 2, 3, 37] [3] (K' := [(1, .val (.int .i64 a1)), (2, .recs (α := Bool) false E4 a2), (3, .own 3 0), (37, .val (.bool (bif (bif (bif (bif (!(probe_Right a0)) then true else (decide (a0.f_Every > 1000))) then true else (decide (a1 < 0))) then true else (decide (a1 > 1099511627776))) then true else (decide ((List.length a2 : Int) > 200)))))]) (L' := [(3, 29, [.str a0.f_Test, .val (.int .i64 a0.f_Every), .val (.int .i64 a0.f_Start), .val (.int .i64 a0.f_Retries)])]) (ob := [(true = true → CX Try.prog 20 [.agg [.str a0.f_Test, .val (.int .i64 a0.f_Every), .val (.int .i64 a0.f_Start), .val (.int .i64 a0.f_Retries)]] (.val (.bool (probe_Right a0))))]) (by kernel_rfl) (AllP.cons (fun _ => cx (ok_probe_Right a0 _ rfl)) AllP.nil) ?_
  refine To.eq (K' := [(1, .val (.int .i64 a1)), (2, .recs (α := Bool) false E4 a2), (3, .own 3 0), (37, .val (.bool x1))]) (L' := [(3, 29, [.str a0.f_Test, .val (.int .i64 a0.f_Every), .val (.int .i64 a0.f_Start), .val (.int .i64 a0.f_Retries)])]) (by cases hx1; rfl) (by cases hx1; rfl) ?_
  refine To.thenN ?_
  refine Wp.cond (b := x1) (by kernel_rfl) (fun hb => ?_) (fun hb => ?_)
  · replace h := if_t hb h
    refine Wp.seq ?_
    obtain ⟨r2, hr2, h⟩ := bind_of h
    refine Wp.region hΓ [] [(0, .val (.bool r2))] [6] [] (K' := [(6, .val (.bool r2))]) (L' := []) (ob := [(true = true → CX Try.prog 17 [] (.val (.bool r2)))]) (by kernel_rfl) (AllP.cons (fun _ => cx (ok_law30_awake n  _ hr2)) AllP.nil) ?_
    refine To.thenN ?_
    refine Wp.ret ?_
    refine To.thenR ?_
    refine To.keep (kk := [6]) (kl := []) (K' := [(6, .val (.bool r2))]) (L' := []) (by kernel_rfl) (by kernel_rfl) ?_
    cases h
    exact To.done hΓ (by kernel_rfl)
  · replace h := if_f hb h
    refine Wp.skip ?_
    refine To.thenN ?_
    refine Wp.seq ?_
    obtain ⟨r3, hr3, h⟩ := lett_of h
    refine Wp.region hΓ [] [(2, .agg [.val (.int .i64 r3.f_Health), .val (.int .i64 r3.f_Fails), .val (.int .i64 r3.f_Began), .val (.int .i64 r3.f_Next)])] [1, 2, 3, 7] [3, 7] (K' := [(1, .val (.int .i64 a1)), (2, .recs (α := Bool) false E4 a2), (3, .own 3 0), (7, .own 7 0)]) (L' := [(3, 29, [.str a0.f_Test, .val (.int .i64 a0.f_Every), .val (.int .i64 a0.f_Start), .val (.int .i64 a0.f_Retries)]), (7, 32, [.val (.int .i64 r3.f_Health), .val (.int .i64 r3.f_Fails), .val (.int .i64 r3.f_Began), .val (.int .i64 r3.f_Next)])]) (ob := [(true = true → CX Try.prog 22 [.agg [.str a0.f_Test, .val (.int .i64 a0.f_Every), .val (.int .i64 a0.f_Start), .val (.int .i64 a0.f_Retries)], .val (.int .i64 a1)] (.agg [.val (.int .i64 r3.f_Health), .val (.int .i64 r3.f_Fails), .val (.int .i64 r3.f_Began), .val (.int .i64 r3.f_Next)]))]) (by kernel_rfl) (AllP.cons (fun _ => cx (ok_probe_Begin a0 a1 _ hr3)) AllP.nil) ?_
    refine To.thenN ?_
    refine Wp.seq ?_
    refine Wp.region hΓ [] [] [1, 2, 3, 7, 8, 9] [3, 7] (K' := [(1, .val (.int .i64 a1)), (2, .recs (α := Bool) false E4 a2), (3, .own 3 0), (7, .own 7 0), (8, .val (.int .i64 0)), (9, .val (.bool false))]) (L' := [(3, 29, [.str a0.f_Test, .val (.int .i64 a0.f_Every), .val (.int .i64 a0.f_Start), .val (.int .i64 a0.f_Retries)]), (7, 32, [.val (.int .i64 r3.f_Health), .val (.int .i64 r3.f_Fails), .val (.int .i64 r3.f_Began), .val (.int .i64 r3.f_Next)])]) (ob := []) (by kernel_rfl) AllP.nil ?_
    refine To.thenN ?_
    refine Wp.seq ?_
    refine Wp.region hΓ [] [] [1, 2, 3, 7, 8, 9, 10] [3, 7] (K' := [(1, .val (.int .i64 a1)), (2, .recs (α := Bool) false E4 a2), (3, .own 3 0), (7, .own 7 0), (8, .val (.int .i64 0)), (9, .val (.bool false)), (10, .val (.int .i64 a1))]) (L' := [(3, 29, [.str a0.f_Test, .val (.int .i64 a0.f_Every), .val (.int .i64 a0.f_Start), .val (.int .i64 a0.f_Retries)]), (7, 32, [.val (.int .i64 r3.f_Health), .val (.int .i64 r3.f_Fails), .val (.int .i64 r3.f_Began), .val (.int .i64 r3.f_Next)])]) (ob := []) (by kernel_rfl) AllP.nil ?_
    refine To.thenN ?_
    refine Wp.seq ?_
    refine Wp.seq ?_
    refine Wp.region hΓ [] [] [1, 2, 3, 7, 8, 9, 10, 11] [3, 7] (K' := [(1, .val (.int .i64 a1)), (2, .recs (α := Bool) false E4 a2), (3, .own 3 0), (7, .own 7 0), (8, .val (.int .i64 0)), (9, .val (.bool false)), (10, .val (.int .i64 a1)), (11, .val (.int .i64 0))]) (L' := [(3, 29, [.str a0.f_Test, .val (.int .i64 a0.f_Every), .val (.int .i64 a0.f_Start), .val (.int .i64 a0.f_Retries)]), (7, 32, [.val (.int .i64 r3.f_Health), .val (.int .i64 r3.f_Fails), .val (.int .i64 r3.f_Began), .val (.int .i64 r3.f_Next)])]) (ob := []) (by kernel_rfl) AllP.nil ?_
    refine To.thenN ?_
    refine Wp.block ?_
    obtain ⟨o4, ho4, h⟩ := bind_of h
    refine Wp.keep (kk := [1, 2, 3, 7, 8, 9, 10, 11]) (kl := [3, 7]) (K' := [(1, .val (.int .i64 a1)), (2, .recs (α := Bool) false E4 a2), (3, .own 3 0), (7, .own 7 0), (8, .val (.int .i64 0)), (9, .val (.bool false)), (10, .val (.int .i64 a1)), (11, .val (.int .i64 0))]) (L' := [(3, 29, [.str a0.f_Test, .val (.int .i64 a0.f_Every), .val (.int .i64 a0.f_Start), .val (.int .i64 a0.f_Retries)]), (7, 32, [.val (.int .i64 r3.f_Health), .val (.int .i64 r3.f_Fails), .val (.int .i64 r3.f_Began), .val (.int .i64 r3.f_Next)])]) (by kernel_rfl) (by kernel_rfl) ?_
    refine Wp.loopL ?_
    refine ok_law30_ProbeRuns_l1 n a1 a2 a0 n 0 false a1 0 r3 o4 ho4 ?_
    rcases o4 with o4 | o4
    · replace h := sum_l h
      refine To.blockX ?_
      refine To.thenN ?_
      refine Wp.seq ?_
      obtain ⟨r5, hr5, h⟩ := bind_of h
      refine Wp.region hΓ [] [(0, .val (.bool r5))] [6] [] (K' := [(6, .val (.bool r5))]) (L' := []) (ob := [(true = true → CX Try.prog 17 [] (.val (.bool r5)))]) (by kernel_rfl) (AllP.cons (fun _ => cx (ok_law30_awake n  _ hr5)) AllP.nil) ?_
      refine To.thenN ?_
      refine Wp.ret ?_
      refine To.keep (kk := [6]) (kl := []) (K' := [(6, .val (.bool r5))]) (L' := []) (by kernel_rfl) (by kernel_rfl) ?_
      cases h
      exact To.done hΓ (by kernel_rfl)
    · replace h := sum_r h
      refine To.blockR ?_
      refine To.thenR ?_
      refine To.keep (kk := [6]) (kl := []) (K' := [(6, .val (.bool o4))]) (L' := []) (by kernel_rfl) (by kernel_rfl) ?_
      cases h
      exact To.done hΓ (by kernel_rfl)
def law30_near (a0 : Int) : Bool :=
  (bif (decide (a0 ≥ 0)) then (decide (a0 ≤ 2199023255552)) else false)
theorem ok_law30_near (a0 : Int) (r : Bool) (h : law30_near a0 = r) : CallsX Try.prog 16 [.val (.int .i64 a0)] (.val (.bool r)) := by
  unfold law30_near at h
  refine callsX_of (fn := Try.f16) (by kernel_rfl) rfl (by kernel_rfl) (Nat.le_of_ble_eq_true (by kernel_rfl)) fun F0 w0 => ?_
  refine Wp.keep (kk := [0]) (kl := []) (K' := [(0, .val (.int .i64 a0))]) (L' := []) (by kernel_rfl) (by kernel_rfl) ?_
  refine Wp.seq ?_
  refine Wp.region hΓ [] [] [0] [] (K' := [(0, .val (.int .i64 a0))]) (L' := []) (ob := []) (by kernel_rfl) AllP.nil ?_
  refine To.thenN ?_
  refine Wp.seq ?_
  refine Wp.region hΓ [] [] [2] [] (K' := [(2, .val (.bool (bif (decide (a0 ≥ 0)) then (decide (a0 ≤ 2199023255552)) else false)))]) (L' := []) (ob := []) (by kernel_rfl) AllP.nil ?_
  refine To.thenN ?_
  refine Wp.ret ?_
  refine To.keep (kk := [2]) (kl := []) (K' := [(2, .val (.bool (bif (decide (a0 ≥ 0)) then (decide (a0 ≤ 2199023255552)) else false)))]) (L' := []) (by kernel_rfl) (by kernel_rfl) ?_
  cases h
  exact To.done hΓ (by kernel_rfl)
def ref30_Right (a0 : S28) : Bool :=
  lett ((bif (bif ((List.length a0.f_Test : Int) == 0) then true else (decide (a0.f_Every < 1))) then true else (decide (a0.f_Every > 1099511627776))) : Bool) fun x1 =>
  if x1 = true then false
  else (lett ((bif (bif (bif (decide (a0.f_Start ≥ 0)) then (decide (a0.f_Start ≤ 1099511627776)) else false) then (decide (a0.f_Retries ≥ 1)) else false) then (decide (a0.f_Retries ≤ 10)) else false) : Bool) fun x2 =>
  x2)
theorem ok_ref30_Right (a0 : S28) (r : Bool) (h : ref30_Right a0 = r) : CallsX Try.prog 21 [.agg [.str a0.f_Test, .val (.int .i64 a0.f_Every), .val (.int .i64 a0.f_Start), .val (.int .i64 a0.f_Retries)]] (.val (.bool r)) := by
  unfold ref30_Right at h
  refine callsX_of (fn := Try.f21) (by kernel_rfl) rfl (by kernel_rfl) (Nat.le_of_ble_eq_true (by kernel_rfl)) fun F0 w0 => ?_
  refine Wp.keep (kk := [0]) (kl := []) (K' := [(0, .agg [.str a0.f_Test, .val (.int .i64 a0.f_Every), .val (.int .i64 a0.f_Start), .val (.int .i64 a0.f_Retries)])]) (L' := []) (by kernel_rfl) (by kernel_rfl) ?_
  refine Wp.seq ?_
  refine Wp.region hΓ [] [] [1] [1] (K' := [(1, .own 1 0)]) (L' := [(1, 29, [.str a0.f_Test, .val (.int .i64 a0.f_Every), .val (.int .i64 a0.f_Start), .val (.int .i64 a0.f_Retries)])]) (ob := []) (by kernel_rfl) AllP.nil ?_
  refine To.thenN ?_
  refine Wp.seq ?_
  refine Wp.seq ?_
  obtain ⟨x1, hx1, h⟩ := lett_of h
  refine Wp.region hΓ [] [] [1, 16] [1] (K' := [(1, .own 1 0), (16, .val (.bool (bif (bif ((List.length a0.f_Test : Int) == 0) then true else (decide (a0.f_Every < 1))) then true else (decide (a0.f_Every > 1099511627776)))))]) (L' := [(1, 29, [.str a0.f_Test, .val (.int .i64 a0.f_Every), .val (.int .i64 a0.f_Start), .val (.int .i64 a0.f_Retries)])]) (ob := []) (by kernel_rfl) AllP.nil ?_
  refine To.eq (K' := [(1, .own 1 0), (16, .val (.bool x1))]) (L' := [(1, 29, [.str a0.f_Test, .val (.int .i64 a0.f_Every), .val (.int .i64 a0.f_Start), .val (.int .i64 a0.f_Retries)])]) (by cases hx1; rfl) (by cases hx1; rfl) ?_
  refine To.thenN ?_
  refine Wp.cond (b := x1) (by kernel_rfl) (fun hb => ?_) (fun hb => ?_)
  · replace h := if_t hb h
    refine Wp.seq ?_
    refine Wp.region hΓ [] [] [2] [] (K' := [(2, .val (.bool false))]) (L' := []) (ob := []) (by kernel_rfl) AllP.nil ?_
    refine To.thenN ?_
    refine Wp.ret ?_
    refine To.thenR ?_
    refine To.keep (kk := [2]) (kl := []) (K' := [(2, .val (.bool false))]) (L' := []) (by kernel_rfl) (by kernel_rfl) ?_
    cases h
    exact To.done hΓ (by kernel_rfl)
  · replace h := if_f hb h
    refine Wp.skip ?_
    refine To.thenN ?_
    refine Wp.seq ?_
    obtain ⟨x2, hx2, h⟩ := lett_of h
    refine Wp.region hΓ [] [] [2] [] (K' := [(2, .val (.bool (bif (bif (bif (decide (a0.f_Start ≥ 0)) then (decide (a0.f_Start ≤ 1099511627776)) else false) then (decide (a0.f_Retries ≥ 1)) else false) then (decide (a0.f_Retries ≤ 10)) else false)))]) (L' := []) (ob := []) (by kernel_rfl) AllP.nil ?_
    refine To.eq (K' := [(2, .val (.bool x2))]) (L' := []) (by cases hx2; rfl) (by cases hx2; rfl) ?_
    refine To.thenN ?_
    refine Wp.ret ?_
    refine To.keep (kk := [2]) (kl := []) (K' := [(2, .val (.bool x2))]) (L' := []) (by kernel_rfl) (by kernel_rfl) ?_
    cases h
    exact To.done hΓ (by kernel_rfl)
def ref30_Ask_j1 (v70 : Bool) (b4 : S28) (b8 : S30) (b10 : S30) : S30 :=
  if v70 = true then ((S30.mk 3 b4.f_Retries b10.f_Began b10.f_Next))
  else b10
theorem ok_ref30_Ask_j1 (v70 : Bool) (b4 : S28) (b8 : S30) (b10 : S30) (o : S30) (h : ref30_Ask_j1 v70 b4 b8 b10 = o) {F0 : Fz} {w0 : Pt} {Q : Exit → Act → World → Prop} (hQ : To 76 F0 w0 [(8, .own 8 0), (10, .own 10 0)] [(8, 31, [.val (.int .i64 b8.f_Health), .val (.int .i64 b8.f_Fails), .val (.int .i64 b8.f_Began), .val (.int .i64 b8.f_Next)]), (10, 31, [.val (.int .i64 o.f_Health), .val (.int .i64 o.f_Fails), .val (.int .i64 o.f_Began), .val (.int .i64 o.f_Next)])] .normal Q) : Wp Try.prog 76 F0 w0 [(4, .own 4 0), (8, .own 8 0), (10, .own 10 0), (70, .val (.bool v70))] [(4, 29, [.str b4.f_Test, .val (.int .i64 b4.f_Every), .val (.int .i64 b4.f_Start), .val (.int .i64 b4.f_Retries)]), (8, 31, [.val (.int .i64 b8.f_Health), .val (.int .i64 b8.f_Fails), .val (.int .i64 b8.f_Began), .val (.int .i64 b8.f_Next)]), (10, 31, [.val (.int .i64 b10.f_Health), .val (.int .i64 b10.f_Fails), .val (.int .i64 b10.f_Began), .val (.int .i64 b10.f_Next)])] (cB (cA (cB (cB (cB (cB (cB (cB (cF Try.f19))))))))) Q := by
  unfold ref30_Ask_j1 at h
  refine Wp.cond (b := v70) (by kernel_rfl) (fun hb => ?_) (fun hb => ?_)
  · replace h := if_t hb h
    refine Wp.seq ?_
    refine Wp.region hΓ [] [] [8, 10] [8, 10] (K' := [(8, .own 8 0), (10, .own 10 0)]) (L' := [(8, 31, [.val (.int .i64 b8.f_Health), .val (.int .i64 b8.f_Fails), .val (.int .i64 b8.f_Began), .val (.int .i64 b8.f_Next)]), (10, 31, [.val (.int .i64 b10.f_Health), .val (.int .i64 b4.f_Retries), .val (.int .i64 b10.f_Began), .val (.int .i64 b10.f_Next)])]) (ob := []) (by kernel_rfl) AllP.nil ?_
    refine To.thenN ?_
    refine Wp.region hΓ [] [] [8, 10] [8, 10] (K' := [(8, .own 8 0), (10, .own 10 0)]) (L' := [(8, 31, [.val (.int .i64 b8.f_Health), .val (.int .i64 b8.f_Fails), .val (.int .i64 b8.f_Began), .val (.int .i64 b8.f_Next)]), (10, 31, [.val (.int .i64 3), .val (.int .i64 b4.f_Retries), .val (.int .i64 b10.f_Began), .val (.int .i64 b10.f_Next)])]) (ob := []) (by kernel_rfl) AllP.nil ?_
    refine To.keep (kk := [8, 10]) (kl := [8, 10]) (K' := [(8, .own 8 0), (10, .own 10 0)]) (L' := [(8, 31, [.val (.int .i64 b8.f_Health), .val (.int .i64 b8.f_Fails), .val (.int .i64 b8.f_Began), .val (.int .i64 b8.f_Next)]), (10, 31, [.val (.int .i64 3), .val (.int .i64 b4.f_Retries), .val (.int .i64 b10.f_Began), .val (.int .i64 b10.f_Next)])]) (by kernel_rfl) (by kernel_rfl) ?_
    cases h
    exact hQ
  · replace h := if_f hb h
    refine Wp.skip ?_
    refine To.keep (kk := [8, 10]) (kl := [8, 10]) (K' := [(8, .own 8 0), (10, .own 10 0)]) (L' := [(8, 31, [.val (.int .i64 b8.f_Health), .val (.int .i64 b8.f_Fails), .val (.int .i64 b8.f_Began), .val (.int .i64 b8.f_Next)]), (10, 31, [.val (.int .i64 b10.f_Health), .val (.int .i64 b10.f_Fails), .val (.int .i64 b10.f_Began), .val (.int .i64 b10.f_Next)])]) (by kernel_rfl) (by kernel_rfl) ?_
    cases h
    exact hQ
def ref30_Ask (a0 : S28) (a1 : S30) (a2 : Int) (a3 : Bool) : S30 × Bool :=
  lett ((bif (bif (bif (!(ref30_Right a0)) then true else (decide (a1.f_Health < 1))) then true else (decide (a1.f_Health > 3))) then true else (decide (a2 < a1.f_Next))) : Bool) fun x1 =>
  if x1 = true then ((a1, false))
  else (if (!a3) = true then (((S30.mk 2 0 a1.f_Began (IntKind.wrap .i64 (a1.f_Next + a0.f_Every))), true))
  else (if (bif (a1.f_Health == 1) then (decide ((IntKind.wrap .i64 (a1.f_Next - a1.f_Began)) < a0.f_Start)) else false) = true then (((S30.mk a1.f_Health a1.f_Fails a1.f_Began (IntKind.wrap .i64 (a1.f_Next + a0.f_Every))), true))
  else (lett (ref30_Ask_j1 (decide ((IntKind.wrap .i64 (a1.f_Fails + 1)) ≥ a0.f_Retries)) a0 (S30.mk 0 0 0 0) (S30.mk a1.f_Health (IntKind.wrap .i64 (a1.f_Fails + 1)) a1.f_Began (IntKind.wrap .i64 (a1.f_Next + a0.f_Every)))) fun o2 =>
  (o2, true))))
theorem ok_ref30_Ask (a0 : S28) (a1 : S30) (a2 : Int) (a3 : Bool) (r : S30 × Bool) (h : ref30_Ask a0 a1 a2 a3 = r) : CallsX Try.prog 19 [.agg [.str a0.f_Test, .val (.int .i64 a0.f_Every), .val (.int .i64 a0.f_Start), .val (.int .i64 a0.f_Retries)], .agg [.val (.int .i64 a1.f_Health), .val (.int .i64 a1.f_Fails), .val (.int .i64 a1.f_Began), .val (.int .i64 a1.f_Next)], .val (.int .i64 a2), .val (.bool a3)] (.tup [.agg [.val (.int .i64 r.1.f_Health), .val (.int .i64 r.1.f_Fails), .val (.int .i64 r.1.f_Began), .val (.int .i64 r.1.f_Next)], .val (.bool r.2)]) := by
  unfold ref30_Ask at h
  refine callsX_of (fn := Try.f19) (by kernel_rfl) rfl (by kernel_rfl) (Nat.le_of_ble_eq_true (by kernel_rfl)) fun F0 w0 => ?_
  refine Wp.keep (kk := [0, 1, 2, 3]) (kl := []) (K' := [(0, .agg [.str a0.f_Test, .val (.int .i64 a0.f_Every), .val (.int .i64 a0.f_Start), .val (.int .i64 a0.f_Retries)]), (1, .agg [.val (.int .i64 a1.f_Health), .val (.int .i64 a1.f_Fails), .val (.int .i64 a1.f_Began), .val (.int .i64 a1.f_Next)]), (2, .val (.int .i64 a2)), (3, .val (.bool a3))]) (L' := []) (by kernel_rfl) (by kernel_rfl) ?_
  refine Wp.seq ?_
  refine Wp.region hΓ [] [] [2, 3, 4, 5, 8] [4, 5, 8] (K' := [(2, .val (.int .i64 a2)), (3, .val (.bool a3)), (4, .own 4 0), (5, .own 5 0), (8, .own 8 0)]) (L' := [(4, 29, [.str a0.f_Test, .val (.int .i64 a0.f_Every), .val (.int .i64 a0.f_Start), .val (.int .i64 a0.f_Retries)]), (5, 31, [.val (.int .i64 a1.f_Health), .val (.int .i64 a1.f_Fails), .val (.int .i64 a1.f_Began), .val (.int .i64 a1.f_Next)]), (8, 31, [.val (.int .i64 0), .val (.int .i64 0), .val (.int .i64 0), .val (.int .i64 0)])]) (ob := []) (by kernel_rfl) AllP.nil ?_
  refine To.thenN ?_
  refine Wp.seq ?_
  refine Wp.seq ?_
  obtain ⟨x1, hx1, h⟩ := lett_of h
  refine Wp.region hΓ [] [(1, .val (.bool (ref30_Right a0)))] [3, 4, 5, 8, 29] [4, 5, 8] (K' := [(3, .val (.bool a3)), (4, .own 4 0), (5, .own 5 0), (8, .own 8 0), (29, .val (.bool (bif (bif (bif (!(ref30_Right a0)) then true else (decide (a1.f_Health < 1))) then true else (decide (a1.f_Health > 3))) then true else (decide (a2 < a1.f_Next)))))]) (L' := [(4, 29, [.str a0.f_Test, .val (.int .i64 a0.f_Every), .val (.int .i64 a0.f_Start), .val (.int .i64 a0.f_Retries)]), (5, 31, [.val (.int .i64 a1.f_Health), .val (.int .i64 a1.f_Fails), .val (.int .i64 a1.f_Began), .val (.int .i64 a1.f_Next)]), (8, 31, [.val (.int .i64 0), .val (.int .i64 0), .val (.int .i64 0), .val (.int .i64 0)])]) (ob := [(true = true → CX Try.prog 21 [.agg [.str a0.f_Test, .val (.int .i64 a0.f_Every), .val (.int .i64 a0.f_Start), .val (.int .i64 a0.f_Retries)]] (.val (.bool (ref30_Right a0))))]) (by kernel_rfl) (AllP.cons (fun _ => cx (ok_ref30_Right a0 _ rfl)) AllP.nil) ?_
  refine To.eq (K' := [(3, .val (.bool a3)), (4, .own 4 0), (5, .own 5 0), (8, .own 8 0), (29, .val (.bool x1))]) (L' := [(4, 29, [.str a0.f_Test, .val (.int .i64 a0.f_Every), .val (.int .i64 a0.f_Start), .val (.int .i64 a0.f_Retries)]), (5, 31, [.val (.int .i64 a1.f_Health), .val (.int .i64 a1.f_Fails), .val (.int .i64 a1.f_Began), .val (.int .i64 a1.f_Next)]), (8, 31, [.val (.int .i64 0), .val (.int .i64 0), .val (.int .i64 0), .val (.int .i64 0)])]) (by cases hx1; rfl) (by cases hx1; rfl) ?_
  refine To.thenN ?_
  refine Wp.cond (b := x1) (by kernel_rfl) (fun hb => ?_) (fun hb => ?_)
  · replace h := if_t hb h
    refine Wp.seq ?_
    refine Wp.region hΓ [] [] [8, 9] [8] (K' := [(8, .own 8 0), (9, .val (.bool false))]) (L' := [(8, 31, [.val (.int .i64 a1.f_Health), .val (.int .i64 a1.f_Fails), .val (.int .i64 a1.f_Began), .val (.int .i64 a1.f_Next)])]) (ob := []) (by kernel_rfl) AllP.nil ?_
    refine To.thenN ?_
    refine Wp.ret ?_
    refine To.thenR ?_
    refine To.keep (kk := [8, 9]) (kl := [8]) (K' := [(8, .own 8 0), (9, .val (.bool false))]) (L' := [(8, 31, [.val (.int .i64 a1.f_Health), .val (.int .i64 a1.f_Fails), .val (.int .i64 a1.f_Began), .val (.int .i64 a1.f_Next)])]) (by kernel_rfl) (by kernel_rfl) ?_
    cases h
    exact To.done hΓ (by kernel_rfl)
  · replace h := if_f hb h
    refine Wp.skip ?_
    refine To.thenN ?_
    refine Wp.seq ?_
    refine Wp.region hΓ [] [] [3, 4, 5, 8, 10] [4, 5, 8, 10] (K' := [(3, .val (.bool a3)), (4, .own 4 0), (5, .own 5 0), (8, .own 8 0), (10, .own 10 0)]) (L' := [(4, 29, [.str a0.f_Test, .val (.int .i64 a0.f_Every), .val (.int .i64 a0.f_Start), .val (.int .i64 a0.f_Retries)]), (5, 31, [.val (.int .i64 a1.f_Health), .val (.int .i64 a1.f_Fails), .val (.int .i64 a1.f_Began), .val (.int .i64 a1.f_Next)]), (8, 31, [.val (.int .i64 0), .val (.int .i64 0), .val (.int .i64 0), .val (.int .i64 0)]), (10, 31, [.val (.int .i64 a1.f_Health), .val (.int .i64 a1.f_Fails), .val (.int .i64 a1.f_Began), .val (.int .i64 (IntKind.wrap .i64 (a1.f_Next + a0.f_Every)))])]) (ob := []) (by kernel_rfl) AllP.nil ?_
    refine To.thenN ?_
    refine Wp.seq ?_
    refine Wp.seq ?_
    refine Wp.region hΓ [] [] [4, 5, 8, 10, 44] [4, 5, 8, 10] (K' := [(4, .own 4 0), (5, .own 5 0), (8, .own 8 0), (10, .own 10 0), (44, .val (.bool (!a3)))]) (L' := [(4, 29, [.str a0.f_Test, .val (.int .i64 a0.f_Every), .val (.int .i64 a0.f_Start), .val (.int .i64 a0.f_Retries)]), (5, 31, [.val (.int .i64 a1.f_Health), .val (.int .i64 a1.f_Fails), .val (.int .i64 a1.f_Began), .val (.int .i64 a1.f_Next)]), (8, 31, [.val (.int .i64 0), .val (.int .i64 0), .val (.int .i64 0), .val (.int .i64 0)]), (10, 31, [.val (.int .i64 a1.f_Health), .val (.int .i64 a1.f_Fails), .val (.int .i64 a1.f_Began), .val (.int .i64 (IntKind.wrap .i64 (a1.f_Next + a0.f_Every)))])]) (ob := []) (by kernel_rfl) AllP.nil ?_
    refine To.thenN ?_
    refine Wp.cond (b := (!a3)) (by kernel_rfl) (fun hb => ?_) (fun hb => ?_)
    · replace h := if_t hb h
      refine Wp.seq ?_
      refine Wp.region hΓ [] [] [8, 10] [8, 10] (K' := [(8, .own 8 0), (10, .own 10 0)]) (L' := [(8, 31, [.val (.int .i64 0), .val (.int .i64 0), .val (.int .i64 0), .val (.int .i64 0)]), (10, 31, [.val (.int .i64 2), .val (.int .i64 a1.f_Fails), .val (.int .i64 a1.f_Began), .val (.int .i64 (IntKind.wrap .i64 (a1.f_Next + a0.f_Every)))])]) (ob := []) (by kernel_rfl) AllP.nil ?_
      refine To.thenN ?_
      refine Wp.seq ?_
      refine Wp.region hΓ [] [] [8, 10] [8, 10] (K' := [(8, .own 8 0), (10, .own 10 0)]) (L' := [(8, 31, [.val (.int .i64 0), .val (.int .i64 0), .val (.int .i64 0), .val (.int .i64 0)]), (10, 31, [.val (.int .i64 2), .val (.int .i64 0), .val (.int .i64 a1.f_Began), .val (.int .i64 (IntKind.wrap .i64 (a1.f_Next + a0.f_Every)))])]) (ob := []) (by kernel_rfl) AllP.nil ?_
      refine To.thenN ?_
      refine Wp.seq ?_
      refine Wp.region hΓ [] [] [8, 9] [8] (K' := [(8, .own 8 0), (9, .val (.bool true))]) (L' := [(8, 31, [.val (.int .i64 2), .val (.int .i64 0), .val (.int .i64 a1.f_Began), .val (.int .i64 (IntKind.wrap .i64 (a1.f_Next + a0.f_Every)))])]) (ob := []) (by kernel_rfl) AllP.nil ?_
      refine To.thenN ?_
      refine Wp.ret ?_
      refine To.thenR ?_
      refine To.keep (kk := [8, 9]) (kl := [8]) (K' := [(8, .own 8 0), (9, .val (.bool true))]) (L' := [(8, 31, [.val (.int .i64 2), .val (.int .i64 0), .val (.int .i64 a1.f_Began), .val (.int .i64 (IntKind.wrap .i64 (a1.f_Next + a0.f_Every)))])]) (by kernel_rfl) (by kernel_rfl) ?_
      cases h
      exact To.done hΓ (by kernel_rfl)
    · replace h := if_f hb h
      refine Wp.skip ?_
      refine To.thenN ?_
      refine Wp.seq ?_
      refine Wp.seq ?_
      refine Wp.region hΓ [] [] [4, 5, 8, 10, 60] [4, 5, 8, 10] (K' := [(4, .own 4 0), (5, .own 5 0), (8, .own 8 0), (10, .own 10 0), (60, .val (.bool (bif (a1.f_Health == 1) then (decide ((IntKind.wrap .i64 (a1.f_Next - a1.f_Began)) < a0.f_Start)) else false)))]) (L' := [(4, 29, [.str a0.f_Test, .val (.int .i64 a0.f_Every), .val (.int .i64 a0.f_Start), .val (.int .i64 a0.f_Retries)]), (5, 31, [.val (.int .i64 a1.f_Health), .val (.int .i64 a1.f_Fails), .val (.int .i64 a1.f_Began), .val (.int .i64 a1.f_Next)]), (8, 31, [.val (.int .i64 0), .val (.int .i64 0), .val (.int .i64 0), .val (.int .i64 0)]), (10, 31, [.val (.int .i64 a1.f_Health), .val (.int .i64 a1.f_Fails), .val (.int .i64 a1.f_Began), .val (.int .i64 (IntKind.wrap .i64 (a1.f_Next + a0.f_Every)))])]) (ob := []) (by kernel_rfl) AllP.nil ?_
      refine To.thenN ?_
      refine Wp.cond (b := (bif (a1.f_Health == 1) then (decide ((IntKind.wrap .i64 (a1.f_Next - a1.f_Began)) < a0.f_Start)) else false)) (by kernel_rfl) (fun hb => ?_) (fun hb => ?_)
      · replace h := if_t hb h
        refine Wp.seq ?_
        refine Wp.region hΓ [] [] [8, 9] [8] (K' := [(8, .own 8 0), (9, .val (.bool true))]) (L' := [(8, 31, [.val (.int .i64 a1.f_Health), .val (.int .i64 a1.f_Fails), .val (.int .i64 a1.f_Began), .val (.int .i64 (IntKind.wrap .i64 (a1.f_Next + a0.f_Every)))])]) (ob := []) (by kernel_rfl) AllP.nil ?_
        refine To.thenN ?_
        refine Wp.ret ?_
        refine To.thenR ?_
        refine To.keep (kk := [8, 9]) (kl := [8]) (K' := [(8, .own 8 0), (9, .val (.bool true))]) (L' := [(8, 31, [.val (.int .i64 a1.f_Health), .val (.int .i64 a1.f_Fails), .val (.int .i64 a1.f_Began), .val (.int .i64 (IntKind.wrap .i64 (a1.f_Next + a0.f_Every)))])]) (by kernel_rfl) (by kernel_rfl) ?_
        cases h
        exact To.done hΓ (by kernel_rfl)
      · replace h := if_f hb h
        refine Wp.skip ?_
        refine To.thenN ?_
        refine Wp.seq ?_
        refine Wp.region hΓ [] [] [4, 8, 10] [4, 8, 10] (K' := [(4, .own 4 0), (8, .own 8 0), (10, .own 10 0)]) (L' := [(4, 29, [.str a0.f_Test, .val (.int .i64 a0.f_Every), .val (.int .i64 a0.f_Start), .val (.int .i64 a0.f_Retries)]), (8, 31, [.val (.int .i64 0), .val (.int .i64 0), .val (.int .i64 0), .val (.int .i64 0)]), (10, 31, [.val (.int .i64 a1.f_Health), .val (.int .i64 (IntKind.wrap .i64 (a1.f_Fails + 1))), .val (.int .i64 a1.f_Began), .val (.int .i64 (IntKind.wrap .i64 (a1.f_Next + a0.f_Every)))])]) (ob := []) (by kernel_rfl) AllP.nil ?_
        refine To.thenN ?_
        refine Wp.seq ?_
        refine Wp.seq ?_
        refine Wp.region hΓ [] [] [4, 8, 10, 70] [4, 8, 10] (K' := [(4, .own 4 0), (8, .own 8 0), (10, .own 10 0), (70, .val (.bool (decide ((IntKind.wrap .i64 (a1.f_Fails + 1)) ≥ a0.f_Retries))))]) (L' := [(4, 29, [.str a0.f_Test, .val (.int .i64 a0.f_Every), .val (.int .i64 a0.f_Start), .val (.int .i64 a0.f_Retries)]), (8, 31, [.val (.int .i64 0), .val (.int .i64 0), .val (.int .i64 0), .val (.int .i64 0)]), (10, 31, [.val (.int .i64 a1.f_Health), .val (.int .i64 (IntKind.wrap .i64 (a1.f_Fails + 1))), .val (.int .i64 a1.f_Began), .val (.int .i64 (IntKind.wrap .i64 (a1.f_Next + a0.f_Every)))])]) (ob := []) (by kernel_rfl) AllP.nil ?_
        refine To.thenN ?_
        obtain ⟨o2, ho2, h⟩ := lett_of h
        refine Wp.keep (kk := [4, 8, 10, 70]) (kl := [4, 8, 10]) (K' := [(4, .own 4 0), (8, .own 8 0), (10, .own 10 0), (70, .val (.bool (decide ((IntKind.wrap .i64 (a1.f_Fails + 1)) ≥ a0.f_Retries))))]) (L' := [(4, 29, [.str a0.f_Test, .val (.int .i64 a0.f_Every), .val (.int .i64 a0.f_Start), .val (.int .i64 a0.f_Retries)]), (8, 31, [.val (.int .i64 0), .val (.int .i64 0), .val (.int .i64 0), .val (.int .i64 0)]), (10, 31, [.val (.int .i64 a1.f_Health), .val (.int .i64 (IntKind.wrap .i64 (a1.f_Fails + 1))), .val (.int .i64 a1.f_Began), .val (.int .i64 (IntKind.wrap .i64 (a1.f_Next + a0.f_Every)))])]) (by kernel_rfl) (by kernel_rfl) ?_
        refine ok_ref30_Ask_j1 (decide ((IntKind.wrap .i64 (a1.f_Fails + 1)) ≥ a0.f_Retries)) a0 (S30.mk 0 0 0 0) (S30.mk a1.f_Health (IntKind.wrap .i64 (a1.f_Fails + 1)) a1.f_Began (IntKind.wrap .i64 (a1.f_Next + a0.f_Every))) o2 ho2 ?_
        refine To.thenN ?_
        refine Wp.seq ?_
        refine Wp.region hΓ [] [] [8, 9] [8] (K' := [(8, .own 8 0), (9, .val (.bool true))]) (L' := [(8, 31, [.val (.int .i64 o2.f_Health), .val (.int .i64 o2.f_Fails), .val (.int .i64 o2.f_Began), .val (.int .i64 o2.f_Next)])]) (ob := []) (by kernel_rfl) AllP.nil ?_
        refine To.thenN ?_
        refine Wp.ret ?_
        refine To.keep (kk := [8, 9]) (kl := [8]) (K' := [(8, .own 8 0), (9, .val (.bool true))]) (L' := [(8, 31, [.val (.int .i64 o2.f_Health), .val (.int .i64 o2.f_Fails), .val (.int .i64 o2.f_Began), .val (.int .i64 o2.f_Next)])]) (by kernel_rfl) (by kernel_rfl) ?_
        cases h
        exact To.done hΓ (by kernel_rfl)
def ref30_Begin (a0 : S28) (a1 : Int) : S30 :=
  if (!(ref30_Right a0)) = true then ((S30.mk 0 0 0 0))
  else ((S30.mk 1 0 a1 (IntKind.wrap .i64 (a1 + a0.f_Every))))
theorem ok_ref30_Begin (a0 : S28) (a1 : Int) (r : S30) (h : ref30_Begin a0 a1 = r) : CallsX Try.prog 23 [.agg [.str a0.f_Test, .val (.int .i64 a0.f_Every), .val (.int .i64 a0.f_Start), .val (.int .i64 a0.f_Retries)], .val (.int .i64 a1)] (.agg [.val (.int .i64 r.f_Health), .val (.int .i64 r.f_Fails), .val (.int .i64 r.f_Began), .val (.int .i64 r.f_Next)]) := by
  unfold ref30_Begin at h
  refine callsX_of (fn := Try.f23) (by kernel_rfl) rfl (by kernel_rfl) (Nat.le_of_ble_eq_true (by kernel_rfl)) fun F0 w0 => ?_
  refine Wp.keep (kk := [0, 1]) (kl := []) (K' := [(0, .agg [.str a0.f_Test, .val (.int .i64 a0.f_Every), .val (.int .i64 a0.f_Start), .val (.int .i64 a0.f_Retries)]), (1, .val (.int .i64 a1))]) (L' := []) (by kernel_rfl) (by kernel_rfl) ?_
  refine Wp.seq ?_
  refine Wp.region hΓ [] [] [1, 2, 4] [2, 4] (K' := [(1, .val (.int .i64 a1)), (2, .own 2 0), (4, .own 4 0)]) (L' := [(2, 29, [.str a0.f_Test, .val (.int .i64 a0.f_Every), .val (.int .i64 a0.f_Start), .val (.int .i64 a0.f_Retries)]), (4, 31, [.val (.int .i64 0), .val (.int .i64 0), .val (.int .i64 0), .val (.int .i64 0)])]) (ob := []) (by kernel_rfl) AllP.nil ?_
  refine To.thenN ?_
  refine Wp.seq ?_
  refine Wp.seq ?_
  refine Wp.region hΓ [] [(1, .val (.bool (ref30_Right a0)))] [1, 2, 4, 7] [2, 4] (K' := [(1, .val (.int .i64 a1)), (2, .own 2 0), (4, .own 4 0), (7, .val (.bool (!(ref30_Right a0))))]) (L' := [(2, 29, [.str a0.f_Test, .val (.int .i64 a0.f_Every), .val (.int .i64 a0.f_Start), .val (.int .i64 a0.f_Retries)]), (4, 31, [.val (.int .i64 0), .val (.int .i64 0), .val (.int .i64 0), .val (.int .i64 0)])]) (ob := [(true = true → CX Try.prog 21 [.agg [.str a0.f_Test, .val (.int .i64 a0.f_Every), .val (.int .i64 a0.f_Start), .val (.int .i64 a0.f_Retries)]] (.val (.bool (ref30_Right a0))))]) (by kernel_rfl) (AllP.cons (fun _ => cx (ok_ref30_Right a0 _ rfl)) AllP.nil) ?_
  refine To.thenN ?_
  refine Wp.cond (b := (!(ref30_Right a0))) (by kernel_rfl) (fun hb => ?_) (fun hb => ?_)
  · replace h := if_t hb h
    refine Wp.seq ?_
    refine Wp.region hΓ [] [] [4] [4] (K' := [(4, .own 4 0)]) (L' := [(4, 31, [.val (.int .i64 0), .val (.int .i64 0), .val (.int .i64 0), .val (.int .i64 0)])]) (ob := []) (by kernel_rfl) AllP.nil ?_
    refine To.thenN ?_
    refine Wp.ret ?_
    refine To.thenR ?_
    refine To.keep (kk := [4]) (kl := [4]) (K' := [(4, .own 4 0)]) (L' := [(4, 31, [.val (.int .i64 0), .val (.int .i64 0), .val (.int .i64 0), .val (.int .i64 0)])]) (by kernel_rfl) (by kernel_rfl) ?_
    cases h
    exact To.done hΓ (by kernel_rfl)
  · replace h := if_f hb h
    refine Wp.skip ?_
    refine To.thenN ?_
    refine Wp.seq ?_
    refine Wp.region hΓ [] [] [4] [4] (K' := [(4, .own 4 0)]) (L' := [(4, 31, [.val (.int .i64 1), .val (.int .i64 0), .val (.int .i64 a1), .val (.int .i64 (IntKind.wrap .i64 (a1 + a0.f_Every)))])]) (ob := []) (by kernel_rfl) AllP.nil ?_
    refine To.thenN ?_
    refine Wp.ret ?_
    refine To.keep (kk := [4]) (kl := [4]) (K' := [(4, .own 4 0)]) (L' := [(4, 31, [.val (.int .i64 1), .val (.int .i64 0), .val (.int .i64 a1), .val (.int .i64 (IntKind.wrap .i64 (a1 + a0.f_Every)))])]) (by kernel_rfl) (by kernel_rfl) ?_
    cases h
    exact To.done hΓ (by kernel_rfl)
def ref30_Due (a0 : S28) (a1 : S30) : Int :=
  if (bif (bif (!(ref30_Right a0)) then true else (decide (a1.f_Health < 1))) then true else (decide (a1.f_Health > 3))) = true then ((-1))
  else a1.f_Next
theorem ok_ref30_Due (a0 : S28) (a1 : S30) (r : Int) (h : ref30_Due a0 a1 = r) : CallsX Try.prog 25 [.agg [.str a0.f_Test, .val (.int .i64 a0.f_Every), .val (.int .i64 a0.f_Start), .val (.int .i64 a0.f_Retries)], .agg [.val (.int .i64 a1.f_Health), .val (.int .i64 a1.f_Fails), .val (.int .i64 a1.f_Began), .val (.int .i64 a1.f_Next)]] (.val (.int .i64 r)) := by
  unfold ref30_Due at h
  refine callsX_of (fn := Try.f25) (by kernel_rfl) rfl (by kernel_rfl) (Nat.le_of_ble_eq_true (by kernel_rfl)) fun F0 w0 => ?_
  refine Wp.keep (kk := [0, 1]) (kl := []) (K' := [(0, .agg [.str a0.f_Test, .val (.int .i64 a0.f_Every), .val (.int .i64 a0.f_Start), .val (.int .i64 a0.f_Retries)]), (1, .agg [.val (.int .i64 a1.f_Health), .val (.int .i64 a1.f_Fails), .val (.int .i64 a1.f_Began), .val (.int .i64 a1.f_Next)])]) (L' := []) (by kernel_rfl) (by kernel_rfl) ?_
  refine Wp.seq ?_
  refine Wp.region hΓ [] [] [2, 3] [2, 3] (K' := [(2, .own 2 0), (3, .own 3 0)]) (L' := [(2, 29, [.str a0.f_Test, .val (.int .i64 a0.f_Every), .val (.int .i64 a0.f_Start), .val (.int .i64 a0.f_Retries)]), (3, 31, [.val (.int .i64 a1.f_Health), .val (.int .i64 a1.f_Fails), .val (.int .i64 a1.f_Began), .val (.int .i64 a1.f_Next)])]) (ob := []) (by kernel_rfl) AllP.nil ?_
  refine To.thenN ?_
  refine Wp.seq ?_
  refine Wp.seq ?_
  refine Wp.region hΓ [] [(1, .val (.bool (ref30_Right a0)))] [3, 17] [3] (K' := [(3, .own 3 0), (17, .val (.bool (bif (bif (!(ref30_Right a0)) then true else (decide (a1.f_Health < 1))) then true else (decide (a1.f_Health > 3)))))]) (L' := [(3, 31, [.val (.int .i64 a1.f_Health), .val (.int .i64 a1.f_Fails), .val (.int .i64 a1.f_Began), .val (.int .i64 a1.f_Next)])]) (ob := [(true = true → CX Try.prog 21 [.agg [.str a0.f_Test, .val (.int .i64 a0.f_Every), .val (.int .i64 a0.f_Start), .val (.int .i64 a0.f_Retries)]] (.val (.bool (ref30_Right a0))))]) (by kernel_rfl) (AllP.cons (fun _ => cx (ok_ref30_Right a0 _ rfl)) AllP.nil) ?_
  refine To.thenN ?_
  refine Wp.cond (b := (bif (bif (!(ref30_Right a0)) then true else (decide (a1.f_Health < 1))) then true else (decide (a1.f_Health > 3)))) (by kernel_rfl) (fun hb => ?_) (fun hb => ?_)
  · replace h := if_t hb h
    refine Wp.seq ?_
    refine Wp.region hΓ [] [] [4] [] (K' := [(4, .val (.int .i64 (-1)))]) (L' := []) (ob := []) (by kernel_rfl) AllP.nil ?_
    refine To.thenN ?_
    refine Wp.ret ?_
    refine To.thenR ?_
    refine To.keep (kk := [4]) (kl := []) (K' := [(4, .val (.int .i64 (-1)))]) (L' := []) (by kernel_rfl) (by kernel_rfl) ?_
    cases h
    exact To.done hΓ (by kernel_rfl)
  · replace h := if_f hb h
    refine Wp.skip ?_
    refine To.thenN ?_
    refine Wp.seq ?_
    refine Wp.region hΓ [] [] [4] [] (K' := [(4, .val (.int .i64 a1.f_Next))]) (L' := []) (ob := []) (by kernel_rfl) AllP.nil ?_
    refine To.thenN ?_
    refine Wp.ret ?_
    refine To.keep (kk := [4]) (kl := []) (K' := [(4, .val (.int .i64 a1.f_Next))]) (L' := []) (by kernel_rfl) (by kernel_rfl) ?_
    cases h
    exact To.done hΓ (by kernel_rfl)
def E9 : List UInt8 → List D := fun x => [.str x]
theorem good_E9 (l : List (List UInt8)) : GoodR (.recs [] E9 l) := ⟨Nat.le_of_ble_eq_true (by kernel_rfl), fun _ => ⟨rfl, rfl⟩⟩
def ref30_Name (n : Nat) (a0 : Int) : Option ((List UInt8)) :=
  lett ([[110, 111, 110, 101], [115, 116, 97, 114, 116, 105, 110, 103], [104, 101, 97, 108, 116, 104, 121], [117, 110, 104, 101, 97, 108, 116, 104, 121]] : List (List UInt8)) fun x1 =>
  if (bif (decide (a0 < 0)) then true else (decide (a0 > 3))) = true then (some [])
  else (if (decide (0 ≤ a0 ∧ a0 < (List.length x1 : Int))) = true then (some ((x1)[Int.toNat a0]?.getD [])) else none)
theorem ok_ref30_Name (n : Nat) (a0 : Int) (r : (List UInt8)) (h : ref30_Name n a0 = some r) : CallsX Try.prog 27 [.val (.int .i64 a0)] (.str r) := by
  unfold ref30_Name at h
  refine callsX_of (fn := Try.f27) (by kernel_rfl) rfl (by kernel_rfl) (Nat.le_of_ble_eq_true (by kernel_rfl)) fun F0 w0 => ?_
  refine Wp.keep (kk := [0]) (kl := []) (K' := [(0, .val (.int .i64 a0))]) (L' := []) (by kernel_rfl) (by kernel_rfl) ?_
  refine Wp.seq ?_
  refine Wp.region hΓ [] [] [0] [] (K' := [(0, .val (.int .i64 a0))]) (L' := []) (ob := []) (by kernel_rfl) AllP.nil ?_
  refine To.thenN ?_
  refine Wp.seq ?_
  obtain ⟨x1, hx1, h⟩ := lett_of h
  refine Wp.region hΓ [] [(0, .recs (α := List UInt8) [] E9 ([[110, 111, 110, 101], [115, 116, 97, 114, 116, 105, 110, 103], [104, 101, 97, 108, 116, 104, 121], [117, 110, 104, 101, 97, 108, 116, 104, 121]]))] [0, 3] [4] (K' := [(0, .val (.int .i64 a0)), (3, .row 4)]) (L' := [(4, 9, [.rowc false (α := List UInt8) [] E9 ([[110, 111, 110, 101], [115, 116, 97, 114, 116, 105, 110, 103], [104, 101, 97, 108, 116, 104, 121], [117, 110, 104, 101, 97, 108, 116, 104, 121]])])]) (ob := [(MkOb 1 [.str [110, 111, 110, 101], .str [115, 116, 97, 114, 116, 105, 110, 103], .str [104, 101, 97, 108, 116, 104, 121], .str [117, 110, 104, 101, 97, 108, 116, 104, 121]] 4 (.recs (α := List UInt8) [] E9 ([[110, 111, 110, 101], [115, 116, 97, 114, 116, 105, 110, 103], [104, 101, 97, 108, 116, 104, 121], [117, 110, 104, 101, 97, 108, 116, 104, 121]])) ∧ GoodR (.recs (α := List UInt8) [] E9 ([[110, 111, 110, 101], [115, 116, 97, 114, 116, 105, 110, 103], [104, 101, 97, 108, 116, 104, 121], [117, 110, 104, 101, 97, 108, 116, 104, 121]])))]) (by kernel_rfl) (AllP.cons (mkOb (by kernel_rfl) rfl (by kernel_rfl) (good_E9 _)) AllP.nil) ?_
  refine To.eq (K' := [(0, .val (.int .i64 a0)), (3, .row 4)]) (L' := [(4, 9, [.rowc false (α := List UInt8) [] E9 x1])]) (by cases hx1; rfl) (by cases hx1; rfl) ?_
  refine To.thenN ?_
  refine Wp.seq ?_
  refine Wp.seq ?_
  refine Wp.region hΓ [] [] [0, 3, 10] [4] (K' := [(0, .val (.int .i64 a0)), (3, .row 4), (10, .val (.bool (bif (decide (a0 < 0)) then true else (decide (a0 > 3)))))]) (L' := [(4, 9, [.rowc false (α := List UInt8) [] E9 x1])]) (ob := []) (by kernel_rfl) AllP.nil ?_
  refine To.thenN ?_
  refine Wp.cond (b := (bif (decide (a0 < 0)) then true else (decide (a0 > 3)))) (by kernel_rfl) (fun hb => ?_) (fun hb => ?_)
  · replace h := if_t hb h
    refine Wp.seq ?_
    refine Wp.region hΓ [] [] [2] [] (K' := [(2, .str [])]) (L' := []) (ob := []) (by kernel_rfl) AllP.nil ?_
    refine To.thenN ?_
    refine Wp.ret ?_
    refine To.thenR ?_
    refine To.keep (kk := [2]) (kl := []) (K' := [(2, .str [])]) (L' := []) (by kernel_rfl) (by kernel_rfl) ?_
    cases h
    exact To.done hΓ (by kernel_rfl)
  · replace h := if_f hb h
    refine Wp.skip ?_
    refine To.thenN ?_
    refine Wp.seq ?_
    obtain ⟨hc2, h⟩ := chk_of h
    refine Wp.region hΓ [] [] [2] [] (K' := [(2, .str ((x1)[Int.toNat a0]?.getD []))]) (L' := []) (ob := [(decide (0 ≤ a0 ∧ a0 < (List.length x1 : Int))) = true, (decide (0 ≤ a0 ∧ a0 < (List.length x1 : Int))) = true]) (by kernel_rfl) (AllP.cons hc2 (AllP.cons hc2 AllP.nil)) ?_
    refine To.thenN ?_
    refine Wp.ret ?_
    refine To.keep (kk := [2]) (kl := []) (K' := [(2, .str ((x1)[Int.toNat a0]?.getD []))]) (L' := []) (by kernel_rfl) (by kernel_rfl) ?_
    cases h
    exact To.done hΓ (by kernel_rfl)
def law30_ProbeAsks (n : Nat) (a0 : S28) (a1 : S30) (a2 : Int) (a3 : Int) (a4 : Bool) : Option (Bool) :=
  lett ((bif (bif (bif (bif (!(law30_near a2)) then true else (!(law30_near a1.f_Began))) then true else (!(law30_near a1.f_Next))) then true else (decide (a1.f_Fails < 0))) then true else (decide (a1.f_Fails > 100))) : Bool) fun x1 =>
  if x1 = true then ((law30_awake n).bind fun r2 =>
  some r2)
  else (lett (probe_Ask a0 a1 a2 a4) fun r3 =>
  lett (ref30_Ask a0 a1 a2 a4) fun r4 =>
  lett (probe_Begin a0 a2) fun r5 =>
  lett (ref30_Begin a0 a2) fun r6 =>
  ((if ((bif (bif (bif (bif ((probe_Right a0) == (ref30_Right a0)) then ((r5.f_Health == r6.f_Health) && ((r5.f_Fails == r6.f_Fails) && ((r5.f_Began == r6.f_Began) && (r5.f_Next == r6.f_Next)))) else false) then ((r3.1.f_Health == r4.1.f_Health) && ((r3.1.f_Fails == r4.1.f_Fails) && ((r3.1.f_Began == r4.1.f_Began) && (r3.1.f_Next == r4.1.f_Next)))) else false) then (r3.2 == r4.2) else false) then ((probe_Due a0 a1) == (ref30_Due a0 a1)) else false) == true) = true then probe_Name n a3 else some [])).bind fun r7 =>
  ((if ((bif (bif (bif (bif ((probe_Right a0) == (ref30_Right a0)) then ((r5.f_Health == r6.f_Health) && ((r5.f_Fails == r6.f_Fails) && ((r5.f_Began == r6.f_Began) && (r5.f_Next == r6.f_Next)))) else false) then ((r3.1.f_Health == r4.1.f_Health) && ((r3.1.f_Fails == r4.1.f_Fails) && ((r3.1.f_Began == r4.1.f_Began) && (r3.1.f_Next == r4.1.f_Next)))) else false) then (r3.2 == r4.2) else false) then ((probe_Due a0 a1) == (ref30_Due a0 a1)) else false) == true) = true then ref30_Name n a3 else some [])).bind fun r8 =>
  ((if ((bif (bif (bif (bif (bif ((probe_Right a0) == (ref30_Right a0)) then ((r5.f_Health == r6.f_Health) && ((r5.f_Fails == r6.f_Fails) && ((r5.f_Began == r6.f_Began) && (r5.f_Next == r6.f_Next)))) else false) then ((r3.1.f_Health == r4.1.f_Health) && ((r3.1.f_Fails == r4.1.f_Fails) && ((r3.1.f_Began == r4.1.f_Began) && (r3.1.f_Next == r4.1.f_Next)))) else false) then (r3.2 == r4.2) else false) then ((probe_Due a0 a1) == (ref30_Due a0 a1)) else false) then (r7 == r8) else false) == true) = true then law30_awake n else some false)).bind fun r9 =>
  lett ((bif (bif (bif (bif (bif (bif ((probe_Right a0) == (ref30_Right a0)) then ((r5.f_Health == r6.f_Health) && ((r5.f_Fails == r6.f_Fails) && ((r5.f_Began == r6.f_Began) && (r5.f_Next == r6.f_Next)))) else false) then ((r3.1.f_Health == r4.1.f_Health) && ((r3.1.f_Fails == r4.1.f_Fails) && ((r3.1.f_Began == r4.1.f_Began) && (r3.1.f_Next == r4.1.f_Next)))) else false) then (r3.2 == r4.2) else false) then ((probe_Due a0 a1) == (ref30_Due a0 a1)) else false) then (r7 == r8) else false) then r9 else false) : Bool) fun x10 =>
  some x10)
theorem ok_law30_ProbeAsks (n : Nat) (a0 : S28) (a1 : S30) (a2 : Int) (a3 : Int) (a4 : Bool) (r : Bool) (h : law30_ProbeAsks n a0 a1 a2 a3 a4 = some r) : CallsX Try.prog 6 [.agg [.str a0.f_Test, .val (.int .i64 a0.f_Every), .val (.int .i64 a0.f_Start), .val (.int .i64 a0.f_Retries)], .agg [.val (.int .i64 a1.f_Health), .val (.int .i64 a1.f_Fails), .val (.int .i64 a1.f_Began), .val (.int .i64 a1.f_Next)], .val (.int .i64 a2), .val (.int .i64 a3), .val (.bool a4)] (.val (.bool r)) := by
  unfold law30_ProbeAsks at h
  refine callsX_of (fn := Try.f6) (by kernel_rfl) rfl (by kernel_rfl) (Nat.le_of_ble_eq_true (by kernel_rfl)) fun F0 w0 => ?_
  refine Wp.keep (kk := [0, 1, 2, 3, 4]) (kl := []) (K' := [(0, .agg [.str a0.f_Test, .val (.int .i64 a0.f_Every), .val (.int .i64 a0.f_Start), .val (.int .i64 a0.f_Retries)]), (1, .agg [.val (.int .i64 a1.f_Health), .val (.int .i64 a1.f_Fails), .val (.int .i64 a1.f_Began), .val (.int .i64 a1.f_Next)]), (2, .val (.int .i64 a2)), (3, .val (.int .i64 a3)), (4, .val (.bool a4))]) (L' := []) (by kernel_rfl) (by kernel_rfl) ?_
  refine Wp.seq ?_
  refine Wp.region hΓ [] [] [2, 3, 4, 5, 6] [5, 6] (K' := [(2, .val (.int .i64 a2)), (3, .val (.int .i64 a3)), (4, .val (.bool a4)), (5, .own 5 0), (6, .own 6 0)]) (L' := [(5, 29, [.str a0.f_Test, .val (.int .i64 a0.f_Every), .val (.int .i64 a0.f_Start), .val (.int .i64 a0.f_Retries)]), (6, 31, [.val (.int .i64 a1.f_Health), .val (.int .i64 a1.f_Fails), .val (.int .i64 a1.f_Began), .val (.int .i64 a1.f_Next)])]) (ob := []) (by kernel_rfl) AllP.nil ?_
  refine To.thenN ?_
  refine Wp.seq ?_
  refine Wp.seq ?_
  obtain ⟨x1, hx1, h⟩ := lett_of h
  refine Wp.region hΓ [] [(1, .val (.bool (law30_near a2))), (6, .val (.bool (law30_near a1.f_Began))), (12, .val (.bool (law30_near a1.f_Next)))] [2, 3, 4, 5, 6, 40] [5, 6] (K' := [(2, .val (.int .i64 a2)), (3, .val (.int .i64 a3)), (4, .val (.bool a4)), (5, .own 5 0), (6, .own 6 0), (40, .val (.bool (bif (bif (bif (bif (!(law30_near a2)) then true else (!(law30_near a1.f_Began))) then true else (!(law30_near a1.f_Next))) then true else (decide (a1.f_Fails < 0))) then true else (decide (a1.f_Fails > 100)))))]) (L' := [(5, 29, [.str a0.f_Test, .val (.int .i64 a0.f_Every), .val (.int .i64 a0.f_Start), .val (.int .i64 a0.f_Retries)]), (6, 31, [.val (.int .i64 a1.f_Health), .val (.int .i64 a1.f_Fails), .val (.int .i64 a1.f_Began), .val (.int .i64 a1.f_Next)])]) (ob := [(true = true → CX Try.prog 16 [.val (.int .i64 a2)] (.val (.bool (law30_near a2)))), (((!(law30_near a2)) == false) = true → CX Try.prog 16 [.val (.int .i64 a1.f_Began)] (.val (.bool (law30_near a1.f_Began)))), (((bif (!(law30_near a2)) then true else (!(law30_near a1.f_Began))) == false) = true → CX Try.prog 16 [.val (.int .i64 a1.f_Next)] (.val (.bool (law30_near a1.f_Next))))]) (by kernel_rfl) (AllP.cons (fun _ => cx (ok_law30_near a2 _ rfl)) (AllP.cons (fun _ => cx (ok_law30_near a1.f_Began _ rfl)) (AllP.cons (fun _ => cx (ok_law30_near a1.f_Next _ rfl)) AllP.nil))) ?_
  refine To.eq (K' := [(2, .val (.int .i64 a2)), (3, .val (.int .i64 a3)), (4, .val (.bool a4)), (5, .own 5 0), (6, .own 6 0), (40, .val (.bool x1))]) (L' := [(5, 29, [.str a0.f_Test, .val (.int .i64 a0.f_Every), .val (.int .i64 a0.f_Start), .val (.int .i64 a0.f_Retries)]), (6, 31, [.val (.int .i64 a1.f_Health), .val (.int .i64 a1.f_Fails), .val (.int .i64 a1.f_Began), .val (.int .i64 a1.f_Next)])]) (by cases hx1; rfl) (by cases hx1; rfl) ?_
  refine To.thenN ?_
  refine Wp.cond (b := x1) (by kernel_rfl) (fun hb => ?_) (fun hb => ?_)
  · replace h := if_t hb h
    refine Wp.seq ?_
    obtain ⟨r2, hr2, h⟩ := bind_of h
    refine Wp.region hΓ [] [(0, .val (.bool r2))] [10] [] (K' := [(10, .val (.bool r2))]) (L' := []) (ob := [(true = true → CX Try.prog 17 [] (.val (.bool r2)))]) (by kernel_rfl) (AllP.cons (fun _ => cx (ok_law30_awake n  _ hr2)) AllP.nil) ?_
    refine To.thenN ?_
    refine Wp.ret ?_
    refine To.thenR ?_
    refine To.keep (kk := [10]) (kl := []) (K' := [(10, .val (.bool r2))]) (L' := []) (by kernel_rfl) (by kernel_rfl) ?_
    cases h
    exact To.done hΓ (by kernel_rfl)
  · replace h := if_f hb h
    refine Wp.skip ?_
    refine To.thenN ?_
    refine Wp.seq ?_
    refine Wp.region hΓ [] [] [2, 3, 4, 5, 6, 11] [5, 6, 11] (K' := [(2, .val (.int .i64 a2)), (3, .val (.int .i64 a3)), (4, .val (.bool a4)), (5, .own 5 0), (6, .own 6 0), (11, .own 11 0)]) (L' := [(5, 29, [.str a0.f_Test, .val (.int .i64 a0.f_Every), .val (.int .i64 a0.f_Start), .val (.int .i64 a0.f_Retries)]), (6, 31, [.val (.int .i64 a1.f_Health), .val (.int .i64 a1.f_Fails), .val (.int .i64 a1.f_Began), .val (.int .i64 a1.f_Next)]), (11, 32, [.val (.int .i64 a1.f_Health), .val (.int .i64 a1.f_Fails), .val (.int .i64 a1.f_Began), .val (.int .i64 a1.f_Next)])]) (ob := []) (by kernel_rfl) AllP.nil ?_
    refine To.thenN ?_
    refine Wp.seq ?_
    obtain ⟨r3, hr3, h⟩ := lett_of h
    refine Wp.region hΓ [] [(4, .tup [.agg [.val (.int .i64 r3.1.f_Health), .val (.int .i64 r3.1.f_Fails), .val (.int .i64 r3.1.f_Began), .val (.int .i64 r3.1.f_Next)], .val (.bool r3.2)])] [2, 3, 4, 5, 6, 11, 12, 13] [5, 6, 11, 12] (K' := [(2, .val (.int .i64 a2)), (3, .val (.int .i64 a3)), (4, .val (.bool a4)), (5, .own 5 0), (6, .own 6 0), (11, .own 11 0), (12, .own 12 0), (13, .val (.bool r3.2))]) (L' := [(5, 29, [.str a0.f_Test, .val (.int .i64 a0.f_Every), .val (.int .i64 a0.f_Start), .val (.int .i64 a0.f_Retries)]), (6, 31, [.val (.int .i64 a1.f_Health), .val (.int .i64 a1.f_Fails), .val (.int .i64 a1.f_Began), .val (.int .i64 a1.f_Next)]), (11, 32, [.val (.int .i64 a1.f_Health), .val (.int .i64 a1.f_Fails), .val (.int .i64 a1.f_Began), .val (.int .i64 a1.f_Next)]), (12, 32, [.val (.int .i64 r3.1.f_Health), .val (.int .i64 r3.1.f_Fails), .val (.int .i64 r3.1.f_Began), .val (.int .i64 r3.1.f_Next)])]) (ob := [(true = true → CX Try.prog 18 [.agg [.str a0.f_Test, .val (.int .i64 a0.f_Every), .val (.int .i64 a0.f_Start), .val (.int .i64 a0.f_Retries)], .agg [.val (.int .i64 a1.f_Health), .val (.int .i64 a1.f_Fails), .val (.int .i64 a1.f_Began), .val (.int .i64 a1.f_Next)], .val (.int .i64 a2), .val (.bool a4)] (.tup [.agg [.val (.int .i64 r3.1.f_Health), .val (.int .i64 r3.1.f_Fails), .val (.int .i64 r3.1.f_Began), .val (.int .i64 r3.1.f_Next)], .val (.bool r3.2)]))]) (by kernel_rfl) (AllP.cons (fun _ => cx (ok_probe_Ask a0 a1 a2 a4 _ hr3)) AllP.nil) ?_
    refine To.thenN ?_
    refine Wp.seq ?_
    obtain ⟨r4, hr4, h⟩ := lett_of h
    refine Wp.region hΓ [] [(4, .tup [.agg [.val (.int .i64 r4.1.f_Health), .val (.int .i64 r4.1.f_Fails), .val (.int .i64 r4.1.f_Began), .val (.int .i64 r4.1.f_Next)], .val (.bool r4.2)])] [2, 3, 5, 6, 11, 12, 13, 14, 15] [5, 6, 11, 12, 14] (K' := [(2, .val (.int .i64 a2)), (3, .val (.int .i64 a3)), (5, .own 5 0), (6, .own 6 0), (11, .own 11 0), (12, .own 12 0), (13, .val (.bool r3.2)), (14, .own 14 0), (15, .val (.bool r4.2))]) (L' := [(5, 29, [.str a0.f_Test, .val (.int .i64 a0.f_Every), .val (.int .i64 a0.f_Start), .val (.int .i64 a0.f_Retries)]), (6, 31, [.val (.int .i64 a1.f_Health), .val (.int .i64 a1.f_Fails), .val (.int .i64 a1.f_Began), .val (.int .i64 a1.f_Next)]), (11, 32, [.val (.int .i64 a1.f_Health), .val (.int .i64 a1.f_Fails), .val (.int .i64 a1.f_Began), .val (.int .i64 a1.f_Next)]), (12, 32, [.val (.int .i64 r3.1.f_Health), .val (.int .i64 r3.1.f_Fails), .val (.int .i64 r3.1.f_Began), .val (.int .i64 r3.1.f_Next)]), (14, 31, [.val (.int .i64 r4.1.f_Health), .val (.int .i64 r4.1.f_Fails), .val (.int .i64 r4.1.f_Began), .val (.int .i64 r4.1.f_Next)])]) (ob := [(true = true → CX Try.prog 19 [.agg [.str a0.f_Test, .val (.int .i64 a0.f_Every), .val (.int .i64 a0.f_Start), .val (.int .i64 a0.f_Retries)], .agg [.val (.int .i64 a1.f_Health), .val (.int .i64 a1.f_Fails), .val (.int .i64 a1.f_Began), .val (.int .i64 a1.f_Next)], .val (.int .i64 a2), .val (.bool a4)] (.tup [.agg [.val (.int .i64 r4.1.f_Health), .val (.int .i64 r4.1.f_Fails), .val (.int .i64 r4.1.f_Began), .val (.int .i64 r4.1.f_Next)], .val (.bool r4.2)]))]) (by kernel_rfl) (AllP.cons (fun _ => cx (ok_ref30_Ask a0 a1 a2 a4 _ hr4)) AllP.nil) ?_
    refine To.thenN ?_
    refine Wp.seq ?_
    obtain ⟨r5, hr5, h⟩ := lett_of h
    obtain ⟨r6, hr6, h⟩ := lett_of h
    obtain ⟨r7, hr7, h⟩ := bind_of h
    obtain ⟨r8, hr8, h⟩ := bind_of h
    obtain ⟨r9, hr9, h⟩ := bind_of h
    obtain ⟨x10, hx10, h⟩ := lett_of h
    refine Wp.regionD hm hΓ [(1, .val (.bool (probe_Right a0))), (3, .val (.bool (ref30_Right a0))), (8, .agg [.val (.int .i64 r5.f_Health), .val (.int .i64 r5.f_Fails), .val (.int .i64 r5.f_Began), .val (.int .i64 r5.f_Next)]), (11, .agg [.val (.int .i64 r6.f_Health), .val (.int .i64 r6.f_Fails), .val (.int .i64 r6.f_Began), .val (.int .i64 r6.f_Next)]), (27, .val (.int .i64 (probe_Due a0 a1))), (30, .val (.int .i64 (ref30_Due a0 a1))), (35, .str r7), (37, .str r8), (41, .val (.bool r9))] [10] [] (K' := [(10, .val (.bool (bif (bif (bif (bif (bif (bif ((probe_Right a0) == (ref30_Right a0)) then ((r5.f_Health == r6.f_Health) && ((r5.f_Fails == r6.f_Fails) && ((r5.f_Began == r6.f_Began) && (r5.f_Next == r6.f_Next)))) else false) then ((r3.1.f_Health == r4.1.f_Health) && ((r3.1.f_Fails == r4.1.f_Fails) && ((r3.1.f_Began == r4.1.f_Began) && (r3.1.f_Next == r4.1.f_Next)))) else false) then (r3.2 == r4.2) else false) then ((probe_Due a0 a1) == (ref30_Due a0 a1)) else false) then (r7 == r8) else false) then r9 else false)))]) (L' := []) (ob := [(true = true → CX Try.prog 20 [.agg [.str a0.f_Test, .val (.int .i64 a0.f_Every), .val (.int .i64 a0.f_Start), .val (.int .i64 a0.f_Retries)]] (.val (.bool (probe_Right a0)))), (true = true → CX Try.prog 21 [.agg [.str a0.f_Test, .val (.int .i64 a0.f_Every), .val (.int .i64 a0.f_Start), .val (.int .i64 a0.f_Retries)]] (.val (.bool (ref30_Right a0)))), ((((probe_Right a0) == (ref30_Right a0)) == true) = true → CX Try.prog 22 [.agg [.str a0.f_Test, .val (.int .i64 a0.f_Every), .val (.int .i64 a0.f_Start), .val (.int .i64 a0.f_Retries)], .val (.int .i64 a2)] (.agg [.val (.int .i64 r5.f_Health), .val (.int .i64 r5.f_Fails), .val (.int .i64 r5.f_Began), .val (.int .i64 r5.f_Next)])), ((((probe_Right a0) == (ref30_Right a0)) == true) = true → CX Try.prog 23 [.agg [.str a0.f_Test, .val (.int .i64 a0.f_Every), .val (.int .i64 a0.f_Start), .val (.int .i64 a0.f_Retries)], .val (.int .i64 a2)] (.agg [.val (.int .i64 r6.f_Health), .val (.int .i64 r6.f_Fails), .val (.int .i64 r6.f_Began), .val (.int .i64 r6.f_Next)])), (((bif (bif (bif ((probe_Right a0) == (ref30_Right a0)) then ((r5.f_Health == r6.f_Health) && ((r5.f_Fails == r6.f_Fails) && ((r5.f_Began == r6.f_Began) && (r5.f_Next == r6.f_Next)))) else false) then ((r3.1.f_Health == r4.1.f_Health) && ((r3.1.f_Fails == r4.1.f_Fails) && ((r3.1.f_Began == r4.1.f_Began) && (r3.1.f_Next == r4.1.f_Next)))) else false) then (r3.2 == r4.2) else false) == true) = true → CX Try.prog 24 [.agg [.str a0.f_Test, .val (.int .i64 a0.f_Every), .val (.int .i64 a0.f_Start), .val (.int .i64 a0.f_Retries)], .agg [.val (.int .i64 a1.f_Health), .val (.int .i64 a1.f_Fails), .val (.int .i64 a1.f_Began), .val (.int .i64 a1.f_Next)]] (.val (.int .i64 (probe_Due a0 a1)))), (((bif (bif (bif ((probe_Right a0) == (ref30_Right a0)) then ((r5.f_Health == r6.f_Health) && ((r5.f_Fails == r6.f_Fails) && ((r5.f_Began == r6.f_Began) && (r5.f_Next == r6.f_Next)))) else false) then ((r3.1.f_Health == r4.1.f_Health) && ((r3.1.f_Fails == r4.1.f_Fails) && ((r3.1.f_Began == r4.1.f_Began) && (r3.1.f_Next == r4.1.f_Next)))) else false) then (r3.2 == r4.2) else false) == true) = true → CX Try.prog 25 [.agg [.str a0.f_Test, .val (.int .i64 a0.f_Every), .val (.int .i64 a0.f_Start), .val (.int .i64 a0.f_Retries)], .agg [.val (.int .i64 a1.f_Health), .val (.int .i64 a1.f_Fails), .val (.int .i64 a1.f_Began), .val (.int .i64 a1.f_Next)]] (.val (.int .i64 (ref30_Due a0 a1)))), (((bif (bif (bif (bif ((probe_Right a0) == (ref30_Right a0)) then ((r5.f_Health == r6.f_Health) && ((r5.f_Fails == r6.f_Fails) && ((r5.f_Began == r6.f_Began) && (r5.f_Next == r6.f_Next)))) else false) then ((r3.1.f_Health == r4.1.f_Health) && ((r3.1.f_Fails == r4.1.f_Fails) && ((r3.1.f_Began == r4.1.f_Began) && (r3.1.f_Next == r4.1.f_Next)))) else false) then (r3.2 == r4.2) else false) then ((probe_Due a0 a1) == (ref30_Due a0 a1)) else false) == true) = true → CX Try.prog 26 [.val (.int .i64 a3)] (.str r7)), (((bif (bif (bif (bif ((probe_Right a0) == (ref30_Right a0)) then ((r5.f_Health == r6.f_Health) && ((r5.f_Fails == r6.f_Fails) && ((r5.f_Began == r6.f_Began) && (r5.f_Next == r6.f_Next)))) else false) then ((r3.1.f_Health == r4.1.f_Health) && ((r3.1.f_Fails == r4.1.f_Fails) && ((r3.1.f_Began == r4.1.f_Began) && (r3.1.f_Next == r4.1.f_Next)))) else false) then (r3.2 == r4.2) else false) then ((probe_Due a0 a1) == (ref30_Due a0 a1)) else false) == true) = true → CX Try.prog 27 [.val (.int .i64 a3)] (.str r8)), (((bif (bif (bif (bif (bif ((probe_Right a0) == (ref30_Right a0)) then ((r5.f_Health == r6.f_Health) && ((r5.f_Fails == r6.f_Fails) && ((r5.f_Began == r6.f_Began) && (r5.f_Next == r6.f_Next)))) else false) then ((r3.1.f_Health == r4.1.f_Health) && ((r3.1.f_Fails == r4.1.f_Fails) && ((r3.1.f_Began == r4.1.f_Began) && (r3.1.f_Next == r4.1.f_Next)))) else false) then (r3.2 == r4.2) else false) then ((probe_Due a0 a1) == (ref30_Due a0 a1)) else false) then (r7 == r8) else false) == true) = true → CX Try.prog 17 [] (.val (.bool r9)))]) (by kernel_rfl) (AllP.cons (fun _ => cx (ok_probe_Right a0 _ rfl)) (AllP.cons (fun _ => cx (ok_ref30_Right a0 _ rfl)) (AllP.cons (fun _ => cx (ok_probe_Begin a0 a2 _ hr5)) (AllP.cons (fun _ => cx (ok_ref30_Begin a0 a2 _ hr6)) (AllP.cons (fun _ => cx (ok_probe_Due a0 a1 _ rfl)) (AllP.cons (fun _ => cx (ok_ref30_Due a0 a1 _ rfl)) (AllP.cons (fun hg => cx (ok_probe_Name n a3 _ (if_t hg hr7))) (AllP.cons (fun hg => cx (ok_ref30_Name n a3 _ (if_t hg hr8))) (AllP.cons (fun hg => cx (ok_law30_awake n  _ (if_t hg hr9))) AllP.nil))))))))) ?_
    refine To.eq (K' := [(10, .val (.bool x10))]) (L' := []) (by cases hx10; rfl) (by cases hx10; rfl) ?_
    refine To.thenN ?_
    refine Wp.ret ?_
    refine To.keep (kk := [10]) (kl := []) (K' := [(10, .val (.bool x10))]) (L' := []) (by kernel_rfl) (by kernel_rfl) ?_
    cases h
    exact To.done hΓ (by kernel_rfl)
theorem opens9 : Opens Try.prog 9 (fun l : List UInt8 => l.length ≤ maxLen) (fun l => [.str l]) := opens_str (by kernel_rfl)
theorem opens3 : Opens Try.prog 3 (fun n : Int => IntKind.min .i64 ≤ n ∧ n ≤ IntKind.max .i64) (fun n => [.val (.int .i64 n)]) := opens_int (by kernel_rfl)
def W29 (x : S28) : Prop := (List.length x.f_Test ≤ maxLen) ∧ (IntKind.min .i64 ≤ x.f_Every ∧ x.f_Every ≤ IntKind.max .i64) ∧ (IntKind.min .i64 ≤ x.f_Start ∧ x.f_Start ≤ IntKind.max .i64) ∧ (IntKind.min .i64 ≤ x.f_Retries ∧ x.f_Retries ≤ IntKind.max .i64)
theorem opens29 : Opens Try.prog 29 W29 (fun x => [.str x.f_Test, .val (.int .i64 x.f_Every), .val (.int .i64 x.f_Start), .val (.int .i64 x.f_Retries)]) := by
  intro H enc W fuel cs d ps h
  obtain ⟨hl, hf⟩ := field_of Try.underlying29 h
  have hl : cs.length = 4 := hl.trans (by kernel_rfl)
  obtain ⟨x0, w0, r0⟩ := hf 0 _ rfl opens9
  have r0 := repAt (a' := 0) (b' := 1) r0 (by kernel_rfl) (by kernel_rfl)
  obtain ⟨x1, w1, r1⟩ := hf 1 _ rfl opens3
  have r1 := repAt (a' := 1) (b' := 1) r1 (by kernel_rfl) (by kernel_rfl)
  obtain ⟨x2, w2, r2⟩ := hf 2 _ rfl opens3
  have r2 := repAt (a' := 2) (b' := 1) r2 (by kernel_rfl) (by kernel_rfl)
  obtain ⟨x3, w3, r3⟩ := hf 3 _ rfl opens3
  have r3 := repAt (a' := 3) (b' := 1) r3 (by kernel_rfl) (by kernel_rfl)
  refine ⟨⟨x0, x1, x2, x3⟩, ⟨w0, w1, w2, w3⟩, ?_⟩
  refine parts_all (l := [([.str x0], 1), ([.val (.int .i64 x1)], 1), ([.val (.int .i64 x2)], 1), ([.val (.int .i64 x3)], 1)]) ⟨r0, r1, r2, r3, Nat.le_of_eq hl⟩ rfl
theorem opens4 : Opens Try.prog 4 (fun _ : Bool => True) (fun b => [.val (.bool b)]) := opens_bool (by kernel_rfl)
def W44 (l : List (Bool)) : Prop := l.length ≤ maxLen ∧ ∀ x ∈ l, True
theorem opens44 : Opens Try.prog 44 W44 (fun l => [.recs (α := Bool) false E4 l]) := opens_slice (α := Bool) (cells := E4) false (by kernel_rfl) (by kernel_rfl) (of_decide_eq_true (by kernel_rfl)) opens4
def W31 (x : S30) : Prop := (IntKind.min .i64 ≤ x.f_Health ∧ x.f_Health ≤ IntKind.max .i64) ∧ (IntKind.min .i64 ≤ x.f_Fails ∧ x.f_Fails ≤ IntKind.max .i64) ∧ (IntKind.min .i64 ≤ x.f_Began ∧ x.f_Began ≤ IntKind.max .i64) ∧ (IntKind.min .i64 ≤ x.f_Next ∧ x.f_Next ≤ IntKind.max .i64)
theorem opens31 : Opens Try.prog 31 W31 (fun x => [.val (.int .i64 x.f_Health), .val (.int .i64 x.f_Fails), .val (.int .i64 x.f_Began), .val (.int .i64 x.f_Next)]) := by
  intro H enc W fuel cs d ps h
  obtain ⟨hl, hf⟩ := field_of Try.underlying31 h
  have hl : cs.length = 4 := hl.trans (by kernel_rfl)
  obtain ⟨x0, w0, r0⟩ := hf 0 _ rfl opens3
  have r0 := repAt (a' := 0) (b' := 1) r0 (by kernel_rfl) (by kernel_rfl)
  obtain ⟨x1, w1, r1⟩ := hf 1 _ rfl opens3
  have r1 := repAt (a' := 1) (b' := 1) r1 (by kernel_rfl) (by kernel_rfl)
  obtain ⟨x2, w2, r2⟩ := hf 2 _ rfl opens3
  have r2 := repAt (a' := 2) (b' := 1) r2 (by kernel_rfl) (by kernel_rfl)
  obtain ⟨x3, w3, r3⟩ := hf 3 _ rfl opens3
  have r3 := repAt (a' := 3) (b' := 1) r3 (by kernel_rfl) (by kernel_rfl)
  refine ⟨⟨x0, x1, x2, x3⟩, ⟨w0, w1, w2, w3⟩, ?_⟩
  refine parts_all (l := [([.val (.int .i64 x0)], 1), ([.val (.int .i64 x1)], 1), ([.val (.int .i64 x2)], 1), ([.val (.int .i64 x3)], 1)]) ⟨r0, r1, r2, r3, Nat.le_of_eq hl⟩ rfl
end Go.Proofs.Ytlkigifojblliaa.M