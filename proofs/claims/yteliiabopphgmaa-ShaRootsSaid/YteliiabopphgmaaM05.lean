/-
  Printed by wip/tools/gen.py: models and walks of functions.
-/
import Derived.Test.YteliiabopphgmaaRxArgs
import Derived.Test.YteliiabopphgmaaRxGoto
import Derived.Test.YteliiabopphgmaaProg
namespace Go.Proofs.Yteliiabopphgmaa.M
open Go.RowKit Go.Proofs.Yteliiabopphgmaa.RX
set_option maxRecDepth 100000
def tab : List (Nat × TI) := [
  (3, { agg := false, size := 1, zero := [.int .i64 0], kind := .int .i64, eqs := [] }),
  (9, { agg := false, size := 1, zero := [.string ⟨#[]⟩], kind := .str, eqs := [] }),
  (23, { agg := false, size := 1, zero := [.slice none 0 0], kind := .slice 1 false, elt := 3, eb := 8, ez := [.int .i64 0], ek := some .i64, eqs := [] }),
  (25, { agg := false, size := 1, zero := [.int .u32 0], kind := .int .u32, eqs := [] }),
  (36, { agg := false, size := 1, zero := [.int .u64 0], kind := .int .u64, eqs := [] }),
  (38, { agg := true, size := 5, zero := [.int .u64 0, .int .u64 0, .int .u64 0, .int .u64 0, .int .u64 0], kind := .array 5 1 false, eqs := [] }),
  (50, { agg := false, size := 1, zero := [.slice none 0 0], kind := .slice 1 false, elt := 5, eb := 1, ez := [.int .u8 0], ek := some .u8, eqs := [] })]
theorem tabOK : TabOK Try.prog tab := ⟨⟨by kernel_rfl, fun h => absurd rfl h⟩, ⟨by kernel_rfl, fun h => absurd rfl h⟩, ⟨by kernel_rfl, fun h => absurd rfl h⟩, ⟨by kernel_rfl, fun h => absurd rfl h⟩, ⟨by kernel_rfl, fun h => absurd rfl h⟩, ⟨by kernel_rfl, fun h => absurd rfl h⟩, ⟨by kernel_rfl, fun h => absurd rfl h⟩, trivial⟩
theorem hΓ : ΓOK Try.prog (tabΓ tab) := ΓOK.of tabOK
theorem hm : Try.prog.follows .mixedOrders = true := by kernel_rfl
def E_i64 : Int → List D := fun x => [.val (.int .i64 x)]
theorem good_E_i64 (l : List (Int)) : GoodR (.recs 0 E_i64 l) := ⟨Nat.le_of_ble_eq_true (by kernel_rfl), fun _ => ⟨rfl, rfl⟩⟩
def sha_Primes_l3 (n : Nat) (v0 : Int) (v3 : List (Int)) (v4 : Int) (v17 : Int) : Nat → Int → Option (Sum (Unit) (Unit))
  | 0, _ => none
  | k + 1, v18 => if (decide (v18 < v17)) = true then (if (decide (0 ≤ v18 ∧ v18 < (List.length v3 : Int))) = true then (if ((((v3)[Int.toNat v18]?.getD 0) != 0)) = true then (if ((Int.tmod v4 ((v3)[Int.toNat v18]?.getD 0)) == 0) = true then (some (.inl ()))
  else (sha_Primes_l3 n v0 v3 v4 v17 k (IntKind.wrap .i64 (v18 + 1)))) else none) else none)
  else (some (.inr ()))
theorem ok_sha_Primes_l3 (n : Nat) (v0 : Int) (v3 : List (Int)) (v4 : Int) (v17 : Int) {F0 : Fz} {w0 : Pt Try.prog} {Q : Exit → Act → World → Prop} (k : Nat) : ∀ (v18 : Int) (o : Sum (Unit) (Unit)), sha_Primes_l3 n v0 v3 v4 v17 k v18 = some o → (Sum.elim (fun s => To 32 F0 w0 [(0, .val (.int .i64 v0)), (3, .row 1003), (4, .val (.int .i64 v4))] [(1003, 3, [.rowc false (α := Int) 0 E_i64 v3])] (.exit 1) Q) (fun s => To 32 F0 w0 [(0, .val (.int .i64 v0)), (3, .row 1003), (4, .val (.int .i64 v4))] [(1003, 3, [.rowc false (α := Int) 0 E_i64 v3])] (.exit 2) Q)) o → WL Try.prog 32 F0 w0 [(0, .val (.int .i64 v0)), (3, .row 1003), (4, .val (.int .i64 v4)), (16, .row 1003), (17, .val (.int .i64 v17)), (18, .val (.int .i64 v18))] [(1003, 3, [.rowc false (α := Int) 0 E_i64 v3])] (cI (cI (cB (cA (cI (cA (cB (cI (cI (cB (cA (cB (cB (cB (cI (cB (cF Try.f8))))))))))))))))) Q := by
  induction k with
  | zero => intro v18 o h; cases h
  | succ k ih =>
    intro v18 o h hQ
    rw [sha_Primes_l3] at h
    refine WL.round ?_
    refine Wp.seq ?_
    refine Wp.region hΓ [] [] [] [0, 3, 4, 16, 17, 18, 19] [1003] (K' := [(0, .val (.int .i64 v0)), (3, .row 1003), (4, .val (.int .i64 v4)), (16, .row 1003), (17, .val (.int .i64 v17)), (18, .val (.int .i64 v18)), (19, .val (.bool (decide (v18 < v17))))]) (L' := [(1003, 3, [.rowc false (α := Int) 0 E_i64 v3])]) (ob := []) (by kernel_rfl) AllP.nil ?_
    refine To.thenN ?_
    refine Wp.seq ?_
    refine Wp.cond (b := (decide (v18 < v17))) (by kernel_rfl) (fun hb => ?_) (fun hb => ?_)
    · replace h := if_t hb h
      refine Wp.skip ?_
      refine To.thenN ?_
      refine Wp.seq ?_
      refine Wp.block ?_
      refine Wp.seq ?_
      obtain ⟨hc2, h⟩ := chk_of h
      refine Wp.region hΓ [] [] [] [0, 3, 4, 6, 16, 17, 18] [1003] (K' := [(0, .val (.int .i64 v0)), (3, .row 1003), (4, .val (.int .i64 v4)), (6, .val (.int .i64 ((v3)[Int.toNat v18]?.getD 0))), (16, .row 1003), (17, .val (.int .i64 v17)), (18, .val (.int .i64 v18))]) (L' := [(1003, 3, [.rowc false (α := Int) 0 E_i64 v3])]) (ob := [(decide (0 ≤ v18 ∧ v18 < (List.length v3 : Int))) = true, (decide (0 ≤ v18 ∧ v18 < (List.length v3 : Int))) = true]) (by kernel_rfl) (AllP.cons hc2 (AllP.cons hc2 AllP.nil)) ?_
      refine To.thenN ?_
      refine Wp.seq ?_
      obtain ⟨hc1, h⟩ := chk_of h
      refine Wp.region hΓ [] [] [] [0, 3, 4, 16, 17, 18, 25] [1003] (K' := [(0, .val (.int .i64 v0)), (3, .row 1003), (4, .val (.int .i64 v4)), (16, .row 1003), (17, .val (.int .i64 v17)), (18, .val (.int .i64 v18)), (25, .val (.bool ((Int.tmod v4 ((v3)[Int.toNat v18]?.getD 0)) == 0)))]) (L' := [(1003, 3, [.rowc false (α := Int) 0 E_i64 v3])]) (ob := [((((v3)[Int.toNat v18]?.getD 0) != 0)) = true]) (by kernel_rfl) (AllP.cons hc1 AllP.nil) ?_
      refine To.thenN ?_
      refine Wp.cond (b := ((Int.tmod v4 ((v3)[Int.toNat v18]?.getD 0)) == 0)) (by kernel_rfl) (fun hb => ?_) (fun hb => ?_)
      · replace h := if_t hb h
        refine Wp.exit ?_
        refine To.blockO (by decide) ?_
        refine To.thenX ?_
        refine To.thenX ?_
        refine To.keep (kk := [0, 3, 4]) (kl := [1003]) (K' := [(0, .val (.int .i64 v0)), (3, .row 1003), (4, .val (.int .i64 v4))]) (L' := [(1003, 3, [.rowc false (α := Int) 0 E_i64 v3])]) (by kernel_rfl) (by kernel_rfl) ?_
        cases h
        exact hQ
      · replace h := if_f hb h
        refine Wp.skip ?_
        refine To.blockN ?_
        refine To.thenN ?_
        refine Wp.region hΓ [] [] [] [0, 3, 4, 16, 17, 18] [1003] (K' := [(0, .val (.int .i64 v0)), (3, .row 1003), (4, .val (.int .i64 v4)), (16, .row 1003), (17, .val (.int .i64 v17)), (18, .val (.int .i64 (IntKind.wrap .i64 (v18 + 1))))]) (L' := [(1003, 3, [.rowc false (α := Int) 0 E_i64 v3])]) (ob := []) (by kernel_rfl) AllP.nil ?_
        refine To.keep (kk := [0, 3, 4, 16, 17, 18]) (kl := [1003]) (K' := [(0, .val (.int .i64 v0)), (3, .row 1003), (4, .val (.int .i64 v4)), (16, .row 1003), (17, .val (.int .i64 v17)), (18, .val (.int .i64 (IntKind.wrap .i64 (v18 + 1))))]) (L' := [(1003, 3, [.rowc false (α := Int) 0 E_i64 v3])]) (by kernel_rfl) (by kernel_rfl) ?_
        refine To.again ?_
        exact ih (IntKind.wrap .i64 (v18 + 1)) _ h hQ
    · replace h := if_f hb h
      refine Wp.exit ?_
      refine To.thenX ?_
      refine To.thenX ?_
      refine To.keep (kk := [0, 3, 4]) (kl := [1003]) (K' := [(0, .val (.int .i64 v0)), (3, .row 1003), (4, .val (.int .i64 v4))]) (L' := [(1003, 3, [.rowc false (α := Int) 0 E_i64 v3])]) (by kernel_rfl) (by kernel_rfl) ?_
      cases h
      exact hQ
def sha_Primes_j2 (n : Nat) (v0 : Int) (v3 : List (Int)) (v4 : Int) : Option ((List (Int))) :=
  (sha_Primes_l3 n v0 v3 v4 (List.length v3 : Int) n 0).bind fun o1 =>
  (Sum.elim (fun o1 => some v3) (fun o1 => if (decide ((List.length v3 + List.length ([v4] : List (Int))) * (8 + 1) ≤ limit)) = true then (some (v3 ++ ([v4] : List (Int)))) else none)) o1
theorem ok_sha_Primes_j2 (n : Nat) (v0 : Int) (v3 : List (Int)) (v4 : Int) (o : (List (Int))) (h : sha_Primes_j2 n v0 v3 v4 = some o) {F0 : Fz} {w0 : Pt Try.prog} {Q : Exit → Act → World → Prop} (hQ : To 32 F0 w0 [(0, .val (.int .i64 v0)), (3, .row 1003), (4, .val (.int .i64 v4))] [(1003, 3, [.rowc false (α := Int) 0 E_i64 o])] .normal Q) : Wp Try.prog 32 F0 w0 [(0, .val (.int .i64 v0)), (3, .row 1003), (4, .val (.int .i64 v4))] [(1003, 3, [.rowc false (α := Int) 0 E_i64 v3])] (cA (cB (cI (cI (cB (cA (cB (cB (cB (cI (cB (cF Try.f8)))))))))))) Q := by
  unfold sha_Primes_j2 at h
  refine Wp.block ?_
  refine Wp.seq ?_
  refine Wp.seq ?_
  refine Wp.region hΓ [] [] [] [0, 3, 4, 16, 17, 18] [1003] (K' := [(0, .val (.int .i64 v0)), (3, .row 1003), (4, .val (.int .i64 v4)), (16, .row 1003), (17, .val (.int .i64 (List.length v3 : Int))), (18, .val (.int .i64 0))]) (L' := [(1003, 3, [.rowc false (α := Int) 0 E_i64 v3])]) (ob := []) (by kernel_rfl) AllP.nil ?_
  refine To.thenN ?_
  refine Wp.block ?_
  obtain ⟨o1, ho1, h⟩ := bind_of h
  refine Wp.keep (kk := [0, 3, 4, 16, 17, 18]) (kl := [1003]) (K' := [(0, .val (.int .i64 v0)), (3, .row 1003), (4, .val (.int .i64 v4)), (16, .row 1003), (17, .val (.int .i64 (List.length v3 : Int))), (18, .val (.int .i64 0))]) (L' := [(1003, 3, [.rowc false (α := Int) 0 E_i64 v3])]) (by kernel_rfl) (by kernel_rfl) ?_
  refine Wp.loopL ?_
  refine ok_sha_Primes_l3 n v0 v3 v4 (List.length v3 : Int) n 0 o1 ho1 ?_
  rcases o1 with o1 | o1
  · replace h := sum_l h
    refine To.blockO (by decide) ?_
    refine To.thenX ?_
    refine To.blockX ?_
    refine To.keep (kk := [0, 3, 4]) (kl := [1003]) (K' := [(0, .val (.int .i64 v0)), (3, .row 1003), (4, .val (.int .i64 v4))]) (L' := [(1003, 3, [.rowc false (α := Int) 0 E_i64 v3])]) (by kernel_rfl) (by kernel_rfl) ?_
    cases h
    exact hQ
  · replace h := sum_r h
    refine To.blockX ?_
    refine To.thenN ?_
    obtain ⟨hc2, h⟩ := chk_of h
    refine Wp.region hΓ [] [(2, .recs (α := Int) 0 E_i64 [v4]), (3, .recs (α := Int) 0 E_i64 (v3 ++ ([v4] : List (Int))))] [] [0, 3, 4] [30] (K' := [(0, .val (.int .i64 v0)), (3, .row 30), (4, .val (.int .i64 v4))]) (L' := [(30, 3, [.rowc false (α := Int) 0 E_i64 (v3 ++ ([v4] : List (Int)))])]) (ob := [(MkOb 1 [.val (.int .i64 v4)] 1 (.recs (α := Int) 0 E_i64 [v4]) ∧ GoodR (.recs (α := Int) 0 E_i64 [v4])), (decide ((List.length v3 + List.length ([v4] : List (Int))) * (8 + 1) ≤ limit)) = true, (AppOb 0 E_i64 v3 (List.flatMap E_i64 ([v4] : List (Int))) (List.length ([v4] : List (Int))) (.recs (α := Int) 0 E_i64 (v3 ++ ([v4] : List (Int)))) ∧ GoodR (.recs (α := Int) 0 E_i64 (v3 ++ ([v4] : List (Int)))))]) (by kernel_rfl) (AllP.cons (mkOb (by kernel_rfl) rfl (by kernel_rfl) (good_E_i64 _)) (AllP.cons hc2 (AllP.cons (appOb rfl rfl (good_E_i64 _)) AllP.nil))) ?_
    refine To.blockN ?_
    refine To.keep (kk := [0, 3, 4]) (kl := [30]) (K' := [(0, .val (.int .i64 v0)), (3, .row 30), (4, .val (.int .i64 v4))]) (L' := [(30, 3, [.rowc false (α := Int) 0 E_i64 (v3 ++ ([v4] : List (Int)))])]) (by kernel_rfl) (by kernel_rfl) ?_
    refine To.pre (St.rename 30 1003 (by decide) (K' := [(0, .val (.int .i64 v0)), (3, .row 1003), (4, .val (.int .i64 v4))]) (L' := [(1003, 3, [.rowc false (α := Int) 0 E_i64 (v3 ++ ([v4] : List (Int)))])]) (by kernel_rfl) (by kernel_rfl) (by kernel_rfl)) ?_
    refine To.keep (kk := [0, 3, 4]) (kl := [1003]) (K' := [(0, .val (.int .i64 v0)), (3, .row 1003), (4, .val (.int .i64 v4))]) (L' := [(1003, 3, [.rowc false (α := Int) 0 E_i64 (v3 ++ ([v4] : List (Int)))])]) (by kernel_rfl) (by kernel_rfl) ?_
    cases h
    exact hQ
def sha_Primes_l1 (n : Nat) (v0 : Int) : Nat → (List (Int)) → Int → Option ((List (Int)))
  | 0, _, _ => none
  | k + 1, v3, v4 => if (decide ((List.length v3 : Int) < v0)) = true then ((sha_Primes_j2 n v0 v3 v4).bind fun o1 =>
  sha_Primes_l1 n v0 k o1 (IntKind.wrap .i64 (v4 + 1)))
  else some v3
theorem ok_sha_Primes_l1 (n : Nat) (v0 : Int) {F0 : Fz} {w0 : Pt Try.prog} {Q : Exit → Act → World → Prop} (k : Nat) : ∀ (v3 : List (Int)) (v4 : Int) (o : (List (Int))), sha_Primes_l1 n v0 k v3 v4 = some o → To 32 F0 w0 [(3, .row 1003)] [(1003, 3, [.rowc false (α := Int) 0 E_i64 o])] (.exit 0) Q → WL Try.prog 32 F0 w0 [(0, .val (.int .i64 v0)), (3, .row 1003), (4, .val (.int .i64 v4))] [(1003, 3, [.rowc false (α := Int) 0 E_i64 v3])] (cI (cI (cB (cA (cB (cB (cB (cI (cB (cF Try.f8)))))))))) Q := by
  induction k with
  | zero => intro v3 v4 o h; cases h
  | succ k ih =>
    intro v3 v4 o h hQ
    rw [sha_Primes_l1] at h
    refine WL.round ?_
    refine Wp.seq ?_
    refine Wp.seq ?_
    refine Wp.region hΓ [] [] [] [0, 3, 4, 13] [1003] (K' := [(0, .val (.int .i64 v0)), (3, .row 1003), (4, .val (.int .i64 v4)), (13, .val (.bool (decide ((List.length v3 : Int) < v0))))]) (L' := [(1003, 3, [.rowc false (α := Int) 0 E_i64 v3])]) (ob := []) (by kernel_rfl) AllP.nil ?_
    refine To.thenN ?_
    refine Wp.cond (b := (decide ((List.length v3 : Int) < v0))) (by kernel_rfl) (fun hb => ?_) (fun hb => ?_)
    · replace h := if_t hb h
      refine Wp.skip ?_
      refine To.thenN ?_
      refine Wp.seq ?_
      obtain ⟨o1, ho1, h⟩ := bind_of h
      refine Wp.keep (kk := [0, 3, 4]) (kl := [1003]) (K' := [(0, .val (.int .i64 v0)), (3, .row 1003), (4, .val (.int .i64 v4))]) (L' := [(1003, 3, [.rowc false (α := Int) 0 E_i64 v3])]) (by kernel_rfl) (by kernel_rfl) ?_
      refine ok_sha_Primes_j2 n v0 v3 v4 o1 ho1 ?_
      refine To.thenN ?_
      refine Wp.region hΓ [] [] [] [0, 3, 4] [1003] (K' := [(0, .val (.int .i64 v0)), (3, .row 1003), (4, .val (.int .i64 (IntKind.wrap .i64 (v4 + 1))))]) (L' := [(1003, 3, [.rowc false (α := Int) 0 E_i64 o1])]) (ob := []) (by kernel_rfl) AllP.nil ?_
      refine To.keep (kk := [0, 3, 4]) (kl := [1003]) (K' := [(0, .val (.int .i64 v0)), (3, .row 1003), (4, .val (.int .i64 (IntKind.wrap .i64 (v4 + 1))))]) (L' := [(1003, 3, [.rowc false (α := Int) 0 E_i64 o1])]) (by kernel_rfl) (by kernel_rfl) ?_
      refine To.again ?_
      exact ih o1 (IntKind.wrap .i64 (v4 + 1)) _ h hQ
    · replace h := if_f hb h
      refine Wp.exit ?_
      refine To.thenX ?_
      refine To.thenX ?_
      refine To.keep (kk := [3]) (kl := [1003]) (K' := [(3, .row 1003)]) (L' := [(1003, 3, [.rowc false (α := Int) 0 E_i64 v3])]) (by kernel_rfl) (by kernel_rfl) ?_
      cases h
      exact hQ
def sha_Primes (n : Nat) (a0 : Int) : Option ((List (Int))) :=
  if (decide (a0 > 100)) = true then (some [])
  else ((sha_Primes_l1 n a0 n ([] : List (Int)) 2).bind fun o1 =>
  some o1)
theorem ok_sha_Primes (n : Nat) (a0 : Int) (r : (List (Int))) (h : sha_Primes n a0 = some r) : CallsX Try.prog 8 [.val (.int .i64 a0)] (.recs (α := Int) 0 E_i64 r) := by
  unfold sha_Primes at h
  refine callsX_of (fn := Try.f8) (by kernel_rfl) rfl (by kernel_rfl) (Nat.le_of_ble_eq_true (by kernel_rfl)) fun F0 w0 _ => ?_
  refine Wp.keep (kk := [0]) (kl := []) (K' := [(0, .val (.int .i64 a0))]) (L' := []) (by kernel_rfl) (by kernel_rfl) ?_
  refine Wp.seq ?_
  refine Wp.region hΓ [] [] [] [0] [] (K' := [(0, .val (.int .i64 a0))]) (L' := []) (ob := []) (by kernel_rfl) AllP.nil ?_
  refine To.thenN ?_
  refine Wp.scope ?_
  refine Wp.seq ?_
  refine Wp.region hΓ [] [] [] [0, 3] [] (K' := [(0, .val (.int .i64 a0)), (3, .val (.slice none 0 0))]) (L' := []) (ob := []) (by kernel_rfl) AllP.nil ?_
  refine To.thenN ?_
  refine Wp.seq ?_
  refine Wp.seq ?_
  refine Wp.region hΓ [] [] [] [0, 3, 8] [] (K' := [(0, .val (.int .i64 a0)), (3, .val (.slice none 0 0)), (8, .val (.bool (decide (a0 > 100))))]) (L' := []) (ob := []) (by kernel_rfl) AllP.nil ?_
  refine To.thenN ?_
  refine Wp.cond (b := (decide (a0 > 100))) (by kernel_rfl) (fun hb => ?_) (fun hb => ?_)
  · replace h := if_t hb h
    refine Wp.seq ?_
    refine Wp.region hΓ [] [] [] [2] [] (K' := [(2, .val (.slice none 0 0))]) (L' := []) (ob := []) (by kernel_rfl) AllP.nil ?_
    refine To.thenN ?_
    refine Wp.ret ?_
    refine To.thenR ?_
    refine To.scope (.inr (.inl rfl)) ?_
    refine To.keep (kk := [2]) (kl := []) (K' := [(2, .val (.slice none 0 0))]) (L' := []) (by kernel_rfl) (by kernel_rfl) ?_
    refine To.weak (K' := [(2, .recs (α := Int) 0 E_i64 [])]) (L' := []) (.cons (.zero _ _) .nil) .nil ?_
    cases h
    exact To.done hΓ (by kernel_rfl)
  · replace h := if_f hb h
    refine Wp.skip ?_
    refine To.thenN ?_
    refine Wp.seq ?_
    refine Wp.label ?_
    refine To.thenN ?_
    refine Wp.seq ?_
    refine Wp.seq ?_
    refine Wp.region hΓ [] [] [] [0, 3, 4] [] (K' := [(0, .val (.int .i64 a0)), (3, .val (.slice none 0 0)), (4, .val (.int .i64 2))]) (L' := []) (ob := []) (by kernel_rfl) AllP.nil ?_
    refine To.thenN ?_
    refine Wp.block ?_
    obtain ⟨o1, ho1, h⟩ := bind_of h
    refine Wp.keep (kk := [0, 3, 4]) (kl := []) (K' := [(0, .val (.int .i64 a0)), (3, .val (.slice none 0 0)), (4, .val (.int .i64 2))]) (L' := []) (by kernel_rfl) (by kernel_rfl) ?_
    refine Wp.pre (St.vacant (t := 3) (k := 1003) (e := 3) (K' := [(0, .val (.int .i64 a0)), (3, .row 1003), (4, .val (.int .i64 2))]) (good_E_i64 _) (by decide) (by kernel_rfl) (by kernel_rfl)) ?_
    refine Wp.keep (kk := [0, 3, 4]) (kl := [1003]) (K' := [(0, .val (.int .i64 a0)), (3, .row 1003), (4, .val (.int .i64 2))]) (L' := [(1003, 3, [.rowc false (α := Int) 0 E_i64 []])]) (by kernel_rfl) (by kernel_rfl) ?_
    refine Wp.loopL ?_
    refine ok_sha_Primes_l1 n a0 n ([] : List (Int)) 2 o1 ho1 ?_
    refine To.blockX ?_
    refine To.thenN ?_
    refine Wp.seq ?_
    refine Wp.region hΓ [] [] [] [2] [1003] (K' := [(2, .row 1003)]) (L' := [(1003, 3, [.rowc false (α := Int) 0 E_i64 o1])]) (ob := []) (by kernel_rfl) AllP.nil ?_
    refine To.thenN ?_
    refine Wp.ret ?_
    refine To.scope (.inr (.inl rfl)) ?_
    refine To.keep (kk := [2]) (kl := [1003]) (K' := [(2, .row 1003)]) (L' := [(1003, 3, [.rowc false (α := Int) 0 E_i64 o1])]) (by kernel_rfl) (by kernel_rfl) ?_
    refine To.pre (St.settle (ks := [1003]) (kk := [2]) (kl := [1003]) (K' := [(2, .row 1003)]) (L' := [(1003, 3, [.rowc true (α := Int) 0 E_i64 o1])]) (by kernel_rfl)) ?_
    refine To.pre (St.sealK [2] (K' := [(2, .recs (α := Int) 0 E_i64 o1)]) (by kernel_rfl)) ?_
    refine To.keep (kk := [2]) (kl := []) (K' := [(2, .recs (α := Int) 0 E_i64 o1)]) (L' := []) (by kernel_rfl) (by kernel_rfl) ?_
    cases h
    exact To.done hΓ (by kernel_rfl)
def ref05_Primes_j4 (n : Nat) (v0 : Int) (v3 : List (Int)) (v4 : Int) (v5 : Bool) (v6 : Int) : Option (Bool) :=
  if (decide (0 ≤ v6 ∧ v6 < (List.length v3 : Int))) = true then (if ((((v3)[Int.toNat v6]?.getD 0) != 0)) = true then (if ((Int.tmod v4 ((v3)[Int.toNat v6]?.getD 0)) == 0) = true then some false
  else some v5) else none) else none
theorem ok_ref05_Primes_j4 (n : Nat) (v0 : Int) (v3 : List (Int)) (v4 : Int) (v5 : Bool) (v6 : Int) (o : Bool) (h : ref05_Primes_j4 n v0 v3 v4 v5 v6 = some o) {F0 : Fz} {w0 : Pt Try.prog} {Q : Exit → Act → World → Prop} (hQ : To 36 F0 w0 [(0, .val (.int .i64 v0)), (3, .row 1003), (4, .val (.int .i64 v4)), (5, .val (.bool o)), (6, .val (.int .i64 v6))] [(1003, 3, [.rowc false (α := Int) 0 E_i64 v3])] .normal Q) : Wp Try.prog 36 F0 w0 [(0, .val (.int .i64 v0)), (3, .row 1003), (4, .val (.int .i64 v4)), (5, .val (.bool v5)), (6, .val (.int .i64 v6))] [(1003, 3, [.rowc false (α := Int) 0 E_i64 v3])] (cA (cB (cI (cI (cB (cA (cB (cI (cA (cB (cI (cI (cB (cA (cB (cB (cB (cF Try.f9)))))))))))))))))) Q := by
  unfold ref05_Primes_j4 at h
  refine Wp.block ?_
  refine Wp.seq ?_
  obtain ⟨hc1, h⟩ := chk_of h
  obtain ⟨hc2, h⟩ := chk_of h
  refine Wp.region hΓ [] [] [] [0, 3, 4, 5, 6, 29] [1003] (K' := [(0, .val (.int .i64 v0)), (3, .row 1003), (4, .val (.int .i64 v4)), (5, .val (.bool v5)), (6, .val (.int .i64 v6)), (29, .val (.bool ((Int.tmod v4 ((v3)[Int.toNat v6]?.getD 0)) == 0)))]) (L' := [(1003, 3, [.rowc false (α := Int) 0 E_i64 v3])]) (ob := [(decide (0 ≤ v6 ∧ v6 < (List.length v3 : Int))) = true, (decide (0 ≤ v6 ∧ v6 < (List.length v3 : Int))) = true, ((((v3)[Int.toNat v6]?.getD 0) != 0)) = true]) (by kernel_rfl) (AllP.cons hc1 (AllP.cons hc1 (AllP.cons hc2 AllP.nil))) ?_
  refine To.thenN ?_
  refine Wp.cond (b := ((Int.tmod v4 ((v3)[Int.toNat v6]?.getD 0)) == 0)) (by kernel_rfl) (fun hb => ?_) (fun hb => ?_)
  · replace h := if_t hb h
    refine Wp.region hΓ [] [] [] [0, 3, 4, 5, 6] [1003] (K' := [(0, .val (.int .i64 v0)), (3, .row 1003), (4, .val (.int .i64 v4)), (5, .val (.bool false)), (6, .val (.int .i64 v6))]) (L' := [(1003, 3, [.rowc false (α := Int) 0 E_i64 v3])]) (ob := []) (by kernel_rfl) AllP.nil ?_
    refine To.blockN ?_
    refine To.keep (kk := [0, 3, 4, 5, 6]) (kl := [1003]) (K' := [(0, .val (.int .i64 v0)), (3, .row 1003), (4, .val (.int .i64 v4)), (5, .val (.bool false)), (6, .val (.int .i64 v6))]) (L' := [(1003, 3, [.rowc false (α := Int) 0 E_i64 v3])]) (by kernel_rfl) (by kernel_rfl) ?_
    cases h
    exact hQ
  · replace h := if_f hb h
    refine Wp.skip ?_
    refine To.blockN ?_
    refine To.keep (kk := [0, 3, 4, 5, 6]) (kl := [1003]) (K' := [(0, .val (.int .i64 v0)), (3, .row 1003), (4, .val (.int .i64 v4)), (5, .val (.bool v5)), (6, .val (.int .i64 v6))]) (L' := [(1003, 3, [.rowc false (α := Int) 0 E_i64 v3])]) (by kernel_rfl) (by kernel_rfl) ?_
    cases h
    exact hQ
def ref05_Primes_l3 (n : Nat) (v0 : Int) (v3 : List (Int)) (v4 : Int) : Nat → Bool → Int → Option (Bool)
  | 0, _, _ => none
  | k + 1, v5, v6 => if (decide (v6 < (List.length v3 : Int))) = true then ((ref05_Primes_j4 n v0 v3 v4 v5 v6).bind fun o1 =>
  ref05_Primes_l3 n v0 v3 v4 k o1 (IntKind.wrap .i64 (v6 + 1)))
  else some v5
theorem ok_ref05_Primes_l3 (n : Nat) (v0 : Int) (v3 : List (Int)) (v4 : Int) {F0 : Fz} {w0 : Pt Try.prog} {Q : Exit → Act → World → Prop} (k : Nat) : ∀ (v5 : Bool) (v6 : Int) (o : Bool), ref05_Primes_l3 n v0 v3 v4 k v5 v6 = some o → To 36 F0 w0 [(0, .val (.int .i64 v0)), (3, .row 1003), (4, .val (.int .i64 v4)), (5, .val (.bool o))] [(1003, 3, [.rowc false (α := Int) 0 E_i64 v3])] (.exit 2) Q → WL Try.prog 36 F0 w0 [(0, .val (.int .i64 v0)), (3, .row 1003), (4, .val (.int .i64 v4)), (5, .val (.bool v5)), (6, .val (.int .i64 v6))] [(1003, 3, [.rowc false (α := Int) 0 E_i64 v3])] (cI (cI (cB (cA (cB (cI (cA (cB (cI (cI (cB (cA (cB (cB (cB (cF Try.f9)))))))))))))))) Q := by
  induction k with
  | zero => intro v5 v6 o h; cases h
  | succ k ih =>
    intro v5 v6 o h hQ
    rw [ref05_Primes_l3] at h
    refine WL.round ?_
    refine Wp.seq ?_
    refine Wp.seq ?_
    refine Wp.region hΓ [] [] [] [0, 3, 4, 5, 6, 20] [1003] (K' := [(0, .val (.int .i64 v0)), (3, .row 1003), (4, .val (.int .i64 v4)), (5, .val (.bool v5)), (6, .val (.int .i64 v6)), (20, .val (.bool (decide (v6 < (List.length v3 : Int)))))]) (L' := [(1003, 3, [.rowc false (α := Int) 0 E_i64 v3])]) (ob := []) (by kernel_rfl) AllP.nil ?_
    refine To.thenN ?_
    refine Wp.cond (b := (decide (v6 < (List.length v3 : Int)))) (by kernel_rfl) (fun hb => ?_) (fun hb => ?_)
    · replace h := if_t hb h
      refine Wp.skip ?_
      refine To.thenN ?_
      refine Wp.seq ?_
      obtain ⟨o1, ho1, h⟩ := bind_of h
      refine Wp.keep (kk := [0, 3, 4, 5, 6]) (kl := [1003]) (K' := [(0, .val (.int .i64 v0)), (3, .row 1003), (4, .val (.int .i64 v4)), (5, .val (.bool v5)), (6, .val (.int .i64 v6))]) (L' := [(1003, 3, [.rowc false (α := Int) 0 E_i64 v3])]) (by kernel_rfl) (by kernel_rfl) ?_
      refine ok_ref05_Primes_j4 n v0 v3 v4 v5 v6 o1 ho1 ?_
      refine To.thenN ?_
      refine Wp.region hΓ [] [] [] [0, 3, 4, 5, 6] [1003] (K' := [(0, .val (.int .i64 v0)), (3, .row 1003), (4, .val (.int .i64 v4)), (5, .val (.bool o1)), (6, .val (.int .i64 (IntKind.wrap .i64 (v6 + 1))))]) (L' := [(1003, 3, [.rowc false (α := Int) 0 E_i64 v3])]) (ob := []) (by kernel_rfl) AllP.nil ?_
      refine To.keep (kk := [0, 3, 4, 5, 6]) (kl := [1003]) (K' := [(0, .val (.int .i64 v0)), (3, .row 1003), (4, .val (.int .i64 v4)), (5, .val (.bool o1)), (6, .val (.int .i64 (IntKind.wrap .i64 (v6 + 1))))]) (L' := [(1003, 3, [.rowc false (α := Int) 0 E_i64 v3])]) (by kernel_rfl) (by kernel_rfl) ?_
      refine To.again ?_
      exact ih o1 (IntKind.wrap .i64 (v6 + 1)) _ h hQ
    · replace h := if_f hb h
      refine Wp.exit ?_
      refine To.thenX ?_
      refine To.thenX ?_
      refine To.keep (kk := [0, 3, 4, 5]) (kl := [1003]) (K' := [(0, .val (.int .i64 v0)), (3, .row 1003), (4, .val (.int .i64 v4)), (5, .val (.bool v5))]) (L' := [(1003, 3, [.rowc false (α := Int) 0 E_i64 v3])]) (by kernel_rfl) (by kernel_rfl) ?_
      cases h
      exact hQ
def ref05_Primes_j2 (n : Nat) (v0 : Int) (v3 : List (Int)) (v4 : Int) : Option ((List (Int))) :=
  (ref05_Primes_l3 n v0 v3 v4 n true 0).bind fun o1 =>
  if o1 = true then (if (decide ((List.length v3 + List.length ([v4] : List (Int))) * (8 + 1) ≤ limit)) = true then (some (v3 ++ ([v4] : List (Int)))) else none)
  else some v3
theorem ok_ref05_Primes_j2 (n : Nat) (v0 : Int) (v3 : List (Int)) (v4 : Int) (o : (List (Int))) (h : ref05_Primes_j2 n v0 v3 v4 = some o) {F0 : Fz} {w0 : Pt Try.prog} {Q : Exit → Act → World → Prop} (hQ : To 36 F0 w0 [(0, .val (.int .i64 v0)), (3, .row 1003), (4, .val (.int .i64 v4))] [(1003, 3, [.rowc false (α := Int) 0 E_i64 o])] .normal Q) : Wp Try.prog 36 F0 w0 [(0, .val (.int .i64 v0)), (3, .row 1003), (4, .val (.int .i64 v4))] [(1003, 3, [.rowc false (α := Int) 0 E_i64 v3])] (cA (cB (cI (cI (cB (cA (cB (cB (cB (cF Try.f9)))))))))) Q := by
  unfold ref05_Primes_j2 at h
  refine Wp.block ?_
  refine Wp.seq ?_
  refine Wp.region hΓ [] [] [] [0, 3, 4, 5] [1003] (K' := [(0, .val (.int .i64 v0)), (3, .row 1003), (4, .val (.int .i64 v4)), (5, .val (.bool true))]) (L' := [(1003, 3, [.rowc false (α := Int) 0 E_i64 v3])]) (ob := []) (by kernel_rfl) AllP.nil ?_
  refine To.thenN ?_
  refine Wp.seq ?_
  refine Wp.seq ?_
  refine Wp.region hΓ [] [] [] [0, 3, 4, 5, 6] [1003] (K' := [(0, .val (.int .i64 v0)), (3, .row 1003), (4, .val (.int .i64 v4)), (5, .val (.bool true)), (6, .val (.int .i64 0))]) (L' := [(1003, 3, [.rowc false (α := Int) 0 E_i64 v3])]) (ob := []) (by kernel_rfl) AllP.nil ?_
  refine To.thenN ?_
  refine Wp.block ?_
  obtain ⟨o1, ho1, h⟩ := bind_of h
  refine Wp.keep (kk := [0, 3, 4, 5, 6]) (kl := [1003]) (K' := [(0, .val (.int .i64 v0)), (3, .row 1003), (4, .val (.int .i64 v4)), (5, .val (.bool true)), (6, .val (.int .i64 0))]) (L' := [(1003, 3, [.rowc false (α := Int) 0 E_i64 v3])]) (by kernel_rfl) (by kernel_rfl) ?_
  refine Wp.loopL ?_
  refine ok_ref05_Primes_l3 n v0 v3 v4 n true 0 o1 ho1 ?_
  refine To.blockX ?_
  refine To.thenN ?_
  refine Wp.seq ?_
  refine Wp.region hΓ [] [] [] [0, 3, 4, 30] [1003] (K' := [(0, .val (.int .i64 v0)), (3, .row 1003), (4, .val (.int .i64 v4)), (30, .val (.bool o1))]) (L' := [(1003, 3, [.rowc false (α := Int) 0 E_i64 v3])]) (ob := []) (by kernel_rfl) AllP.nil ?_
  refine To.thenN ?_
  refine Wp.cond (b := o1) (by kernel_rfl) (fun hb => ?_) (fun hb => ?_)
  · replace h := if_t hb h
    obtain ⟨hc2, h⟩ := chk_of h
    refine Wp.region hΓ [] [(2, .recs (α := Int) 0 E_i64 [v4]), (3, .recs (α := Int) 0 E_i64 (v3 ++ ([v4] : List (Int))))] [] [0, 3, 4] [34] (K' := [(0, .val (.int .i64 v0)), (3, .row 34), (4, .val (.int .i64 v4))]) (L' := [(34, 3, [.rowc false (α := Int) 0 E_i64 (v3 ++ ([v4] : List (Int)))])]) (ob := [(MkOb 1 [.val (.int .i64 v4)] 1 (.recs (α := Int) 0 E_i64 [v4]) ∧ GoodR (.recs (α := Int) 0 E_i64 [v4])), (decide ((List.length v3 + List.length ([v4] : List (Int))) * (8 + 1) ≤ limit)) = true, (AppOb 0 E_i64 v3 (List.flatMap E_i64 ([v4] : List (Int))) (List.length ([v4] : List (Int))) (.recs (α := Int) 0 E_i64 (v3 ++ ([v4] : List (Int)))) ∧ GoodR (.recs (α := Int) 0 E_i64 (v3 ++ ([v4] : List (Int)))))]) (by kernel_rfl) (AllP.cons (mkOb (by kernel_rfl) rfl (by kernel_rfl) (good_E_i64 _)) (AllP.cons hc2 (AllP.cons (appOb rfl rfl (good_E_i64 _)) AllP.nil))) ?_
    refine To.blockN ?_
    refine To.keep (kk := [0, 3, 4]) (kl := [34]) (K' := [(0, .val (.int .i64 v0)), (3, .row 34), (4, .val (.int .i64 v4))]) (L' := [(34, 3, [.rowc false (α := Int) 0 E_i64 (v3 ++ ([v4] : List (Int)))])]) (by kernel_rfl) (by kernel_rfl) ?_
    refine To.pre (St.rename 34 1003 (by decide) (K' := [(0, .val (.int .i64 v0)), (3, .row 1003), (4, .val (.int .i64 v4))]) (L' := [(1003, 3, [.rowc false (α := Int) 0 E_i64 (v3 ++ ([v4] : List (Int)))])]) (by kernel_rfl) (by kernel_rfl) (by kernel_rfl)) ?_
    refine To.keep (kk := [0, 3, 4]) (kl := [1003]) (K' := [(0, .val (.int .i64 v0)), (3, .row 1003), (4, .val (.int .i64 v4))]) (L' := [(1003, 3, [.rowc false (α := Int) 0 E_i64 (v3 ++ ([v4] : List (Int)))])]) (by kernel_rfl) (by kernel_rfl) ?_
    cases h
    exact hQ
  · replace h := if_f hb h
    refine Wp.skip ?_
    refine To.blockN ?_
    refine To.keep (kk := [0, 3, 4]) (kl := [1003]) (K' := [(0, .val (.int .i64 v0)), (3, .row 1003), (4, .val (.int .i64 v4))]) (L' := [(1003, 3, [.rowc false (α := Int) 0 E_i64 v3])]) (by kernel_rfl) (by kernel_rfl) ?_
    cases h
    exact hQ
def ref05_Primes_l1 (n : Nat) (v0 : Int) : Nat → (List (Int)) → Int → Option ((List (Int)))
  | 0, _, _ => none
  | k + 1, v3, v4 => if (decide ((List.length v3 : Int) < v0)) = true then ((ref05_Primes_j2 n v0 v3 v4).bind fun o1 =>
  ref05_Primes_l1 n v0 k o1 (IntKind.wrap .i64 (v4 + 1)))
  else some v3
theorem ok_ref05_Primes_l1 (n : Nat) (v0 : Int) {F0 : Fz} {w0 : Pt Try.prog} {Q : Exit → Act → World → Prop} (k : Nat) : ∀ (v3 : List (Int)) (v4 : Int) (o : (List (Int))), ref05_Primes_l1 n v0 k v3 v4 = some o → To 36 F0 w0 [(3, .row 1003)] [(1003, 3, [.rowc false (α := Int) 0 E_i64 o])] (.exit 0) Q → WL Try.prog 36 F0 w0 [(0, .val (.int .i64 v0)), (3, .row 1003), (4, .val (.int .i64 v4))] [(1003, 3, [.rowc false (α := Int) 0 E_i64 v3])] (cI (cI (cB (cA (cB (cB (cB (cF Try.f9)))))))) Q := by
  induction k with
  | zero => intro v3 v4 o h; cases h
  | succ k ih =>
    intro v3 v4 o h hQ
    rw [ref05_Primes_l1] at h
    refine WL.round ?_
    refine Wp.seq ?_
    refine Wp.seq ?_
    refine Wp.region hΓ [] [] [] [0, 3, 4, 14] [1003] (K' := [(0, .val (.int .i64 v0)), (3, .row 1003), (4, .val (.int .i64 v4)), (14, .val (.bool (decide ((List.length v3 : Int) < v0))))]) (L' := [(1003, 3, [.rowc false (α := Int) 0 E_i64 v3])]) (ob := []) (by kernel_rfl) AllP.nil ?_
    refine To.thenN ?_
    refine Wp.cond (b := (decide ((List.length v3 : Int) < v0))) (by kernel_rfl) (fun hb => ?_) (fun hb => ?_)
    · replace h := if_t hb h
      refine Wp.skip ?_
      refine To.thenN ?_
      refine Wp.seq ?_
      obtain ⟨o1, ho1, h⟩ := bind_of h
      refine Wp.keep (kk := [0, 3, 4]) (kl := [1003]) (K' := [(0, .val (.int .i64 v0)), (3, .row 1003), (4, .val (.int .i64 v4))]) (L' := [(1003, 3, [.rowc false (α := Int) 0 E_i64 v3])]) (by kernel_rfl) (by kernel_rfl) ?_
      refine ok_ref05_Primes_j2 n v0 v3 v4 o1 ho1 ?_
      refine To.thenN ?_
      refine Wp.region hΓ [] [] [] [0, 3, 4] [1003] (K' := [(0, .val (.int .i64 v0)), (3, .row 1003), (4, .val (.int .i64 (IntKind.wrap .i64 (v4 + 1))))]) (L' := [(1003, 3, [.rowc false (α := Int) 0 E_i64 o1])]) (ob := []) (by kernel_rfl) AllP.nil ?_
      refine To.keep (kk := [0, 3, 4]) (kl := [1003]) (K' := [(0, .val (.int .i64 v0)), (3, .row 1003), (4, .val (.int .i64 (IntKind.wrap .i64 (v4 + 1))))]) (L' := [(1003, 3, [.rowc false (α := Int) 0 E_i64 o1])]) (by kernel_rfl) (by kernel_rfl) ?_
      refine To.again ?_
      exact ih o1 (IntKind.wrap .i64 (v4 + 1)) _ h hQ
    · replace h := if_f hb h
      refine Wp.exit ?_
      refine To.thenX ?_
      refine To.thenX ?_
      refine To.keep (kk := [3]) (kl := [1003]) (K' := [(3, .row 1003)]) (L' := [(1003, 3, [.rowc false (α := Int) 0 E_i64 v3])]) (by kernel_rfl) (by kernel_rfl) ?_
      cases h
      exact hQ
def ref05_Primes (n : Nat) (a0 : Int) : Option ((List (Int))) :=
  if (decide (a0 > 100)) = true then (some [])
  else ((ref05_Primes_l1 n a0 n ([] : List (Int)) 2).bind fun o1 =>
  some o1)
theorem ok_ref05_Primes (n : Nat) (a0 : Int) (r : (List (Int))) (h : ref05_Primes n a0 = some r) : CallsX Try.prog 9 [.val (.int .i64 a0)] (.recs (α := Int) 0 E_i64 r) := by
  unfold ref05_Primes at h
  refine callsX_of (fn := Try.f9) (by kernel_rfl) rfl (by kernel_rfl) (Nat.le_of_ble_eq_true (by kernel_rfl)) fun F0 w0 _ => ?_
  refine Wp.keep (kk := [0]) (kl := []) (K' := [(0, .val (.int .i64 a0))]) (L' := []) (by kernel_rfl) (by kernel_rfl) ?_
  refine Wp.seq ?_
  refine Wp.region hΓ [] [] [] [0] [] (K' := [(0, .val (.int .i64 a0))]) (L' := []) (ob := []) (by kernel_rfl) AllP.nil ?_
  refine To.thenN ?_
  refine Wp.seq ?_
  refine Wp.region hΓ [] [(0, .recs (α := Int) 0 E_i64 [])] [] [0, 3] [7] (K' := [(0, .val (.int .i64 a0)), (3, .row 7)]) (L' := [(7, 3, [.rowc false (α := Int) 0 E_i64 []])]) (ob := [(MkOb 1 [] 0 (.recs (α := Int) 0 E_i64 []) ∧ GoodR (.recs (α := Int) 0 E_i64 []))]) (by kernel_rfl) (AllP.cons (mkOb (by kernel_rfl) rfl (by kernel_rfl) (good_E_i64 _)) AllP.nil) ?_
  refine To.thenN ?_
  refine Wp.seq ?_
  refine Wp.seq ?_
  refine Wp.region hΓ [] [] [] [0, 3, 9] [7] (K' := [(0, .val (.int .i64 a0)), (3, .row 7), (9, .val (.bool (decide (a0 > 100))))]) (L' := [(7, 3, [.rowc false (α := Int) 0 E_i64 []])]) (ob := []) (by kernel_rfl) AllP.nil ?_
  refine To.thenN ?_
  refine Wp.cond (b := (decide (a0 > 100))) (by kernel_rfl) (fun hb => ?_) (fun hb => ?_)
  · replace h := if_t hb h
    refine Wp.seq ?_
    refine Wp.region hΓ [] [] [] [2] [7] (K' := [(2, .row 7)]) (L' := [(7, 3, [.rowc false (α := Int) 0 E_i64 []])]) (ob := []) (by kernel_rfl) AllP.nil ?_
    refine To.thenN ?_
    refine Wp.ret ?_
    refine To.thenR ?_
    refine To.keep (kk := [2]) (kl := [7]) (K' := [(2, .row 7)]) (L' := [(7, 3, [.rowc false (α := Int) 0 E_i64 []])]) (by kernel_rfl) (by kernel_rfl) ?_
    refine To.pre (St.settle (ks := [7]) (kk := [2]) (kl := [7]) (K' := [(2, .row 7)]) (L' := [(7, 3, [.rowc true (α := Int) 0 E_i64 []])]) (by kernel_rfl)) ?_
    refine To.pre (St.sealK [2] (K' := [(2, .recs (α := Int) 0 E_i64 [])]) (by kernel_rfl)) ?_
    refine To.keep (kk := [2]) (kl := []) (K' := [(2, .recs (α := Int) 0 E_i64 [])]) (L' := []) (by kernel_rfl) (by kernel_rfl) ?_
    cases h
    exact To.done hΓ (by kernel_rfl)
  · replace h := if_f hb h
    refine Wp.skip ?_
    refine To.thenN ?_
    refine Wp.seq ?_
    refine Wp.seq ?_
    refine Wp.region hΓ [] [] [] [0, 3, 4] [7] (K' := [(0, .val (.int .i64 a0)), (3, .row 7), (4, .val (.int .i64 2))]) (L' := [(7, 3, [.rowc false (α := Int) 0 E_i64 []])]) (ob := []) (by kernel_rfl) AllP.nil ?_
    refine To.thenN ?_
    refine Wp.block ?_
    obtain ⟨o1, ho1, h⟩ := bind_of h
    refine Wp.keep (kk := [0, 3, 4]) (kl := [7]) (K' := [(0, .val (.int .i64 a0)), (3, .row 7), (4, .val (.int .i64 2))]) (L' := [(7, 3, [.rowc false (α := Int) 0 E_i64 []])]) (by kernel_rfl) (by kernel_rfl) ?_
    refine Wp.pre (St.rename 7 1003 (by decide) (K' := [(0, .val (.int .i64 a0)), (3, .row 1003), (4, .val (.int .i64 2))]) (L' := [(1003, 3, [.rowc false (α := Int) 0 E_i64 []])]) (by kernel_rfl) (by kernel_rfl) (by kernel_rfl)) ?_
    refine Wp.keep (kk := [0, 3, 4]) (kl := [1003]) (K' := [(0, .val (.int .i64 a0)), (3, .row 1003), (4, .val (.int .i64 2))]) (L' := [(1003, 3, [.rowc false (α := Int) 0 E_i64 []])]) (by kernel_rfl) (by kernel_rfl) ?_
    refine Wp.loopL ?_
    refine ok_ref05_Primes_l1 n a0 n ([] : List (Int)) 2 o1 ho1 ?_
    refine To.blockX ?_
    refine To.thenN ?_
    refine Wp.seq ?_
    refine Wp.region hΓ [] [] [] [2] [1003] (K' := [(2, .row 1003)]) (L' := [(1003, 3, [.rowc false (α := Int) 0 E_i64 o1])]) (ob := []) (by kernel_rfl) AllP.nil ?_
    refine To.thenN ?_
    refine Wp.ret ?_
    refine To.keep (kk := [2]) (kl := [1003]) (K' := [(2, .row 1003)]) (L' := [(1003, 3, [.rowc false (α := Int) 0 E_i64 o1])]) (by kernel_rfl) (by kernel_rfl) ?_
    refine To.pre (St.settle (ks := [1003]) (kk := [2]) (kl := [1003]) (K' := [(2, .row 1003)]) (L' := [(1003, 3, [.rowc true (α := Int) 0 E_i64 o1])]) (by kernel_rfl)) ?_
    refine To.pre (St.sealK [2] (K' := [(2, .recs (α := Int) 0 E_i64 o1)]) (by kernel_rfl)) ?_
    refine To.keep (kk := [2]) (kl := []) (K' := [(2, .recs (α := Int) 0 E_i64 o1)]) (L' := []) (by kernel_rfl) (by kernel_rfl) ?_
    cases h
    exact To.done hΓ (by kernel_rfl)
def law05_same_l1 (n : Nat) (v0 : List (Int)) (v1 : List (Int)) : Nat → Int → Option (Sum (Unit) (Bool))
  | 0, _ => none
  | k + 1, v5 => if (decide (v5 < (List.length v0 : Int))) = true then (if (decide (0 ≤ v5 ∧ v5 < (List.length v0 : Int))) = true then (if (decide (0 ≤ v5 ∧ v5 < (List.length v1 : Int))) = true then (if (((v0)[Int.toNat v5]?.getD 0) != ((v1)[Int.toNat v5]?.getD 0)) = true then (some (.inr false))
  else (law05_same_l1 n v0 v1 k (IntKind.wrap .i64 (v5 + 1)))) else none) else none)
  else (some (.inl ()))
theorem ok_law05_same_l1 (n : Nat) (v0 : List (Int)) (v1 : List (Int)) {F0 : Fz} {w0 : Pt Try.prog} {Q : Exit → Act → World → Prop} (k : Nat) : ∀ (v5 : Int) (o : Sum (Unit) (Bool)), law05_same_l1 n v0 v1 k v5 = some o → (Sum.elim (fun s => To 26 F0 w0 [] [] (.exit 0) Q) (fun s => To 26 F0 w0 [(4, .val (.bool s))] [] .ret Q)) o → WL Try.prog 26 F0 w0 [(0, .recs (α := Int) 0 E_i64 v0), (1, .recs (α := Int) 0 E_i64 v1), (5, .val (.int .i64 v5))] [] (cI (cI (cB (cA (cB (cB (cF Try.f7))))))) Q := by
  induction k with
  | zero => intro v5 o h; cases h
  | succ k ih =>
    intro v5 o h hQ
    rw [law05_same_l1] at h
    refine WL.round ?_
    refine Wp.seq ?_
    refine Wp.seq ?_
    refine Wp.region hΓ [] [] [] [0, 1, 5, 14] [] (K' := [(0, .recs (α := Int) 0 E_i64 v0), (1, .recs (α := Int) 0 E_i64 v1), (5, .val (.int .i64 v5)), (14, .val (.bool (decide (v5 < (List.length v0 : Int)))))]) (L' := []) (ob := []) (by kernel_rfl) AllP.nil ?_
    refine To.thenN ?_
    refine Wp.cond (b := (decide (v5 < (List.length v0 : Int)))) (by kernel_rfl) (fun hb => ?_) (fun hb => ?_)
    · replace h := if_t hb h
      refine Wp.skip ?_
      refine To.thenN ?_
      refine Wp.seq ?_
      refine Wp.block ?_
      refine Wp.seq ?_
      obtain ⟨hc1, h⟩ := chk_of h
      obtain ⟨hc2, h⟩ := chk_of h
      refine Wp.regionD hm hΓ [] [0, 1, 5, 25] [] (K' := [(0, .recs (α := Int) 0 E_i64 v0), (1, .recs (α := Int) 0 E_i64 v1), (5, .val (.int .i64 v5)), (25, .val (.bool (((v0)[Int.toNat v5]?.getD 0) != ((v1)[Int.toNat v5]?.getD 0))))]) (L' := []) (ob := [(decide (0 ≤ v5 ∧ v5 < (List.length v0 : Int))) = true, (decide (0 ≤ v5 ∧ v5 < (List.length v1 : Int))) = true]) (by kernel_rfl) (AllP.cons hc1 (AllP.cons hc2 AllP.nil)) ?_
      refine To.thenN ?_
      refine Wp.cond (b := (((v0)[Int.toNat v5]?.getD 0) != ((v1)[Int.toNat v5]?.getD 0))) (by kernel_rfl) (fun hb => ?_) (fun hb => ?_)
      · replace h := if_t hb h
        refine Wp.seq ?_
        refine Wp.region hΓ [] [] [] [4] [] (K' := [(4, .val (.bool false))]) (L' := []) (ob := []) (by kernel_rfl) AllP.nil ?_
        refine To.thenN ?_
        refine Wp.ret ?_
        refine To.blockR ?_
        refine To.thenR ?_
        refine To.thenR ?_
        refine To.keep (kk := [4]) (kl := []) (K' := [(4, .val (.bool false))]) (L' := []) (by kernel_rfl) (by kernel_rfl) ?_
        cases h
        exact hQ
      · replace h := if_f hb h
        refine Wp.skip ?_
        refine To.blockN ?_
        refine To.thenN ?_
        refine Wp.region hΓ [] [] [] [0, 1, 5] [] (K' := [(0, .recs (α := Int) 0 E_i64 v0), (1, .recs (α := Int) 0 E_i64 v1), (5, .val (.int .i64 (IntKind.wrap .i64 (v5 + 1))))]) (L' := []) (ob := []) (by kernel_rfl) AllP.nil ?_
        refine To.keep (kk := [0, 1, 5]) (kl := []) (K' := [(0, .recs (α := Int) 0 E_i64 v0), (1, .recs (α := Int) 0 E_i64 v1), (5, .val (.int .i64 (IntKind.wrap .i64 (v5 + 1))))]) (L' := []) (by kernel_rfl) (by kernel_rfl) ?_
        refine To.again ?_
        exact ih (IntKind.wrap .i64 (v5 + 1)) _ h hQ
    · replace h := if_f hb h
      refine Wp.exit ?_
      refine To.thenX ?_
      refine To.thenX ?_
      refine To.keep (kk := []) (kl := []) (K' := []) (L' := []) (by kernel_rfl) (by kernel_rfl) ?_
      cases h
      exact hQ
def law05_same (n : Nat) (a0 : List (Int)) (a1 : List (Int)) : Option (Bool) :=
  if ((List.length a0 : Int) != (List.length a1 : Int)) = true then some false
  else ((law05_same_l1 n a0 a1 n 0).bind fun o1 =>
  (Sum.elim (fun o1 => some true) (fun o1 => some o1)) o1)
theorem ok_law05_same (n : Nat) (a0 : List (Int)) (a1 : List (Int)) (r : Bool) (h : law05_same n a0 a1 = some r) : CallsX Try.prog 7 [.recs (α := Int) 0 E_i64 a0, .recs (α := Int) 0 E_i64 a1] (.val (.bool r)) := by
  unfold law05_same at h
  refine callsX_of (fn := Try.f7) (by kernel_rfl) rfl (by kernel_rfl) (Nat.le_of_ble_eq_true (by kernel_rfl)) fun F0 w0 _ => ?_
  refine Wp.keep (kk := [0, 1]) (kl := []) (K' := [(0, .recs (α := Int) 0 E_i64 a0), (1, .recs (α := Int) 0 E_i64 a1)]) (L' := []) (by kernel_rfl) (by kernel_rfl) ?_
  refine Wp.seq ?_
  refine Wp.region hΓ [] [] [] [0, 1] [] (K' := [(0, .recs (α := Int) 0 E_i64 a0), (1, .recs (α := Int) 0 E_i64 a1)]) (L' := []) (ob := []) (by kernel_rfl) AllP.nil ?_
  refine To.thenN ?_
  refine Wp.seq ?_
  refine Wp.seq ?_
  refine Wp.region hΓ [] [] [] [0, 1, 10] [] (K' := [(0, .recs (α := Int) 0 E_i64 a0), (1, .recs (α := Int) 0 E_i64 a1), (10, .val (.bool ((List.length a0 : Int) != (List.length a1 : Int))))]) (L' := []) (ob := []) (by kernel_rfl) AllP.nil ?_
  refine To.thenN ?_
  refine Wp.cond (b := ((List.length a0 : Int) != (List.length a1 : Int))) (by kernel_rfl) (fun hb => ?_) (fun hb => ?_)
  · replace h := if_t hb h
    refine Wp.seq ?_
    refine Wp.region hΓ [] [] [] [4] [] (K' := [(4, .val (.bool false))]) (L' := []) (ob := []) (by kernel_rfl) AllP.nil ?_
    refine To.thenN ?_
    refine Wp.ret ?_
    refine To.thenR ?_
    refine To.keep (kk := [4]) (kl := []) (K' := [(4, .val (.bool false))]) (L' := []) (by kernel_rfl) (by kernel_rfl) ?_
    cases h
    exact To.done hΓ (by kernel_rfl)
  · replace h := if_f hb h
    refine Wp.skip ?_
    refine To.thenN ?_
    refine Wp.seq ?_
    refine Wp.seq ?_
    refine Wp.region hΓ [] [] [] [0, 1, 5] [] (K' := [(0, .recs (α := Int) 0 E_i64 a0), (1, .recs (α := Int) 0 E_i64 a1), (5, .val (.int .i64 0))]) (L' := []) (ob := []) (by kernel_rfl) AllP.nil ?_
    refine To.thenN ?_
    refine Wp.block ?_
    obtain ⟨o1, ho1, h⟩ := bind_of h
    refine Wp.keep (kk := [0, 1, 5]) (kl := []) (K' := [(0, .recs (α := Int) 0 E_i64 a0), (1, .recs (α := Int) 0 E_i64 a1), (5, .val (.int .i64 0))]) (L' := []) (by kernel_rfl) (by kernel_rfl) ?_
    refine Wp.loopL ?_
    refine ok_law05_same_l1 n a0 a1 n 0 o1 ho1 ?_
    rcases o1 with o1 | o1
    · replace h := sum_l h
      refine To.blockX ?_
      refine To.thenN ?_
      refine Wp.seq ?_
      refine Wp.region hΓ [] [] [] [4] [] (K' := [(4, .val (.bool true))]) (L' := []) (ob := []) (by kernel_rfl) AllP.nil ?_
      refine To.thenN ?_
      refine Wp.ret ?_
      refine To.keep (kk := [4]) (kl := []) (K' := [(4, .val (.bool true))]) (L' := []) (by kernel_rfl) (by kernel_rfl) ?_
      cases h
      exact To.done hΓ (by kernel_rfl)
    · replace h := sum_r h
      refine To.blockR ?_
      refine To.thenR ?_
      refine To.keep (kk := [4]) (kl := []) (K' := [(4, .val (.bool o1))]) (L' := []) (by kernel_rfl) (by kernel_rfl) ?_
      cases h
      exact To.done hΓ (by kernel_rfl)
def math_bits_Mul64 (n : Nat) (a0 : Int) (a1 : Int) : Option (Int × Int) :=
  if (decide (0 ≤ (32 : Int))) = true then (if (decide (0 ≤ (32 : Int))) = true then (lett ((IntKind.wrap .u64 ((IntKind.wrap .u64 ((BitVec.ofInt (IntKind.bits .u64) a0 &&& BitVec.ofInt (IntKind.bits .u64) 4294967295).toNat)) * (IntKind.wrap .u64 ((BitVec.ofInt (IntKind.bits .u64) a1 &&& BitVec.ofInt (IntKind.bits .u64) 4294967295).toNat)))) : Int) fun x1 =>
  if (decide (0 ≤ (32 : Int))) = true then (lett ((IntKind.wrap .u64 ((IntKind.wrap .u64 ((Int.fdiv a0 (2 ^ (min (Int.toNat 32) (IntKind.bits .u64)))) * (IntKind.wrap .u64 ((BitVec.ofInt (IntKind.bits .u64) a1 &&& BitVec.ofInt (IntKind.bits .u64) 4294967295).toNat)))) + (Int.fdiv x1 (2 ^ (min (Int.toNat 32) (IntKind.bits .u64)))))) : Int) fun x2 =>
  if (decide (0 ≤ (32 : Int))) = true then (lett ((IntKind.wrap .u64 ((IntKind.wrap .u64 ((BitVec.ofInt (IntKind.bits .u64) x2 &&& BitVec.ofInt (IntKind.bits .u64) 4294967295).toNat)) + (IntKind.wrap .u64 ((IntKind.wrap .u64 ((BitVec.ofInt (IntKind.bits .u64) a0 &&& BitVec.ofInt (IntKind.bits .u64) 4294967295).toNat)) * (Int.fdiv a1 (2 ^ (min (Int.toNat 32) (IntKind.bits .u64)))))))) : Int) fun x3 =>
  if (decide (0 ≤ (32 : Int))) = true then (lett ((IntKind.wrap .u64 ((IntKind.wrap .u64 ((IntKind.wrap .u64 ((Int.fdiv a0 (2 ^ (min (Int.toNat 32) (IntKind.bits .u64)))) * (Int.fdiv a1 (2 ^ (min (Int.toNat 32) (IntKind.bits .u64)))))) + (Int.fdiv x2 (2 ^ (min (Int.toNat 32) (IntKind.bits .u64)))))) + (Int.fdiv x3 (2 ^ (min (Int.toNat 32) (IntKind.bits .u64)))))) : Int) fun x4 =>
  some (x4, (IntKind.wrap .u64 (a0 * a1)))) else none) else none) else none) else none) else none
theorem ok_math_bits_Mul64 (n : Nat) (a0 : Int) (a1 : Int) (r : Int × Int) (h : math_bits_Mul64 n a0 a1 = some r) : CallsX Try.prog 31 [.val (.int .u64 a0), .val (.int .u64 a1)] (.tup [.val (.int .u64 r.1), .val (.int .u64 r.2)]) := by
  unfold math_bits_Mul64 at h
  refine callsX_of (fn := Try.f31) (by kernel_rfl) rfl (by kernel_rfl) (Nat.le_of_ble_eq_true (by kernel_rfl)) fun F0 w0 _ => ?_
  refine Wp.keep (kk := [0, 1]) (kl := []) (K' := [(0, .val (.int .u64 a0)), (1, .val (.int .u64 a1))]) (L' := []) (by kernel_rfl) (by kernel_rfl) ?_
  refine Wp.seq ?_
  refine Wp.region hΓ [] [] [] [0, 1] [] (K' := [(0, .val (.int .u64 a0)), (1, .val (.int .u64 a1))]) (L' := []) (ob := []) (by kernel_rfl) AllP.nil ?_
  refine To.thenN ?_
  refine Wp.seq ?_
  refine Wp.region hΓ [] [] [] [0, 1, 6] [] (K' := [(0, .val (.int .u64 a0)), (1, .val (.int .u64 a1)), (6, .val (.int .u64 (IntKind.wrap .u64 ((BitVec.ofInt (IntKind.bits .u64) a0 &&& BitVec.ofInt (IntKind.bits .u64) 4294967295).toNat))))]) (L' := []) (ob := []) (by kernel_rfl) AllP.nil ?_
  refine To.thenN ?_
  refine Wp.seq ?_
  obtain ⟨hc9, h⟩ := chk_of h
  refine Wp.region hΓ [] [] [] [0, 1, 6, 7] [] (K' := [(0, .val (.int .u64 a0)), (1, .val (.int .u64 a1)), (6, .val (.int .u64 (IntKind.wrap .u64 ((BitVec.ofInt (IntKind.bits .u64) a0 &&& BitVec.ofInt (IntKind.bits .u64) 4294967295).toNat)))), (7, .val (.int .u64 (Int.fdiv a0 (2 ^ (min (Int.toNat 32) (IntKind.bits .u64))))))]) (L' := []) (ob := [(decide (0 ≤ (32 : Int))) = true]) (by kernel_rfl) (AllP.cons hc9 AllP.nil) ?_
  refine To.thenN ?_
  refine Wp.seq ?_
  refine Wp.region hΓ [] [] [] [0, 1, 6, 7, 8] [] (K' := [(0, .val (.int .u64 a0)), (1, .val (.int .u64 a1)), (6, .val (.int .u64 (IntKind.wrap .u64 ((BitVec.ofInt (IntKind.bits .u64) a0 &&& BitVec.ofInt (IntKind.bits .u64) 4294967295).toNat)))), (7, .val (.int .u64 (Int.fdiv a0 (2 ^ (min (Int.toNat 32) (IntKind.bits .u64)))))), (8, .val (.int .u64 (IntKind.wrap .u64 ((BitVec.ofInt (IntKind.bits .u64) a1 &&& BitVec.ofInt (IntKind.bits .u64) 4294967295).toNat))))]) (L' := []) (ob := []) (by kernel_rfl) AllP.nil ?_
  refine To.thenN ?_
  refine Wp.seq ?_
  obtain ⟨hc8, h⟩ := chk_of h
  refine Wp.region hΓ [] [] [] [0, 1, 6, 7, 8, 9] [] (K' := [(0, .val (.int .u64 a0)), (1, .val (.int .u64 a1)), (6, .val (.int .u64 (IntKind.wrap .u64 ((BitVec.ofInt (IntKind.bits .u64) a0 &&& BitVec.ofInt (IntKind.bits .u64) 4294967295).toNat)))), (7, .val (.int .u64 (Int.fdiv a0 (2 ^ (min (Int.toNat 32) (IntKind.bits .u64)))))), (8, .val (.int .u64 (IntKind.wrap .u64 ((BitVec.ofInt (IntKind.bits .u64) a1 &&& BitVec.ofInt (IntKind.bits .u64) 4294967295).toNat)))), (9, .val (.int .u64 (Int.fdiv a1 (2 ^ (min (Int.toNat 32) (IntKind.bits .u64))))))]) (L' := []) (ob := [(decide (0 ≤ (32 : Int))) = true]) (by kernel_rfl) (AllP.cons hc8 AllP.nil) ?_
  refine To.thenN ?_
  refine Wp.seq ?_
  obtain ⟨x1, hx1, h⟩ := lett_of h
  refine Wp.region hΓ [] [] [] [0, 1, 6, 7, 8, 9, 10] [] (K' := [(0, .val (.int .u64 a0)), (1, .val (.int .u64 a1)), (6, .val (.int .u64 (IntKind.wrap .u64 ((BitVec.ofInt (IntKind.bits .u64) a0 &&& BitVec.ofInt (IntKind.bits .u64) 4294967295).toNat)))), (7, .val (.int .u64 (Int.fdiv a0 (2 ^ (min (Int.toNat 32) (IntKind.bits .u64)))))), (8, .val (.int .u64 (IntKind.wrap .u64 ((BitVec.ofInt (IntKind.bits .u64) a1 &&& BitVec.ofInt (IntKind.bits .u64) 4294967295).toNat)))), (9, .val (.int .u64 (Int.fdiv a1 (2 ^ (min (Int.toNat 32) (IntKind.bits .u64)))))), (10, .val (.int .u64 (IntKind.wrap .u64 ((IntKind.wrap .u64 ((BitVec.ofInt (IntKind.bits .u64) a0 &&& BitVec.ofInt (IntKind.bits .u64) 4294967295).toNat)) * (IntKind.wrap .u64 ((BitVec.ofInt (IntKind.bits .u64) a1 &&& BitVec.ofInt (IntKind.bits .u64) 4294967295).toNat))))))]) (L' := []) (ob := []) (by kernel_rfl) AllP.nil ?_
  refine To.eq (K' := [(0, .val (.int .u64 a0)), (1, .val (.int .u64 a1)), (6, .val (.int .u64 (IntKind.wrap .u64 ((BitVec.ofInt (IntKind.bits .u64) a0 &&& BitVec.ofInt (IntKind.bits .u64) 4294967295).toNat)))), (7, .val (.int .u64 (Int.fdiv a0 (2 ^ (min (Int.toNat 32) (IntKind.bits .u64)))))), (8, .val (.int .u64 (IntKind.wrap .u64 ((BitVec.ofInt (IntKind.bits .u64) a1 &&& BitVec.ofInt (IntKind.bits .u64) 4294967295).toNat)))), (9, .val (.int .u64 (Int.fdiv a1 (2 ^ (min (Int.toNat 32) (IntKind.bits .u64)))))), (10, .val (.int .u64 x1))]) (L' := []) (by cases hx1; rfl) (by cases hx1; rfl) ?_
  refine To.thenN ?_
  refine Wp.seq ?_
  obtain ⟨hc7, h⟩ := chk_of h
  obtain ⟨x2, hx2, h⟩ := lett_of h
  refine Wp.region hΓ [] [] [] [0, 1, 6, 7, 9, 11] [] (K' := [(0, .val (.int .u64 a0)), (1, .val (.int .u64 a1)), (6, .val (.int .u64 (IntKind.wrap .u64 ((BitVec.ofInt (IntKind.bits .u64) a0 &&& BitVec.ofInt (IntKind.bits .u64) 4294967295).toNat)))), (7, .val (.int .u64 (Int.fdiv a0 (2 ^ (min (Int.toNat 32) (IntKind.bits .u64)))))), (9, .val (.int .u64 (Int.fdiv a1 (2 ^ (min (Int.toNat 32) (IntKind.bits .u64)))))), (11, .val (.int .u64 (IntKind.wrap .u64 ((IntKind.wrap .u64 ((Int.fdiv a0 (2 ^ (min (Int.toNat 32) (IntKind.bits .u64)))) * (IntKind.wrap .u64 ((BitVec.ofInt (IntKind.bits .u64) a1 &&& BitVec.ofInt (IntKind.bits .u64) 4294967295).toNat)))) + (Int.fdiv x1 (2 ^ (min (Int.toNat 32) (IntKind.bits .u64))))))))]) (L' := []) (ob := [(decide (0 ≤ (32 : Int))) = true]) (by kernel_rfl) (AllP.cons hc7 AllP.nil) ?_
  refine To.eq (K' := [(0, .val (.int .u64 a0)), (1, .val (.int .u64 a1)), (6, .val (.int .u64 (IntKind.wrap .u64 ((BitVec.ofInt (IntKind.bits .u64) a0 &&& BitVec.ofInt (IntKind.bits .u64) 4294967295).toNat)))), (7, .val (.int .u64 (Int.fdiv a0 (2 ^ (min (Int.toNat 32) (IntKind.bits .u64)))))), (9, .val (.int .u64 (Int.fdiv a1 (2 ^ (min (Int.toNat 32) (IntKind.bits .u64)))))), (11, .val (.int .u64 x2))]) (L' := []) (by cases hx2; rfl) (by cases hx2; rfl) ?_
  refine To.thenN ?_
  refine Wp.seq ?_
  refine Wp.region hΓ [] [] [] [0, 1, 6, 7, 9, 11, 12] [] (K' := [(0, .val (.int .u64 a0)), (1, .val (.int .u64 a1)), (6, .val (.int .u64 (IntKind.wrap .u64 ((BitVec.ofInt (IntKind.bits .u64) a0 &&& BitVec.ofInt (IntKind.bits .u64) 4294967295).toNat)))), (7, .val (.int .u64 (Int.fdiv a0 (2 ^ (min (Int.toNat 32) (IntKind.bits .u64)))))), (9, .val (.int .u64 (Int.fdiv a1 (2 ^ (min (Int.toNat 32) (IntKind.bits .u64)))))), (11, .val (.int .u64 x2)), (12, .val (.int .u64 (IntKind.wrap .u64 ((BitVec.ofInt (IntKind.bits .u64) x2 &&& BitVec.ofInt (IntKind.bits .u64) 4294967295).toNat))))]) (L' := []) (ob := []) (by kernel_rfl) AllP.nil ?_
  refine To.thenN ?_
  refine Wp.seq ?_
  obtain ⟨hc6, h⟩ := chk_of h
  refine Wp.region hΓ [] [] [] [0, 1, 6, 7, 9, 12, 13] [] (K' := [(0, .val (.int .u64 a0)), (1, .val (.int .u64 a1)), (6, .val (.int .u64 (IntKind.wrap .u64 ((BitVec.ofInt (IntKind.bits .u64) a0 &&& BitVec.ofInt (IntKind.bits .u64) 4294967295).toNat)))), (7, .val (.int .u64 (Int.fdiv a0 (2 ^ (min (Int.toNat 32) (IntKind.bits .u64)))))), (9, .val (.int .u64 (Int.fdiv a1 (2 ^ (min (Int.toNat 32) (IntKind.bits .u64)))))), (12, .val (.int .u64 (IntKind.wrap .u64 ((BitVec.ofInt (IntKind.bits .u64) x2 &&& BitVec.ofInt (IntKind.bits .u64) 4294967295).toNat)))), (13, .val (.int .u64 (Int.fdiv x2 (2 ^ (min (Int.toNat 32) (IntKind.bits .u64))))))]) (L' := []) (ob := [(decide (0 ≤ (32 : Int))) = true]) (by kernel_rfl) (AllP.cons hc6 AllP.nil) ?_
  refine To.thenN ?_
  refine Wp.seq ?_
  obtain ⟨x3, hx3, h⟩ := lett_of h
  refine Wp.region hΓ [] [] [] [0, 1, 7, 9, 12, 13] [] (K' := [(0, .val (.int .u64 a0)), (1, .val (.int .u64 a1)), (7, .val (.int .u64 (Int.fdiv a0 (2 ^ (min (Int.toNat 32) (IntKind.bits .u64)))))), (9, .val (.int .u64 (Int.fdiv a1 (2 ^ (min (Int.toNat 32) (IntKind.bits .u64)))))), (12, .val (.int .u64 (IntKind.wrap .u64 ((IntKind.wrap .u64 ((BitVec.ofInt (IntKind.bits .u64) x2 &&& BitVec.ofInt (IntKind.bits .u64) 4294967295).toNat)) + (IntKind.wrap .u64 ((IntKind.wrap .u64 ((BitVec.ofInt (IntKind.bits .u64) a0 &&& BitVec.ofInt (IntKind.bits .u64) 4294967295).toNat)) * (Int.fdiv a1 (2 ^ (min (Int.toNat 32) (IntKind.bits .u64)))))))))), (13, .val (.int .u64 (Int.fdiv x2 (2 ^ (min (Int.toNat 32) (IntKind.bits .u64))))))]) (L' := []) (ob := []) (by kernel_rfl) AllP.nil ?_
  refine To.eq (K' := [(0, .val (.int .u64 a0)), (1, .val (.int .u64 a1)), (7, .val (.int .u64 (Int.fdiv a0 (2 ^ (min (Int.toNat 32) (IntKind.bits .u64)))))), (9, .val (.int .u64 (Int.fdiv a1 (2 ^ (min (Int.toNat 32) (IntKind.bits .u64)))))), (12, .val (.int .u64 x3)), (13, .val (.int .u64 (Int.fdiv x2 (2 ^ (min (Int.toNat 32) (IntKind.bits .u64))))))]) (L' := []) (by cases hx3; rfl) (by cases hx3; rfl) ?_
  refine To.thenN ?_
  refine Wp.seq ?_
  obtain ⟨hc5, h⟩ := chk_of h
  obtain ⟨x4, hx4, h⟩ := lett_of h
  refine Wp.region hΓ [] [] [] [0, 1, 4] [] (K' := [(0, .val (.int .u64 a0)), (1, .val (.int .u64 a1)), (4, .val (.int .u64 (IntKind.wrap .u64 ((IntKind.wrap .u64 ((IntKind.wrap .u64 ((Int.fdiv a0 (2 ^ (min (Int.toNat 32) (IntKind.bits .u64)))) * (Int.fdiv a1 (2 ^ (min (Int.toNat 32) (IntKind.bits .u64)))))) + (Int.fdiv x2 (2 ^ (min (Int.toNat 32) (IntKind.bits .u64)))))) + (Int.fdiv x3 (2 ^ (min (Int.toNat 32) (IntKind.bits .u64))))))))]) (L' := []) (ob := [(decide (0 ≤ (32 : Int))) = true]) (by kernel_rfl) (AllP.cons hc5 AllP.nil) ?_
  refine To.eq (K' := [(0, .val (.int .u64 a0)), (1, .val (.int .u64 a1)), (4, .val (.int .u64 x4))]) (L' := []) (by cases hx4; rfl) (by cases hx4; rfl) ?_
  refine To.thenN ?_
  refine Wp.seq ?_
  refine Wp.region hΓ [] [] [] [4, 5] [] (K' := [(4, .val (.int .u64 x4)), (5, .val (.int .u64 (IntKind.wrap .u64 (a0 * a1))))]) (L' := []) (ob := []) (by kernel_rfl) AllP.nil ?_
  refine To.thenN ?_
  refine Wp.ret ?_
  refine To.keep (kk := [4, 5]) (kl := []) (K' := [(4, .val (.int .u64 x4)), (5, .val (.int .u64 (IntKind.wrap .u64 (a0 * a1))))]) (L' := []) (by kernel_rfl) (by kernel_rfl) ?_
  cases h
  exact To.done hΓ (by kernel_rfl)
def sha_above (n : Nat) (a0 : Int) (a1 : Int) (a2 : Int) : Option (Bool) :=
  (math_bits_Mul64 n a0 a0).bind fun r1 =>
  if (a2 == 2) = true then (lett ((bif (decide (r1.1 > (IntKind.wrap .u64 (a1)))) then true else (bif (r1.1 == (IntKind.wrap .u64 (a1))) then (decide (r1.2 > 0)) else false)) : Bool) fun x2 =>
  some x2)
  else ((math_bits_Mul64 n r1.2 a0).bind fun r3 =>
  if (decide (0 ≤ (32 : Int))) = true then (lett ((bif (decide ((IntKind.wrap .u64 (r3.1 + (IntKind.wrap .u64 (r1.1 * a0)))) > (IntKind.wrap .u64 ((IntKind.wrap .u64 (a1)) * 2 ^ (min (Int.toNat 32) (IntKind.bits .u64)))))) then true else (bif ((IntKind.wrap .u64 (r3.1 + (IntKind.wrap .u64 (r1.1 * a0)))) == (IntKind.wrap .u64 ((IntKind.wrap .u64 (a1)) * 2 ^ (min (Int.toNat 32) (IntKind.bits .u64))))) then (decide (r3.2 > 0)) else false)) : Bool) fun x4 =>
  some x4) else none)
theorem ok_sha_above (n : Nat) (a0 : Int) (a1 : Int) (a2 : Int) (r : Bool) (h : sha_above n a0 a1 a2 = some r) : CallsX Try.prog 22 [.val (.int .u64 a0), .val (.int .i64 a1), .val (.int .i64 a2)] (.val (.bool r)) := by
  unfold sha_above at h
  refine callsX_of (fn := Try.f22) (by kernel_rfl) rfl (by kernel_rfl) (Nat.le_of_ble_eq_true (by kernel_rfl)) fun F0 w0 _ => ?_
  refine Wp.keep (kk := [0, 1, 2]) (kl := []) (K' := [(0, .val (.int .u64 a0)), (1, .val (.int .i64 a1)), (2, .val (.int .i64 a2))]) (L' := []) (by kernel_rfl) (by kernel_rfl) ?_
  refine Wp.seq ?_
  refine Wp.region hΓ [] [] [] [0, 1, 2] [] (K' := [(0, .val (.int .u64 a0)), (1, .val (.int .i64 a1)), (2, .val (.int .i64 a2))]) (L' := []) (ob := []) (by kernel_rfl) AllP.nil ?_
  refine To.thenN ?_
  refine Wp.seq ?_
  obtain ⟨r1, hr1, h⟩ := bind_of h
  refine Wp.region hΓ [] [(2, .tup [.val (.int .u64 r1.1), .val (.int .u64 r1.2)])] [] [0, 1, 2, 7, 8] [] (K' := [(0, .val (.int .u64 a0)), (1, .val (.int .i64 a1)), (2, .val (.int .i64 a2)), (7, .val (.int .u64 r1.1)), (8, .val (.int .u64 r1.2))]) (L' := []) (ob := [(true = true → CX Try.prog 31 [.val (.int .u64 a0), .val (.int .u64 a0)] (.tup [.val (.int .u64 r1.1), .val (.int .u64 r1.2)]))]) (by kernel_rfl) (AllP.cons (fun _ => cx (ok_math_bits_Mul64 n a0 a0 _ hr1)) AllP.nil) ?_
  refine To.thenN ?_
  refine Wp.seq ?_
  refine Wp.seq ?_
  refine Wp.region hΓ [] [] [] [0, 1, 7, 8, 19] [] (K' := [(0, .val (.int .u64 a0)), (1, .val (.int .i64 a1)), (7, .val (.int .u64 r1.1)), (8, .val (.int .u64 r1.2)), (19, .val (.bool (a2 == 2)))]) (L' := []) (ob := []) (by kernel_rfl) AllP.nil ?_
  refine To.thenN ?_
  refine Wp.cond (b := (a2 == 2)) (by kernel_rfl) (fun hb => ?_) (fun hb => ?_)
  · replace h := if_t hb h
    refine Wp.seq ?_
    obtain ⟨x2, hx2, h⟩ := lett_of h
    refine Wp.region hΓ [] [] [] [6] [] (K' := [(6, .val (.bool (bif (decide (r1.1 > (IntKind.wrap .u64 (a1)))) then true else (bif (r1.1 == (IntKind.wrap .u64 (a1))) then (decide (r1.2 > 0)) else false))))]) (L' := []) (ob := []) (by kernel_rfl) AllP.nil ?_
    refine To.eq (K' := [(6, .val (.bool x2))]) (L' := []) (by cases hx2; rfl) (by cases hx2; rfl) ?_
    refine To.thenN ?_
    refine Wp.ret ?_
    refine To.thenR ?_
    refine To.keep (kk := [6]) (kl := []) (K' := [(6, .val (.bool x2))]) (L' := []) (by kernel_rfl) (by kernel_rfl) ?_
    cases h
    exact To.done hΓ (by kernel_rfl)
  · replace h := if_f hb h
    refine Wp.skip ?_
    refine To.thenN ?_
    refine Wp.seq ?_
    obtain ⟨r3, hr3, h⟩ := bind_of h
    refine Wp.region hΓ [] [(2, .tup [.val (.int .u64 r3.1), .val (.int .u64 r3.2)])] [] [0, 1, 7, 9, 10] [] (K' := [(0, .val (.int .u64 a0)), (1, .val (.int .i64 a1)), (7, .val (.int .u64 r1.1)), (9, .val (.int .u64 r3.1)), (10, .val (.int .u64 r3.2))]) (L' := []) (ob := [(true = true → CX Try.prog 31 [.val (.int .u64 r1.2), .val (.int .u64 a0)] (.tup [.val (.int .u64 r3.1), .val (.int .u64 r3.2)]))]) (by kernel_rfl) (AllP.cons (fun _ => cx (ok_math_bits_Mul64 n r1.2 a0 _ hr3)) AllP.nil) ?_
    refine To.thenN ?_
    refine Wp.seq ?_
    refine Wp.region hΓ [] [] [] [1, 9, 10] [] (K' := [(1, .val (.int .i64 a1)), (9, .val (.int .u64 (IntKind.wrap .u64 (r3.1 + (IntKind.wrap .u64 (r1.1 * a0)))))), (10, .val (.int .u64 r3.2))]) (L' := []) (ob := []) (by kernel_rfl) AllP.nil ?_
    refine To.thenN ?_
    refine Wp.seq ?_
    obtain ⟨hc5, h⟩ := chk_of h
    refine Wp.region hΓ [] [] [] [9, 10, 11] [] (K' := [(9, .val (.int .u64 (IntKind.wrap .u64 (r3.1 + (IntKind.wrap .u64 (r1.1 * a0)))))), (10, .val (.int .u64 r3.2)), (11, .val (.int .u64 (IntKind.wrap .u64 ((IntKind.wrap .u64 (a1)) * 2 ^ (min (Int.toNat 32) (IntKind.bits .u64))))))]) (L' := []) (ob := [(decide (0 ≤ (32 : Int))) = true]) (by kernel_rfl) (AllP.cons hc5 AllP.nil) ?_
    refine To.thenN ?_
    refine Wp.seq ?_
    obtain ⟨x4, hx4, h⟩ := lett_of h
    refine Wp.region hΓ [] [] [] [6] [] (K' := [(6, .val (.bool (bif (decide ((IntKind.wrap .u64 (r3.1 + (IntKind.wrap .u64 (r1.1 * a0)))) > (IntKind.wrap .u64 ((IntKind.wrap .u64 (a1)) * 2 ^ (min (Int.toNat 32) (IntKind.bits .u64)))))) then true else (bif ((IntKind.wrap .u64 (r3.1 + (IntKind.wrap .u64 (r1.1 * a0)))) == (IntKind.wrap .u64 ((IntKind.wrap .u64 (a1)) * 2 ^ (min (Int.toNat 32) (IntKind.bits .u64))))) then (decide (r3.2 > 0)) else false))))]) (L' := []) (ob := []) (by kernel_rfl) AllP.nil ?_
    refine To.eq (K' := [(6, .val (.bool x4))]) (L' := []) (by cases hx4; rfl) (by cases hx4; rfl) ?_
    refine To.thenN ?_
    refine Wp.ret ?_
    refine To.keep (kk := [6]) (kl := []) (K' := [(6, .val (.bool x4))]) (L' := []) (by kernel_rfl) (by kernel_rfl) ?_
    cases h
    exact To.done hΓ (by kernel_rfl)
def sha_Root_l1 (n : Nat) (v0 : Int) (v1 : Int) : Nat → Int → Int → Option (Int)
  | 0, _, _ => none
  | k + 1, v5, v6 => if (decide ((IntKind.wrap .u64 (v6 - v5)) > 1)) = true then (if ((2 != 0)) = true then ((sha_above n (IntKind.wrap .u64 (v5 + (IntKind.wrap .u64 (Int.tdiv (IntKind.wrap .u64 (v6 - v5)) 2)))) v0 v1).bind fun r2 =>
  if r2 = true then (sha_Root_l1 n v0 v1 k v5 (IntKind.wrap .u64 (v5 + (IntKind.wrap .u64 (Int.tdiv (IntKind.wrap .u64 (v6 - v5)) 2)))))
  else (sha_Root_l1 n v0 v1 k (IntKind.wrap .u64 (v5 + (IntKind.wrap .u64 (Int.tdiv (IntKind.wrap .u64 (v6 - v5)) 2)))) v6)) else none)
  else some v5
theorem ok_sha_Root_l1 (n : Nat) (v0 : Int) (v1 : Int) {F0 : Fz} {w0 : Pt Try.prog} {Q : Exit → Act → World → Prop} (k : Nat) : ∀ (v5 : Int) (v6 : Int) (o : Int), sha_Root_l1 n v0 v1 k v5 v6 = some o → To 40 F0 w0 [(5, .val (.int .u64 o))] [] (.exit 0) Q → WL Try.prog 40 F0 w0 [(0, .val (.int .i64 v0)), (1, .val (.int .i64 v1)), (5, .val (.int .u64 v5)), (6, .val (.int .u64 v6))] [] (cI (cI (cA (cB (cB (cB (cF Try.f10))))))) Q := by
  induction k with
  | zero => intro v5 v6 o h; cases h
  | succ k ih =>
    intro v5 v6 o h hQ
    rw [sha_Root_l1] at h
    refine WL.round ?_
    refine Wp.seq ?_
    refine Wp.seq ?_
    refine Wp.region hΓ [] [] [] [0, 1, 5, 6, 25] [] (K' := [(0, .val (.int .i64 v0)), (1, .val (.int .i64 v1)), (5, .val (.int .u64 v5)), (6, .val (.int .u64 v6)), (25, .val (.bool (decide ((IntKind.wrap .u64 (v6 - v5)) > 1))))]) (L' := []) (ob := []) (by kernel_rfl) AllP.nil ?_
    refine To.thenN ?_
    refine Wp.cond (b := (decide ((IntKind.wrap .u64 (v6 - v5)) > 1))) (by kernel_rfl) (fun hb => ?_) (fun hb => ?_)
    · replace h := if_t hb h
      refine Wp.skip ?_
      refine To.thenN ?_
      refine Wp.block ?_
      refine Wp.seq ?_
      obtain ⟨hc3, h⟩ := chk_of h
      refine Wp.region hΓ [] [] [] [0, 1, 5, 6, 7] [] (K' := [(0, .val (.int .i64 v0)), (1, .val (.int .i64 v1)), (5, .val (.int .u64 v5)), (6, .val (.int .u64 v6)), (7, .val (.int .u64 (IntKind.wrap .u64 (v5 + (IntKind.wrap .u64 (Int.tdiv (IntKind.wrap .u64 (v6 - v5)) 2))))))]) (L' := []) (ob := [((2 != 0)) = true]) (by kernel_rfl) (AllP.cons hc3 AllP.nil) ?_
      refine To.thenN ?_
      refine Wp.seq ?_
      obtain ⟨r2, hr2, h⟩ := bind_of h
      refine Wp.region hΓ [] [(3, .val (.bool r2))] [] [0, 1, 5, 6, 7, 35] [] (K' := [(0, .val (.int .i64 v0)), (1, .val (.int .i64 v1)), (5, .val (.int .u64 v5)), (6, .val (.int .u64 v6)), (7, .val (.int .u64 (IntKind.wrap .u64 (v5 + (IntKind.wrap .u64 (Int.tdiv (IntKind.wrap .u64 (v6 - v5)) 2)))))), (35, .val (.bool r2))]) (L' := []) (ob := [(true = true → CX Try.prog 22 [.val (.int .u64 (IntKind.wrap .u64 (v5 + (IntKind.wrap .u64 (Int.tdiv (IntKind.wrap .u64 (v6 - v5)) 2))))), .val (.int .i64 v0), .val (.int .i64 v1)] (.val (.bool r2)))]) (by kernel_rfl) (AllP.cons (fun _ => cx (ok_sha_above n (IntKind.wrap .u64 (v5 + (IntKind.wrap .u64 (Int.tdiv (IntKind.wrap .u64 (v6 - v5)) 2)))) v0 v1 _ hr2)) AllP.nil) ?_
      refine To.thenN ?_
      refine Wp.cond (b := r2) (by kernel_rfl) (fun hb => ?_) (fun hb => ?_)
      · replace h := if_t hb h
        refine Wp.region hΓ [] [] [] [0, 1, 5, 6] [] (K' := [(0, .val (.int .i64 v0)), (1, .val (.int .i64 v1)), (5, .val (.int .u64 v5)), (6, .val (.int .u64 (IntKind.wrap .u64 (v5 + (IntKind.wrap .u64 (Int.tdiv (IntKind.wrap .u64 (v6 - v5)) 2))))))]) (L' := []) (ob := []) (by kernel_rfl) AllP.nil ?_
        refine To.blockN ?_
        refine To.keep (kk := [0, 1, 5, 6]) (kl := []) (K' := [(0, .val (.int .i64 v0)), (1, .val (.int .i64 v1)), (5, .val (.int .u64 v5)), (6, .val (.int .u64 (IntKind.wrap .u64 (v5 + (IntKind.wrap .u64 (Int.tdiv (IntKind.wrap .u64 (v6 - v5)) 2))))))]) (L' := []) (by kernel_rfl) (by kernel_rfl) ?_
        refine To.again ?_
        exact ih v5 (IntKind.wrap .u64 (v5 + (IntKind.wrap .u64 (Int.tdiv (IntKind.wrap .u64 (v6 - v5)) 2)))) _ h hQ
      · replace h := if_f hb h
        refine Wp.region hΓ [] [] [] [0, 1, 5, 6] [] (K' := [(0, .val (.int .i64 v0)), (1, .val (.int .i64 v1)), (5, .val (.int .u64 (IntKind.wrap .u64 (v5 + (IntKind.wrap .u64 (Int.tdiv (IntKind.wrap .u64 (v6 - v5)) 2)))))), (6, .val (.int .u64 v6))]) (L' := []) (ob := []) (by kernel_rfl) AllP.nil ?_
        refine To.blockN ?_
        refine To.keep (kk := [0, 1, 5, 6]) (kl := []) (K' := [(0, .val (.int .i64 v0)), (1, .val (.int .i64 v1)), (5, .val (.int .u64 (IntKind.wrap .u64 (v5 + (IntKind.wrap .u64 (Int.tdiv (IntKind.wrap .u64 (v6 - v5)) 2)))))), (6, .val (.int .u64 v6))]) (L' := []) (by kernel_rfl) (by kernel_rfl) ?_
        refine To.again ?_
        exact ih (IntKind.wrap .u64 (v5 + (IntKind.wrap .u64 (Int.tdiv (IntKind.wrap .u64 (v6 - v5)) 2)))) v6 _ h hQ
    · replace h := if_f hb h
      refine Wp.exit ?_
      refine To.thenX ?_
      refine To.thenX ?_
      refine To.keep (kk := [5]) (kl := []) (K' := [(5, .val (.int .u64 v5))]) (L' := []) (by kernel_rfl) (by kernel_rfl) ?_
      cases h
      exact hQ
def sha_Root (n : Nat) (a0 : Int) (a1 : Int) : Option (Int) :=
  lett ((bif (bif (decide (a0 < 1)) then true else (decide (a0 > 1000))) then true else (bif (a1 != 2) then (a1 != 3) else false)) : Bool) fun x1 =>
  if x1 = true then some 0
  else ((sha_Root_l1 n a0 a1 n 0 274877906944).bind fun o2 =>
  some (IntKind.wrap .u32 (o2)))
theorem ok_sha_Root (n : Nat) (a0 : Int) (a1 : Int) (r : Int) (h : sha_Root n a0 a1 = some r) : CallsX Try.prog 10 [.val (.int .i64 a0), .val (.int .i64 a1)] (.val (.int .u32 r)) := by
  unfold sha_Root at h
  refine callsX_of (fn := Try.f10) (by kernel_rfl) rfl (by kernel_rfl) (Nat.le_of_ble_eq_true (by kernel_rfl)) fun F0 w0 _ => ?_
  refine Wp.keep (kk := [0, 1]) (kl := []) (K' := [(0, .val (.int .i64 a0)), (1, .val (.int .i64 a1))]) (L' := []) (by kernel_rfl) (by kernel_rfl) ?_
  refine Wp.seq ?_
  refine Wp.region hΓ [] [] [] [0, 1] [] (K' := [(0, .val (.int .i64 a0)), (1, .val (.int .i64 a1))]) (L' := []) (ob := []) (by kernel_rfl) AllP.nil ?_
  refine To.thenN ?_
  refine Wp.seq ?_
  refine Wp.seq ?_
  obtain ⟨x1, hx1, h⟩ := lett_of h
  refine Wp.region hΓ [] [] [] [0, 1, 21] [] (K' := [(0, .val (.int .i64 a0)), (1, .val (.int .i64 a1)), (21, .val (.bool (bif (bif (decide (a0 < 1)) then true else (decide (a0 > 1000))) then true else (bif (a1 != 2) then (a1 != 3) else false))))]) (L' := []) (ob := []) (by kernel_rfl) AllP.nil ?_
  refine To.eq (K' := [(0, .val (.int .i64 a0)), (1, .val (.int .i64 a1)), (21, .val (.bool x1))]) (L' := []) (by cases hx1; rfl) (by cases hx1; rfl) ?_
  refine To.thenN ?_
  refine Wp.cond (b := x1) (by kernel_rfl) (fun hb => ?_) (fun hb => ?_)
  · replace h := if_t hb h
    refine Wp.seq ?_
    refine Wp.region hΓ [] [] [] [4] [] (K' := [(4, .val (.int .u32 0))]) (L' := []) (ob := []) (by kernel_rfl) AllP.nil ?_
    refine To.thenN ?_
    refine Wp.ret ?_
    refine To.thenR ?_
    refine To.keep (kk := [4]) (kl := []) (K' := [(4, .val (.int .u32 0))]) (L' := []) (by kernel_rfl) (by kernel_rfl) ?_
    cases h
    exact To.done hΓ (by kernel_rfl)
  · replace h := if_f hb h
    refine Wp.skip ?_
    refine To.thenN ?_
    refine Wp.seq ?_
    refine Wp.region hΓ [] [] [] [0, 1, 5, 6] [] (K' := [(0, .val (.int .i64 a0)), (1, .val (.int .i64 a1)), (5, .val (.int .u64 0)), (6, .val (.int .u64 274877906944))]) (L' := []) (ob := []) (by kernel_rfl) AllP.nil ?_
    refine To.thenN ?_
    refine Wp.seq ?_
    refine Wp.block ?_
    obtain ⟨o2, ho2, h⟩ := bind_of h
    refine Wp.keep (kk := [0, 1, 5, 6]) (kl := []) (K' := [(0, .val (.int .i64 a0)), (1, .val (.int .i64 a1)), (5, .val (.int .u64 0)), (6, .val (.int .u64 274877906944))]) (L' := []) (by kernel_rfl) (by kernel_rfl) ?_
    refine Wp.loopL ?_
    refine ok_sha_Root_l1 n a0 a1 n 0 274877906944 o2 ho2 ?_
    refine To.blockX ?_
    refine To.thenN ?_
    refine Wp.seq ?_
    refine Wp.region hΓ [] [] [] [4] [] (K' := [(4, .val (.int .u32 (IntKind.wrap .u32 (o2))))]) (L' := []) (ob := []) (by kernel_rfl) AllP.nil ?_
    refine To.thenN ?_
    refine Wp.ret ?_
    refine To.keep (kk := [4]) (kl := []) (K' := [(4, .val (.int .u32 (IntKind.wrap .u32 (o2))))]) (L' := []) (by kernel_rfl) (by kernel_rfl) ?_
    cases h
    exact To.done hΓ (by kernel_rfl)
def E_u64 : Int → List D := fun x => [.val (.int .u64 x)]
theorem good_E_u64 (l : List (Int)) : GoodR (.recs 0 E_u64 l) := ⟨Nat.le_of_ble_eq_true (by kernel_rfl), fun _ => ⟨rfl, rfl⟩⟩
def ref05_times_l1 (n : Nat) (v1 : Int) (b2 : List (Int)) (b4 : List (Int)) : Nat → Int → Int → (List (Int)) → Option ((List (Int)))
  | 0, _, _, _ => none
  | k + 1, v6, v7, b5 => if (decide (v7 < 5)) = true then (if (decide (0 ≤ v7 ∧ v7 < (5 : Int))) = true then (if (decide (0 ≤ v7 ∧ v7 < (List.length b2 : Int))) = true then (if ((16777216 != 0)) = true then (if (decide (0 ≤ v7 ∧ v7 < (5 : Int))) = true then (if (decide (0 ≤ v7 ∧ v7 < (List.length b5 : Int))) = true then (lett ((List.set b5 (Int.toNat v7) (Int.tmod (IntKind.wrap .u64 ((IntKind.wrap .u64 (((b2)[Int.toNat v7]?.getD 0) * v1)) + v6)) 16777216)) : List (Int)) fun x2 =>
  if ((16777216 != 0)) = true then (lett ((IntKind.wrap .u64 (Int.tdiv (IntKind.wrap .u64 ((IntKind.wrap .u64 (((b2)[Int.toNat v7]?.getD 0) * v1)) + v6)) 16777216)) : Int) fun x3 =>
  ref05_times_l1 n v1 b2 b4 k x3 (IntKind.wrap .i64 (v7 + 1)) x2) else none) else none) else none) else none) else none) else none)
  else some b5
theorem ok_ref05_times_l1 (n : Nat) (v1 : Int) (b2 : List (Int)) (b4 : List (Int)) {F0 : Fz} {w0 : Pt Try.prog} {Q : Exit → Act → World → Prop} (k : Nat) : ∀ (v6 : Int) (v7 : Int) (b5 : List (Int)) (o : (List (Int))), ref05_times_l1 n v1 b2 b4 k v6 v7 b5 = some o → To 27 F0 w0 [(4, .elm 4 0 1 0), (5, .elm 5 0 1 0)] [(4, 38, [.rowc false (α := Int) 0 E_u64 b4]), (5, 38, [.rowc false (α := Int) 0 E_u64 o])] (.exit 0) Q → WL Try.prog 27 F0 w0 [(1, .val (.int .u64 v1)), (2, .elm 2 0 1 0), (4, .elm 4 0 1 0), (5, .elm 5 0 1 0), (6, .val (.int .u64 v6)), (7, .val (.int .i64 v7))] [(2, 38, [.rowc false (α := Int) 0 E_u64 b2]), (4, 38, [.rowc false (α := Int) 0 E_u64 b4]), (5, 38, [.rowc false (α := Int) 0 E_u64 b5])] (cI (cI (cB (cA (cB (cB (cB (cF Try.f32)))))))) Q := by
  induction k with
  | zero => intro v6 v7 b5 o h; cases h
  | succ k ih =>
    intro v6 v7 b5 o h hQ
    rw [ref05_times_l1] at h
    refine WL.round ?_
    refine Wp.seq ?_
    refine Wp.seq ?_
    refine Wp.region hΓ [] [] [] [1, 2, 4, 5, 6, 7, 10] [2, 4, 5] (K' := [(1, .val (.int .u64 v1)), (2, .elm 2 0 1 0), (4, .elm 4 0 1 0), (5, .elm 5 0 1 0), (6, .val (.int .u64 v6)), (7, .val (.int .i64 v7)), (10, .val (.bool (decide (v7 < 5))))]) (L' := [(2, 38, [.rowc false (α := Int) 0 E_u64 b2]), (4, 38, [.rowc false (α := Int) 0 E_u64 b4]), (5, 38, [.rowc false (α := Int) 0 E_u64 b5])]) (ob := []) (by kernel_rfl) AllP.nil ?_
    refine To.thenN ?_
    refine Wp.cond (b := (decide (v7 < 5))) (by kernel_rfl) (fun hb => ?_) (fun hb => ?_)
    · replace h := if_t hb h
      refine Wp.skip ?_
      refine To.thenN ?_
      refine Wp.seq ?_
      refine Wp.block ?_
      refine Wp.seq ?_
      obtain ⟨hc8, h⟩ := chk_of h
      obtain ⟨hc9, h⟩ := chk_of h
      refine Wp.region hΓ [] [] [] [1, 2, 4, 5, 7, 8] [2, 4, 5] (K' := [(1, .val (.int .u64 v1)), (2, .elm 2 0 1 0), (4, .elm 4 0 1 0), (5, .elm 5 0 1 0), (7, .val (.int .i64 v7)), (8, .val (.int .u64 (IntKind.wrap .u64 ((IntKind.wrap .u64 (((b2)[Int.toNat v7]?.getD 0) * v1)) + v6))))]) (L' := [(2, 38, [.rowc false (α := Int) 0 E_u64 b2]), (4, 38, [.rowc false (α := Int) 0 E_u64 b4]), (5, 38, [.rowc false (α := Int) 0 E_u64 b5])]) (ob := [(decide (0 ≤ v7 ∧ v7 < (5 : Int))) = true, (decide (0 ≤ v7 ∧ v7 < (List.length b2 : Int))) = true]) (by kernel_rfl) (AllP.cons hc8 (AllP.cons hc9 AllP.nil)) ?_
      refine To.thenN ?_
      refine Wp.seq ?_
      obtain ⟨hc5, h⟩ := chk_of h
      obtain ⟨hc6, h⟩ := chk_of h
      obtain ⟨hc7, h⟩ := chk_of h
      obtain ⟨x2, hx2, h⟩ := lett_of h
      refine Wp.region hΓ [] [(4, .recs (α := Int) 0 E_u64 (List.set b5 (Int.toNat v7) (Int.tmod (IntKind.wrap .u64 ((IntKind.wrap .u64 (((b2)[Int.toNat v7]?.getD 0) * v1)) + v6)) 16777216)))] [] [1, 2, 4, 5, 7, 8] [2, 4, 5] (K' := [(1, .val (.int .u64 v1)), (2, .elm 2 0 1 0), (4, .elm 4 0 1 0), (5, .elm 5 0 1 0), (7, .val (.int .i64 v7)), (8, .val (.int .u64 (IntKind.wrap .u64 ((IntKind.wrap .u64 (((b2)[Int.toNat v7]?.getD 0) * v1)) + v6))))]) (L' := [(2, 38, [.rowc false (α := Int) 0 E_u64 b2]), (4, 38, [.rowc false (α := Int) 0 E_u64 b4]), (5, 38, [.rowc false (α := Int) 0 E_u64 (List.set b5 (Int.toNat v7) (Int.tmod (IntKind.wrap .u64 ((IntKind.wrap .u64 (((b2)[Int.toNat v7]?.getD 0) * v1)) + v6)) 16777216))])]) (ob := [((16777216 != 0)) = true, (decide (0 ≤ v7 ∧ v7 < (5 : Int))) = true, (decide (0 ≤ v7 ∧ v7 < (List.length b5 : Int))) = true, UpdOb 0 E_u64 b5 v7 0 [.val (.int .u64 (Int.tmod (IntKind.wrap .u64 ((IntKind.wrap .u64 (((b2)[Int.toNat v7]?.getD 0) * v1)) + v6)) 16777216))] (.recs (α := Int) 0 E_u64 (List.set b5 (Int.toNat v7) (Int.tmod (IntKind.wrap .u64 ((IntKind.wrap .u64 (((b2)[Int.toNat v7]?.getD 0) * v1)) + v6)) 16777216)))]) (by kernel_rfl) (AllP.cons hc5 (AllP.cons hc6 (AllP.cons hc7 (AllP.cons (updOb (by kernel_rfl)) AllP.nil)))) ?_
      refine To.eq (K' := [(1, .val (.int .u64 v1)), (2, .elm 2 0 1 0), (4, .elm 4 0 1 0), (5, .elm 5 0 1 0), (7, .val (.int .i64 v7)), (8, .val (.int .u64 (IntKind.wrap .u64 ((IntKind.wrap .u64 (((b2)[Int.toNat v7]?.getD 0) * v1)) + v6))))]) (L' := [(2, 38, [.rowc false (α := Int) 0 E_u64 b2]), (4, 38, [.rowc false (α := Int) 0 E_u64 b4]), (5, 38, [.rowc false (α := Int) 0 E_u64 x2])]) (by cases hx2; rfl) (by cases hx2; rfl) ?_
      refine To.thenN ?_
      obtain ⟨hc4, h⟩ := chk_of h
      obtain ⟨x3, hx3, h⟩ := lett_of h
      refine Wp.region hΓ [] [] [] [1, 2, 4, 5, 6, 7] [2, 4, 5] (K' := [(1, .val (.int .u64 v1)), (2, .elm 2 0 1 0), (4, .elm 4 0 1 0), (5, .elm 5 0 1 0), (6, .val (.int .u64 (IntKind.wrap .u64 (Int.tdiv (IntKind.wrap .u64 ((IntKind.wrap .u64 (((b2)[Int.toNat v7]?.getD 0) * v1)) + v6)) 16777216)))), (7, .val (.int .i64 v7))]) (L' := [(2, 38, [.rowc false (α := Int) 0 E_u64 b2]), (4, 38, [.rowc false (α := Int) 0 E_u64 b4]), (5, 38, [.rowc false (α := Int) 0 E_u64 x2])]) (ob := [((16777216 != 0)) = true]) (by kernel_rfl) (AllP.cons hc4 AllP.nil) ?_
      refine To.eq (K' := [(1, .val (.int .u64 v1)), (2, .elm 2 0 1 0), (4, .elm 4 0 1 0), (5, .elm 5 0 1 0), (6, .val (.int .u64 x3)), (7, .val (.int .i64 v7))]) (L' := [(2, 38, [.rowc false (α := Int) 0 E_u64 b2]), (4, 38, [.rowc false (α := Int) 0 E_u64 b4]), (5, 38, [.rowc false (α := Int) 0 E_u64 x2])]) (by cases hx3; rfl) (by cases hx3; rfl) ?_
      refine To.blockN ?_
      refine To.thenN ?_
      refine Wp.region hΓ [] [] [] [1, 2, 4, 5, 6, 7] [2, 4, 5] (K' := [(1, .val (.int .u64 v1)), (2, .elm 2 0 1 0), (4, .elm 4 0 1 0), (5, .elm 5 0 1 0), (6, .val (.int .u64 x3)), (7, .val (.int .i64 (IntKind.wrap .i64 (v7 + 1))))]) (L' := [(2, 38, [.rowc false (α := Int) 0 E_u64 b2]), (4, 38, [.rowc false (α := Int) 0 E_u64 b4]), (5, 38, [.rowc false (α := Int) 0 E_u64 x2])]) (ob := []) (by kernel_rfl) AllP.nil ?_
      refine To.keep (kk := [1, 2, 4, 5, 6, 7]) (kl := [2, 4, 5]) (K' := [(1, .val (.int .u64 v1)), (2, .elm 2 0 1 0), (4, .elm 4 0 1 0), (5, .elm 5 0 1 0), (6, .val (.int .u64 x3)), (7, .val (.int .i64 (IntKind.wrap .i64 (v7 + 1))))]) (L' := [(2, 38, [.rowc false (α := Int) 0 E_u64 b2]), (4, 38, [.rowc false (α := Int) 0 E_u64 b4]), (5, 38, [.rowc false (α := Int) 0 E_u64 x2])]) (by kernel_rfl) (by kernel_rfl) ?_
      refine To.again ?_
      exact ih x3 (IntKind.wrap .i64 (v7 + 1)) x2 _ h hQ
    · replace h := if_f hb h
      refine Wp.exit ?_
      refine To.thenX ?_
      refine To.thenX ?_
      refine To.keep (kk := [4, 5]) (kl := [4, 5]) (K' := [(4, .elm 4 0 1 0), (5, .elm 5 0 1 0)]) (L' := [(4, 38, [.rowc false (α := Int) 0 E_u64 b4]), (5, 38, [.rowc false (α := Int) 0 E_u64 b5])]) (by kernel_rfl) (by kernel_rfl) ?_
      cases h
      exact hQ
def ref05_times (n : Nat) (a0 : List (Int)) (a1 : Int) : Option ((List (Int))) :=
  if (decide (List.length a0 = 5)) = true then ((ref05_times_l1 n a1 a0 (List.replicate 5 0) n 0 0 (List.replicate 5 0)).bind fun o2 =>
  if (decide (List.length o2 = 5)) = true then (if (decide (List.length (List.replicate 5 0) = 5)) = true then (if (decide (List.length o2 = 5)) = true then (if (decide (List.length o2 = 5)) = true then some o2 else none) else none) else none) else none) else none
theorem ok_ref05_times (n : Nat) (a0 : List (Int)) (a1 : Int) (r : (List (Int))) (h : ref05_times n a0 a1 = some r) : CallsX Try.prog 32 [.arr (α := Int) 0 E_u64 a0, .val (.int .u64 a1)] (.arr (α := Int) 0 E_u64 r) := by
  unfold ref05_times at h
  refine callsX_of (fn := Try.f32) (by kernel_rfl) rfl (by kernel_rfl) (Nat.le_of_ble_eq_true (by kernel_rfl)) fun F0 w0 _ => ?_
  refine Wp.keep (kk := [0, 1]) (kl := []) (K' := [(0, .arr (α := Int) 0 E_u64 a0), (1, .val (.int .u64 a1))]) (L' := []) (by kernel_rfl) (by kernel_rfl) ?_
  refine Wp.seq ?_
  obtain ⟨u1, h⟩ := chk_of h
  refine Wp.region hΓ [] [(0, .recs (α := Int) 0 E_u64 a0)] [] [1, 2, 4] [2, 4] (K' := [(1, .val (.int .u64 a1)), (2, .elm 2 0 1 0), (4, .own 4 0)]) (L' := [(2, 38, [.rowc false (α := Int) 0 E_u64 a0]), (4, 38, [.val (.int .u64 0), .val (.int .u64 0), .val (.int .u64 0), .val (.int .u64 0), .val (.int .u64 0)])]) (ob := [(MkOb 1 (D.cells (.arr (α := Int) 0 E_u64 a0)) 5 (.recs (α := Int) 0 E_u64 a0) ∧ GoodR (.recs (α := Int) 0 E_u64 a0))]) (by kernel_rfl) (AllP.cons (mkOb rfl (of_decide_eq_true u1) rfl (good_E_u64 _)) AllP.nil) ?_
  refine To.pre (St.toRow (t := 38) (l := (List.replicate 5 0)) 4 1 5 (by decide) (by decide) (good_E_u64 _) (by kernel_rfl) (by kernel_rfl) (by kernel_rfl) (by kernel_rfl) (K' := [(1, .val (.int .u64 a1)), (2, .elm 2 0 1 0), (4, .elm 4 0 1 0)]) (L' := [(4, 38, [.rowc false (α := Int) 0 E_u64 (List.replicate 5 0)]), (2, 38, [.rowc false (α := Int) 0 E_u64 a0])]) (by kernel_rfl) (by kernel_rfl)) ?_
  refine To.thenN ?_
  refine Wp.seq ?_
  refine Wp.region hΓ [] [] [] [1, 2, 4, 5] [2, 4, 5] (K' := [(1, .val (.int .u64 a1)), (2, .elm 2 0 1 0), (4, .elm 4 0 1 0), (5, .own 5 0)]) (L' := [(2, 38, [.rowc false (α := Int) 0 E_u64 a0]), (4, 38, [.rowc false (α := Int) 0 E_u64 (List.replicate 5 0)]), (5, 38, [.val (.int .u64 0), .val (.int .u64 0), .val (.int .u64 0), .val (.int .u64 0), .val (.int .u64 0)])]) (ob := []) (by kernel_rfl) AllP.nil ?_
  refine To.pre (St.toRow (t := 38) (l := (List.replicate 5 0)) 5 1 5 (by decide) (by decide) (good_E_u64 _) (by kernel_rfl) (by kernel_rfl) (by kernel_rfl) (by kernel_rfl) (K' := [(1, .val (.int .u64 a1)), (2, .elm 2 0 1 0), (4, .elm 4 0 1 0), (5, .elm 5 0 1 0)]) (L' := [(5, 38, [.rowc false (α := Int) 0 E_u64 (List.replicate 5 0)]), (2, 38, [.rowc false (α := Int) 0 E_u64 a0]), (4, 38, [.rowc false (α := Int) 0 E_u64 (List.replicate 5 0)])]) (by kernel_rfl) (by kernel_rfl)) ?_
  refine To.thenN ?_
  refine Wp.seq ?_
  refine Wp.region hΓ [] [] [] [1, 2, 4, 5, 6] [2, 4, 5] (K' := [(1, .val (.int .u64 a1)), (2, .elm 2 0 1 0), (4, .elm 4 0 1 0), (5, .elm 5 0 1 0), (6, .val (.int .u64 0))]) (L' := [(2, 38, [.rowc false (α := Int) 0 E_u64 a0]), (4, 38, [.rowc false (α := Int) 0 E_u64 (List.replicate 5 0)]), (5, 38, [.rowc false (α := Int) 0 E_u64 (List.replicate 5 0)])]) (ob := []) (by kernel_rfl) AllP.nil ?_
  refine To.thenN ?_
  refine Wp.seq ?_
  refine Wp.seq ?_
  refine Wp.region hΓ [] [] [] [1, 2, 4, 5, 6, 7] [2, 4, 5] (K' := [(1, .val (.int .u64 a1)), (2, .elm 2 0 1 0), (4, .elm 4 0 1 0), (5, .elm 5 0 1 0), (6, .val (.int .u64 0)), (7, .val (.int .i64 0))]) (L' := [(2, 38, [.rowc false (α := Int) 0 E_u64 a0]), (4, 38, [.rowc false (α := Int) 0 E_u64 (List.replicate 5 0)]), (5, 38, [.rowc false (α := Int) 0 E_u64 (List.replicate 5 0)])]) (ob := []) (by kernel_rfl) AllP.nil ?_
  refine To.thenN ?_
  refine Wp.block ?_
  obtain ⟨o2, ho2, h⟩ := bind_of h
  refine Wp.keep (kk := [1, 2, 4, 5, 6, 7]) (kl := [2, 4, 5]) (K' := [(1, .val (.int .u64 a1)), (2, .elm 2 0 1 0), (4, .elm 4 0 1 0), (5, .elm 5 0 1 0), (6, .val (.int .u64 0)), (7, .val (.int .i64 0))]) (L' := [(2, 38, [.rowc false (α := Int) 0 E_u64 a0]), (4, 38, [.rowc false (α := Int) 0 E_u64 (List.replicate 5 0)]), (5, 38, [.rowc false (α := Int) 0 E_u64 (List.replicate 5 0)])]) (by kernel_rfl) (by kernel_rfl) ?_
  refine Wp.loopL ?_
  refine ok_ref05_times_l1 n a1 a0 (List.replicate 5 0) n 0 0 (List.replicate 5 0) o2 ho2 ?_
  refine To.blockX ?_
  refine To.thenN ?_
  refine Wp.seq ?_
  obtain ⟨hc5, h⟩ := chk_of h
  obtain ⟨hc6, h⟩ := chk_of h
  obtain ⟨u3, h⟩ := chk_of h
  refine Wp.region hΓ [] [(1, .recs (α := Int) 0 E_u64 o2)] [] [4] [4] (K' := [(4, .elm 4 0 1 0)]) (L' := [(4, 38, [.rowc false (α := Int) 0 E_u64 o2])]) (ob := [(decide (List.length o2 = 5)) = true, (decide (List.length (List.replicate 5 0) = 5)) = true, (MkOb 1 (D.cells (.arr (α := Int) 0 E_u64 o2)) 5 (.recs (α := Int) 0 E_u64 o2) ∧ GoodR (.recs (α := Int) 0 E_u64 o2))]) (by kernel_rfl) (AllP.cons hc5 (AllP.cons hc6 (AllP.cons (mkOb rfl (of_decide_eq_true u3) rfl (good_E_u64 _)) AllP.nil))) ?_
  refine To.thenN ?_
  refine Wp.ret ?_
  refine To.keep (kk := [4]) (kl := [4]) (K' := [(4, .elm 4 0 1 0)]) (L' := [(4, 38, [.rowc false (α := Int) 0 E_u64 o2])]) (by kernel_rfl) (by kernel_rfl) ?_
  obtain ⟨hc4, h⟩ := chk_of h
  cases h
  exact To.doneA hΓ (by kernel_rfl) hc4
def ref05_mul_j3 (n : Nat) (v9 : Int) (v10 : Int) (v29 : Bool) (b4 : List (Int)) (b5 : List (Int)) (b6 : List (Int)) (b7 : List (Int)) : Option (Int) :=
  if v29 = true then (if (decide (0 ≤ (IntKind.wrap .i64 (v9 - 1)) ∧ (IntKind.wrap .i64 (v9 - 1)) < (5 : Int))) = true then (if (decide (0 ≤ (IntKind.wrap .i64 (v9 - 1)) ∧ (IntKind.wrap .i64 (v9 - 1)) < (List.length b6 : Int))) = true then (some (IntKind.wrap .u64 (v10 + ((b6)[Int.toNat (IntKind.wrap .i64 (v9 - 1))]?.getD 0)))) else none) else none)
  else some v10
theorem ok_ref05_mul_j3 (n : Nat) (v9 : Int) (v10 : Int) (v29 : Bool) (b4 : List (Int)) (b5 : List (Int)) (b6 : List (Int)) (b7 : List (Int)) (o : Int) (h : ref05_mul_j3 n v9 v10 v29 b4 b5 b6 b7 = some o) {F0 : Fz} {w0 : Pt Try.prog} {Q : Exit → Act → World → Prop} (hQ : To 43 F0 w0 [(4, .elm 4 0 1 0), (5, .elm 5 0 1 0), (6, .elm 6 0 1 0), (7, .elm 7 0 1 0), (9, .val (.int .i64 v9)), (10, .val (.int .u64 o))] [(4, 38, [.rowc false (α := Int) 0 E_u64 b4]), (5, 38, [.rowc false (α := Int) 0 E_u64 b5]), (6, 38, [.rowc false (α := Int) 0 E_u64 b6]), (7, 38, [.rowc false (α := Int) 0 E_u64 b7])] .normal Q) : Wp Try.prog 43 F0 w0 [(4, .elm 4 0 1 0), (5, .elm 5 0 1 0), (6, .elm 6 0 1 0), (7, .elm 7 0 1 0), (9, .val (.int .i64 v9)), (10, .val (.int .u64 v10)), (29, .val (.bool v29))] [(4, 38, [.rowc false (α := Int) 0 E_u64 b4]), (5, 38, [.rowc false (α := Int) 0 E_u64 b5]), (6, 38, [.rowc false (α := Int) 0 E_u64 b6]), (7, 38, [.rowc false (α := Int) 0 E_u64 b7])] (cB (cA (cB (cI (cA (cB (cI (cI (cB (cA (cB (cB (cB (cB (cB (cF Try.f23)))))))))))))))) Q := by
  unfold ref05_mul_j3 at h
  refine Wp.cond (b := v29) (by kernel_rfl) (fun hb => ?_) (fun hb => ?_)
  · replace h := if_t hb h
    obtain ⟨hc6, h⟩ := chk_of h
    obtain ⟨hc7, h⟩ := chk_of h
    refine Wp.region hΓ [] [] [] [4, 5, 6, 7, 9, 10] [4, 5, 6, 7] (K' := [(4, .elm 4 0 1 0), (5, .elm 5 0 1 0), (6, .elm 6 0 1 0), (7, .elm 7 0 1 0), (9, .val (.int .i64 v9)), (10, .val (.int .u64 (IntKind.wrap .u64 (v10 + ((b6)[Int.toNat (IntKind.wrap .i64 (v9 - 1))]?.getD 0)))))]) (L' := [(4, 38, [.rowc false (α := Int) 0 E_u64 b4]), (5, 38, [.rowc false (α := Int) 0 E_u64 b5]), (6, 38, [.rowc false (α := Int) 0 E_u64 b6]), (7, 38, [.rowc false (α := Int) 0 E_u64 b7])]) (ob := [(decide (0 ≤ (IntKind.wrap .i64 (v9 - 1)) ∧ (IntKind.wrap .i64 (v9 - 1)) < (5 : Int))) = true, (decide (0 ≤ (IntKind.wrap .i64 (v9 - 1)) ∧ (IntKind.wrap .i64 (v9 - 1)) < (List.length b6 : Int))) = true]) (by kernel_rfl) (AllP.cons hc6 (AllP.cons hc7 AllP.nil)) ?_
    refine To.keep (kk := [4, 5, 6, 7, 9, 10]) (kl := [4, 5, 6, 7]) (K' := [(4, .elm 4 0 1 0), (5, .elm 5 0 1 0), (6, .elm 6 0 1 0), (7, .elm 7 0 1 0), (9, .val (.int .i64 v9)), (10, .val (.int .u64 (IntKind.wrap .u64 (v10 + ((b6)[Int.toNat (IntKind.wrap .i64 (v9 - 1))]?.getD 0)))))]) (L' := [(4, 38, [.rowc false (α := Int) 0 E_u64 b4]), (5, 38, [.rowc false (α := Int) 0 E_u64 b5]), (6, 38, [.rowc false (α := Int) 0 E_u64 b6]), (7, 38, [.rowc false (α := Int) 0 E_u64 b7])]) (by kernel_rfl) (by kernel_rfl) ?_
    cases h
    exact hQ
  · replace h := if_f hb h
    refine Wp.skip ?_
    refine To.keep (kk := [4, 5, 6, 7, 9, 10]) (kl := [4, 5, 6, 7]) (K' := [(4, .elm 4 0 1 0), (5, .elm 5 0 1 0), (6, .elm 6 0 1 0), (7, .elm 7 0 1 0), (9, .val (.int .i64 v9)), (10, .val (.int .u64 v10))]) (L' := [(4, 38, [.rowc false (α := Int) 0 E_u64 b4]), (5, 38, [.rowc false (α := Int) 0 E_u64 b5]), (6, 38, [.rowc false (α := Int) 0 E_u64 b6]), (7, 38, [.rowc false (α := Int) 0 E_u64 b7])]) (by kernel_rfl) (by kernel_rfl) ?_
    cases h
    exact hQ
def ref05_mul_j2 (n : Nat) (v8 : Int) (v9 : Int) (b4 : List (Int)) (b5 : List (Int)) (b6 : List (Int)) (b7 : List (Int)) : Option (Int × (List (Int))) :=
  if (decide (0 ≤ v9 ∧ v9 < (5 : Int))) = true then (if (decide (0 ≤ v9 ∧ v9 < (List.length b5 : Int))) = true then ((ref05_mul_j3 n v9 (IntKind.wrap .u64 (((b5)[Int.toNat v9]?.getD 0) + v8)) (decide (v9 > 0)) b4 b5 b6 b7).bind fun o6 =>
  if ((16777216 != 0)) = true then (if (decide (0 ≤ v9 ∧ v9 < (5 : Int))) = true then (if (decide (0 ≤ v9 ∧ v9 < (List.length b7 : Int))) = true then (if ((16777216 != 0)) = true then (some ((IntKind.wrap .u64 (Int.tdiv o6 16777216)), (List.set b7 (Int.toNat v9) (Int.tmod o6 16777216)))) else none) else none) else none) else none) else none) else none
theorem ok_ref05_mul_j2 (n : Nat) (v8 : Int) (v9 : Int) (b4 : List (Int)) (b5 : List (Int)) (b6 : List (Int)) (b7 : List (Int)) (o : Int × (List (Int))) (h : ref05_mul_j2 n v8 v9 b4 b5 b6 b7 = some o) {F0 : Fz} {w0 : Pt Try.prog} {Q : Exit → Act → World → Prop} (hQ : To 43 F0 w0 [(4, .elm 4 0 1 0), (5, .elm 5 0 1 0), (6, .elm 6 0 1 0), (7, .elm 7 0 1 0), (8, .val (.int .u64 o.1)), (9, .val (.int .i64 v9))] [(4, 38, [.rowc false (α := Int) 0 E_u64 b4]), (5, 38, [.rowc false (α := Int) 0 E_u64 b5]), (6, 38, [.rowc false (α := Int) 0 E_u64 b6]), (7, 38, [.rowc false (α := Int) 0 E_u64 o.2])] .normal Q) : Wp Try.prog 43 F0 w0 [(4, .elm 4 0 1 0), (5, .elm 5 0 1 0), (6, .elm 6 0 1 0), (7, .elm 7 0 1 0), (8, .val (.int .u64 v8)), (9, .val (.int .i64 v9))] [(4, 38, [.rowc false (α := Int) 0 E_u64 b4]), (5, 38, [.rowc false (α := Int) 0 E_u64 b5]), (6, 38, [.rowc false (α := Int) 0 E_u64 b6]), (7, 38, [.rowc false (α := Int) 0 E_u64 b7])] (cA (cB (cI (cI (cB (cA (cB (cB (cB (cB (cB (cF Try.f23)))))))))))) Q := by
  unfold ref05_mul_j2 at h
  refine Wp.block ?_
  refine Wp.seq ?_
  obtain ⟨hc11, h⟩ := chk_of h
  obtain ⟨hc12, h⟩ := chk_of h
  refine Wp.region hΓ [] [] [] [4, 5, 6, 7, 9, 10] [4, 5, 6, 7] (K' := [(4, .elm 4 0 1 0), (5, .elm 5 0 1 0), (6, .elm 6 0 1 0), (7, .elm 7 0 1 0), (9, .val (.int .i64 v9)), (10, .val (.int .u64 (IntKind.wrap .u64 (((b5)[Int.toNat v9]?.getD 0) + v8))))]) (L' := [(4, 38, [.rowc false (α := Int) 0 E_u64 b4]), (5, 38, [.rowc false (α := Int) 0 E_u64 b5]), (6, 38, [.rowc false (α := Int) 0 E_u64 b6]), (7, 38, [.rowc false (α := Int) 0 E_u64 b7])]) (ob := [(decide (0 ≤ v9 ∧ v9 < (5 : Int))) = true, (decide (0 ≤ v9 ∧ v9 < (List.length b5 : Int))) = true]) (by kernel_rfl) (AllP.cons hc11 (AllP.cons hc12 AllP.nil)) ?_
  refine To.thenN ?_
  refine Wp.seq ?_
  refine Wp.seq ?_
  refine Wp.region hΓ [] [] [] [4, 5, 6, 7, 9, 10, 29] [4, 5, 6, 7] (K' := [(4, .elm 4 0 1 0), (5, .elm 5 0 1 0), (6, .elm 6 0 1 0), (7, .elm 7 0 1 0), (9, .val (.int .i64 v9)), (10, .val (.int .u64 (IntKind.wrap .u64 (((b5)[Int.toNat v9]?.getD 0) + v8)))), (29, .val (.bool (decide (v9 > 0))))]) (L' := [(4, 38, [.rowc false (α := Int) 0 E_u64 b4]), (5, 38, [.rowc false (α := Int) 0 E_u64 b5]), (6, 38, [.rowc false (α := Int) 0 E_u64 b6]), (7, 38, [.rowc false (α := Int) 0 E_u64 b7])]) (ob := []) (by kernel_rfl) AllP.nil ?_
  refine To.thenN ?_
  obtain ⟨o6, ho6, h⟩ := bind_of h
  refine Wp.keep (kk := [4, 5, 6, 7, 9, 10, 29]) (kl := [4, 5, 6, 7]) (K' := [(4, .elm 4 0 1 0), (5, .elm 5 0 1 0), (6, .elm 6 0 1 0), (7, .elm 7 0 1 0), (9, .val (.int .i64 v9)), (10, .val (.int .u64 (IntKind.wrap .u64 (((b5)[Int.toNat v9]?.getD 0) + v8)))), (29, .val (.bool (decide (v9 > 0))))]) (L' := [(4, 38, [.rowc false (α := Int) 0 E_u64 b4]), (5, 38, [.rowc false (α := Int) 0 E_u64 b5]), (6, 38, [.rowc false (α := Int) 0 E_u64 b6]), (7, 38, [.rowc false (α := Int) 0 E_u64 b7])]) (by kernel_rfl) (by kernel_rfl) ?_
  refine ok_ref05_mul_j3 n v9 (IntKind.wrap .u64 (((b5)[Int.toNat v9]?.getD 0) + v8)) (decide (v9 > 0)) b4 b5 b6 b7 o6 ho6 ?_
  refine To.thenN ?_
  refine Wp.seq ?_
  obtain ⟨hc8, h⟩ := chk_of h
  obtain ⟨hc9, h⟩ := chk_of h
  obtain ⟨hc10, h⟩ := chk_of h
  refine Wp.region hΓ [] [(4, .recs (α := Int) 0 E_u64 (List.set b7 (Int.toNat v9) (Int.tmod o6 16777216)))] [] [4, 5, 6, 7, 9, 10] [4, 5, 6, 7] (K' := [(4, .elm 4 0 1 0), (5, .elm 5 0 1 0), (6, .elm 6 0 1 0), (7, .elm 7 0 1 0), (9, .val (.int .i64 v9)), (10, .val (.int .u64 o6))]) (L' := [(4, 38, [.rowc false (α := Int) 0 E_u64 b4]), (5, 38, [.rowc false (α := Int) 0 E_u64 b5]), (6, 38, [.rowc false (α := Int) 0 E_u64 b6]), (7, 38, [.rowc false (α := Int) 0 E_u64 (List.set b7 (Int.toNat v9) (Int.tmod o6 16777216))])]) (ob := [((16777216 != 0)) = true, (decide (0 ≤ v9 ∧ v9 < (5 : Int))) = true, (decide (0 ≤ v9 ∧ v9 < (List.length b7 : Int))) = true, UpdOb 0 E_u64 b7 v9 0 [.val (.int .u64 (Int.tmod o6 16777216))] (.recs (α := Int) 0 E_u64 (List.set b7 (Int.toNat v9) (Int.tmod o6 16777216)))]) (by kernel_rfl) (AllP.cons hc8 (AllP.cons hc9 (AllP.cons hc10 (AllP.cons (updOb (by kernel_rfl)) AllP.nil)))) ?_
  refine To.thenN ?_
  obtain ⟨hc7, h⟩ := chk_of h
  refine Wp.region hΓ [] [] [] [4, 5, 6, 7, 8, 9] [4, 5, 6, 7] (K' := [(4, .elm 4 0 1 0), (5, .elm 5 0 1 0), (6, .elm 6 0 1 0), (7, .elm 7 0 1 0), (8, .val (.int .u64 (IntKind.wrap .u64 (Int.tdiv o6 16777216)))), (9, .val (.int .i64 v9))]) (L' := [(4, 38, [.rowc false (α := Int) 0 E_u64 b4]), (5, 38, [.rowc false (α := Int) 0 E_u64 b5]), (6, 38, [.rowc false (α := Int) 0 E_u64 b6]), (7, 38, [.rowc false (α := Int) 0 E_u64 (List.set b7 (Int.toNat v9) (Int.tmod o6 16777216))])]) (ob := [((16777216 != 0)) = true]) (by kernel_rfl) (AllP.cons hc7 AllP.nil) ?_
  refine To.blockN ?_
  refine To.keep (kk := [4, 5, 6, 7, 8, 9]) (kl := [4, 5, 6, 7]) (K' := [(4, .elm 4 0 1 0), (5, .elm 5 0 1 0), (6, .elm 6 0 1 0), (7, .elm 7 0 1 0), (8, .val (.int .u64 (IntKind.wrap .u64 (Int.tdiv o6 16777216)))), (9, .val (.int .i64 v9))]) (L' := [(4, 38, [.rowc false (α := Int) 0 E_u64 b4]), (5, 38, [.rowc false (α := Int) 0 E_u64 b5]), (6, 38, [.rowc false (α := Int) 0 E_u64 b6]), (7, 38, [.rowc false (α := Int) 0 E_u64 (List.set b7 (Int.toNat v9) (Int.tmod o6 16777216))])]) (by kernel_rfl) (by kernel_rfl) ?_
  cases h
  exact hQ
def ref05_mul_l1 (n : Nat) (b4 : List (Int)) (b5 : List (Int)) (b6 : List (Int)) : Nat → Int → Int → (List (Int)) → Option ((List (Int)))
  | 0, _, _, _ => none
  | k + 1, v8, v9, b7 => if (decide (v9 < 5)) = true then ((ref05_mul_j2 n v8 v9 b4 b5 b6 b7).bind fun o6 =>
  ref05_mul_l1 n b4 b5 b6 k o6.1 (IntKind.wrap .i64 (v9 + 1)) o6.2)
  else some b7
theorem ok_ref05_mul_l1 (n : Nat) (b4 : List (Int)) (b5 : List (Int)) (b6 : List (Int)) {F0 : Fz} {w0 : Pt Try.prog} {Q : Exit → Act → World → Prop} (k : Nat) : ∀ (v8 : Int) (v9 : Int) (b7 : List (Int)) (o : (List (Int))), ref05_mul_l1 n b4 b5 b6 k v8 v9 b7 = some o → To 43 F0 w0 [(4, .elm 4 0 1 0), (7, .elm 7 0 1 0)] [(4, 38, [.rowc false (α := Int) 0 E_u64 b4]), (7, 38, [.rowc false (α := Int) 0 E_u64 o])] (.exit 0) Q → WL Try.prog 43 F0 w0 [(4, .elm 4 0 1 0), (5, .elm 5 0 1 0), (6, .elm 6 0 1 0), (7, .elm 7 0 1 0), (8, .val (.int .u64 v8)), (9, .val (.int .i64 v9))] [(4, 38, [.rowc false (α := Int) 0 E_u64 b4]), (5, 38, [.rowc false (α := Int) 0 E_u64 b5]), (6, 38, [.rowc false (α := Int) 0 E_u64 b6]), (7, 38, [.rowc false (α := Int) 0 E_u64 b7])] (cI (cI (cB (cA (cB (cB (cB (cB (cB (cF Try.f23)))))))))) Q := by
  induction k with
  | zero => intro v8 v9 b7 o h; cases h
  | succ k ih =>
    intro v8 v9 b7 o h hQ
    rw [ref05_mul_l1] at h
    refine WL.round ?_
    refine Wp.seq ?_
    refine Wp.seq ?_
    refine Wp.region hΓ [] [] [] [4, 5, 6, 7, 8, 9, 20] [4, 5, 6, 7] (K' := [(4, .elm 4 0 1 0), (5, .elm 5 0 1 0), (6, .elm 6 0 1 0), (7, .elm 7 0 1 0), (8, .val (.int .u64 v8)), (9, .val (.int .i64 v9)), (20, .val (.bool (decide (v9 < 5))))]) (L' := [(4, 38, [.rowc false (α := Int) 0 E_u64 b4]), (5, 38, [.rowc false (α := Int) 0 E_u64 b5]), (6, 38, [.rowc false (α := Int) 0 E_u64 b6]), (7, 38, [.rowc false (α := Int) 0 E_u64 b7])]) (ob := []) (by kernel_rfl) AllP.nil ?_
    refine To.thenN ?_
    refine Wp.cond (b := (decide (v9 < 5))) (by kernel_rfl) (fun hb => ?_) (fun hb => ?_)
    · replace h := if_t hb h
      refine Wp.skip ?_
      refine To.thenN ?_
      refine Wp.seq ?_
      obtain ⟨o6, ho6, h⟩ := bind_of h
      refine Wp.keep (kk := [4, 5, 6, 7, 8, 9]) (kl := [4, 5, 6, 7]) (K' := [(4, .elm 4 0 1 0), (5, .elm 5 0 1 0), (6, .elm 6 0 1 0), (7, .elm 7 0 1 0), (8, .val (.int .u64 v8)), (9, .val (.int .i64 v9))]) (L' := [(4, 38, [.rowc false (α := Int) 0 E_u64 b4]), (5, 38, [.rowc false (α := Int) 0 E_u64 b5]), (6, 38, [.rowc false (α := Int) 0 E_u64 b6]), (7, 38, [.rowc false (α := Int) 0 E_u64 b7])]) (by kernel_rfl) (by kernel_rfl) ?_
      refine ok_ref05_mul_j2 n v8 v9 b4 b5 b6 b7 o6 ho6 ?_
      refine To.thenN ?_
      refine Wp.region hΓ [] [] [] [4, 5, 6, 7, 8, 9] [4, 5, 6, 7] (K' := [(4, .elm 4 0 1 0), (5, .elm 5 0 1 0), (6, .elm 6 0 1 0), (7, .elm 7 0 1 0), (8, .val (.int .u64 o6.1)), (9, .val (.int .i64 (IntKind.wrap .i64 (v9 + 1))))]) (L' := [(4, 38, [.rowc false (α := Int) 0 E_u64 b4]), (5, 38, [.rowc false (α := Int) 0 E_u64 b5]), (6, 38, [.rowc false (α := Int) 0 E_u64 b6]), (7, 38, [.rowc false (α := Int) 0 E_u64 o6.2])]) (ob := []) (by kernel_rfl) AllP.nil ?_
      refine To.keep (kk := [4, 5, 6, 7, 8, 9]) (kl := [4, 5, 6, 7]) (K' := [(4, .elm 4 0 1 0), (5, .elm 5 0 1 0), (6, .elm 6 0 1 0), (7, .elm 7 0 1 0), (8, .val (.int .u64 o6.1)), (9, .val (.int .i64 (IntKind.wrap .i64 (v9 + 1))))]) (L' := [(4, 38, [.rowc false (α := Int) 0 E_u64 b4]), (5, 38, [.rowc false (α := Int) 0 E_u64 b5]), (6, 38, [.rowc false (α := Int) 0 E_u64 b6]), (7, 38, [.rowc false (α := Int) 0 E_u64 o6.2])]) (by kernel_rfl) (by kernel_rfl) ?_
      refine To.again ?_
      exact ih o6.1 (IntKind.wrap .i64 (v9 + 1)) o6.2 _ h hQ
    · replace h := if_f hb h
      refine Wp.exit ?_
      refine To.thenX ?_
      refine To.thenX ?_
      refine To.keep (kk := [4, 7]) (kl := [4, 7]) (K' := [(4, .elm 4 0 1 0), (7, .elm 7 0 1 0)]) (L' := [(4, 38, [.rowc false (α := Int) 0 E_u64 b4]), (7, 38, [.rowc false (α := Int) 0 E_u64 b7])]) (by kernel_rfl) (by kernel_rfl) ?_
      cases h
      exact hQ
def ref05_mul (n : Nat) (a0 : List (Int)) (a1 : Int) : Option ((List (Int))) :=
  if (decide (List.length a0 = 5)) = true then (if (decide (List.length a0 = 5)) = true then (if ((16777216 != 0)) = true then ((ref05_times n a0 (Int.tmod a1 16777216)).bind fun r2 =>
  if (decide (List.length r2 = 5)) = true then (if (decide (List.length a0 = 5)) = true then (if ((16777216 != 0)) = true then ((ref05_times n a0 (IntKind.wrap .u64 (Int.tdiv a1 16777216))).bind fun r4 =>
  if (decide (List.length r4 = 5)) = true then ((ref05_mul_l1 n (List.replicate 5 0) r2 r4 n 0 0 (List.replicate 5 0)).bind fun o6 =>
  if (decide (List.length o6 = 5)) = true then (if (decide (List.length (List.replicate 5 0) = 5)) = true then (if (decide (List.length o6 = 5)) = true then (if (decide (List.length o6 = 5)) = true then some o6 else none) else none) else none) else none) else none) else none) else none) else none) else none) else none) else none
theorem ok_ref05_mul (n : Nat) (a0 : List (Int)) (a1 : Int) (r : (List (Int))) (h : ref05_mul n a0 a1 = some r) : CallsX Try.prog 23 [.arr (α := Int) 0 E_u64 a0, .val (.int .u64 a1)] (.arr (α := Int) 0 E_u64 r) := by
  unfold ref05_mul at h
  refine callsX_of (fn := Try.f23) (by kernel_rfl) rfl (by kernel_rfl) (Nat.le_of_ble_eq_true (by kernel_rfl)) fun F0 w0 _ => ?_
  refine Wp.keep (kk := [0, 1]) (kl := []) (K' := [(0, .arr (α := Int) 0 E_u64 a0), (1, .val (.int .u64 a1))]) (L' := []) (by kernel_rfl) (by kernel_rfl) ?_
  refine Wp.seq ?_
  obtain ⟨u1, h⟩ := chk_of h
  refine Wp.region hΓ [] [(0, .recs (α := Int) 0 E_u64 a0)] [] [1, 2, 4] [2, 4] (K' := [(1, .val (.int .u64 a1)), (2, .elm 2 0 1 0), (4, .own 4 0)]) (L' := [(2, 38, [.rowc false (α := Int) 0 E_u64 a0]), (4, 38, [.val (.int .u64 0), .val (.int .u64 0), .val (.int .u64 0), .val (.int .u64 0), .val (.int .u64 0)])]) (ob := [(MkOb 1 (D.cells (.arr (α := Int) 0 E_u64 a0)) 5 (.recs (α := Int) 0 E_u64 a0) ∧ GoodR (.recs (α := Int) 0 E_u64 a0))]) (by kernel_rfl) (AllP.cons (mkOb rfl (of_decide_eq_true u1) rfl (good_E_u64 _)) AllP.nil) ?_
  refine To.pre (St.toRow (t := 38) (l := (List.replicate 5 0)) 4 1 5 (by decide) (by decide) (good_E_u64 _) (by kernel_rfl) (by kernel_rfl) (by kernel_rfl) (by kernel_rfl) (K' := [(1, .val (.int .u64 a1)), (2, .elm 2 0 1 0), (4, .elm 4 0 1 0)]) (L' := [(4, 38, [.rowc false (α := Int) 0 E_u64 (List.replicate 5 0)]), (2, 38, [.rowc false (α := Int) 0 E_u64 a0])]) (by kernel_rfl) (by kernel_rfl)) ?_
  refine To.thenN ?_
  refine Wp.seq ?_
  obtain ⟨hc13, h⟩ := chk_of h
  obtain ⟨hc14, h⟩ := chk_of h
  obtain ⟨r2, hr2, h⟩ := bind_of h
  obtain ⟨u3, h⟩ := chk_of h
  refine Wp.region hΓ [] [(3, .arr (α := Int) 0 E_u64 r2), (5, .recs (α := Int) 0 E_u64 r2)] [] [1, 2, 4, 5] [2, 4, 5] (K' := [(1, .val (.int .u64 a1)), (2, .elm 2 0 1 0), (4, .elm 4 0 1 0), (5, .elm 5 0 1 0)]) (L' := [(2, 38, [.rowc false (α := Int) 0 E_u64 a0]), (4, 38, [.rowc false (α := Int) 0 E_u64 (List.replicate 5 0)]), (5, 38, [.rowc false (α := Int) 0 E_u64 r2])]) (ob := [(decide (List.length a0 = 5)) = true, ((16777216 != 0)) = true, (true = true → CX Try.prog 32 [.arr (α := Int) 0 E_u64 a0, .val (.int .u64 (Int.tmod a1 16777216))] (.arr (α := Int) 0 E_u64 r2)), (MkOb 1 (D.cells (.arr (α := Int) 0 E_u64 r2)) 5 (.recs (α := Int) 0 E_u64 r2) ∧ GoodR (.recs (α := Int) 0 E_u64 r2))]) (by kernel_rfl) (AllP.cons hc13 (AllP.cons hc14 (AllP.cons (fun _ => cx (ok_ref05_times n a0 (Int.tmod a1 16777216) _ hr2)) (AllP.cons (mkOb rfl (of_decide_eq_true u3) rfl (good_E_u64 _)) AllP.nil)))) ?_
  refine To.thenN ?_
  refine Wp.seq ?_
  obtain ⟨hc11, h⟩ := chk_of h
  obtain ⟨hc12, h⟩ := chk_of h
  obtain ⟨r4, hr4, h⟩ := bind_of h
  obtain ⟨u5, h⟩ := chk_of h
  refine Wp.region hΓ [] [(3, .arr (α := Int) 0 E_u64 r4), (5, .recs (α := Int) 0 E_u64 r4)] [] [4, 5, 6] [4, 5, 6] (K' := [(4, .elm 4 0 1 0), (5, .elm 5 0 1 0), (6, .elm 6 0 1 0)]) (L' := [(4, 38, [.rowc false (α := Int) 0 E_u64 (List.replicate 5 0)]), (5, 38, [.rowc false (α := Int) 0 E_u64 r2]), (6, 38, [.rowc false (α := Int) 0 E_u64 r4])]) (ob := [(decide (List.length a0 = 5)) = true, ((16777216 != 0)) = true, (true = true → CX Try.prog 32 [.arr (α := Int) 0 E_u64 a0, .val (.int .u64 (IntKind.wrap .u64 (Int.tdiv a1 16777216)))] (.arr (α := Int) 0 E_u64 r4)), (MkOb 1 (D.cells (.arr (α := Int) 0 E_u64 r4)) 5 (.recs (α := Int) 0 E_u64 r4) ∧ GoodR (.recs (α := Int) 0 E_u64 r4))]) (by kernel_rfl) (AllP.cons hc11 (AllP.cons hc12 (AllP.cons (fun _ => cx (ok_ref05_times n a0 (IntKind.wrap .u64 (Int.tdiv a1 16777216)) _ hr4)) (AllP.cons (mkOb rfl (of_decide_eq_true u5) rfl (good_E_u64 _)) AllP.nil)))) ?_
  refine To.thenN ?_
  refine Wp.seq ?_
  refine Wp.region hΓ [] [] [] [4, 5, 6, 7] [4, 5, 6, 7] (K' := [(4, .elm 4 0 1 0), (5, .elm 5 0 1 0), (6, .elm 6 0 1 0), (7, .own 7 0)]) (L' := [(4, 38, [.rowc false (α := Int) 0 E_u64 (List.replicate 5 0)]), (5, 38, [.rowc false (α := Int) 0 E_u64 r2]), (6, 38, [.rowc false (α := Int) 0 E_u64 r4]), (7, 38, [.val (.int .u64 0), .val (.int .u64 0), .val (.int .u64 0), .val (.int .u64 0), .val (.int .u64 0)])]) (ob := []) (by kernel_rfl) AllP.nil ?_
  refine To.pre (St.toRow (t := 38) (l := (List.replicate 5 0)) 7 1 5 (by decide) (by decide) (good_E_u64 _) (by kernel_rfl) (by kernel_rfl) (by kernel_rfl) (by kernel_rfl) (K' := [(4, .elm 4 0 1 0), (5, .elm 5 0 1 0), (6, .elm 6 0 1 0), (7, .elm 7 0 1 0)]) (L' := [(7, 38, [.rowc false (α := Int) 0 E_u64 (List.replicate 5 0)]), (4, 38, [.rowc false (α := Int) 0 E_u64 (List.replicate 5 0)]), (5, 38, [.rowc false (α := Int) 0 E_u64 r2]), (6, 38, [.rowc false (α := Int) 0 E_u64 r4])]) (by kernel_rfl) (by kernel_rfl)) ?_
  refine To.thenN ?_
  refine Wp.seq ?_
  refine Wp.region hΓ [] [] [] [4, 5, 6, 7, 8] [4, 5, 6, 7] (K' := [(4, .elm 4 0 1 0), (5, .elm 5 0 1 0), (6, .elm 6 0 1 0), (7, .elm 7 0 1 0), (8, .val (.int .u64 0))]) (L' := [(4, 38, [.rowc false (α := Int) 0 E_u64 (List.replicate 5 0)]), (5, 38, [.rowc false (α := Int) 0 E_u64 r2]), (6, 38, [.rowc false (α := Int) 0 E_u64 r4]), (7, 38, [.rowc false (α := Int) 0 E_u64 (List.replicate 5 0)])]) (ob := []) (by kernel_rfl) AllP.nil ?_
  refine To.thenN ?_
  refine Wp.seq ?_
  refine Wp.seq ?_
  refine Wp.region hΓ [] [] [] [4, 5, 6, 7, 8, 9] [4, 5, 6, 7] (K' := [(4, .elm 4 0 1 0), (5, .elm 5 0 1 0), (6, .elm 6 0 1 0), (7, .elm 7 0 1 0), (8, .val (.int .u64 0)), (9, .val (.int .i64 0))]) (L' := [(4, 38, [.rowc false (α := Int) 0 E_u64 (List.replicate 5 0)]), (5, 38, [.rowc false (α := Int) 0 E_u64 r2]), (6, 38, [.rowc false (α := Int) 0 E_u64 r4]), (7, 38, [.rowc false (α := Int) 0 E_u64 (List.replicate 5 0)])]) (ob := []) (by kernel_rfl) AllP.nil ?_
  refine To.thenN ?_
  refine Wp.block ?_
  obtain ⟨o6, ho6, h⟩ := bind_of h
  refine Wp.keep (kk := [4, 5, 6, 7, 8, 9]) (kl := [4, 5, 6, 7]) (K' := [(4, .elm 4 0 1 0), (5, .elm 5 0 1 0), (6, .elm 6 0 1 0), (7, .elm 7 0 1 0), (8, .val (.int .u64 0)), (9, .val (.int .i64 0))]) (L' := [(4, 38, [.rowc false (α := Int) 0 E_u64 (List.replicate 5 0)]), (5, 38, [.rowc false (α := Int) 0 E_u64 r2]), (6, 38, [.rowc false (α := Int) 0 E_u64 r4]), (7, 38, [.rowc false (α := Int) 0 E_u64 (List.replicate 5 0)])]) (by kernel_rfl) (by kernel_rfl) ?_
  refine Wp.loopL ?_
  refine ok_ref05_mul_l1 n (List.replicate 5 0) r2 r4 n 0 0 (List.replicate 5 0) o6 ho6 ?_
  refine To.blockX ?_
  refine To.thenN ?_
  refine Wp.seq ?_
  obtain ⟨hc9, h⟩ := chk_of h
  obtain ⟨hc10, h⟩ := chk_of h
  obtain ⟨u7, h⟩ := chk_of h
  refine Wp.region hΓ [] [(1, .recs (α := Int) 0 E_u64 o6)] [] [4] [4] (K' := [(4, .elm 4 0 1 0)]) (L' := [(4, 38, [.rowc false (α := Int) 0 E_u64 o6])]) (ob := [(decide (List.length o6 = 5)) = true, (decide (List.length (List.replicate 5 0) = 5)) = true, (MkOb 1 (D.cells (.arr (α := Int) 0 E_u64 o6)) 5 (.recs (α := Int) 0 E_u64 o6) ∧ GoodR (.recs (α := Int) 0 E_u64 o6))]) (by kernel_rfl) (AllP.cons hc9 (AllP.cons hc10 (AllP.cons (mkOb rfl (of_decide_eq_true u7) rfl (good_E_u64 _)) AllP.nil))) ?_
  refine To.thenN ?_
  refine Wp.ret ?_
  refine To.keep (kk := [4]) (kl := [4]) (K' := [(4, .elm 4 0 1 0)]) (L' := [(4, 38, [.rowc false (α := Int) 0 E_u64 o6])]) (by kernel_rfl) (by kernel_rfl) ?_
  obtain ⟨hc8, h⟩ := chk_of h
  cases h
  exact To.doneA hΓ (by kernel_rfl) hc8
def ref05_most_l1 (n : Nat) (b2 : List (Int)) (b3 : List (Int)) : Nat → Int → Option (Sum (Unit) (Bool))
  | 0, _ => none
  | k + 1, v5 => if (decide (v5 ≥ 0)) = true then (if (decide (0 ≤ v5 ∧ v5 < (5 : Int))) = true then (if (decide (0 ≤ v5 ∧ v5 < (List.length b2 : Int))) = true then (if (decide (0 ≤ v5 ∧ v5 < (List.length b3 : Int))) = true then (if (((b2)[Int.toNat v5]?.getD 0) != ((b3)[Int.toNat v5]?.getD 0)) = true then (if (decide (0 ≤ v5 ∧ v5 < (5 : Int))) = true then (if (decide (0 ≤ v5 ∧ v5 < (List.length b2 : Int))) = true then (if (decide (0 ≤ v5 ∧ v5 < (List.length b3 : Int))) = true then (some (.inr (decide (((b2)[Int.toNat v5]?.getD 0) < ((b3)[Int.toNat v5]?.getD 0))))) else none) else none) else none)
  else (ref05_most_l1 n b2 b3 k (IntKind.wrap .i64 (v5 - 1)))) else none) else none) else none)
  else (some (.inl ()))
theorem ok_ref05_most_l1 (n : Nat) (b2 : List (Int)) (b3 : List (Int)) {F0 : Fz} {w0 : Pt Try.prog} {Q : Exit → Act → World → Prop} (k : Nat) : ∀ (v5 : Int) (o : Sum (Unit) (Bool)), ref05_most_l1 n b2 b3 k v5 = some o → (Sum.elim (fun s => To 24 F0 w0 [] [] (.exit 0) Q) (fun s => To 24 F0 w0 [(4, .val (.bool s))] [] .ret Q)) o → WL Try.prog 24 F0 w0 [(2, .elm 2 0 1 0), (3, .elm 3 0 1 0), (5, .val (.int .i64 v5))] [(2, 38, [.rowc false (α := Int) 0 E_u64 b2]), (3, 38, [.rowc false (α := Int) 0 E_u64 b3])] (cI (cI (cB (cA (cB (cF Try.f24)))))) Q := by
  induction k with
  | zero => intro v5 o h; cases h
  | succ k ih =>
    intro v5 o h hQ
    rw [ref05_most_l1] at h
    refine WL.round ?_
    refine Wp.seq ?_
    refine Wp.seq ?_
    refine Wp.region hΓ [] [] [] [2, 3, 5, 7] [2, 3] (K' := [(2, .elm 2 0 1 0), (3, .elm 3 0 1 0), (5, .val (.int .i64 v5)), (7, .val (.bool (decide (v5 ≥ 0))))]) (L' := [(2, 38, [.rowc false (α := Int) 0 E_u64 b2]), (3, 38, [.rowc false (α := Int) 0 E_u64 b3])]) (ob := []) (by kernel_rfl) AllP.nil ?_
    refine To.thenN ?_
    refine Wp.cond (b := (decide (v5 ≥ 0))) (by kernel_rfl) (fun hb => ?_) (fun hb => ?_)
    · replace h := if_t hb h
      refine Wp.skip ?_
      refine To.thenN ?_
      refine Wp.seq ?_
      refine Wp.block ?_
      refine Wp.seq ?_
      obtain ⟨hc6, h⟩ := chk_of h
      obtain ⟨hc7, h⟩ := chk_of h
      obtain ⟨hc8, h⟩ := chk_of h
      refine Wp.regionD hm hΓ [] [2, 3, 5, 16] [2, 3] (K' := [(2, .elm 2 0 1 0), (3, .elm 3 0 1 0), (5, .val (.int .i64 v5)), (16, .val (.bool (((b2)[Int.toNat v5]?.getD 0) != ((b3)[Int.toNat v5]?.getD 0))))]) (L' := [(2, 38, [.rowc false (α := Int) 0 E_u64 b2]), (3, 38, [.rowc false (α := Int) 0 E_u64 b3])]) (ob := [(decide (0 ≤ v5 ∧ v5 < (5 : Int))) = true, (decide (0 ≤ v5 ∧ v5 < (List.length b2 : Int))) = true, (decide (0 ≤ v5 ∧ v5 < (5 : Int))) = true, (decide (0 ≤ v5 ∧ v5 < (List.length b3 : Int))) = true]) (by kernel_rfl) (AllP.cons hc6 (AllP.cons hc7 (AllP.cons hc6 (AllP.cons hc8 AllP.nil)))) ?_
      refine To.thenN ?_
      refine Wp.cond (b := (((b2)[Int.toNat v5]?.getD 0) != ((b3)[Int.toNat v5]?.getD 0))) (by kernel_rfl) (fun hb => ?_) (fun hb => ?_)
      · replace h := if_t hb h
        refine Wp.seq ?_
        obtain ⟨hc3, h⟩ := chk_of h
        obtain ⟨hc4, h⟩ := chk_of h
        obtain ⟨hc5, h⟩ := chk_of h
        refine Wp.regionD hm hΓ [] [4] [] (K' := [(4, .val (.bool (decide (((b2)[Int.toNat v5]?.getD 0) < ((b3)[Int.toNat v5]?.getD 0)))))]) (L' := []) (ob := [(decide (0 ≤ v5 ∧ v5 < (5 : Int))) = true, (decide (0 ≤ v5 ∧ v5 < (List.length b2 : Int))) = true, (decide (0 ≤ v5 ∧ v5 < (5 : Int))) = true, (decide (0 ≤ v5 ∧ v5 < (List.length b3 : Int))) = true]) (by kernel_rfl) (AllP.cons hc3 (AllP.cons hc4 (AllP.cons hc3 (AllP.cons hc5 AllP.nil)))) ?_
        refine To.thenN ?_
        refine Wp.ret ?_
        refine To.blockR ?_
        refine To.thenR ?_
        refine To.thenR ?_
        refine To.keep (kk := [4]) (kl := []) (K' := [(4, .val (.bool (decide (((b2)[Int.toNat v5]?.getD 0) < ((b3)[Int.toNat v5]?.getD 0)))))]) (L' := []) (by kernel_rfl) (by kernel_rfl) ?_
        cases h
        exact hQ
      · replace h := if_f hb h
        refine Wp.skip ?_
        refine To.blockN ?_
        refine To.thenN ?_
        refine Wp.region hΓ [] [] [] [2, 3, 5] [2, 3] (K' := [(2, .elm 2 0 1 0), (3, .elm 3 0 1 0), (5, .val (.int .i64 (IntKind.wrap .i64 (v5 - 1))))]) (L' := [(2, 38, [.rowc false (α := Int) 0 E_u64 b2]), (3, 38, [.rowc false (α := Int) 0 E_u64 b3])]) (ob := []) (by kernel_rfl) AllP.nil ?_
        refine To.keep (kk := [2, 3, 5]) (kl := [2, 3]) (K' := [(2, .elm 2 0 1 0), (3, .elm 3 0 1 0), (5, .val (.int .i64 (IntKind.wrap .i64 (v5 - 1))))]) (L' := [(2, 38, [.rowc false (α := Int) 0 E_u64 b2]), (3, 38, [.rowc false (α := Int) 0 E_u64 b3])]) (by kernel_rfl) (by kernel_rfl) ?_
        refine To.again ?_
        exact ih (IntKind.wrap .i64 (v5 - 1)) _ h hQ
    · replace h := if_f hb h
      refine Wp.exit ?_
      refine To.thenX ?_
      refine To.thenX ?_
      refine To.keep (kk := []) (kl := []) (K' := []) (L' := []) (by kernel_rfl) (by kernel_rfl) ?_
      cases h
      exact hQ
def ref05_most (n : Nat) (a0 : List (Int)) (a1 : List (Int)) : Option (Bool) :=
  if (decide (List.length a0 = 5)) = true then (if (decide (List.length a1 = 5)) = true then ((ref05_most_l1 n a0 a1 n 4).bind fun o3 =>
  (Sum.elim (fun o3 => some true) (fun o3 => some o3)) o3) else none) else none
theorem ok_ref05_most (n : Nat) (a0 : List (Int)) (a1 : List (Int)) (r : Bool) (h : ref05_most n a0 a1 = some r) : CallsX Try.prog 24 [.arr (α := Int) 0 E_u64 a0, .arr (α := Int) 0 E_u64 a1] (.val (.bool r)) := by
  unfold ref05_most at h
  refine callsX_of (fn := Try.f24) (by kernel_rfl) rfl (by kernel_rfl) (Nat.le_of_ble_eq_true (by kernel_rfl)) fun F0 w0 _ => ?_
  refine Wp.keep (kk := [0, 1]) (kl := []) (K' := [(0, .arr (α := Int) 0 E_u64 a0), (1, .arr (α := Int) 0 E_u64 a1)]) (L' := []) (by kernel_rfl) (by kernel_rfl) ?_
  refine Wp.seq ?_
  obtain ⟨u1, h⟩ := chk_of h
  obtain ⟨u2, h⟩ := chk_of h
  refine Wp.region hΓ [] [(0, .recs (α := Int) 0 E_u64 a0), (1, .recs (α := Int) 0 E_u64 a1)] [] [2, 3] [2, 3] (K' := [(2, .elm 2 0 1 0), (3, .elm 3 0 1 0)]) (L' := [(2, 38, [.rowc false (α := Int) 0 E_u64 a0]), (3, 38, [.rowc false (α := Int) 0 E_u64 a1])]) (ob := [(MkOb 1 (D.cells (.arr (α := Int) 0 E_u64 a0)) 5 (.recs (α := Int) 0 E_u64 a0) ∧ GoodR (.recs (α := Int) 0 E_u64 a0)), (MkOb 1 (D.cells (.arr (α := Int) 0 E_u64 a1)) 5 (.recs (α := Int) 0 E_u64 a1) ∧ GoodR (.recs (α := Int) 0 E_u64 a1))]) (by kernel_rfl) (AllP.cons (mkOb rfl (of_decide_eq_true u1) rfl (good_E_u64 _)) (AllP.cons (mkOb rfl (of_decide_eq_true u2) rfl (good_E_u64 _)) AllP.nil)) ?_
  refine To.thenN ?_
  refine Wp.seq ?_
  refine Wp.seq ?_
  refine Wp.region hΓ [] [] [] [2, 3, 5] [2, 3] (K' := [(2, .elm 2 0 1 0), (3, .elm 3 0 1 0), (5, .val (.int .i64 4))]) (L' := [(2, 38, [.rowc false (α := Int) 0 E_u64 a0]), (3, 38, [.rowc false (α := Int) 0 E_u64 a1])]) (ob := []) (by kernel_rfl) AllP.nil ?_
  refine To.thenN ?_
  refine Wp.block ?_
  obtain ⟨o3, ho3, h⟩ := bind_of h
  refine Wp.keep (kk := [2, 3, 5]) (kl := [2, 3]) (K' := [(2, .elm 2 0 1 0), (3, .elm 3 0 1 0), (5, .val (.int .i64 4))]) (L' := [(2, 38, [.rowc false (α := Int) 0 E_u64 a0]), (3, 38, [.rowc false (α := Int) 0 E_u64 a1])]) (by kernel_rfl) (by kernel_rfl) ?_
  refine Wp.loopL ?_
  refine ok_ref05_most_l1 n a0 a1 n 4 o3 ho3 ?_
  rcases o3 with o3 | o3
  · replace h := sum_l h
    refine To.blockX ?_
    refine To.thenN ?_
    refine Wp.seq ?_
    refine Wp.region hΓ [] [] [] [4] [] (K' := [(4, .val (.bool true))]) (L' := []) (ob := []) (by kernel_rfl) AllP.nil ?_
    refine To.thenN ?_
    refine Wp.ret ?_
    refine To.keep (kk := [4]) (kl := []) (K' := [(4, .val (.bool true))]) (L' := []) (by kernel_rfl) (by kernel_rfl) ?_
    cases h
    exact To.done hΓ (by kernel_rfl)
  · replace h := sum_r h
    refine To.blockR ?_
    refine To.thenR ?_
    refine To.keep (kk := [4]) (kl := []) (K' := [(4, .val (.bool o3))]) (L' := []) (by kernel_rfl) (by kernel_rfl) ?_
    cases h
    exact To.done hΓ (by kernel_rfl)
def ref05_Root_j1 (n : Nat) (v0 : Int) (v1 : Int) (v27 : Bool) (b5 : List (Int)) : Option ((List (Int))) :=
  if v27 = true then (if ((16777216 != 0)) = true then (if (decide (0 ≤ (2 : Int) ∧ (2 : Int) < (5 : Int))) = true then (if (decide (0 ≤ (2 : Int) ∧ (2 : Int) < (List.length b5 : Int))) = true then (if ((16777216 != 0)) = true then (if (decide (0 ≤ (3 : Int) ∧ (3 : Int) < (5 : Int))) = true then (if (decide (0 ≤ (3 : Int) ∧ (3 : Int) < (List.length (List.set b5 (Int.toNat 2) (Int.tmod (IntKind.wrap .u64 ((IntKind.wrap .u64 (v0)) * 65536)) 16777216)) : Int))) = true then (lett ((List.set (List.set b5 (Int.toNat 2) (Int.tmod (IntKind.wrap .u64 ((IntKind.wrap .u64 (v0)) * 65536)) 16777216)) (Int.toNat 3) (IntKind.wrap .u64 (Int.tdiv (IntKind.wrap .u64 ((IntKind.wrap .u64 (v0)) * 65536)) 16777216))) : List (Int)) fun x2 =>
  some x2) else none) else none) else none) else none) else none) else none)
  else (if (decide (0 ≤ (4 : Int) ∧ (4 : Int) < (5 : Int))) = true then (if (decide (0 ≤ (4 : Int) ∧ (4 : Int) < (List.length b5 : Int))) = true then (some (List.set b5 (Int.toNat 4) (IntKind.wrap .u64 (v0)))) else none) else none)
theorem ok_ref05_Root_j1 (n : Nat) (v0 : Int) (v1 : Int) (v27 : Bool) (b5 : List (Int)) (o : (List (Int))) (h : ref05_Root_j1 n v0 v1 v27 b5 = some o) {F0 : Fz} {w0 : Pt Try.prog} {Q : Exit → Act → World → Prop} (hQ : To 68 F0 w0 [(1, .val (.int .i64 v1)), (5, .elm 5 0 1 0)] [(5, 38, [.rowc false (α := Int) 0 E_u64 o])] .normal Q) : Wp Try.prog 68 F0 w0 [(0, .val (.int .i64 v0)), (1, .val (.int .i64 v1)), (5, .elm 5 0 1 0), (27, .val (.bool v27))] [(5, 38, [.rowc false (α := Int) 0 E_u64 b5])] (cB (cA (cB (cB (cB (cF Try.f11)))))) Q := by
  unfold ref05_Root_j1 at h
  refine Wp.cond (b := v27) (by kernel_rfl) (fun hb => ?_) (fun hb => ?_)
  · replace h := if_t hb h
    refine Wp.seq ?_
    obtain ⟨hc6, h⟩ := chk_of h
    obtain ⟨hc7, h⟩ := chk_of h
    obtain ⟨hc8, h⟩ := chk_of h
    refine Wp.region hΓ [] [(5, .recs (α := Int) 0 E_u64 (List.set b5 (Int.toNat 2) (Int.tmod (IntKind.wrap .u64 ((IntKind.wrap .u64 (v0)) * 65536)) 16777216)))] [] [0, 1, 5] [5] (K' := [(0, .val (.int .i64 v0)), (1, .val (.int .i64 v1)), (5, .elm 5 0 1 0)]) (L' := [(5, 38, [.rowc false (α := Int) 0 E_u64 (List.set b5 (Int.toNat 2) (Int.tmod (IntKind.wrap .u64 ((IntKind.wrap .u64 (v0)) * 65536)) 16777216))])]) (ob := [((16777216 != 0)) = true, (decide (0 ≤ (2 : Int) ∧ (2 : Int) < (5 : Int))) = true, (decide (0 ≤ (2 : Int) ∧ (2 : Int) < (List.length b5 : Int))) = true, UpdOb 0 E_u64 b5 2 0 [.val (.int .u64 (Int.tmod (IntKind.wrap .u64 ((IntKind.wrap .u64 (v0)) * 65536)) 16777216))] (.recs (α := Int) 0 E_u64 (List.set b5 (Int.toNat 2) (Int.tmod (IntKind.wrap .u64 ((IntKind.wrap .u64 (v0)) * 65536)) 16777216)))]) (by kernel_rfl) (AllP.cons hc6 (AllP.cons hc7 (AllP.cons hc8 (AllP.cons (updOb (by kernel_rfl)) AllP.nil)))) ?_
    refine To.thenN ?_
    obtain ⟨hc3, h⟩ := chk_of h
    obtain ⟨hc4, h⟩ := chk_of h
    obtain ⟨hc5, h⟩ := chk_of h
    obtain ⟨x2, hx2, h⟩ := lett_of h
    refine Wp.region hΓ [] [(5, .recs (α := Int) 0 E_u64 (List.set (List.set b5 (Int.toNat 2) (Int.tmod (IntKind.wrap .u64 ((IntKind.wrap .u64 (v0)) * 65536)) 16777216)) (Int.toNat 3) (IntKind.wrap .u64 (Int.tdiv (IntKind.wrap .u64 ((IntKind.wrap .u64 (v0)) * 65536)) 16777216))))] [] [1, 5] [5] (K' := [(1, .val (.int .i64 v1)), (5, .elm 5 0 1 0)]) (L' := [(5, 38, [.rowc false (α := Int) 0 E_u64 (List.set (List.set b5 (Int.toNat 2) (Int.tmod (IntKind.wrap .u64 ((IntKind.wrap .u64 (v0)) * 65536)) 16777216)) (Int.toNat 3) (IntKind.wrap .u64 (Int.tdiv (IntKind.wrap .u64 ((IntKind.wrap .u64 (v0)) * 65536)) 16777216)))])]) (ob := [((16777216 != 0)) = true, (decide (0 ≤ (3 : Int) ∧ (3 : Int) < (5 : Int))) = true, (decide (0 ≤ (3 : Int) ∧ (3 : Int) < (List.length (List.set b5 (Int.toNat 2) (Int.tmod (IntKind.wrap .u64 ((IntKind.wrap .u64 (v0)) * 65536)) 16777216)) : Int))) = true, UpdOb 0 E_u64 (List.set b5 (Int.toNat 2) (Int.tmod (IntKind.wrap .u64 ((IntKind.wrap .u64 (v0)) * 65536)) 16777216)) 3 0 [.val (.int .u64 (IntKind.wrap .u64 (Int.tdiv (IntKind.wrap .u64 ((IntKind.wrap .u64 (v0)) * 65536)) 16777216)))] (.recs (α := Int) 0 E_u64 (List.set (List.set b5 (Int.toNat 2) (Int.tmod (IntKind.wrap .u64 ((IntKind.wrap .u64 (v0)) * 65536)) 16777216)) (Int.toNat 3) (IntKind.wrap .u64 (Int.tdiv (IntKind.wrap .u64 ((IntKind.wrap .u64 (v0)) * 65536)) 16777216))))]) (by kernel_rfl) (AllP.cons hc3 (AllP.cons hc4 (AllP.cons hc5 (AllP.cons (updOb (by kernel_rfl)) AllP.nil)))) ?_
    refine To.eq (K' := [(1, .val (.int .i64 v1)), (5, .elm 5 0 1 0)]) (L' := [(5, 38, [.rowc false (α := Int) 0 E_u64 x2])]) (by cases hx2; rfl) (by cases hx2; rfl) ?_
    refine To.keep (kk := [1, 5]) (kl := [5]) (K' := [(1, .val (.int .i64 v1)), (5, .elm 5 0 1 0)]) (L' := [(5, 38, [.rowc false (α := Int) 0 E_u64 x2])]) (by kernel_rfl) (by kernel_rfl) ?_
    cases h
    exact hQ
  · replace h := if_f hb h
    obtain ⟨hc9, h⟩ := chk_of h
    obtain ⟨hc10, h⟩ := chk_of h
    refine Wp.region hΓ [] [(3, .recs (α := Int) 0 E_u64 (List.set b5 (Int.toNat 4) (IntKind.wrap .u64 (v0))))] [] [1, 5] [5] (K' := [(1, .val (.int .i64 v1)), (5, .elm 5 0 1 0)]) (L' := [(5, 38, [.rowc false (α := Int) 0 E_u64 (List.set b5 (Int.toNat 4) (IntKind.wrap .u64 (v0)))])]) (ob := [(decide (0 ≤ (4 : Int) ∧ (4 : Int) < (5 : Int))) = true, (decide (0 ≤ (4 : Int) ∧ (4 : Int) < (List.length b5 : Int))) = true, UpdOb 0 E_u64 b5 4 0 [.val (.int .u64 (IntKind.wrap .u64 (v0)))] (.recs (α := Int) 0 E_u64 (List.set b5 (Int.toNat 4) (IntKind.wrap .u64 (v0))))]) (by kernel_rfl) (AllP.cons hc9 (AllP.cons hc10 (AllP.cons (updOb (by kernel_rfl)) AllP.nil))) ?_
    refine To.keep (kk := [1, 5]) (kl := [5]) (K' := [(1, .val (.int .i64 v1)), (5, .elm 5 0 1 0)]) (L' := [(5, 38, [.rowc false (α := Int) 0 E_u64 (List.set b5 (Int.toNat 4) (IntKind.wrap .u64 (v0)))])]) (by kernel_rfl) (by kernel_rfl) ?_
    cases h
    exact hQ
def ref05_Root_j3 (n : Nat) (v1 : Int) (v6 : Int) (v7 : Int) (v8 : Int) (v55 : Bool) (b5 : List (Int)) (b10 : List (Int)) : Option ((List (Int))) :=
  if v55 = true then (if (decide (List.length b10 = 5)) = true then ((ref05_mul n b10 v8).bind fun r5 =>
  if (decide (List.length r5 = 5)) = true then some r5 else none) else none)
  else some b10
theorem ok_ref05_Root_j3 (n : Nat) (v1 : Int) (v6 : Int) (v7 : Int) (v8 : Int) (v55 : Bool) (b5 : List (Int)) (b10 : List (Int)) (o : (List (Int))) (h : ref05_Root_j3 n v1 v6 v7 v8 v55 b5 b10 = some o) {F0 : Fz} {w0 : Pt Try.prog} {Q : Exit → Act → World → Prop} (hQ : To 68 F0 w0 [(1, .val (.int .i64 v1)), (5, .elm 5 0 1 0), (6, .val (.int .u64 v6)), (7, .val (.int .u64 v7)), (8, .val (.int .u64 v8)), (10, .elm 10 0 1 0)] [(5, 38, [.rowc false (α := Int) 0 E_u64 b5]), (10, 38, [.rowc false (α := Int) 0 E_u64 o])] .normal Q) : Wp Try.prog 68 F0 w0 [(1, .val (.int .i64 v1)), (5, .elm 5 0 1 0), (6, .val (.int .u64 v6)), (7, .val (.int .u64 v7)), (8, .val (.int .u64 v8)), (10, .elm 10 0 1 0), (55, .val (.bool v55))] [(5, 38, [.rowc false (α := Int) 0 E_u64 b5]), (10, 38, [.rowc false (α := Int) 0 E_u64 b10])] (cB (cA (cB (cB (cB (cI (cB (cI (cI (cA (cB (cB (cB (cB (cB (cB (cF Try.f11))))))))))))))))) Q := by
  unfold ref05_Root_j3 at h
  refine Wp.cond (b := v55) (by kernel_rfl) (fun hb => ?_) (fun hb => ?_)
  · replace h := if_t hb h
    obtain ⟨hc7, h⟩ := chk_of h
    obtain ⟨r5, hr5, h⟩ := bind_of h
    obtain ⟨u6, h⟩ := chk_of h
    refine Wp.region hΓ [] [(2, .arr (α := Int) 0 E_u64 r5), (3, .recs (α := Int) 0 E_u64 r5)] [] [1, 5, 6, 7, 8, 10] [5, 10] (K' := [(1, .val (.int .i64 v1)), (5, .elm 5 0 1 0), (6, .val (.int .u64 v6)), (7, .val (.int .u64 v7)), (8, .val (.int .u64 v8)), (10, .elm 10 0 1 0)]) (L' := [(5, 38, [.rowc false (α := Int) 0 E_u64 b5]), (10, 38, [.rowc false (α := Int) 0 E_u64 r5])]) (ob := [(decide (List.length b10 = 5)) = true, (true = true → CX Try.prog 23 [.arr (α := Int) 0 E_u64 b10, .val (.int .u64 v8)] (.arr (α := Int) 0 E_u64 r5)), (decide (List.length b10 = 5)) = true, (MkOb 1 (D.cells (.arr (α := Int) 0 E_u64 r5)) 5 (.recs (α := Int) 0 E_u64 r5) ∧ GoodR (.recs (α := Int) 0 E_u64 r5))]) (by kernel_rfl) (AllP.cons hc7 (AllP.cons (fun _ => cx (ok_ref05_mul n b10 v8 _ hr5)) (AllP.cons hc7 (AllP.cons (mkOb rfl (of_decide_eq_true u6) rfl (good_E_u64 _)) AllP.nil)))) ?_
    refine To.keep (kk := [1, 5, 6, 7, 8, 10]) (kl := [5, 10]) (K' := [(1, .val (.int .i64 v1)), (5, .elm 5 0 1 0), (6, .val (.int .u64 v6)), (7, .val (.int .u64 v7)), (8, .val (.int .u64 v8)), (10, .elm 10 0 1 0)]) (L' := [(5, 38, [.rowc false (α := Int) 0 E_u64 b5]), (10, 38, [.rowc false (α := Int) 0 E_u64 r5])]) (by kernel_rfl) (by kernel_rfl) ?_
    cases h
    exact hQ
  · replace h := if_f hb h
    refine Wp.skip ?_
    refine To.keep (kk := [1, 5, 6, 7, 8, 10]) (kl := [5, 10]) (K' := [(1, .val (.int .i64 v1)), (5, .elm 5 0 1 0), (6, .val (.int .u64 v6)), (7, .val (.int .u64 v7)), (8, .val (.int .u64 v8)), (10, .elm 10 0 1 0)]) (L' := [(5, 38, [.rowc false (α := Int) 0 E_u64 b5]), (10, 38, [.rowc false (α := Int) 0 E_u64 b10])]) (by kernel_rfl) (by kernel_rfl) ?_
    cases h
    exact hQ
def ref05_Root_j4 (n : Nat) (v1 : Int) (v6 : Int) (v7 : Int) (v8 : Int) (v61 : Bool) (b5 : List (Int)) : Option (Int) :=
  if v61 = true then some v8
  else some v6
theorem ok_ref05_Root_j4 (n : Nat) (v1 : Int) (v6 : Int) (v7 : Int) (v8 : Int) (v61 : Bool) (b5 : List (Int)) (o : Int) (h : ref05_Root_j4 n v1 v6 v7 v8 v61 b5 = some o) {F0 : Fz} {w0 : Pt Try.prog} {Q : Exit → Act → World → Prop} (hQ : To 68 F0 w0 [(1, .val (.int .i64 v1)), (5, .elm 5 0 1 0), (6, .val (.int .u64 o)), (7, .val (.int .u64 v7))] [(5, 38, [.rowc false (α := Int) 0 E_u64 b5])] .normal Q) : Wp Try.prog 68 F0 w0 [(1, .val (.int .i64 v1)), (5, .elm 5 0 1 0), (6, .val (.int .u64 v6)), (7, .val (.int .u64 v7)), (8, .val (.int .u64 v8)), (61, .val (.bool v61))] [(5, 38, [.rowc false (α := Int) 0 E_u64 b5])] (cB (cA (cB (cB (cB (cB (cI (cB (cI (cI (cA (cB (cB (cB (cB (cB (cB (cF Try.f11)))))))))))))))))) Q := by
  unfold ref05_Root_j4 at h
  refine Wp.cond (b := v61) (by kernel_rfl) (fun hb => ?_) (fun hb => ?_)
  · replace h := if_t hb h
    refine Wp.region hΓ [] [] [] [1, 5, 6, 7] [5] (K' := [(1, .val (.int .i64 v1)), (5, .elm 5 0 1 0), (6, .val (.int .u64 v8)), (7, .val (.int .u64 v7))]) (L' := [(5, 38, [.rowc false (α := Int) 0 E_u64 b5])]) (ob := []) (by kernel_rfl) AllP.nil ?_
    refine To.keep (kk := [1, 5, 6, 7]) (kl := [5]) (K' := [(1, .val (.int .i64 v1)), (5, .elm 5 0 1 0), (6, .val (.int .u64 v8)), (7, .val (.int .u64 v7))]) (L' := [(5, 38, [.rowc false (α := Int) 0 E_u64 b5])]) (by kernel_rfl) (by kernel_rfl) ?_
    cases h
    exact hQ
  · replace h := if_f hb h
    refine Wp.skip ?_
    refine To.keep (kk := [1, 5, 6, 7]) (kl := [5]) (K' := [(1, .val (.int .i64 v1)), (5, .elm 5 0 1 0), (6, .val (.int .u64 v6)), (7, .val (.int .u64 v7))]) (L' := [(5, 38, [.rowc false (α := Int) 0 E_u64 b5])]) (by kernel_rfl) (by kernel_rfl) ?_
    cases h
    exact hQ
def ref05_Root_l2 (n : Nat) (v1 : Int) (b5 : List (Int)) : Nat → Int → Int → Option (Int)
  | 0, _, _ => none
  | k + 1, v6, v7 => if (decide (v7 > 0)) = true then (if ((16777216 != 0)) = true then (if (decide (List.length ([(Int.tmod (IntKind.wrap .u64 (v6 + v7)) 16777216), (IntKind.wrap .u64 (Int.tdiv (IntKind.wrap .u64 (v6 + v7)) 16777216)), 0, 0, 0] : List (Int)) = 5)) = true then ((ref05_mul n ([(Int.tmod (IntKind.wrap .u64 (v6 + v7)) 16777216), (IntKind.wrap .u64 (Int.tdiv (IntKind.wrap .u64 (v6 + v7)) 16777216)), 0, 0, 0] : List (Int)) (IntKind.wrap .u64 (v6 + v7))).bind fun r3 =>
  if (decide (List.length r3 = 5)) = true then ((ref05_Root_j3 n v1 v6 v7 (IntKind.wrap .u64 (v6 + v7)) (v1 == 3) b5 r3).bind fun o5 =>
  if (decide (List.length o5 = 5)) = true then (if (decide (List.length b5 = 5)) = true then ((ref05_most n o5 b5).bind fun r6 =>
  (ref05_Root_j4 n v1 v6 v7 (IntKind.wrap .u64 (v6 + v7)) r6 b5).bind fun o7 =>
  if ((2 != 0)) = true then (ref05_Root_l2 n v1 b5 k o7 (IntKind.wrap .u64 (Int.tdiv v7 2))) else none) else none) else none) else none) else none) else none)
  else some v6
theorem ok_ref05_Root_l2 (n : Nat) (v1 : Int) (b5 : List (Int)) {F0 : Fz} {w0 : Pt Try.prog} {Q : Exit → Act → World → Prop} (k : Nat) : ∀ (v6 : Int) (v7 : Int) (o : Int), ref05_Root_l2 n v1 b5 k v6 v7 = some o → To 68 F0 w0 [(6, .val (.int .u64 o))] [] (.exit 0) Q → WL Try.prog 68 F0 w0 [(1, .val (.int .i64 v1)), (5, .elm 5 0 1 0), (6, .val (.int .u64 v6)), (7, .val (.int .u64 v7))] [(5, 38, [.rowc false (α := Int) 0 E_u64 b5])] (cI (cI (cA (cB (cB (cB (cB (cB (cB (cF Try.f11)))))))))) Q := by
  induction k with
  | zero => intro v6 v7 o h; cases h
  | succ k ih =>
    intro v6 v7 o h hQ
    rw [ref05_Root_l2] at h
    refine WL.round ?_
    refine Wp.seq ?_
    refine Wp.seq ?_
    refine Wp.region hΓ [] [] [] [1, 5, 6, 7, 42] [5] (K' := [(1, .val (.int .i64 v1)), (5, .elm 5 0 1 0), (6, .val (.int .u64 v6)), (7, .val (.int .u64 v7)), (42, .val (.bool (decide (v7 > 0))))]) (L' := [(5, 38, [.rowc false (α := Int) 0 E_u64 b5])]) (ob := []) (by kernel_rfl) AllP.nil ?_
    refine To.thenN ?_
    refine Wp.cond (b := (decide (v7 > 0))) (by kernel_rfl) (fun hb => ?_) (fun hb => ?_)
    · replace h := if_t hb h
      refine Wp.skip ?_
      refine To.thenN ?_
      refine Wp.block ?_
      refine Wp.seq ?_
      refine Wp.region hΓ [] [] [] [1, 5, 6, 7, 8] [5] (K' := [(1, .val (.int .i64 v1)), (5, .elm 5 0 1 0), (6, .val (.int .u64 v6)), (7, .val (.int .u64 v7)), (8, .val (.int .u64 (IntKind.wrap .u64 (v6 + v7))))]) (L' := [(5, 38, [.rowc false (α := Int) 0 E_u64 b5])]) (ob := []) (by kernel_rfl) AllP.nil ?_
      refine To.thenN ?_
      refine Wp.seq ?_
      obtain ⟨hc12, h⟩ := chk_of h
      refine Wp.region hΓ [] [] [] [1, 5, 6, 7, 8, 9] [5, 9] (K' := [(1, .val (.int .i64 v1)), (5, .elm 5 0 1 0), (6, .val (.int .u64 v6)), (7, .val (.int .u64 v7)), (8, .val (.int .u64 (IntKind.wrap .u64 (v6 + v7)))), (9, .own 9 0)]) (L' := [(5, 38, [.rowc false (α := Int) 0 E_u64 b5]), (9, 38, [.val (.int .u64 (Int.tmod (IntKind.wrap .u64 (v6 + v7)) 16777216)), .val (.int .u64 (IntKind.wrap .u64 (Int.tdiv (IntKind.wrap .u64 (v6 + v7)) 16777216))), .val (.int .u64 0), .val (.int .u64 0), .val (.int .u64 0)])]) (ob := [((16777216 != 0)) = true, ((16777216 != 0)) = true]) (by kernel_rfl) (AllP.cons hc12 (AllP.cons hc12 AllP.nil)) ?_
      refine To.pre (St.toRow (t := 38) (l := ([(Int.tmod (IntKind.wrap .u64 (v6 + v7)) 16777216), (IntKind.wrap .u64 (Int.tdiv (IntKind.wrap .u64 (v6 + v7)) 16777216)), 0, 0, 0] : List (Int))) 9 1 5 (by decide) (by decide) (good_E_u64 _) (by kernel_rfl) (by kernel_rfl) (by kernel_rfl) (by kernel_rfl) (K' := [(1, .val (.int .i64 v1)), (5, .elm 5 0 1 0), (6, .val (.int .u64 v6)), (7, .val (.int .u64 v7)), (8, .val (.int .u64 (IntKind.wrap .u64 (v6 + v7)))), (9, .elm 9 0 1 0)]) (L' := [(9, 38, [.rowc false (α := Int) 0 E_u64 ([(Int.tmod (IntKind.wrap .u64 (v6 + v7)) 16777216), (IntKind.wrap .u64 (Int.tdiv (IntKind.wrap .u64 (v6 + v7)) 16777216)), 0, 0, 0] : List (Int))]), (5, 38, [.rowc false (α := Int) 0 E_u64 b5])]) (by kernel_rfl) (by kernel_rfl)) ?_
      refine To.thenN ?_
      refine Wp.seq ?_
      obtain ⟨hc11, h⟩ := chk_of h
      obtain ⟨r3, hr3, h⟩ := bind_of h
      obtain ⟨u4, h⟩ := chk_of h
      refine Wp.region hΓ [] [(2, .arr (α := Int) 0 E_u64 r3), (4, .recs (α := Int) 0 E_u64 r3)] [] [1, 5, 6, 7, 8, 10] [5, 10] (K' := [(1, .val (.int .i64 v1)), (5, .elm 5 0 1 0), (6, .val (.int .u64 v6)), (7, .val (.int .u64 v7)), (8, .val (.int .u64 (IntKind.wrap .u64 (v6 + v7)))), (10, .elm 10 0 1 0)]) (L' := [(5, 38, [.rowc false (α := Int) 0 E_u64 b5]), (10, 38, [.rowc false (α := Int) 0 E_u64 r3])]) (ob := [(decide (List.length ([(Int.tmod (IntKind.wrap .u64 (v6 + v7)) 16777216), (IntKind.wrap .u64 (Int.tdiv (IntKind.wrap .u64 (v6 + v7)) 16777216)), 0, 0, 0] : List (Int)) = 5)) = true, (true = true → CX Try.prog 23 [.arr (α := Int) 0 E_u64 ([(Int.tmod (IntKind.wrap .u64 (v6 + v7)) 16777216), (IntKind.wrap .u64 (Int.tdiv (IntKind.wrap .u64 (v6 + v7)) 16777216)), 0, 0, 0] : List (Int)), .val (.int .u64 (IntKind.wrap .u64 (v6 + v7)))] (.arr (α := Int) 0 E_u64 r3)), (MkOb 1 (D.cells (.arr (α := Int) 0 E_u64 r3)) 5 (.recs (α := Int) 0 E_u64 r3) ∧ GoodR (.recs (α := Int) 0 E_u64 r3))]) (by kernel_rfl) (AllP.cons hc11 (AllP.cons (fun _ => cx (ok_ref05_mul n ([(Int.tmod (IntKind.wrap .u64 (v6 + v7)) 16777216), (IntKind.wrap .u64 (Int.tdiv (IntKind.wrap .u64 (v6 + v7)) 16777216)), 0, 0, 0] : List (Int)) (IntKind.wrap .u64 (v6 + v7)) _ hr3)) (AllP.cons (mkOb rfl (of_decide_eq_true u4) rfl (good_E_u64 _)) AllP.nil))) ?_
      refine To.thenN ?_
      refine Wp.seq ?_
      refine Wp.seq ?_
      refine Wp.region hΓ [] [] [] [1, 5, 6, 7, 8, 10, 55] [5, 10] (K' := [(1, .val (.int .i64 v1)), (5, .elm 5 0 1 0), (6, .val (.int .u64 v6)), (7, .val (.int .u64 v7)), (8, .val (.int .u64 (IntKind.wrap .u64 (v6 + v7)))), (10, .elm 10 0 1 0), (55, .val (.bool (v1 == 3)))]) (L' := [(5, 38, [.rowc false (α := Int) 0 E_u64 b5]), (10, 38, [.rowc false (α := Int) 0 E_u64 r3])]) (ob := []) (by kernel_rfl) AllP.nil ?_
      refine To.thenN ?_
      obtain ⟨o5, ho5, h⟩ := bind_of h
      refine Wp.keep (kk := [1, 5, 6, 7, 8, 10, 55]) (kl := [5, 10]) (K' := [(1, .val (.int .i64 v1)), (5, .elm 5 0 1 0), (6, .val (.int .u64 v6)), (7, .val (.int .u64 v7)), (8, .val (.int .u64 (IntKind.wrap .u64 (v6 + v7)))), (10, .elm 10 0 1 0), (55, .val (.bool (v1 == 3)))]) (L' := [(5, 38, [.rowc false (α := Int) 0 E_u64 b5]), (10, 38, [.rowc false (α := Int) 0 E_u64 r3])]) (by kernel_rfl) (by kernel_rfl) ?_
      refine ok_ref05_Root_j3 n v1 v6 v7 (IntKind.wrap .u64 (v6 + v7)) (v1 == 3) b5 r3 o5 ho5 ?_
      refine To.thenN ?_
      refine Wp.seq ?_
      refine Wp.seq ?_
      obtain ⟨hc9, h⟩ := chk_of h
      obtain ⟨hc10, h⟩ := chk_of h
      obtain ⟨r6, hr6, h⟩ := bind_of h
      refine Wp.region hΓ [] [(2, .val (.bool r6))] [] [1, 5, 6, 7, 8, 61] [5] (K' := [(1, .val (.int .i64 v1)), (5, .elm 5 0 1 0), (6, .val (.int .u64 v6)), (7, .val (.int .u64 v7)), (8, .val (.int .u64 (IntKind.wrap .u64 (v6 + v7)))), (61, .val (.bool r6))]) (L' := [(5, 38, [.rowc false (α := Int) 0 E_u64 b5])]) (ob := [(decide (List.length o5 = 5)) = true, (decide (List.length b5 = 5)) = true, (true = true → CX Try.prog 24 [.arr (α := Int) 0 E_u64 o5, .arr (α := Int) 0 E_u64 b5] (.val (.bool r6)))]) (by kernel_rfl) (AllP.cons hc9 (AllP.cons hc10 (AllP.cons (fun _ => cx (ok_ref05_most n o5 b5 _ hr6)) AllP.nil))) ?_
      refine To.thenN ?_
      obtain ⟨o7, ho7, h⟩ := bind_of h
      refine Wp.keep (kk := [1, 5, 6, 7, 8, 61]) (kl := [5]) (K' := [(1, .val (.int .i64 v1)), (5, .elm 5 0 1 0), (6, .val (.int .u64 v6)), (7, .val (.int .u64 v7)), (8, .val (.int .u64 (IntKind.wrap .u64 (v6 + v7)))), (61, .val (.bool r6))]) (L' := [(5, 38, [.rowc false (α := Int) 0 E_u64 b5])]) (by kernel_rfl) (by kernel_rfl) ?_
      refine ok_ref05_Root_j4 n v1 v6 v7 (IntKind.wrap .u64 (v6 + v7)) r6 b5 o7 ho7 ?_
      refine To.thenN ?_
      obtain ⟨hc8, h⟩ := chk_of h
      refine Wp.region hΓ [] [] [] [1, 5, 6, 7] [5] (K' := [(1, .val (.int .i64 v1)), (5, .elm 5 0 1 0), (6, .val (.int .u64 o7)), (7, .val (.int .u64 (IntKind.wrap .u64 (Int.tdiv v7 2))))]) (L' := [(5, 38, [.rowc false (α := Int) 0 E_u64 b5])]) (ob := [((2 != 0)) = true]) (by kernel_rfl) (AllP.cons hc8 AllP.nil) ?_
      refine To.blockN ?_
      refine To.keep (kk := [1, 5, 6, 7]) (kl := [5]) (K' := [(1, .val (.int .i64 v1)), (5, .elm 5 0 1 0), (6, .val (.int .u64 o7)), (7, .val (.int .u64 (IntKind.wrap .u64 (Int.tdiv v7 2))))]) (L' := [(5, 38, [.rowc false (α := Int) 0 E_u64 b5])]) (by kernel_rfl) (by kernel_rfl) ?_
      refine To.again ?_
      exact ih o7 (IntKind.wrap .u64 (Int.tdiv v7 2)) _ h hQ
    · replace h := if_f hb h
      refine Wp.exit ?_
      refine To.thenX ?_
      refine To.thenX ?_
      refine To.keep (kk := [6]) (kl := []) (K' := [(6, .val (.int .u64 v6))]) (L' := []) (by kernel_rfl) (by kernel_rfl) ?_
      cases h
      exact hQ
def ref05_Root (n : Nat) (a0 : Int) (a1 : Int) : Option (Int) :=
  lett ((bif (bif (decide (a0 < 1)) then true else (decide (a0 > 1000))) then true else (bif (a1 != 2) then (a1 != 3) else false)) : Bool) fun x1 =>
  if x1 = true then some 0
  else ((ref05_Root_j1 n a0 a1 (a1 == 2) (List.replicate 5 0)).bind fun o2 =>
  (ref05_Root_l2 n a1 o2 n 0 137438953472).bind fun o3 =>
  if ((4294967296 != 0)) = true then (some (IntKind.wrap .u32 ((Int.tmod o3 4294967296)))) else none)
theorem ok_ref05_Root (n : Nat) (a0 : Int) (a1 : Int) (r : Int) (h : ref05_Root n a0 a1 = some r) : CallsX Try.prog 11 [.val (.int .i64 a0), .val (.int .i64 a1)] (.val (.int .u32 r)) := by
  unfold ref05_Root at h
  refine callsX_of (fn := Try.f11) (by kernel_rfl) rfl (by kernel_rfl) (Nat.le_of_ble_eq_true (by kernel_rfl)) fun F0 w0 _ => ?_
  refine Wp.keep (kk := [0, 1]) (kl := []) (K' := [(0, .val (.int .i64 a0)), (1, .val (.int .i64 a1))]) (L' := []) (by kernel_rfl) (by kernel_rfl) ?_
  refine Wp.seq ?_
  refine Wp.region hΓ [] [] [] [0, 1] [] (K' := [(0, .val (.int .i64 a0)), (1, .val (.int .i64 a1))]) (L' := []) (ob := []) (by kernel_rfl) AllP.nil ?_
  refine To.thenN ?_
  refine Wp.seq ?_
  refine Wp.seq ?_
  obtain ⟨x1, hx1, h⟩ := lett_of h
  refine Wp.region hΓ [] [] [] [0, 1, 24] [] (K' := [(0, .val (.int .i64 a0)), (1, .val (.int .i64 a1)), (24, .val (.bool (bif (bif (decide (a0 < 1)) then true else (decide (a0 > 1000))) then true else (bif (a1 != 2) then (a1 != 3) else false))))]) (L' := []) (ob := []) (by kernel_rfl) AllP.nil ?_
  refine To.eq (K' := [(0, .val (.int .i64 a0)), (1, .val (.int .i64 a1)), (24, .val (.bool x1))]) (L' := []) (by cases hx1; rfl) (by cases hx1; rfl) ?_
  refine To.thenN ?_
  refine Wp.cond (b := x1) (by kernel_rfl) (fun hb => ?_) (fun hb => ?_)
  · replace h := if_t hb h
    refine Wp.seq ?_
    refine Wp.region hΓ [] [] [] [4] [] (K' := [(4, .val (.int .u32 0))]) (L' := []) (ob := []) (by kernel_rfl) AllP.nil ?_
    refine To.thenN ?_
    refine Wp.ret ?_
    refine To.thenR ?_
    refine To.keep (kk := [4]) (kl := []) (K' := [(4, .val (.int .u32 0))]) (L' := []) (by kernel_rfl) (by kernel_rfl) ?_
    cases h
    exact To.done hΓ (by kernel_rfl)
  · replace h := if_f hb h
    refine Wp.skip ?_
    refine To.thenN ?_
    refine Wp.seq ?_
    refine Wp.region hΓ [] [] [] [0, 1, 5] [5] (K' := [(0, .val (.int .i64 a0)), (1, .val (.int .i64 a1)), (5, .own 5 0)]) (L' := [(5, 38, [.val (.int .u64 0), .val (.int .u64 0), .val (.int .u64 0), .val (.int .u64 0), .val (.int .u64 0)])]) (ob := []) (by kernel_rfl) AllP.nil ?_
    refine To.pre (St.toRow (t := 38) (l := (List.replicate 5 0)) 5 1 5 (by decide) (by decide) (good_E_u64 _) (by kernel_rfl) (by kernel_rfl) (by kernel_rfl) (by kernel_rfl) (K' := [(0, .val (.int .i64 a0)), (1, .val (.int .i64 a1)), (5, .elm 5 0 1 0)]) (L' := [(5, 38, [.rowc false (α := Int) 0 E_u64 (List.replicate 5 0)])]) (by kernel_rfl) (by kernel_rfl)) ?_
    refine To.thenN ?_
    refine Wp.seq ?_
    refine Wp.seq ?_
    refine Wp.region hΓ [] [] [] [0, 1, 5, 27] [5] (K' := [(0, .val (.int .i64 a0)), (1, .val (.int .i64 a1)), (5, .elm 5 0 1 0), (27, .val (.bool (a1 == 2)))]) (L' := [(5, 38, [.rowc false (α := Int) 0 E_u64 (List.replicate 5 0)])]) (ob := []) (by kernel_rfl) AllP.nil ?_
    refine To.thenN ?_
    obtain ⟨o2, ho2, h⟩ := bind_of h
    refine Wp.keep (kk := [0, 1, 5, 27]) (kl := [5]) (K' := [(0, .val (.int .i64 a0)), (1, .val (.int .i64 a1)), (5, .elm 5 0 1 0), (27, .val (.bool (a1 == 2)))]) (L' := [(5, 38, [.rowc false (α := Int) 0 E_u64 (List.replicate 5 0)])]) (by kernel_rfl) (by kernel_rfl) ?_
    refine ok_ref05_Root_j1 n a0 a1 (a1 == 2) (List.replicate 5 0) o2 ho2 ?_
    refine To.thenN ?_
    refine Wp.seq ?_
    refine Wp.region hΓ [] [] [] [1, 5, 6] [5] (K' := [(1, .val (.int .i64 a1)), (5, .elm 5 0 1 0), (6, .val (.int .u64 0))]) (L' := [(5, 38, [.rowc false (α := Int) 0 E_u64 o2])]) (ob := []) (by kernel_rfl) AllP.nil ?_
    refine To.thenN ?_
    refine Wp.seq ?_
    refine Wp.region hΓ [] [] [] [1, 5, 6, 7] [5] (K' := [(1, .val (.int .i64 a1)), (5, .elm 5 0 1 0), (6, .val (.int .u64 0)), (7, .val (.int .u64 137438953472))]) (L' := [(5, 38, [.rowc false (α := Int) 0 E_u64 o2])]) (ob := []) (by kernel_rfl) AllP.nil ?_
    refine To.thenN ?_
    refine Wp.seq ?_
    refine Wp.block ?_
    obtain ⟨o3, ho3, h⟩ := bind_of h
    refine Wp.keep (kk := [1, 5, 6, 7]) (kl := [5]) (K' := [(1, .val (.int .i64 a1)), (5, .elm 5 0 1 0), (6, .val (.int .u64 0)), (7, .val (.int .u64 137438953472))]) (L' := [(5, 38, [.rowc false (α := Int) 0 E_u64 o2])]) (by kernel_rfl) (by kernel_rfl) ?_
    refine Wp.loopL ?_
    refine ok_ref05_Root_l2 n a1 o2 n 0 137438953472 o3 ho3 ?_
    refine To.blockX ?_
    refine To.thenN ?_
    refine Wp.seq ?_
    obtain ⟨hc4, h⟩ := chk_of h
    refine Wp.region hΓ [] [] [] [4] [] (K' := [(4, .val (.int .u32 (IntKind.wrap .u32 ((Int.tmod o3 4294967296)))))]) (L' := []) (ob := [((4294967296 != 0)) = true]) (by kernel_rfl) (AllP.cons hc4 AllP.nil) ?_
    refine To.thenN ?_
    refine Wp.ret ?_
    refine To.keep (kk := [4]) (kl := []) (K' := [(4, .val (.int .u32 (IntKind.wrap .u32 ((Int.tmod o3 4294967296)))))]) (L' := []) (by kernel_rfl) (by kernel_rfl) ?_
    cases h
    exact To.done hΓ (by kernel_rfl)
def sha_Hex_l1 (n : Nat) (v0 : List UInt8) (v10 : Int) : Nat → (List (UInt8)) → Int → Option ((List (UInt8)))
  | 0, _, _ => none
  | k + 1, v3, v11 => if (decide (v11 < v10)) = true then (if (decide (0 ≤ v11 ∧ v11 < (List.length v0 : Int))) = true then (if (decide (0 ≤ (4 : Int))) = true then (if (decide (0 ≤ (Int.fdiv (((v0)[Int.toNat v11]?.getD 0).toNat : Int) (2 ^ (min (Int.toNat 4) (IntKind.bits .u8)))) ∧ (Int.fdiv (((v0)[Int.toNat v11]?.getD 0).toNat : Int) (2 ^ (min (Int.toNat 4) (IntKind.bits .u8)))) < (List.length ([48, 49, 50, 51, 52, 53, 54, 55, 56, 57, 97, 98, 99, 100, 101, 102] : List UInt8) : Int))) = true then (if (decide (0 ≤ (IntKind.wrap .u8 ((BitVec.ofInt (IntKind.bits .u8) (((v0)[Int.toNat v11]?.getD 0).toNat : Int) &&& BitVec.ofInt (IntKind.bits .u8) 15).toNat)) ∧ (IntKind.wrap .u8 ((BitVec.ofInt (IntKind.bits .u8) (((v0)[Int.toNat v11]?.getD 0).toNat : Int) &&& BitVec.ofInt (IntKind.bits .u8) 15).toNat)) < (List.length ([48, 49, 50, 51, 52, 53, 54, 55, 56, 57, 97, 98, 99, 100, 101, 102] : List UInt8) : Int))) = true then (if (decide ((List.length v3 + List.length ([((([48, 49, 50, 51, 52, 53, 54, 55, 56, 57, 97, 98, 99, 100, 101, 102] : List UInt8))[Int.toNat (Int.fdiv (((v0)[Int.toNat v11]?.getD 0).toNat : Int) (2 ^ (min (Int.toNat 4) (IntKind.bits .u8))))]?.getD 0), ((([48, 49, 50, 51, 52, 53, 54, 55, 56, 57, 97, 98, 99, 100, 101, 102] : List UInt8))[Int.toNat (IntKind.wrap .u8 ((BitVec.ofInt (IntKind.bits .u8) (((v0)[Int.toNat v11]?.getD 0).toNat : Int) &&& BitVec.ofInt (IntKind.bits .u8) 15).toNat))]?.getD 0)] : List (UInt8))) * (1 + 1) ≤ limit)) = true then (lett ((v3 ++ ([((([48, 49, 50, 51, 52, 53, 54, 55, 56, 57, 97, 98, 99, 100, 101, 102] : List UInt8))[Int.toNat (Int.fdiv (((v0)[Int.toNat v11]?.getD 0).toNat : Int) (2 ^ (min (Int.toNat 4) (IntKind.bits .u8))))]?.getD 0), ((([48, 49, 50, 51, 52, 53, 54, 55, 56, 57, 97, 98, 99, 100, 101, 102] : List UInt8))[Int.toNat (IntKind.wrap .u8 ((BitVec.ofInt (IntKind.bits .u8) (((v0)[Int.toNat v11]?.getD 0).toNat : Int) &&& BitVec.ofInt (IntKind.bits .u8) 15).toNat))]?.getD 0)] : List (UInt8))) : List (UInt8)) fun x1 =>
  sha_Hex_l1 n v0 v10 k x1 (IntKind.wrap .i64 (v11 + 1))) else none) else none) else none) else none) else none)
  else some v3
theorem ok_sha_Hex_l1 (n : Nat) (v0 : List UInt8) (v10 : Int) {F0 : Fz} {w0 : Pt Try.prog} {Q : Exit → Act → World → Prop} (k : Nat) : ∀ (v3 : List (UInt8)) (v11 : Int) (o : (List (UInt8))), sha_Hex_l1 n v0 v10 k v3 v11 = some o → To 30 F0 w0 [(3, .row 1003)] [(1003, 5, [.rowc false (α := UInt8) 0 e8 o])] (.exit 0) Q → WL Try.prog 30 F0 w0 [(0, .str v0), (3, .row 1003), (10, .val (.int .i64 v10)), (11, .val (.int .i64 v11))] [(1003, 5, [.rowc false (α := UInt8) 0 e8 v3])] (cI (cI (cB (cA (cB (cB (cF Try.f17))))))) Q := by
  induction k with
  | zero => intro v3 v11 o h; cases h
  | succ k ih =>
    intro v3 v11 o h hQ
    rw [sha_Hex_l1] at h
    refine WL.round ?_
    refine Wp.seq ?_
    refine Wp.region hΓ [] [] [] [0, 3, 10, 11, 12] [1003] (K' := [(0, .str v0), (3, .row 1003), (10, .val (.int .i64 v10)), (11, .val (.int .i64 v11)), (12, .val (.bool (decide (v11 < v10))))]) (L' := [(1003, 5, [.rowc false (α := UInt8) 0 e8 v3])]) (ob := []) (by kernel_rfl) AllP.nil ?_
    refine To.thenN ?_
    refine Wp.seq ?_
    refine Wp.cond (b := (decide (v11 < v10))) (by kernel_rfl) (fun hb => ?_) (fun hb => ?_)
    · replace h := if_t hb h
      refine Wp.skip ?_
      refine To.thenN ?_
      refine Wp.seq ?_
      refine Wp.block ?_
      refine Wp.seq ?_
      refine Wp.region hΓ [] [] [] [0, 3, 4, 10, 11] [1003] (K' := [(0, .str v0), (3, .row 1003), (4, .val (.int .i64 v11)), (10, .val (.int .i64 v10)), (11, .val (.int .i64 v11))]) (L' := [(1003, 5, [.rowc false (α := UInt8) 0 e8 v3])]) (ob := []) (by kernel_rfl) AllP.nil ?_
      refine To.thenN ?_
      obtain ⟨hc2, h⟩ := chk_of h
      obtain ⟨hc3, h⟩ := chk_of h
      obtain ⟨hc4, h⟩ := chk_of h
      obtain ⟨hc5, h⟩ := chk_of h
      obtain ⟨hc6, h⟩ := chk_of h
      obtain ⟨x1, hx1, h⟩ := lett_of h
      refine Wp.regionD hm hΓ [(11, .recs (α := UInt8) 0 e8 ([((([48, 49, 50, 51, 52, 53, 54, 55, 56, 57, 97, 98, 99, 100, 101, 102] : List UInt8))[Int.toNat (Int.fdiv (((v0)[Int.toNat v11]?.getD 0).toNat : Int) (2 ^ (min (Int.toNat 4) (IntKind.bits .u8))))]?.getD 0), ((([48, 49, 50, 51, 52, 53, 54, 55, 56, 57, 97, 98, 99, 100, 101, 102] : List UInt8))[Int.toNat (IntKind.wrap .u8 ((BitVec.ofInt (IntKind.bits .u8) (((v0)[Int.toNat v11]?.getD 0).toNat : Int) &&& BitVec.ofInt (IntKind.bits .u8) 15).toNat))]?.getD 0)])), (12, .row 26), (1012, .recs (α := UInt8) 0 e8 (v3 ++ ([((([48, 49, 50, 51, 52, 53, 54, 55, 56, 57, 97, 98, 99, 100, 101, 102] : List UInt8))[Int.toNat (Int.fdiv (((v0)[Int.toNat v11]?.getD 0).toNat : Int) (2 ^ (min (Int.toNat 4) (IntKind.bits .u8))))]?.getD 0), ((([48, 49, 50, 51, 52, 53, 54, 55, 56, 57, 97, 98, 99, 100, 101, 102] : List UInt8))[Int.toNat (IntKind.wrap .u8 ((BitVec.ofInt (IntKind.bits .u8) (((v0)[Int.toNat v11]?.getD 0).toNat : Int) &&& BitVec.ofInt (IntKind.bits .u8) 15).toNat))]?.getD 0)] : List (UInt8))))] [0, 3, 10, 11] [26] (K' := [(0, .str v0), (3, .row 26), (10, .val (.int .i64 v10)), (11, .val (.int .i64 v11))]) (L' := [(26, 5, [.rowc false (α := UInt8) 0 e8 (v3 ++ ([((([48, 49, 50, 51, 52, 53, 54, 55, 56, 57, 97, 98, 99, 100, 101, 102] : List UInt8))[Int.toNat (Int.fdiv (((v0)[Int.toNat v11]?.getD 0).toNat : Int) (2 ^ (min (Int.toNat 4) (IntKind.bits .u8))))]?.getD 0), ((([48, 49, 50, 51, 52, 53, 54, 55, 56, 57, 97, 98, 99, 100, 101, 102] : List UInt8))[Int.toNat (IntKind.wrap .u8 ((BitVec.ofInt (IntKind.bits .u8) (((v0)[Int.toNat v11]?.getD 0).toNat : Int) &&& BitVec.ofInt (IntKind.bits .u8) 15).toNat))]?.getD 0)] : List (UInt8)))])]) (ob := [(decide (0 ≤ v11 ∧ v11 < (List.length v0 : Int))) = true, (decide (0 ≤ (4 : Int))) = true, (decide (0 ≤ (Int.fdiv (((v0)[Int.toNat v11]?.getD 0).toNat : Int) (2 ^ (min (Int.toNat 4) (IntKind.bits .u8)))) ∧ (Int.fdiv (((v0)[Int.toNat v11]?.getD 0).toNat : Int) (2 ^ (min (Int.toNat 4) (IntKind.bits .u8)))) < (List.length ([48, 49, 50, 51, 52, 53, 54, 55, 56, 57, 97, 98, 99, 100, 101, 102] : List UInt8) : Int))) = true, (decide (0 ≤ v11 ∧ v11 < (List.length v0 : Int))) = true, (decide (0 ≤ (IntKind.wrap .u8 ((BitVec.ofInt (IntKind.bits .u8) (((v0)[Int.toNat v11]?.getD 0).toNat : Int) &&& BitVec.ofInt (IntKind.bits .u8) 15).toNat)) ∧ (IntKind.wrap .u8 ((BitVec.ofInt (IntKind.bits .u8) (((v0)[Int.toNat v11]?.getD 0).toNat : Int) &&& BitVec.ofInt (IntKind.bits .u8) 15).toNat)) < (List.length ([48, 49, 50, 51, 52, 53, 54, 55, 56, 57, 97, 98, 99, 100, 101, 102] : List UInt8) : Int))) = true, (true = true → MkOb 1 [.val (.int .u8 (((([48, 49, 50, 51, 52, 53, 54, 55, 56, 57, 97, 98, 99, 100, 101, 102] : List UInt8))[Int.toNat (Int.fdiv (((v0)[Int.toNat v11]?.getD 0).toNat : Int) (2 ^ (min (Int.toNat 4) (IntKind.bits .u8))))]?.getD 0).toNat : Int)), .val (.int .u8 (((([48, 49, 50, 51, 52, 53, 54, 55, 56, 57, 97, 98, 99, 100, 101, 102] : List UInt8))[Int.toNat (IntKind.wrap .u8 ((BitVec.ofInt (IntKind.bits .u8) (((v0)[Int.toNat v11]?.getD 0).toNat : Int) &&& BitVec.ofInt (IntKind.bits .u8) 15).toNat))]?.getD 0).toNat : Int))] 2 (.recs (α := UInt8) 0 e8 ([((([48, 49, 50, 51, 52, 53, 54, 55, 56, 57, 97, 98, 99, 100, 101, 102] : List UInt8))[Int.toNat (Int.fdiv (((v0)[Int.toNat v11]?.getD 0).toNat : Int) (2 ^ (min (Int.toNat 4) (IntKind.bits .u8))))]?.getD 0), ((([48, 49, 50, 51, 52, 53, 54, 55, 56, 57, 97, 98, 99, 100, 101, 102] : List UInt8))[Int.toNat (IntKind.wrap .u8 ((BitVec.ofInt (IntKind.bits .u8) (((v0)[Int.toNat v11]?.getD 0).toNat : Int) &&& BitVec.ofInt (IntKind.bits .u8) 15).toNat))]?.getD 0)])) ∧ GoodR (.recs (α := UInt8) 0 e8 ([((([48, 49, 50, 51, 52, 53, 54, 55, 56, 57, 97, 98, 99, 100, 101, 102] : List UInt8))[Int.toNat (Int.fdiv (((v0)[Int.toNat v11]?.getD 0).toNat : Int) (2 ^ (min (Int.toNat 4) (IntKind.bits .u8))))]?.getD 0), ((([48, 49, 50, 51, 52, 53, 54, 55, 56, 57, 97, 98, 99, 100, 101, 102] : List UInt8))[Int.toNat (IntKind.wrap .u8 ((BitVec.ofInt (IntKind.bits .u8) (((v0)[Int.toNat v11]?.getD 0).toNat : Int) &&& BitVec.ofInt (IntKind.bits .u8) 15).toNat))]?.getD 0)]))), (decide ((List.length v3 + List.length ([((([48, 49, 50, 51, 52, 53, 54, 55, 56, 57, 97, 98, 99, 100, 101, 102] : List UInt8))[Int.toNat (Int.fdiv (((v0)[Int.toNat v11]?.getD 0).toNat : Int) (2 ^ (min (Int.toNat 4) (IntKind.bits .u8))))]?.getD 0), ((([48, 49, 50, 51, 52, 53, 54, 55, 56, 57, 97, 98, 99, 100, 101, 102] : List UInt8))[Int.toNat (IntKind.wrap .u8 ((BitVec.ofInt (IntKind.bits .u8) (((v0)[Int.toNat v11]?.getD 0).toNat : Int) &&& BitVec.ofInt (IntKind.bits .u8) 15).toNat))]?.getD 0)] : List (UInt8))) * (1 + 1) ≤ limit)) = true, (AppOb 0 e8 v3 (List.flatMap e8 ([((([48, 49, 50, 51, 52, 53, 54, 55, 56, 57, 97, 98, 99, 100, 101, 102] : List UInt8))[Int.toNat (Int.fdiv (((v0)[Int.toNat v11]?.getD 0).toNat : Int) (2 ^ (min (Int.toNat 4) (IntKind.bits .u8))))]?.getD 0), ((([48, 49, 50, 51, 52, 53, 54, 55, 56, 57, 97, 98, 99, 100, 101, 102] : List UInt8))[Int.toNat (IntKind.wrap .u8 ((BitVec.ofInt (IntKind.bits .u8) (((v0)[Int.toNat v11]?.getD 0).toNat : Int) &&& BitVec.ofInt (IntKind.bits .u8) 15).toNat))]?.getD 0)] : List (UInt8))) (List.length ([((([48, 49, 50, 51, 52, 53, 54, 55, 56, 57, 97, 98, 99, 100, 101, 102] : List UInt8))[Int.toNat (Int.fdiv (((v0)[Int.toNat v11]?.getD 0).toNat : Int) (2 ^ (min (Int.toNat 4) (IntKind.bits .u8))))]?.getD 0), ((([48, 49, 50, 51, 52, 53, 54, 55, 56, 57, 97, 98, 99, 100, 101, 102] : List UInt8))[Int.toNat (IntKind.wrap .u8 ((BitVec.ofInt (IntKind.bits .u8) (((v0)[Int.toNat v11]?.getD 0).toNat : Int) &&& BitVec.ofInt (IntKind.bits .u8) 15).toNat))]?.getD 0)] : List (UInt8))) (.recs (α := UInt8) 0 e8 (v3 ++ ([((([48, 49, 50, 51, 52, 53, 54, 55, 56, 57, 97, 98, 99, 100, 101, 102] : List UInt8))[Int.toNat (Int.fdiv (((v0)[Int.toNat v11]?.getD 0).toNat : Int) (2 ^ (min (Int.toNat 4) (IntKind.bits .u8))))]?.getD 0), ((([48, 49, 50, 51, 52, 53, 54, 55, 56, 57, 97, 98, 99, 100, 101, 102] : List UInt8))[Int.toNat (IntKind.wrap .u8 ((BitVec.ofInt (IntKind.bits .u8) (((v0)[Int.toNat v11]?.getD 0).toNat : Int) &&& BitVec.ofInt (IntKind.bits .u8) 15).toNat))]?.getD 0)] : List (UInt8)))) ∧ GoodR (.recs (α := UInt8) 0 e8 (v3 ++ ([((([48, 49, 50, 51, 52, 53, 54, 55, 56, 57, 97, 98, 99, 100, 101, 102] : List UInt8))[Int.toNat (Int.fdiv (((v0)[Int.toNat v11]?.getD 0).toNat : Int) (2 ^ (min (Int.toNat 4) (IntKind.bits .u8))))]?.getD 0), ((([48, 49, 50, 51, 52, 53, 54, 55, 56, 57, 97, 98, 99, 100, 101, 102] : List UInt8))[Int.toNat (IntKind.wrap .u8 ((BitVec.ofInt (IntKind.bits .u8) (((v0)[Int.toNat v11]?.getD 0).toNat : Int) &&& BitVec.ofInt (IntKind.bits .u8) 15).toNat))]?.getD 0)] : List (UInt8)))))]) (by kernel_rfl) (AllP.cons hc2 (AllP.cons hc3 (AllP.cons hc4 (AllP.cons hc2 (AllP.cons hc5 (AllP.cons (fun _ => mkOb (All8.cells (ns := [(((([48, 49, 50, 51, 52, 53, 54, 55, 56, 57, 97, 98, 99, 100, 101, 102] : List UInt8))[Int.toNat (Int.fdiv (((v0)[Int.toNat v11]?.getD 0).toNat : Int) (2 ^ (min (Int.toNat 4) (IntKind.bits .u8))))]?.getD 0).toNat : Int), (((([48, 49, 50, 51, 52, 53, 54, 55, 56, 57, 97, 98, 99, 100, 101, 102] : List UInt8))[Int.toNat (IntKind.wrap .u8 ((BitVec.ofInt (IntKind.bits .u8) (((v0)[Int.toNat v11]?.getD 0).toNat : Int) &&& BitVec.ofInt (IntKind.bits .u8) 15).toNat))]?.getD 0).toNat : Int)]) (.cons rfl (.cons rfl .nil))) rfl rfl (good8 _)) (AllP.cons hc6 (AllP.cons (appOb rfl rfl (good8 _)) AllP.nil)))))))) ?_
      refine To.eq (K' := [(0, .str v0), (3, .row 26), (10, .val (.int .i64 v10)), (11, .val (.int .i64 v11))]) (L' := [(26, 5, [.rowc false (α := UInt8) 0 e8 x1])]) (by cases hx1; rfl) (by cases hx1; rfl) ?_
      refine To.blockN ?_
      refine To.thenN ?_
      refine Wp.region hΓ [] [] [] [0, 3, 10, 11] [26] (K' := [(0, .str v0), (3, .row 26), (10, .val (.int .i64 v10)), (11, .val (.int .i64 (IntKind.wrap .i64 (v11 + 1))))]) (L' := [(26, 5, [.rowc false (α := UInt8) 0 e8 x1])]) (ob := []) (by kernel_rfl) AllP.nil ?_
      refine To.keep (kk := [0, 3, 10, 11]) (kl := [26]) (K' := [(0, .str v0), (3, .row 26), (10, .val (.int .i64 v10)), (11, .val (.int .i64 (IntKind.wrap .i64 (v11 + 1))))]) (L' := [(26, 5, [.rowc false (α := UInt8) 0 e8 x1])]) (by kernel_rfl) (by kernel_rfl) ?_
      refine To.pre (St.rename 26 1003 (by decide) (K' := [(0, .str v0), (3, .row 1003), (10, .val (.int .i64 v10)), (11, .val (.int .i64 (IntKind.wrap .i64 (v11 + 1))))]) (L' := [(1003, 5, [.rowc false (α := UInt8) 0 e8 x1])]) (by kernel_rfl) (by kernel_rfl) (by kernel_rfl)) ?_
      refine To.keep (kk := [0, 3, 10, 11]) (kl := [1003]) (K' := [(0, .str v0), (3, .row 1003), (10, .val (.int .i64 v10)), (11, .val (.int .i64 (IntKind.wrap .i64 (v11 + 1))))]) (L' := [(1003, 5, [.rowc false (α := UInt8) 0 e8 x1])]) (by kernel_rfl) (by kernel_rfl) ?_
      refine To.again ?_
      exact ih x1 (IntKind.wrap .i64 (v11 + 1)) _ h hQ
    · replace h := if_f hb h
      refine Wp.exit ?_
      refine To.thenX ?_
      refine To.thenX ?_
      refine To.keep (kk := [3]) (kl := [1003]) (K' := [(3, .row 1003)]) (L' := [(1003, 5, [.rowc false (α := UInt8) 0 e8 v3])]) (by kernel_rfl) (by kernel_rfl) ?_
      cases h
      exact hQ
def sha_Hex (n : Nat) (a0 : List UInt8) : Option ((List UInt8)) :=
  if (decide (0 ≤ (0 : Int) ∧ (0 : Int) ≤ (IntKind.wrap .i64 (2 * (List.length a0 : Int))))) = true then (if (decide ((IntKind.wrap .i64 (2 * (List.length a0 : Int))) * ((1 + 1 : Nat) : Int) ≤ (limit : Int))) = true then ((sha_Hex_l1 n a0 (List.length a0 : Int) n ([] : List (UInt8)) 0).bind fun o1 =>
  some o1) else none) else none
theorem ok_sha_Hex (n : Nat) (a0 : List UInt8) (r : (List UInt8)) (h : sha_Hex n a0 = some r) : CallsX Try.prog 17 [.str a0] (.str r) := by
  unfold sha_Hex at h
  refine callsX_of (fn := Try.f17) (by kernel_rfl) rfl (by kernel_rfl) (Nat.le_of_ble_eq_true (by kernel_rfl)) fun F0 w0 _ => ?_
  refine Wp.keep (kk := [0]) (kl := []) (K' := [(0, .str a0)]) (L' := []) (by kernel_rfl) (by kernel_rfl) ?_
  refine Wp.seq ?_
  refine Wp.region hΓ [] [] [] [0] [] (K' := [(0, .str a0)]) (L' := []) (ob := []) (by kernel_rfl) AllP.nil ?_
  refine To.thenN ?_
  refine Wp.seq ?_
  obtain ⟨hc2, h⟩ := chk_of h
  obtain ⟨hc3, h⟩ := chk_of h
  refine Wp.region hΓ [] [(3, .recs (α := UInt8) 0 e8 [])] [] [0, 3] [8] (K' := [(0, .str a0), (3, .row 8)]) (L' := [(8, 5, [.rowc false (α := UInt8) 0 e8 []])]) (ob := [(decide (0 ≤ (0 : Int) ∧ (0 : Int) ≤ (IntKind.wrap .i64 (2 * (List.length a0 : Int))))) = true, (decide ((IntKind.wrap .i64 (2 * (List.length a0 : Int))) * ((1 + 1 : Nat) : Int) ≤ (limit : Int))) = true, (MadeOb [.val (.int .u8 0)] (Int.toNat 0) (.recs (α := UInt8) 0 e8 []) ∧ GoodR (.recs (α := UInt8) 0 e8 []))]) (by kernel_rfl) (AllP.cons hc2 (AllP.cons hc3 (AllP.cons (madeOb (by kernel_rfl) (good8 _)) AllP.nil))) ?_
  refine To.thenN ?_
  refine Wp.seq ?_
  refine Wp.seq ?_
  refine Wp.region hΓ [] [] [] [0, 3, 10, 11] [8] (K' := [(0, .str a0), (3, .row 8), (10, .val (.int .i64 (List.length a0 : Int))), (11, .val (.int .i64 0))]) (L' := [(8, 5, [.rowc false (α := UInt8) 0 e8 []])]) (ob := []) (by kernel_rfl) AllP.nil ?_
  refine To.thenN ?_
  refine Wp.block ?_
  obtain ⟨o1, ho1, h⟩ := bind_of h
  refine Wp.keep (kk := [0, 3, 10, 11]) (kl := [8]) (K' := [(0, .str a0), (3, .row 8), (10, .val (.int .i64 (List.length a0 : Int))), (11, .val (.int .i64 0))]) (L' := [(8, 5, [.rowc false (α := UInt8) 0 e8 []])]) (by kernel_rfl) (by kernel_rfl) ?_
  refine Wp.pre (St.rename 8 1003 (by decide) (K' := [(0, .str a0), (3, .row 1003), (10, .val (.int .i64 (List.length a0 : Int))), (11, .val (.int .i64 0))]) (L' := [(1003, 5, [.rowc false (α := UInt8) 0 e8 []])]) (by kernel_rfl) (by kernel_rfl) (by kernel_rfl)) ?_
  refine Wp.keep (kk := [0, 3, 10, 11]) (kl := [1003]) (K' := [(0, .str a0), (3, .row 1003), (10, .val (.int .i64 (List.length a0 : Int))), (11, .val (.int .i64 0))]) (L' := [(1003, 5, [.rowc false (α := UInt8) 0 e8 []])]) (by kernel_rfl) (by kernel_rfl) ?_
  refine Wp.loopL ?_
  refine ok_sha_Hex_l1 n a0 (List.length a0 : Int) n ([] : List (UInt8)) 0 o1 ho1 ?_
  refine To.blockX ?_
  refine To.thenN ?_
  refine Wp.seq ?_
  refine Wp.region hΓ [] [(1, .str o1)] [] [2] [] (K' := [(2, .str o1)]) (L' := []) (ob := [(true = true → StrOb (List.flatMap e8 o1) (.str o1))]) (by kernel_rfl) (AllP.cons (fun _ => strOb (flat8 _)) AllP.nil) ?_
  refine To.thenN ?_
  refine Wp.ret ?_
  refine To.keep (kk := [2]) (kl := []) (K' := [(2, .str o1)]) (L' := []) (by kernel_rfl) (by kernel_rfl) ?_
  cases h
  exact To.done hΓ (by kernel_rfl)
def law05_awake (n : Nat) : Option (Bool) :=
  (sha_Root n 2 3).bind fun r1 =>
  ((if ((r1 == 1116352408) == true) = true then sha_Root n 2 2 else some 0)).bind fun r2 =>
  ((if ((bif (r1 == 1116352408) then (r2 == 1779033703) else false) == true) = true then sha_Primes n 3 else some [])).bind fun r3 =>
  ((if ((bif (r1 == 1116352408) then (r2 == 1779033703) else false) == true) = true then law05_same n r3 [2, 3, 5] else some false)).bind fun r4 =>
  ((if ((bif (bif (r1 == 1116352408) then (r2 == 1779033703) else false) then r4 else false) == true) = true then sha_Hex n [15] else some [])).bind fun r5 =>
  lett ((bif (bif (bif (r1 == 1116352408) then (r2 == 1779033703) else false) then r4 else false) then (r5 == [48, 102]) else false) : Bool) fun x6 =>
  some x6
theorem ok_law05_awake (n : Nat) (r : Bool) (h : law05_awake n = some r) : CallsX Try.prog 12 [] (.val (.bool r)) := by
  unfold law05_awake at h
  refine callsX_of (fn := Try.f12) (by kernel_rfl) rfl (by kernel_rfl) (Nat.le_of_ble_eq_true (by kernel_rfl)) fun F0 w0 _ => ?_
  refine Wp.keep (kk := []) (kl := []) (K' := []) (L' := []) (by kernel_rfl) (by kernel_rfl) ?_
  refine Wp.seq ?_
  refine Wp.region hΓ [] [] [] [] [] (K' := []) (L' := []) (ob := []) (by kernel_rfl) AllP.nil ?_
  refine To.thenN ?_
  refine Wp.seq ?_
  obtain ⟨r1, hr1, h⟩ := bind_of h
  obtain ⟨r2, hr2, h⟩ := bind_of h
  obtain ⟨r3, hr3, h⟩ := bind_of h
  obtain ⟨r4, hr4, h⟩ := bind_of h
  obtain ⟨r5, hr5, h⟩ := bind_of h
  obtain ⟨x6, hx6, h⟩ := lett_of h
  refine Wp.region hΓ [] [(0, .val (.int .u32 r1)), (3, .val (.int .u32 r2)), (7, .recs (α := Int) 0 E_i64 r3), (8, .recs (α := Int) 0 E_i64 [2, 3, 5]), (9, .val (.bool r4)), (12, .str r5)] [] [0] [] (K' := [(0, .val (.bool (bif (bif (bif (r1 == 1116352408) then (r2 == 1779033703) else false) then r4 else false) then (r5 == [48, 102]) else false)))]) (L' := []) (ob := [(true = true → CX Try.prog 10 [.val (.int .i64 2), .val (.int .i64 3)] (.val (.int .u32 r1))), (((r1 == 1116352408) == true) = true → CX Try.prog 10 [.val (.int .i64 2), .val (.int .i64 2)] (.val (.int .u32 r2))), (((bif (r1 == 1116352408) then (r2 == 1779033703) else false) == true) = true → CX Try.prog 8 [.val (.int .i64 3)] (.recs (α := Int) 0 E_i64 r3)), (((bif (r1 == 1116352408) then (r2 == 1779033703) else false) == true) = true → MkOb 1 [.val (.int .i64 2), .val (.int .i64 3), .val (.int .i64 5)] 3 (.recs (α := Int) 0 E_i64 [2, 3, 5]) ∧ GoodR (.recs (α := Int) 0 E_i64 [2, 3, 5])), (((bif (r1 == 1116352408) then (r2 == 1779033703) else false) == true) = true → CX Try.prog 7 [.recs (α := Int) 0 E_i64 r3, .recs (α := Int) 0 E_i64 [2, 3, 5]] (.val (.bool r4))), (((bif (bif (r1 == 1116352408) then (r2 == 1779033703) else false) then r4 else false) == true) = true → CX Try.prog 17 [.str [15]] (.str r5))]) (by kernel_rfl) (AllP.cons (fun _ => cx (ok_sha_Root n 2 3 _ hr1)) (AllP.cons (fun hg => cx (ok_sha_Root n 2 2 _ (if_t hg hr2))) (AllP.cons (fun hg => cx (ok_sha_Primes n 3 _ (if_t hg hr3))) (AllP.cons (fun _ => mkOb (by kernel_rfl) rfl (by kernel_rfl) (good_E_i64 _)) (AllP.cons (fun hg => cx (ok_law05_same n r3 [2, 3, 5] _ (if_t hg hr4))) (AllP.cons (fun hg => cx (ok_sha_Hex n [15] _ (if_t hg hr5))) AllP.nil)))))) ?_
  refine To.eq (K' := [(0, .val (.bool x6))]) (L' := []) (by cases hx6; rfl) (by cases hx6; rfl) ?_
  refine To.thenN ?_
  refine Wp.ret ?_
  refine To.keep (kk := [0]) (kl := []) (K' := [(0, .val (.bool x6))]) (L' := []) (by kernel_rfl) (by kernel_rfl) ?_
  cases h
  exact To.done hΓ (by kernel_rfl)
def law05_ShaRoots (n : Nat) (a0 : Int) (a1 : Int) (a2 : Int) : Option (Bool) :=
  (sha_Primes n a0).bind fun r1 =>
  (ref05_Primes n a0).bind fun r2 =>
  (law05_same n r1 r2).bind fun r3 =>
  ((if (r3 == true) = true then sha_Root n a1 a2 else some 0)).bind fun r4 =>
  ((if (r3 == true) = true then ref05_Root n a1 a2 else some 0)).bind fun r5 =>
  ((if ((bif r3 then (r4 == r5) else false) == true) = true then law05_awake n else some false)).bind fun r6 =>
  some (bif (bif r3 then (r4 == r5) else false) then r6 else false)
theorem ok_law05_ShaRoots (n : Nat) (a0 : Int) (a1 : Int) (a2 : Int) (r : Bool) (h : law05_ShaRoots n a0 a1 a2 = some r) : CallsX Try.prog 3 [.val (.int .i64 a0), .val (.int .i64 a1), .val (.int .i64 a2)] (.val (.bool r)) := by
  unfold law05_ShaRoots at h
  refine callsX_of (fn := Try.f3) (by kernel_rfl) rfl (by kernel_rfl) (Nat.le_of_ble_eq_true (by kernel_rfl)) fun F0 w0 _ => ?_
  refine Wp.keep (kk := [0, 1, 2]) (kl := []) (K' := [(0, .val (.int .i64 a0)), (1, .val (.int .i64 a1)), (2, .val (.int .i64 a2))]) (L' := []) (by kernel_rfl) (by kernel_rfl) ?_
  refine Wp.seq ?_
  refine Wp.region hΓ [] [] [] [0, 1, 2] [] (K' := [(0, .val (.int .i64 a0)), (1, .val (.int .i64 a1)), (2, .val (.int .i64 a2))]) (L' := []) (ob := []) (by kernel_rfl) AllP.nil ?_
  refine To.thenN ?_
  refine Wp.seq ?_
  obtain ⟨r1, hr1, h⟩ := bind_of h
  obtain ⟨r2, hr2, h⟩ := bind_of h
  obtain ⟨r3, hr3, h⟩ := bind_of h
  obtain ⟨r4, hr4, h⟩ := bind_of h
  obtain ⟨r5, hr5, h⟩ := bind_of h
  obtain ⟨r6, hr6, h⟩ := bind_of h
  refine Wp.region hΓ [] [(1, .recs (α := Int) 0 E_i64 r1), (3, .recs (α := Int) 0 E_i64 r2), (4, .val (.bool r3)), (8, .val (.int .u32 r4)), (11, .val (.int .u32 r5)), (15, .val (.bool r6))] [] [6] [] (K' := [(6, .val (.bool (bif (bif r3 then (r4 == r5) else false) then r6 else false)))]) (L' := []) (ob := [(true = true → CX Try.prog 8 [.val (.int .i64 a0)] (.recs (α := Int) 0 E_i64 r1)), (true = true → CX Try.prog 9 [.val (.int .i64 a0)] (.recs (α := Int) 0 E_i64 r2)), (true = true → CX Try.prog 7 [.recs (α := Int) 0 E_i64 r1, .recs (α := Int) 0 E_i64 r2] (.val (.bool r3))), ((r3 == true) = true → CX Try.prog 10 [.val (.int .i64 a1), .val (.int .i64 a2)] (.val (.int .u32 r4))), ((r3 == true) = true → CX Try.prog 11 [.val (.int .i64 a1), .val (.int .i64 a2)] (.val (.int .u32 r5))), (((bif r3 then (r4 == r5) else false) == true) = true → CX Try.prog 12 [] (.val (.bool r6)))]) (by kernel_rfl) (AllP.cons (fun _ => cx (ok_sha_Primes n a0 _ hr1)) (AllP.cons (fun _ => cx (ok_ref05_Primes n a0 _ hr2)) (AllP.cons (fun _ => cx (ok_law05_same n r1 r2 _ hr3)) (AllP.cons (fun hg => cx (ok_sha_Root n a1 a2 _ (if_t hg hr4))) (AllP.cons (fun hg => cx (ok_ref05_Root n a1 a2 _ (if_t hg hr5))) (AllP.cons (fun hg => cx (ok_law05_awake n  _ (if_t hg hr6))) AllP.nil)))))) ?_
  refine To.thenN ?_
  refine Wp.ret ?_
  refine To.keep (kk := [6]) (kl := []) (K' := [(6, .val (.bool (bif (bif r3 then (r4 == r5) else false) then r6 else false)))]) (L' := []) (by kernel_rfl) (by kernel_rfl) ?_
  cases h
  exact To.done hΓ (by kernel_rfl)
theorem opens_i64 : Opens Try.prog 3 (fun n : Int => IntKind.min .i64 ≤ n ∧ n ≤ IntKind.max .i64) (fun n => [.val (.int .i64 n)]) := opens_int (by kernel_rfl)
end Go.Proofs.Yteliiabopphgmaa.M