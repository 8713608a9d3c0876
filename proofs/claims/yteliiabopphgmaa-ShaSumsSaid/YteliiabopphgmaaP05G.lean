/-
  Chapter 05: the law ShaRoots. Over the printed models.
-/
import Derived.Test.YteliiabopphgmaaP05F
namespace Go.Proofs.Yteliiabopphgmaa.M
open Go Go.Proofs.Yteliiabopphgmaa.RX Go.Proofs.Yteliiabopphgmaa.PL

theorem fk_mono (kind : Int) {a b : Nat} (h : a ≤ b) : fk kind a ≤ fk kind b := by
  unfold fk
  split
  · exact Nat.mul_le_mul (Nat.mul_le_mul h h) h
  · exact Nat.mul_le_mul h h
theorem fk_root {kind : Int} {W r s : Nat} (h1 : fk kind r ≤ W) (h2 : W < fk kind (r + 1)) (h3 : fk kind s ≤ W) (h4 : W < fk kind (s + 1)) : r = s := by
  rcases Nat.lt_trichotomy r s with h | h | h
  · have := fk_mono kind (show r + 1 ≤ s from h); omega
  · exact h
  · have := fk_mono kind (show s + 1 ≤ r from h); omega
theorem wrap32 (r : Nat) : IntKind.wrap .u32 (Int.tmod (r : Int) 4294967296) = IntKind.wrap .u32 (r : Int) := by
  have e : Int.tmod (r : Int) 4294967296 = ((r % 4294967296 : Nat) : Int) := by rw [Int.tmod_eq_emod_of_nonneg (by omega)]; omega
  rw [e]
  simp only [IntKind.wrap, IntKind.bits, IntKind.signed, Bool.false_and, Bool.false_eq_true, if_false, show ((2 : Int) ^ 32) = 4294967296 from rfl]
  omega
theorem root_eq (n : Nat) (p kind : Int) (hn : 2000 ≤ n) : ∃ r : Int, sha_Root n p kind = some r ∧ ref05_Root n p kind = some r := by
  unfold sha_Root ref05_Root
  cases hx : (bif (bif (decide (p < 1)) then true else (decide (p > 1000))) then true else (bif (kind != 2) then (kind != 3) else false)) with
  | true => exact ⟨0, rfl, rfl⟩
  | false =>
    have hp1 : ¬ p < 1 := by intro h; rw [decide_eq_true h] at hx; cases hx
    have hp2 : ¬ p > 1000 := by intro h; rw [decide_eq_false hp1, decide_eq_true h] at hx; cases hx
    rw [decide_eq_false hp1, decide_eq_false hp2] at hx
    simp only [cond_false] at hx
    obtain ⟨P, rfl⟩ : ∃ P : Nat, p = (P : Int) := ⟨p.toNat, by omega⟩
    simp only [lett, Bool.false_eq_true, if_false]
    -- what is wanted
    have hw : ∃ w0 w1 w2 w3 w4 : Nat, ref05_Root_j1 n (P : Int) kind (kind == 2) (List.replicate 5 0) = some (L5 w0 w1 w2 w3 w4) ∧ w0 < 16777216 ∧ w1 < 16777216 ∧ w2 < 16777216 ∧ w3 < 16777216 ∧ w4 < 16777216 ∧
        (∀ x : Nat, x < 274877906944 → sha_above n (x : Int) (P : Int) kind = some (decide (V5 w0 w1 w2 w3 w4 < fk kind x))) ∧ V5 w0 w1 w2 w3 w4 < fk kind 274877906944 := by
      by_cases hk : kind = 2
      · subst hk
        refine ⟨0, 0, P * 65536 % 16777216, P * 65536 / 16777216, 0, ?_, by decide, by decide, by omega, by omega, by decide, fun x hx => ?_, ?_⟩
        · unfold ref05_Root_j1
          have c1 : (P : Int) * 65536 = ((P * 65536 : Nat) : Int) := by omega
          rw [wrapn P (by omega), c1, wrapn (P * 65536) (by omega), rem24, quo24, wrapn _ (by omega)]
          rfl
        · rw [above2 n x P hx (by omega)]
          have hv : V5 0 0 (P * 65536 % 16777216) (P * 65536 / 16777216) 0 = P * 18446744073709551616 := by unfold V5; omega
          rw [hv]; rfl
        · have hv : V5 0 0 (P * 65536 % 16777216) (P * 65536 / 16777216) 0 = P * 18446744073709551616 := by unfold V5; omega
          rw [hv]
          show _ < 274877906944 * 274877906944
          omega
      · have hk3 : kind = 3 := by
          have h2 : (kind != 2) = true := by rw [bne_iff_ne]; exact hk
          rw [h2] at hx
          simpa using hx
        subst hk3
        refine ⟨0, 0, 0, 0, P, ?_, by decide, by decide, by decide, by decide, by omega, fun x hx => ?_, ?_⟩
        · unfold ref05_Root_j1
          rw [wrapn P (by omega)]
          rfl
        · rw [above3 n x P hx (by omega)]
          have hv : V5 0 0 0 0 P = P * 79228162514264337593543950336 := by unfold V5; omega
          rw [hv]; rfl
        · have hv : V5 0 0 0 0 P = P * 79228162514264337593543950336 := by unfold V5; omega
          rw [hv]
          show _ < 274877906944 * 274877906944 * 274877906944
          omega
    obtain ⟨w0, w1, w2, w3, w4, hj, g0, g1, g2, g3, g4, hA, hT⟩ := hw
    have hz : fk kind 0 ≤ V5 w0 w1 w2 w3 w4 := by
      have : fk kind 0 = 0 := by unfold fk; split <;> rfl
      omega
    obtain ⟨r, h1, h2, h3, h4⟩ := bis (n := n) hA 38 n 0 274877906944 (by decide) (by omega) (by decide) (Nat.le_refl _) hz hT
    obtain ⟨s, h5, h6, h7, h8⟩ := rloop n w0 w1 w2 w3 w4 kind (by omega) g0 g1 g2 g3 g4 37 n 0 (by omega) hz (by rw [show 0 + 2 * 2 ^ 37 = 274877906944 from rfl]; exact hT) (by decide)
    have h1' : sha_Root_l1 n (P : Int) kind n 0 274877906944 = some (r : Int) := h1
    have h5' : ref05_Root_l2 n kind (L5 w0 w1 w2 w3 w4) n 0 137438953472 = some (s : Int) := h5
    rw [h1', hj]
    simp only [Option.bind_some]
    rw [h5']
    have hrs := fk_root h2 h3 h6 h7
    subst hrs
    refine ⟨IntKind.wrap .u32 (r : Int), rfl, ?_⟩
    simp only [Option.bind_some, show ((4294967296 : Int) != 0) = true from rfl, if_true, wrap32]
    rfl
theorem law05_awake_eq : law05_awake 2000 = some true := by kernel_rfl
theorem law05_ShaRoots_true (a0 : Int) (_ : IntKind.min .i64 ≤ a0 ∧ a0 ≤ IntKind.max .i64) (a1 : Int) (_ : IntKind.min .i64 ≤ a1 ∧ a1 ≤ IntKind.max .i64) (a2 : Int) (_ : IntKind.min .i64 ≤ a2 ∧ a2 ≤ IntKind.max .i64) : ∃ n, law05_ShaRoots n a0 a1 a2 = some true := by
  refine ⟨2000, ?_⟩
  have haw := law05_awake_eq
  generalize hn : 2000 = n at *
  obtain ⟨l, hl, hs, hr⟩ := primes_eq n a0 hn.symm
  obtain ⟨r, hs2, hr2⟩ := root_eq n a1 a2 (by omega)
  unfold law05_ShaRoots
  rw [hs, hr]
  simp only [Option.bind_some]
  rw [same05 n l (by omega) (by omega)]
  simp only [Option.bind_some, beq_self_eq_true, if_true, hs2, hr2, cond_true, haw]
end Go.Proofs.Yteliiabopphgmaa.M
