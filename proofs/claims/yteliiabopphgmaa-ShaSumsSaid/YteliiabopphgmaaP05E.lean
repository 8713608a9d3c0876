/-
  Chapter 05: the document's Root; the law ShaRoots. Over the printed models.
-/
import Derived.Test.YteliiabopphgmaaP05D
namespace Go.Proofs.Yteliiabopphgmaa.M
open Go Go.Proofs.Yteliiabopphgmaa.RX Go.Proofs.Yteliiabopphgmaa.PL

theorem most_step (n k i a b : Nat) (l m : List Int) (hl : l.length = 5) (hm : m.length = 5) (hi : i < 5) (ha : l[i]?.getD 0 = (a : Int)) (hb : m[i]?.getD 0 = (b : Int)) :
    ref05_most_l1 n l m (k + 1) (i : Int) = if a = b then ref05_most_l1 n l m k ((i : Int) - 1) else some (.inr (decide (a < b))) := by
  rw [ref05_most_l1]
  have d1 : decide ((i : Int) ≥ 0) = true := decide_eq_true (by omega)
  have d2 : decide (0 ≤ (i : Int) ∧ (i : Int) < (5 : Int)) = true := decide_eq_true (by omega)
  have d3 : decide (0 ≤ (i : Int) ∧ (i : Int) < (l.length : Int)) = true := decide_eq_true (by omega)
  have d4 : decide (0 ≤ (i : Int) ∧ (i : Int) < (m.length : Int)) = true := decide_eq_true (by omega)
  simp only [d1, d2, d3, d4, if_true, tn5, ha, hb]
  by_cases h : a = b
  · subst h
    have e : ((a : Int) != (a : Int)) = false := by simp
    rw [e, if_neg Bool.false_ne_true, if_pos rfl, wrap_id _ (by omega) (by omega)]
  · have e : ((a : Int) != (b : Int)) = true := by rw [bne_iff_ne]; omega
    rw [e, if_pos rfl, if_neg h]
    congr 2
    rw [decide_eq_decide]; omega
theorem most_eq (n a0 a1 a2 a3 a4 b0 b1 b2 b3 b4 : Nat) (hn : 10 ≤ n) (g0 : a0 < 16777216) (g1 : a1 < 16777216) (g2 : a2 < 16777216) (g3 : a3 < 16777216) (g4 : a4 < 16777216) (k0 : b0 < 16777216) (k1 : b1 < 16777216) (k2 : b2 < 16777216) (k3 : b3 < 16777216) (k4 : b4 < 16777216) :
    ref05_most n (L5 a0 a1 a2 a3 a4) (L5 b0 b1 b2 b3 b4) = some (decide (V5 a0 a1 a2 a3 a4 ≤ V5 b0 b1 b2 b3 b4)) := by
  unfold ref05_most
  have e5 : ∀ a b c d e : Nat, decide ((L5 a b c d e).length = 5) = true := fun _ _ _ _ _ => rfl
  simp only [e5, if_true]
  obtain ⟨k, rfl⟩ : ∃ k, n = k + 6 := ⟨n - 6, by omega⟩
  have s4 : ref05_most_l1 (k + 6) (L5 a0 a1 a2 a3 a4) (L5 b0 b1 b2 b3 b4) (k + 6) 4 = _ := most_step (k + 6) (k + 5) 4 a4 b4 (L5 a0 a1 a2 a3 a4) (L5 b0 b1 b2 b3 b4) rfl rfl (by decide) rfl rfl
  have s3 : ref05_most_l1 (k + 6) (L5 a0 a1 a2 a3 a4) (L5 b0 b1 b2 b3 b4) (k + 5) (((4 : Nat) : Int) - 1) = _ := most_step (k + 6) (k + 4) 3 a3 b3 (L5 a0 a1 a2 a3 a4) (L5 b0 b1 b2 b3 b4) rfl rfl (by decide) rfl rfl
  have s2 : ref05_most_l1 (k + 6) (L5 a0 a1 a2 a3 a4) (L5 b0 b1 b2 b3 b4) (k + 4) (((3 : Nat) : Int) - 1) = _ := most_step (k + 6) (k + 3) 2 a2 b2 (L5 a0 a1 a2 a3 a4) (L5 b0 b1 b2 b3 b4) rfl rfl (by decide) rfl rfl
  have s1 : ref05_most_l1 (k + 6) (L5 a0 a1 a2 a3 a4) (L5 b0 b1 b2 b3 b4) (k + 3) (((2 : Nat) : Int) - 1) = _ := most_step (k + 6) (k + 2) 1 a1 b1 (L5 a0 a1 a2 a3 a4) (L5 b0 b1 b2 b3 b4) rfl rfl (by decide) rfl rfl
  have s0 : ref05_most_l1 (k + 6) (L5 a0 a1 a2 a3 a4) (L5 b0 b1 b2 b3 b4) (k + 2) (((1 : Nat) : Int) - 1) = _ := most_step (k + 6) (k + 1) 0 a0 b0 (L5 a0 a1 a2 a3 a4) (L5 b0 b1 b2 b3 b4) rfl rfl (by decide) rfl rfl
  have se : ref05_most_l1 (k + 6) (L5 a0 a1 a2 a3 a4) (L5 b0 b1 b2 b3 b4) (k + 1) (((0 : Nat) : Int) - 1) = some (.inl ()) := by
    rw [ref05_most_l1]; rfl
  rw [s4, s3, s2, s1, s0, se]
  unfold V5
  by_cases h4 : a4 = b4
  · rw [if_pos h4]
    by_cases h3 : a3 = b3
    · rw [if_pos h3]
      by_cases h2 : a2 = b2
      · rw [if_pos h2]
        by_cases h1 : a1 = b1
        · rw [if_pos h1]
          by_cases h0 : a0 = b0
          · rw [if_pos h0]
            subst h0; subst h1; subst h2; subst h3; subst h4
            rw [decide_eq_true (Nat.le_refl _)]; rfl
          · rw [if_neg h0]; show some (decide (a0 < b0)) = _; rw [Option.some.injEq, decide_eq_decide]; omega
        · rw [if_neg h1]; show some (decide (a1 < b1)) = _; rw [Option.some.injEq, decide_eq_decide]; omega
      · rw [if_neg h2]; show some (decide (a2 < b2)) = _; rw [Option.some.injEq, decide_eq_decide]; omega
    · rw [if_neg h3]; show some (decide (a3 < b3)) = _; rw [Option.some.injEq, decide_eq_decide]; omega
  · rw [if_neg h4]; show some (decide (a4 < b4)) = _; rw [Option.some.injEq, decide_eq_decide]; omega
end Go.Proofs.Yteliiabopphgmaa.M
