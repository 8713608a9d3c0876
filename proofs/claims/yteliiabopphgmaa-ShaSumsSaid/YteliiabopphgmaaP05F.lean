/-
  Chapter 05: the document's Root; the law ShaRoots. Over the printed models.
-/
import Derived.Test.YteliiabopphgmaaP05E
namespace Go.Proofs.Yteliiabopphgmaa.M
open Go Go.Proofs.Yteliiabopphgmaa.RX Go.Proofs.Yteliiabopphgmaa.PL

def fk (kind : Int) (x : Nat) : Nat := if kind = 3 then x * x * x else x * x
theorem sq_lt {y : Nat} (h : y < 274877906944) : y * y < 75557863725914323419136 ∧ y * y * y < 20769187434139310514121985316880384 := by
  have h1 : y * y ≤ 274877906943 * 274877906943 := Nat.mul_le_mul (by omega) (by omega)
  have h2 : y * y * y ≤ 274877906943 * 274877906943 * 274877906943 := Nat.mul_le_mul h1 (by omega)
  exact ⟨Nat.lt_of_le_of_lt h1 (by decide), Nat.lt_of_le_of_lt h2 (by decide)⟩
theorem rstep (n k x b w0 w1 w2 w3 w4 : Nat) (kind : Int) (hn : 10 ≤ n) (g0 : w0 < 16777216) (g1 : w1 < 16777216) (g2 : w2 < 16777216) (g3 : w3 < 16777216) (g4 : w4 < 16777216) (hx : x + b < 274877906944) (hb : 0 < b) :
    ref05_Root_l2 n kind (L5 w0 w1 w2 w3 w4) (k + 1) (x : Int) (b : Int) = ref05_Root_l2 n kind (L5 w0 w1 w2 w3 w4) k (((if fk kind (x + b) ≤ V5 w0 w1 w2 w3 w4 then x + b else x : Nat)) : Int) ((b / 2 : Nat) : Int) := by
  rw [ref05_Root_l2]
  have e1 : (x : Int) + (b : Int) = ((x + b : Nat) : Int) := by omega
  have e2 : Int.tdiv (b : Int) 2 = ((b / 2 : Nat) : Int) := by rw [Int.tdiv_eq_ediv_of_nonneg (by omega)]; omega
  rw [decide_eq_true (by omega : (b : Int) > 0), e1, wrapn (x + b) (by omega), rem24, quo24, wrapn ((x + b) / 16777216) (by omega), e2, wrapn (b / 2) (by omega)]
  generalize hy : x + b = y at *
  obtain ⟨q1, q2⟩ := sq_lt hx
  have hv : V5 (y % 16777216) (y / 16777216) 0 0 0 = y := by unfold V5; omega
  obtain ⟨r0, r1, r2, r3, r4, hm, t0, t1, t2, t3, t4, hr⟩ := mul_eq n y (y % 16777216) (y / 16777216) 0 0 0 hn (by omega) (by omega) (by omega) (by decide) (by decide) (by decide) (by rw [hv]; omega)
  rw [hv] at hr
  have hlit : ([((y % 16777216 : Nat) : Int), ((y / 16777216 : Nat) : Int), 0, 0, 0] : List Int) = L5 (y % 16777216) (y / 16777216) 0 0 0 := rfl
  have e5 : ∀ a b c d e : Nat, decide ((L5 a b c d e).length = 5) = true := fun _ _ _ _ _ => rfl
  have e6 : ((16777216 : Int) != 0) = true := rfl
  have e7 : ((2 : Int) != 0) = true := rfl
  simp only [hlit, e5, e6, e7, if_true, hm, Option.bind_some]
  by_cases hk : kind = 3
  · have ek : (kind == 3) = true := by simpa using hk
    obtain ⟨s0, s1, s2, s3, s4, hm2, u0, u1, u2, u3, u4, hs⟩ := mul_eq n y r0 r1 r2 r3 r4 hn (by omega) t0 t1 t2 t3 t4 (by rw [hr]; omega)
    rw [ek, ref05_Root_j3]
    simp only [if_true, e5, hm2, Option.bind_some]
    rw [most_eq n s0 s1 s2 s3 s4 w0 w1 w2 w3 w4 hn u0 u1 u2 u3 u4 g0 g1 g2 g3 g4, hs, hr]
    simp only [Option.bind_some]
    have hf : fk kind y = y * y * y := by unfold fk; rw [if_pos hk]
    rw [hf, ref05_Root_j4]
    by_cases hW : y * y * y ≤ V5 w0 w1 w2 w3 w4
    · rw [decide_eq_true hW, if_pos hW]; rfl
    · rw [decide_eq_false hW, if_neg hW]; rfl
  · have ek : (kind == 3) = false := by simpa using hk
    rw [ek, ref05_Root_j3]
    simp only [Bool.false_eq_true, if_false, e5, if_true, Option.bind_some]
    rw [most_eq n r0 r1 r2 r3 r4 w0 w1 w2 w3 w4 hn t0 t1 t2 t3 t4 g0 g1 g2 g3 g4, hr]
    simp only [Option.bind_some]
    have hf : fk kind y = y * y := by unfold fk; rw [if_neg hk]
    rw [hf, ref05_Root_j4]
    by_cases hW : y * y ≤ V5 w0 w1 w2 w3 w4
    · rw [decide_eq_true hW, if_pos hW]; rfl
    · rw [decide_eq_false hW, if_neg hW]; rfl
theorem rloop (n w0 w1 w2 w3 w4 : Nat) (kind : Int) (hn : 10 ≤ n) (g0 : w0 < 16777216) (g1 : w1 < 16777216) (g2 : w2 < 16777216) (g3 : w3 < 16777216) (g4 : w4 < 16777216) :
    ∀ (j k x : Nat), j + 1 < k → fk kind x ≤ V5 w0 w1 w2 w3 w4 → V5 w0 w1 w2 w3 w4 < fk kind (x + 2 * 2 ^ j) → x + 2 * 2 ^ j ≤ 274877906944 →
    ∃ r : Nat, ref05_Root_l2 n kind (L5 w0 w1 w2 w3 w4) k (x : Int) ((2 ^ j : Nat) : Int) = some (r : Int) ∧ fk kind r ≤ V5 w0 w1 w2 w3 w4 ∧ V5 w0 w1 w2 w3 w4 < fk kind (r + 1) ∧ r < 274877906944 := by
  intro j
  induction j with
  | zero =>
    intro k x hk h1 h2 h3
    obtain ⟨k, rfl⟩ : ∃ k', k = k' + 2 := ⟨k - 2, by omega⟩
    rw [rstep n (k + 1) x (2 ^ 0) w0 w1 w2 w3 w4 kind hn g0 g1 g2 g3 g4 (by omega) (by decide)]
    have e : ((2 ^ 0 / 2 : Nat) : Int) = 0 := rfl
    rw [e, ref05_Root_l2]
    refine ⟨_, rfl, ?_, ?_, ?_⟩
    · split
      · assumption
      · exact h1
    · split
      · exact h2
      · rename_i h; simp only [Nat.pow_zero] at h; omega
    · simp only [Nat.pow_zero] at h3 ⊢
      split <;> omega
  | succ j ih =>
    intro k x hk h1 h2 h3
    obtain ⟨k, rfl⟩ : ∃ k', k = k' + 1 := ⟨k - 1, by omega⟩
    have hp : 0 < 2 ^ j := Nat.pow_pos (by decide)
    rw [Nat.pow_succ] at h2 h3 ⊢
    rw [rstep n k x (2 ^ j * 2) w0 w1 w2 w3 w4 kind hn g0 g1 g2 g3 g4 (by omega) (by omega)]
    have e : 2 ^ j * 2 / 2 = 2 ^ j := by omega
    rw [e]
    by_cases h : fk kind (x + 2 ^ j * 2) ≤ V5 w0 w1 w2 w3 w4
    · rw [if_pos h]
      exact ih k _ (by omega) h (by rw [show x + 2 ^ j * 2 + 2 * 2 ^ j = x + 2 * (2 ^ j * 2) by omega]; exact h2) (by omega)
    · rw [if_neg h]
      exact ih k _ (by omega) h1 (by rw [show x + 2 * 2 ^ j = x + 2 ^ j * 2 by omega]; omega) (by omega)
end Go.Proofs.Yteliiabopphgmaa.M
