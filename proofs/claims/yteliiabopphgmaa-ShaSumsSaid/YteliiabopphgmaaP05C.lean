/-
  Chapter 05: roots by halves; numbers of five parts. Over the printed models.
-/
import Derived.Test.YteliiabopphgmaaP05B
namespace Go.Proofs.Yteliiabopphgmaa.M
open Go Go.Proofs.Yteliiabopphgmaa.RX Go.Proofs.Yteliiabopphgmaa.PL

theorem tn5 (i : Nat) : Int.toNat (i : Int) = i := Int.toNat_natCast i
theorem bis {n : Nat} {v0 v1 : Int} {f : Nat → Nat} {W : Nat} (hA : ∀ x : Nat, x < 274877906944 → sha_above n (x : Int) v0 v1 = some (decide (W < f x))) :
    ∀ (g k lo hi : Nat), hi - lo ≤ 2 ^ g → g < k → lo < hi → hi ≤ 274877906944 → f lo ≤ W → W < f hi → ∃ r : Nat, sha_Root_l1 n v0 v1 k (lo : Int) (hi : Int) = some (r : Int) ∧ f r ≤ W ∧ W < f (r + 1) ∧ r < 274877906944 := by
  intro g
  induction g with
  | zero =>
    intro k lo hi h1 h2 h3 h4 h5 h6
    obtain ⟨k, rfl⟩ : ∃ k', k = k' + 1 := ⟨k - 1, by omega⟩
    have e : hi = lo + 1 := by simp at h1; omega
    subst e
    refine ⟨lo, ?_, h5, h6, by omega⟩
    have e1 : ((lo + 1 : Nat) : Int) - (lo : Int) = ((1 : Nat) : Int) := by omega
    rw [sha_Root_l1, e1, wrapn 1 (by omega)]
    rfl
  | succ g ih =>
    intro k lo hi h1 h2 h3 h4 h5 h6
    obtain ⟨k, rfl⟩ : ∃ k', k = k' + 1 := ⟨k - 1, by omega⟩
    have e1 : (hi : Int) - (lo : Int) = ((hi - lo : Nat) : Int) := by omega
    rw [sha_Root_l1, e1, wrapn (hi - lo) (by omega)]
    by_cases hd : 1 < hi - lo
    · have e2 : Int.tdiv ((hi - lo : Nat) : Int) 2 = (((hi - lo) / 2 : Nat) : Int) := by rw [Int.tdiv_eq_ediv_of_nonneg (by omega)]; omega
      have e3 : (lo : Int) + (((hi - lo) / 2 : Nat) : Int) = ((lo + (hi - lo) / 2 : Nat) : Int) := by omega
      rw [decide_eq_true (by omega : ((hi - lo : Nat) : Int) > 1), if_pos rfl, if_pos (by decide), e2, wrapn ((hi - lo) / 2) (by omega), e3, wrapn (lo + (hi - lo) / 2) (by omega), hA _ (by omega)]
      simp only [Option.bind_some]
      rw [Nat.pow_succ] at h1
      by_cases hW : W < f (lo + (hi - lo) / 2)
      · rw [decide_eq_true hW, if_pos rfl]
        exact ih k lo _ (by omega) (by omega) (by omega) (by omega) h5 hW
      · rw [decide_eq_false hW, if_neg Bool.false_ne_true]
        exact ih k _ hi (by omega) (by omega) (by omega) h4 (by omega) h6
    · have e : hi = lo + 1 := by omega
      subst e
      rw [decide_eq_false (by omega), if_neg Bool.false_ne_true]
      exact ⟨lo, rfl, h5, h6, by omega⟩

/-! ### five parts -/
abbrev L5 (a b c d e : Nat) : List Int := [(a : Int), (b : Int), (c : Int), (d : Int), (e : Int)]
theorem rem24 (x : Nat) : Int.tmod (x : Int) 16777216 = ((x % 16777216 : Nat) : Int) := by rw [Int.tmod_eq_emod_of_nonneg (by omega)]; omega
theorem quo24 (x : Nat) : Int.tdiv (x : Int) 16777216 = ((x / 16777216 : Nat) : Int) := by rw [Int.tdiv_eq_ediv_of_nonneg (by omega)]; omega
theorem tstep {n k m c i : Nat} {l b4 b5 : List Int} (hl : l.length = 5) (hb : b5.length = 5) (hi : i < 5) (a : Nat) (ha : l[i]?.getD 0 = (a : Int)) (hm : a * m + c < 18446744073709551616) :
    ref05_times_l1 n (m : Int) l b4 (k + 1) (c : Int) (i : Int) b5 = ref05_times_l1 n (m : Int) l b4 k (((a * m + c) / 16777216 : Nat) : Int) ((i + 1 : Nat) : Int) (b5.set i (((a * m + c) % 16777216 : Nat) : Int)) := by
  rw [ref05_times_l1]
  have d1 : decide ((i : Int) < 5) = true := decide_eq_true (by omega)
  have d2 : decide (0 ≤ (i : Int) ∧ (i : Int) < (5 : Int)) = true := decide_eq_true (by omega)
  have d3 : decide (0 ≤ (i : Int) ∧ (i : Int) < (l.length : Int)) = true := decide_eq_true (by omega)
  have d4 : decide (0 ≤ (i : Int) ∧ (i : Int) < (b5.length : Int)) = true := decide_eq_true (by omega)
  have c1 : (a : Int) * (m : Int) = ((a * m : Nat) : Int) := (Int.natCast_mul _ _).symm
  have c2 : ((a * m : Nat) : Int) + (c : Int) = ((a * m + c : Nat) : Int) := by omega
  rw [d1, d2, d3, d4, if_pos rfl, if_pos rfl, if_pos rfl, if_pos (by decide), if_pos rfl, if_pos rfl, tn5, ha, c1, wrapn (a * m) (by omega), c2, wrapn (a * m + c) hm, rem24, quo24, wrapn _ (by omega), wrap_s i (by omega)]
  simp only [lett]
  rw [if_pos (by decide)]
theorem times_eq (n m a0 a1 a2 a3 a4 : Nat) (hn : 10 ≤ n) (hm : m < 16777216) (h0 : a0 < 16777216) (h1 : a1 < 16777216) (h2 : a2 < 16777216) (h3 : a3 < 16777216) (h4 : a4 < 16777216) :
    ∃ r0 r1 r2 r3 r4 c : Nat, ref05_times n (L5 a0 a1 a2 a3 a4) (m : Int) = some (L5 r0 r1 r2 r3 r4) ∧ r0 < 16777216 ∧ r1 < 16777216 ∧ r2 < 16777216 ∧ r3 < 16777216 ∧ r4 < 16777216 ∧
      r0 + 16777216 * r1 + 281474976710656 * r2 + 4722366482869645213696 * r3 + 79228162514264337593543950336 * r4 + 1329227995784915872903807060280344576 * c = a0 * m + 16777216 * (a1 * m) + 281474976710656 * (a2 * m) + 4722366482869645213696 * (a3 * m) + 79228162514264337593543950336 * (a4 * m) := by
  have mb : ∀ a : Nat, a < 16777216 → a * m ≤ 281474943156225 := fun a ha => Nat.le_trans (Nat.mul_le_mul (by omega : a ≤ 16777215) (by omega : m ≤ 16777215)) (by decide)
  have b0 := mb a0 h0; have b1 := mb a1 h1; have b2 := mb a2 h2; have b3 := mb a3 h3; have b4 := mb a4 h4
  unfold ref05_times
  have e5 : decide ((L5 a0 a1 a2 a3 a4).length = 5) = true := rfl
  rw [e5, if_pos (show true = true from rfl)]
  obtain ⟨k, rfl⟩ : ∃ k, n = k + 6 := ⟨n - 6, by omega⟩
  have s0 := tstep (n := k + 6) (k := k + 5) (m := m) (c := 0) (i := 0) (l := L5 a0 a1 a2 a3 a4) (b4 := List.replicate 5 0) (b5 := List.replicate 5 0) rfl rfl (by decide) a0 rfl (by omega)
  have s1 := fun b5 hb => tstep (n := k + 6) (k := k + 4) (m := m) (c := (a0 * m + 0) / 16777216) (i := 0 + 1) (l := L5 a0 a1 a2 a3 a4) (b4 := List.replicate 5 0) (b5 := b5) rfl hb (by decide) a1 rfl (by omega)
  have s2 := fun b5 hb => tstep (n := k + 6) (k := k + 3) (m := m) (c := (a1 * m + (a0 * m + 0) / 16777216) / 16777216) (i := 0 + 1 + 1) (l := L5 a0 a1 a2 a3 a4) (b4 := List.replicate 5 0) (b5 := b5) rfl hb (by decide) a2 rfl (by omega)
  have s3 := fun b5 hb => tstep (n := k + 6) (k := k + 2) (m := m) (c := (a2 * m + (a1 * m + (a0 * m + 0) / 16777216) / 16777216) / 16777216) (i := 0 + 1 + 1 + 1) (l := L5 a0 a1 a2 a3 a4) (b4 := List.replicate 5 0) (b5 := b5) rfl hb (by decide) a3 rfl (by omega)
  have s4 := fun b5 hb => tstep (n := k + 6) (k := k + 1) (m := m) (c := (a3 * m + (a2 * m + (a1 * m + (a0 * m + 0) / 16777216) / 16777216) / 16777216) / 16777216) (i := 0 + 1 + 1 + 1 + 1) (l := L5 a0 a1 a2 a3 a4) (b4 := List.replicate 5 0) (b5 := b5) rfl hb (by decide) a4 rfl (by omega)
  have hl : ref05_times_l1 (k + 6) (m : Int) (L5 a0 a1 a2 a3 a4) (List.replicate 5 0) (k + 6) 0 0 (List.replicate 5 0) = _ := s0.trans ((s1 _ rfl).trans ((s2 _ rfl).trans ((s3 _ rfl).trans (s4 _ rfl))))
  rw [hl, ref05_times_l1]
  refine ⟨_, _, _, _, _, (a4 * m + (a3 * m + (a2 * m + (a1 * m + (a0 * m + 0) / 16777216) / 16777216) / 16777216) / 16777216) / 16777216, rfl, Nat.mod_lt _ (by decide), Nat.mod_lt _ (by decide), Nat.mod_lt _ (by decide), Nat.mod_lt _ (by decide), Nat.mod_lt _ (by decide), ?_⟩
  omega
end Go.Proofs.Yteliiabopphgmaa.M
