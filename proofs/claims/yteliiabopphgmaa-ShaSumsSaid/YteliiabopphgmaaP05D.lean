/-
  Chapter 05: numbers of five parts: products, comparison. Over the printed models.
-/
import Derived.Test.YteliiabopphgmaaP05C
namespace Go.Proofs.Yteliiabopphgmaa.M
open Go Go.Proofs.Yteliiabopphgmaa.RX Go.Proofs.Yteliiabopphgmaa.PL

def V5 (a b c d e : Nat) : Nat := a + 16777216 * b + 281474976710656 * c + 4722366482869645213696 * d + 79228162514264337593543950336 * e
theorem mstep {n k c i : Nat} {b4 b5 b6 b7 : List Int} (h5 : b5.length = 5) (h6 : b6.length = 5) (h7 : b7.length = 5) (hi : i < 5) (a b : Nat) (ha : b5[i]?.getD 0 = (a : Int)) (hb0 : i = 0 → b = 0) (hb : 0 < i → b6[i - 1]?.getD 0 = (b : Int)) (hm : a + c + b < 18446744073709551616) :
    ref05_mul_l1 n b4 b5 b6 (k + 1) (c : Int) (i : Int) b7 = ref05_mul_l1 n b4 b5 b6 k (((a + c + b) / 16777216 : Nat) : Int) ((i + 1 : Nat) : Int) (b7.set i (((a + c + b) % 16777216 : Nat) : Int)) := by
  rw [ref05_mul_l1, ref05_mul_j2]
  have d1 : decide ((i : Int) < 5) = true := decide_eq_true (by omega)
  have d2 : decide (0 ≤ (i : Int) ∧ (i : Int) < (5 : Int)) = true := decide_eq_true (by omega)
  have d3 : decide (0 ≤ (i : Int) ∧ (i : Int) < (b5.length : Int)) = true := decide_eq_true (by omega)
  have d4 : decide (0 ≤ (i : Int) ∧ (i : Int) < (b7.length : Int)) = true := decide_eq_true (by omega)
  have c2 : (a : Int) + (c : Int) = ((a + c : Nat) : Int) := by omega
  have hj : ref05_mul_j3 n (i : Int) ((a + c : Nat) : Int) (decide ((i : Int) > 0)) b4 b5 b6 b7 = some ((a + c + b : Nat) : Int) := by
    unfold ref05_mul_j3
    by_cases h0 : i = 0
    · subst h0
      rw [decide_eq_false (by omega : ¬ ((0 : Nat) : Int) > 0), if_neg Bool.false_ne_true, hb0 rfl, Nat.add_zero]
    · have d5 : decide (0 ≤ ((i - 1 : Nat) : Int) ∧ ((i - 1 : Nat) : Int) < (5 : Int)) = true := decide_eq_true (by omega)
      have d6 : decide (0 ≤ ((i - 1 : Nat) : Int) ∧ ((i - 1 : Nat) : Int) < (b6.length : Int)) = true := decide_eq_true (by omega)
      have c3 : ((a + c : Nat) : Int) + (b : Int) = ((a + c + b : Nat) : Int) := by omega
      rw [decide_eq_true (by omega : (i : Int) > 0), wrap_p i (by omega) (by omega), if_pos rfl, d5, d6, if_pos rfl, if_pos rfl, tn5, hb (by omega), c3, wrapn _ hm]
  rw [d1, d2, d3, if_pos rfl, if_pos rfl, if_pos rfl, tn5, ha, c2, wrapn (a + c) (by omega), hj]
  simp only [Option.bind_some]
  simp only [show ((16777216 : Int) != 0) = true from rfl, if_true, d2, d4, Option.bind_some, rem24, quo24]
  rw [wrapn _ (by omega), wrap_s i (by omega)]
  rfl
theorem mul_eq (n x a0 a1 a2 a3 a4 : Nat) (hn : 10 ≤ n) (hx : x < 281474976710656) (h0 : a0 < 16777216) (h1 : a1 < 16777216) (h2 : a2 < 16777216) (h3 : a3 < 16777216) (h4 : a4 < 16777216) (hV : V5 a0 a1 a2 a3 a4 * x < 1329227995784915872903807060280344576) :
    ∃ r0 r1 r2 r3 r4 : Nat, ref05_mul n (L5 a0 a1 a2 a3 a4) (x : Int) = some (L5 r0 r1 r2 r3 r4) ∧ r0 < 16777216 ∧ r1 < 16777216 ∧ r2 < 16777216 ∧ r3 < 16777216 ∧ r4 < 16777216 ∧ V5 r0 r1 r2 r3 r4 = V5 a0 a1 a2 a3 a4 * x := by
  obtain ⟨l0, l1, l2, l3, l4, cl, hl, g0, g1, g2, g3, g4, gl⟩ := times_eq n (x % 16777216) a0 a1 a2 a3 a4 hn (by omega) h0 h1 h2 h3 h4
  obtain ⟨m0, m1, m2, m3, m4, ch, hh, k0, k1, k2, k3, k4, kl⟩ := times_eq n (x / 16777216) a0 a1 a2 a3 a4 hn (by omega) h0 h1 h2 h3 h4
  unfold ref05_mul
  have e5 : ∀ a b c d e : Nat, decide ((L5 a b c d e).length = 5) = true := fun _ _ _ _ _ => rfl
  have e6 : ((16777216 : Int) != 0) = true := rfl
  have e7 : decide ((List.replicate 5 (0 : Int)).length = 5) = true := rfl
  rw [rem24, quo24, wrapn (x / 16777216) (by omega)]
  simp only [e5, e6, if_true, hl, hh, Option.bind_some]
  obtain ⟨k, rfl⟩ : ∃ k, n = k + 6 := ⟨n - 6, by omega⟩
  have s0 := mstep (n := k + 6) (k := k + 5) (c := 0) (i := 0) (b4 := List.replicate 5 0) (b5 := L5 l0 l1 l2 l3 l4) (b6 := L5 m0 m1 m2 m3 m4) (b7 := List.replicate 5 0) rfl rfl rfl (by decide) l0 0 rfl (fun _ => rfl) (fun h => absurd h (by decide)) (by omega)
  have s1 := fun b7 hb => mstep (n := k + 6) (k := k + 4) (c := (l0 + 0 + 0) / 16777216) (i := 0 + 1) (b4 := List.replicate 5 0) (b5 := L5 l0 l1 l2 l3 l4) (b6 := L5 m0 m1 m2 m3 m4) (b7 := b7) rfl rfl hb (by decide) l1 m0 rfl (fun h => absurd h (by decide)) (fun _ => rfl) (by omega)
  have s2 := fun b7 hb => mstep (n := k + 6) (k := k + 3) (c := (l1 + (l0 + 0 + 0) / 16777216 + m0) / 16777216) (i := 0 + 1 + 1) (b4 := List.replicate 5 0) (b5 := L5 l0 l1 l2 l3 l4) (b6 := L5 m0 m1 m2 m3 m4) (b7 := b7) rfl rfl hb (by decide) l2 m1 rfl (fun h => absurd h (by decide)) (fun _ => rfl) (by omega)
  have s3 := fun b7 hb => mstep (n := k + 6) (k := k + 2) (c := (l2 + (l1 + (l0 + 0 + 0) / 16777216 + m0) / 16777216 + m1) / 16777216) (i := 0 + 1 + 1 + 1) (b4 := List.replicate 5 0) (b5 := L5 l0 l1 l2 l3 l4) (b6 := L5 m0 m1 m2 m3 m4) (b7 := b7) rfl rfl hb (by decide) l3 m2 rfl (fun h => absurd h (by decide)) (fun _ => rfl) (by omega)
  have s4 := fun b7 hb => mstep (n := k + 6) (k := k + 1) (c := (l3 + (l2 + (l1 + (l0 + 0 + 0) / 16777216 + m0) / 16777216 + m1) / 16777216 + m2) / 16777216) (i := 0 + 1 + 1 + 1 + 1) (b4 := List.replicate 5 0) (b5 := L5 l0 l1 l2 l3 l4) (b6 := L5 m0 m1 m2 m3 m4) (b7 := b7) rfl rfl hb (by decide) l4 m3 rfl (fun h => absurd h (by decide)) (fun _ => rfl) (by omega)
  have hq : ref05_mul_l1 (k + 6) (List.replicate 5 0) (L5 l0 l1 l2 l3 l4) (L5 m0 m1 m2 m3 m4) (k + 6) 0 0 (List.replicate 5 0) = _ := s0.trans ((s1 _ rfl).trans ((s2 _ rfl).trans ((s3 _ rfl).trans (s4 _ rfl))))
  rw [hq, ref05_mul_l1]
  refine ⟨_, _, _, _, _, rfl, Nat.mod_lt _ (by decide), Nat.mod_lt _ (by decide), Nat.mod_lt _ (by decide), Nat.mod_lt _ (by decide), Nat.mod_lt _ (by decide), ?_⟩
  have hsp : ∀ a : Nat, a * x = a * (x % 16777216) + 16777216 * (a * (x / 16777216)) := by
    intro a
    have e : x = x % 16777216 + 16777216 * (x / 16777216) := by omega
    calc a * x = a * (x % 16777216 + 16777216 * (x / 16777216)) := by rw [← e]
      _ = _ := by rw [Nat.mul_add, Nat.mul_left_comm]
  have hVx : V5 a0 a1 a2 a3 a4 * x = a0 * x + 16777216 * (a1 * x) + 281474976710656 * (a2 * x) + 4722366482869645213696 * (a3 * x) + 79228162514264337593543950336 * (a4 * x) := by
    unfold V5
    simp only [Nat.add_mul, Nat.mul_assoc]
  rw [hVx] at hV ⊢
  rw [hsp a0, hsp a1, hsp a2, hsp a3, hsp a4] at hV ⊢
  unfold V5
  generalize a0 * (x % 16777216) = p0 at *
  generalize a1 * (x % 16777216) = p1 at *
  generalize a2 * (x % 16777216) = p2 at *
  generalize a3 * (x % 16777216) = p3 at *
  generalize a4 * (x % 16777216) = p4 at *
  generalize a0 * (x / 16777216) = q0 at *
  generalize a1 * (x / 16777216) = q1 at *
  generalize a2 * (x / 16777216) = q2 at *
  generalize a3 * (x / 16777216) = q3 at *
  generalize a4 * (x / 16777216) = q4 at *
  omega
end Go.Proofs.Yteliiabopphgmaa.M
