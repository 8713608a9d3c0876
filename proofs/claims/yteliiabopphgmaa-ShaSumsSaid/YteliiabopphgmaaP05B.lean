/-
  Chapter 05: the program's Root, said plainly. Over the printed models.
-/
import Derived.Test.YteliiabopphgmaaP05
namespace Go.Proofs.Yteliiabopphgmaa.M
open Go Go.Proofs.Yteliiabopphgmaa.RX Go.Proofs.Yteliiabopphgmaa.PL

theorem wrapu (x : Int) (h1 : 0 ≤ x) (h2 : x < 18446744073709551616) : IntKind.wrap .u64 x = x := by
  simp only [IntKind.wrap, IntKind.bits, IntKind.signed, Bool.false_and, Bool.false_eq_true, if_false, show ((2 : Int) ^ 64) = 18446744073709551616 from rfl]
  omega
theorem wrapn (x : Nat) (h2 : x < 18446744073709551616) : IntKind.wrap .u64 (x : Int) = (x : Int) := wrapu _ (by omega) (by omega)
theorem wrapm (x : Nat) : IntKind.wrap .u64 (x : Int) = ((x % 18446744073709551616 : Nat) : Int) := by
  simp only [IntKind.wrap, IntKind.bits, IntKind.signed, Bool.false_and, Bool.false_eq_true, if_false, show ((2 : Int) ^ 64) = 18446744073709551616 from rfl]
  omega
theorem lo32 (a : Nat) (h : a < 18446744073709551616) : IntKind.wrap .u64 ((BitVec.ofInt (IntKind.bits .u64) (a : Int) &&& BitVec.ofInt (IntKind.bits .u64) 4294967295).toNat : Int) = ((a % 4294967296 : Nat) : Int) := by
  have e : (BitVec.ofInt (IntKind.bits .u64) (a : Int) &&& BitVec.ofInt (IntKind.bits .u64) 4294967295).toNat = a % 4294967296 := by
    rw [BitVec.toNat_and]
    have e1 : (BitVec.ofInt (IntKind.bits .u64) (a : Int)).toNat = a := by
      rw [BitVec.toNat_ofInt]
      show ((a : Int) % 18446744073709551616).toNat = a
      omega
    have e2 : (BitVec.ofInt (IntKind.bits .u64) 4294967295).toNat = 2 ^ 32 - 1 := by decide
    rw [e1, e2, Nat.and_two_pow_sub_one_eq_mod]
  rw [e, wrapn _ (by omega)]
theorem hi32 (a : Nat) : Int.fdiv (a : Int) (2 ^ (min (Int.toNat 32) (IntKind.bits .u64))) = ((a / 4294967296 : Nat) : Int) := by
  show Int.fdiv (a : Int) 4294967296 = _
  rw [Int.fdiv_eq_ediv_of_nonneg _ (by decide)]
  omega
theorem mul64 (n : Nat) (a b : Nat) (ha : a < 18446744073709551616) (hb : b < 18446744073709551616) :
    math_bits_Mul64 n (a : Int) (b : Int) = some (((a * b / 18446744073709551616 : Nat) : Int), ((a * b % 18446744073709551616 : Nat) : Int)) := by
  unfold math_bits_Mul64
  have hd : decide (0 ≤ (32 : Int)) = true := rfl
  simp only [hd, if_true, lett, lo32 a ha, lo32 b hb, hi32]
  have key : ∀ (a0 a1 b0 b1 : Nat), a0 < 4294967296 → a1 < 4294967296 → b0 < 4294967296 → b1 < 4294967296 →
      a0 * b0 ≤ 18446744065119617025 ∧ a1 * b0 ≤ 18446744065119617025 ∧ a0 * b1 ≤ 18446744065119617025 ∧ a1 * b1 ≤ 18446744065119617025 := by
    intro a0 a1 b0 b1 h1 h2 h3 h4
    have m : ∀ x y : Nat, x < 4294967296 → y < 4294967296 → x * y ≤ 18446744065119617025 := by
      intro x y hx hy
      exact Nat.le_trans (Nat.mul_le_mul (by omega : x ≤ 4294967295) (by omega : y ≤ 4294967295)) (by decide)
    exact ⟨m _ _ h1 h3, m _ _ h2 h3, m _ _ h1 h4, m _ _ h2 h4⟩
  obtain ⟨k1, k2, k3, k4⟩ := key (a % 4294967296) (a / 4294967296) (b % 4294967296) (b / 4294967296) (by omega) (by omega) (by omega) (by omega)
  have hab : a * b = (a / 4294967296) * (b / 4294967296) * 18446744073709551616 + ((a / 4294967296) * (b % 4294967296) + (a % 4294967296) * (b / 4294967296)) * 4294967296 + (a % 4294967296) * (b % 4294967296) := by
    have e1 : a = a / 4294967296 * 4294967296 + a % 4294967296 := by omega
    have e2 : b = b / 4294967296 * 4294967296 + b % 4294967296 := by omega
    generalize a / 4294967296 = x at *
    generalize a % 4294967296 = y at *
    generalize b / 4294967296 = u at *
    generalize b % 4294967296 = v at *
    subst e1; subst e2
    have : (x * 4294967296 + y) * (u * 4294967296 + v) = x * u * (4294967296 * 4294967296) + (x * v + y * u) * 4294967296 + y * v := by
      simp only [Nat.add_mul, Nat.mul_add]
      have t1 : x * 4294967296 * (u * 4294967296) = x * u * (4294967296 * 4294967296) := by
        rw [Nat.mul_mul_mul_comm]
      have t2 : x * 4294967296 * v = x * v * 4294967296 := by rw [Nat.mul_right_comm]
      have t3 : y * (u * 4294967296) = y * u * 4294967296 := by rw [Nat.mul_assoc]
      rw [t1, t2, t3]; omega
    rw [this]
  generalize hp00 : a % 4294967296 * (b % 4294967296) = p00 at *
  generalize hp10 : a / 4294967296 * (b % 4294967296) = p10 at *
  generalize hp01 : a % 4294967296 * (b / 4294967296) = p01 at *
  generalize hp11 : a / 4294967296 * (b / 4294967296) = p11 at *
  have c00 : ((a % 4294967296 : Nat) : Int) * ((b % 4294967296 : Nat) : Int) = (p00 : Int) := by rw [← hp00]; exact (Int.natCast_mul _ _).symm
  have c10 : ((a / 4294967296 : Nat) : Int) * ((b % 4294967296 : Nat) : Int) = (p10 : Int) := by rw [← hp10]; exact (Int.natCast_mul _ _).symm
  have c01 : ((a % 4294967296 : Nat) : Int) * ((b / 4294967296 : Nat) : Int) = (p01 : Int) := by rw [← hp01]; exact (Int.natCast_mul _ _).symm
  have c11 : ((a / 4294967296 : Nat) : Int) * ((b / 4294967296 : Nat) : Int) = (p11 : Int) := by rw [← hp11]; exact (Int.natCast_mul _ _).symm
  have cab : (a : Int) * (b : Int) = ((a * b : Nat) : Int) := (Int.natCast_mul _ _).symm
  have s1 : ((p10 : Nat) : Int) + ((p00 / 4294967296 : Nat) : Int) = ((p10 + p00 / 4294967296 : Nat) : Int) := by omega
  rw [c00, c10, c01, c11, cab, wrapn p00 (by omega), wrapn p10 (by omega), wrapn p01 (by omega), wrapn p11 (by omega), hi32, s1, wrapn _ (by omega), lo32 _ (by omega), hi32]
  have s2 : (((p10 + p00 / 4294967296) % 4294967296 : Nat) : Int) + (p01 : Int) = (((p10 + p00 / 4294967296) % 4294967296 + p01 : Nat) : Int) := by omega
  have s3 : (p11 : Int) + (((p10 + p00 / 4294967296) / 4294967296 : Nat) : Int) = ((p11 + (p10 + p00 / 4294967296) / 4294967296 : Nat) : Int) := by omega
  rw [s2, wrapn ((p10 + p00 / 4294967296) % 4294967296 + p01) (by omega), hi32, s3, wrapn (p11 + (p10 + p00 / 4294967296) / 4294967296) (by omega)]
  have s4 : ((p11 + (p10 + p00 / 4294967296) / 4294967296 : Nat) : Int) + ((((p10 + p00 / 4294967296) % 4294967296 + p01) / 4294967296 : Nat) : Int) = ((p11 + (p10 + p00 / 4294967296) / 4294967296 + ((p10 + p00 / 4294967296) % 4294967296 + p01) / 4294967296 : Nat) : Int) := by omega
  rw [s4, wrapm, wrapm]
  have e : (p11 + (p10 + p00 / 4294967296) / 4294967296 + ((p10 + p00 / 4294967296) % 4294967296 + p01) / 4294967296) % 18446744073709551616 = a * b / 18446744073709551616 := by
    rw [hab]; omega
  rw [e]
theorem above2 (n x p : Nat) (hx : x < 274877906944) (hp : p ≤ 1000) : sha_above n (x : Int) (p : Int) 2 = some (decide (p * 18446744073709551616 < x * x)) := by
  unfold sha_above
  rw [mul64 n x x (by omega) (by omega)]
  simp only [Option.bind_some]
  rw [if_pos (show ((2 : Int) == 2) = true from rfl), wrapn p (by omega)]
  simp only [lett]
  congr 1
  generalize x * x = t
  by_cases h1 : ((t / 18446744073709551616 : Nat) : Int) > (p : Int)
  · rw [decide_eq_true h1, decide_eq_true (by omega : p * 18446744073709551616 < t)]; rfl
  · rw [decide_eq_false h1]
    by_cases h2 : ((t / 18446744073709551616 : Nat) : Int) = (p : Int)
    · have e : (((t / 18446744073709551616 : Nat) : Int) == (p : Int)) = true := by rw [beq_iff_eq]; exact h2
      rw [e]
      show decide (((t % 18446744073709551616 : Nat) : Int) > 0) = _
      rw [decide_eq_decide]; omega
    · have e : (((t / 18446744073709551616 : Nat) : Int) == (p : Int)) = false := by rw [beq_eq_false_iff_ne]; exact h2
      rw [e, decide_eq_false (by omega : ¬ p * 18446744073709551616 < t)]; rfl
theorem above3 (n x p : Nat) (hx : x < 274877906944) (hp : p ≤ 1000) : sha_above n (x : Int) (p : Int) 3 = some (decide (p * 79228162514264337593543950336 < x * x * x)) := by
  unfold sha_above
  rw [mul64 n x x (by omega) (by omega)]
  simp only [Option.bind_some]
  have hxx : x * x < 75557863725914323419136 := Nat.lt_of_le_of_lt (Nat.mul_le_mul (by omega : x ≤ 274877906943) (by omega : x ≤ 274877906943)) (by decide)
  rw [if_neg (by decide), mul64 n _ x (by omega) (by omega)]
  simp only [Option.bind_some]
  have hd : decide (0 ≤ (32 : Int)) = true := rfl
  rw [hd, if_pos (show true = true from rfl), wrapn p (by omega)]
  have hu : x * x / 18446744073709551616 * x ≤ 4096 * 274877906944 := Nat.mul_le_mul (by omega) (by omega)
  have ht : x * x * x = x * x / 18446744073709551616 * x * 18446744073709551616 + x * x % 18446744073709551616 * x := by
    have e : x * x = x * x / 18446744073709551616 * 18446744073709551616 + x * x % 18446744073709551616 := by omega
    calc x * x * x = (x * x / 18446744073709551616 * 18446744073709551616 + x * x % 18446744073709551616) * x := by rw [← e]
      _ = _ := by rw [Nat.add_mul, Nat.mul_right_comm]
  have hv : x * x % 18446744073709551616 * x ≤ 18446744073709551616 * 274877906944 := Nat.mul_le_mul (by omega) (by omega)
  have c1 : ((x * x / 18446744073709551616 : Nat) : Int) * (x : Int) = ((x * x / 18446744073709551616 * x : Nat) : Int) := (Int.natCast_mul _ _).symm
  rw [c1]
  generalize x * x / 18446744073709551616 * x = u at *
  generalize x * x % 18446744073709551616 * x = v at *
  generalize x * x * x = t at *
  subst ht
  have c2 : ((v / 18446744073709551616 : Nat) : Int) + (u : Int) = ((v / 18446744073709551616 + u : Nat) : Int) := by omega
  have c3 : (p : Int) * 2 ^ (min (Int.toNat 32) (IntKind.bits .u64)) = ((p * 4294967296 : Nat) : Int) := by
    show (p : Int) * 4294967296 = _
    omega
  rw [wrapn u (by omega), c2, wrapn (v / 18446744073709551616 + u) (by omega), c3, wrapn (p * 4294967296) (by omega)]
  simp only [lett]
  congr 1
  by_cases h1 : ((v / 18446744073709551616 + u : Nat) : Int) > ((p * 4294967296 : Nat) : Int)
  · rw [decide_eq_true h1, decide_eq_true (by omega : p * 79228162514264337593543950336 < u * 18446744073709551616 + v)]; rfl
  · rw [decide_eq_false h1]
    by_cases h2 : ((v / 18446744073709551616 + u : Nat) : Int) = ((p * 4294967296 : Nat) : Int)
    · have e : (((v / 18446744073709551616 + u : Nat) : Int) == ((p * 4294967296 : Nat) : Int)) = true := by rw [beq_iff_eq]; exact h2
      rw [e]
      show decide (((v % 18446744073709551616 : Nat) : Int) > 0) = _
      rw [decide_eq_decide]; omega
    · have e : (((v / 18446744073709551616 + u : Nat) : Int) == ((p * 4294967296 : Nat) : Int)) = false := by rw [beq_eq_false_iff_ne]; exact h2
      rw [e, decide_eq_false (by omega : ¬ p * 79228162514264337593543950336 < u * 18446744073709551616 + v)]; rfl
end Go.Proofs.Yteliiabopphgmaa.M
