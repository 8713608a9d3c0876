/-
  Chapter 05: turns, words and constants. Over the printed models.
-/
import Derived.Test.YteliiabopphgmaaP05G
namespace Go.Proofs.Yteliiabopphgmaa.M
open Go Go.Proofs.Yteliiabopphgmaa.RX Go.Proofs.Yteliiabopphgmaa.PL
theorem ifp {α : Type} {c : Bool} {a : Option α} {r : Option α} (h : c = true) (ha : a = r) : (if c = true then a else none) = r := by rw [if_pos h]; exact ha
theorem w32n (x : Nat) (h : x < 4294967296) : IntKind.wrap .u32 (x : Int) = (x : Int) := by
  simp only [IntKind.wrap, IntKind.bits, IntKind.signed, Bool.false_and, Bool.false_eq_true, if_false, show ((2 : Int) ^ 32) = 4294967296 from rfl]
  omega
theorem w32r (x : Int) : 0 ≤ IntKind.wrap .u32 x ∧ IntKind.wrap .u32 x < 4294967296 := by
  simp only [IntKind.wrap, IntKind.bits, IntKind.signed, Bool.false_and, Bool.false_eq_true, if_false, show ((2 : Int) ^ 32) = 4294967296 from rfl]
  omega
/-- x turned by r. -/
def TV (x : Int) (r : Nat) : Int := IntKind.wrap .u32 ((BitVec.ofInt (IntKind.bits .u32) (Int.fdiv x (2 ^ (min r (IntKind.bits .u32)))) ||| BitVec.ofInt (IntKind.bits .u32) (IntKind.wrap .u32 (x * 2 ^ (min (32 - r) (IntKind.bits .u32))))).toNat)
def SV (x : Int) (r : Nat) : Int := IntKind.wrap .u32 ((BitVec.ofInt (IntKind.bits .u32) (IntKind.wrap .u32 (x * 2 ^ (min (32 - r) (IntKind.bits .u32)))) ||| BitVec.ofInt (IntKind.bits .u32) (Int.fdiv x (2 ^ (min r (IntKind.bits .u32))))).toNat)
theorem SV_TV (x : Int) (r : Nat) : SV x r = TV x r := by unfold SV TV; rw [BitVec.or_comm]
theorem sw17 (n : Nat) (x : Int) : sha_words_1 n x 17 = some (SV x 17) := by kernel_rfl
theorem sw19 (n : Nat) (x : Int) : sha_words_1 n x 19 = some (SV x 19) := by kernel_rfl
theorem sw7 (n : Nat) (x : Int) : sha_words_1 n x 7 = some (SV x 7) := by kernel_rfl
theorem sw18 (n : Nat) (x : Int) : sha_words_1 n x 18 = some (SV x 18) := by kernel_rfl
theorem rt17 (n : Nat) (x : Int) : ref05_turn n x 17 = some (TV x 17) := by kernel_rfl
theorem rt19 (n : Nat) (x : Int) : ref05_turn n x 19 = some (TV x 19) := by kernel_rfl
theorem rt7 (n : Nat) (x : Int) : ref05_turn n x 7 = some (TV x 7) := by kernel_rfl
theorem rt18 (n : Nat) (x : Int) : ref05_turn n x 18 = some (TV x 18) := by kernel_rfl
theorem rt6 (n : Nat) (x : Int) : ref05_turn n x 6 = some (TV x 6) := by kernel_rfl
theorem rt11 (n : Nat) (x : Int) : ref05_turn n x 11 = some (TV x 11) := by kernel_rfl
theorem rt25 (n : Nat) (x : Int) : ref05_turn n x 25 = some (TV x 25) := by kernel_rfl
theorem rt2 (n : Nat) (x : Int) : ref05_turn n x 2 = some (TV x 2) := by kernel_rfl
theorem rt13 (n : Nat) (x : Int) : ref05_turn n x 13 = some (TV x 13) := by kernel_rfl
theorem rt22 (n : Nat) (x : Int) : ref05_turn n x 22 = some (TV x 22) := by kernel_rfl

/-! ### the words of a block -/
theorem or32 (x y : Nat) (hx : x < 4294967296) (hy : y < 4294967296) : (BitVec.ofInt (IntKind.bits .u32) (x : Int) ||| BitVec.ofInt (IntKind.bits .u32) (y : Int)).toNat = x ||| y := by
  rw [BitVec.toNat_or]
  have e : ∀ z : Nat, z < 4294967296 → (BitVec.ofInt (IntKind.bits .u32) (z : Int)).toNat = z := by
    intro z hz
    rw [BitVec.toNat_ofInt]
    show ((z : Int) % ((2 ^ 32 : Nat) : Int)).toNat = z
    omega
  rw [e x hx, e y hy]
theorem or_add (k a b : Nat) (h : b < 2 ^ k) : 2 ^ k * a ||| b = 2 ^ k * a + b := (Nat.two_pow_add_eq_or_of_lt h a).symm
def Wd (a b c d : Nat) : Nat := a * 16777216 + b * 65536 + c * 256 + d
theorem Wd_lt {a b c d : Nat} (ha : a < 256) (hb : b < 256) (hc : c < 256) (hd : d < 256) : Wd a b c d < 4294967296 := by unfold Wd; omega
theorem wd_or {a b c d : Nat} (ha : a < 256) (hb : b < 256) (hc : c < 256) (hd : d < 256) :
    IntKind.wrap .u32 ((BitVec.ofInt (IntKind.bits .u32) (IntKind.wrap .u32 ((BitVec.ofInt (IntKind.bits .u32) (IntKind.wrap .u32 ((BitVec.ofInt (IntKind.bits .u32) (IntKind.wrap .u32 ((IntKind.wrap .u32 (a : Int)) * 2 ^ (min (Int.toNat 24) (IntKind.bits .u32)))) ||| BitVec.ofInt (IntKind.bits .u32) (IntKind.wrap .u32 ((IntKind.wrap .u32 (b : Int)) * 2 ^ (min (Int.toNat 16) (IntKind.bits .u32))))).toNat)) ||| BitVec.ofInt (IntKind.bits .u32) (IntKind.wrap .u32 ((IntKind.wrap .u32 (c : Int)) * 2 ^ (min (Int.toNat 8) (IntKind.bits .u32))))).toNat)) ||| BitVec.ofInt (IntKind.bits .u32) (IntKind.wrap .u32 (d : Int))).toNat) = (Wd a b c d : Int) := by
  have p24 : (2 : Int) ^ (min (Int.toNat 24) (IntKind.bits .u32)) = 16777216 := rfl
  have p16 : (2 : Int) ^ (min (Int.toNat 16) (IntKind.bits .u32)) = 65536 := rfl
  have p8 : (2 : Int) ^ (min (Int.toNat 8) (IntKind.bits .u32)) = 256 := rfl
  have ea : (a : Int) * 16777216 = ((a * 16777216 : Nat) : Int) := by omega
  have eb : (b : Int) * 65536 = ((b * 65536 : Nat) : Int) := by omega
  have ec : (c : Int) * 256 = ((c * 256 : Nat) : Int) := by omega
  rw [p24, p16, p8, w32n a (by omega), w32n b (by omega), w32n c (by omega), w32n d (by omega), ea, eb, ec, w32n (a * 16777216) (by omega), w32n (b * 65536) (by omega), w32n (c * 256) (by omega)]
  rw [or32 (a * 16777216) (b * 65536) (by omega) (by omega)]
  have h1 : a * 16777216 ||| b * 65536 = a * 16777216 + b * 65536 := by
    have := or_add 24 a (b * 65536) (by omega)
    rw [show 2 ^ 24 * a = a * 16777216 from by omega] at this; exact this
  rw [h1, w32n (a * 16777216 + b * 65536) (by omega), or32 (a * 16777216 + b * 65536) (c * 256) (by omega) (by omega)]
  have h2 : (a * 16777216 + b * 65536) ||| c * 256 = a * 16777216 + b * 65536 + c * 256 := by
    have := or_add 16 (a * 256 + b) (c * 256) (by omega)
    rw [show 2 ^ 16 * (a * 256 + b) = a * 16777216 + b * 65536 from by omega] at this; exact this
  rw [h2, w32n (a * 16777216 + b * 65536 + c * 256) (by omega), or32 (a * 16777216 + b * 65536 + c * 256) d (by omega) (by omega)]
  have h3 : (a * 16777216 + b * 65536 + c * 256) ||| d = a * 16777216 + b * 65536 + c * 256 + d := by
    have := or_add 8 (a * 65536 + b * 256 + c) d (by omega)
    rw [show 2 ^ 8 * (a * 65536 + b * 256 + c) = a * 16777216 + b * 65536 + c * 256 from by omega] at this; exact this
  rw [h3, w32n (a * 16777216 + b * 65536 + c * 256 + d) (by omega)]
  rfl
theorem wd_add {a b c d : Nat} (ha : a < 256) (hb : b < 256) (hc : c < 256) (hd : d < 256) :
    IntKind.wrap .u32 ((IntKind.wrap .u32 ((IntKind.wrap .u32 ((IntKind.wrap .u32 ((IntKind.wrap .u32 (a : Int)) * 16777216)) + (IntKind.wrap .u32 ((IntKind.wrap .u32 (b : Int)) * 65536)))) + (IntKind.wrap .u32 ((IntKind.wrap .u32 (c : Int)) * 256)))) + (IntKind.wrap .u32 (d : Int))) = (Wd a b c d : Int) := by
  have ea : (a : Int) * 16777216 = ((a * 16777216 : Nat) : Int) := by omega
  have eb : (b : Int) * 65536 = ((b * 65536 : Nat) : Int) := by omega
  have ec : (c : Int) * 256 = ((c * 256 : Nat) : Int) := by omega
  rw [w32n a (by omega), w32n b (by omega), w32n c (by omega), w32n d (by omega), ea, eb, ec, w32n (a * 16777216) (by omega), w32n (b * 65536) (by omega), w32n (c * 256) (by omega)]
  rw [show ((a * 16777216 : Nat) : Int) + ((b * 65536 : Nat) : Int) = ((a * 16777216 + b * 65536 : Nat) : Int) from by omega, w32n (a * 16777216 + b * 65536) (by omega),
    show ((a * 16777216 + b * 65536 : Nat) : Int) + ((c * 256 : Nat) : Int) = ((a * 16777216 + b * 65536 + c * 256 : Nat) : Int) from by omega, w32n (a * 16777216 + b * 65536 + c * 256) (by omega),
    show ((a * 16777216 + b * 65536 + c * 256 : Nat) : Int) + (d : Int) = ((a * 16777216 + b * 65536 + c * 256 + d : Nat) : Int) from by omega, w32n (a * 16777216 + b * 65536 + c * 256 + d) (by omega)]
  rfl
def byteAt (v : List UInt8) (i : Nat) : Nat := (v[i]?.getD 0).toNat
theorem byteAt_lt (v : List UInt8) (i : Nat) : byteAt v i < 256 := (v[i]?.getD 0).toNat_lt
def wordAt (v : List UInt8) (i : Nat) : Int := (Wd (byteAt v (4 * i)) (byteAt v (4 * i + 1)) (byteAt v (4 * i + 2)) (byteAt v (4 * i + 3)) : Int)
theorem idx4 {i : Nat} (h : i < 16) : IntKind.wrap .i64 (4 * (i : Int)) = ((4 * i : Nat) : Int) := by rw [wrap_id _ (by omega) (by omega)]; omega
theorem idxp {i : Nat} (c : Nat) (h : i < 1000) (hc : c < 10) : IntKind.wrap .i64 (((4 * i : Nat) : Int) + (c : Int)) = ((4 * i + c : Nat) : Int) := by rw [wrap_id _ (by omega) (by omega)]; omega
theorem w1s (n k i : Nat) (v : List UInt8) (b2 b : List Int) (hi : i < 16) (hv : 64 ≤ v.length) (hb : b.length = 64) :
    sha_words_l1 n v b2 (k + 1) (i : Int) b = sha_words_l1 n v b2 k ((i + 1 : Nat) : Int) (b.set i (wordAt v i)) := by
  rw [sha_words_l1, idx4 hi]
  rw [show IntKind.wrap .i64 (((4 * i : Nat) : Int) + 1) = ((4 * i + 1 : Nat) : Int) from idxp 1 (by omega) (by omega),
    show IntKind.wrap .i64 (((4 * i : Nat) : Int) + 2) = ((4 * i + 2 : Nat) : Int) from idxp 2 (by omega) (by omega),
    show IntKind.wrap .i64 (((4 * i : Nat) : Int) + 3) = ((4 * i + 3 : Nat) : Int) from idxp 3 (by omega) (by omega), wrap_s i (by omega)]
  simp only [Int.toNat_natCast, lett]
  have hw := wd_or (byteAt_lt v (4 * i)) (byteAt_lt v (4 * i + 1)) (byteAt_lt v (4 * i + 2)) (byteAt_lt v (4 * i + 3))
  unfold byteAt at hw
  rw [hw]
  rw [if_pos (show decide ((i : Int) < 16) = true by simp; omega)]
  repeat (with_reducible (refine ifp ?hc ?_); case hc => (first | (apply decide_eq_true; omega) | (apply decide_eq_true; constructor <;> omega) | rfl))
  unfold wordAt byteAt
  with_reducible rfl
theorem r1s (n k i : Nat) (v : List UInt8) (v2 b3 b6 b : List Int) (hi : i < 16) (hv : 64 ≤ v.length) (hb : b.length = 64) :
    ref05_Block_l1 n v v2 b3 b6 (k + 1) (i : Int) b = ref05_Block_l1 n v v2 b3 b6 k ((i + 1 : Nat) : Int) (b.set i (wordAt v i)) := by
  rw [ref05_Block_l1, idx4 hi]
  rw [show IntKind.wrap .i64 (((4 * i : Nat) : Int) + 1) = ((4 * i + 1 : Nat) : Int) from idxp 1 (by omega) (by omega),
    show IntKind.wrap .i64 (((4 * i : Nat) : Int) + 2) = ((4 * i + 2 : Nat) : Int) from idxp 2 (by omega) (by omega),
    show IntKind.wrap .i64 (((4 * i : Nat) : Int) + 3) = ((4 * i + 3 : Nat) : Int) from idxp 3 (by omega) (by omega), wrap_s i (by omega)]
  simp only [Int.toNat_natCast, lett]
  have hw := wd_add (byteAt_lt v (4 * i)) (byteAt_lt v (4 * i + 1)) (byteAt_lt v (4 * i + 2)) (byteAt_lt v (4 * i + 3))
  unfold byteAt at hw
  rw [hw]
  rw [if_pos (show decide ((i : Int) < 16) = true by simp; omega)]
  repeat (with_reducible (refine ifp ?hc ?_); case hc => (first | (apply decide_eq_true; omega) | (apply decide_eq_true; constructor <;> omega) | rfl))
  unfold wordAt byteAt
  with_reducible rfl
/-- The first sixteen words. -/
def w16 (v : List UInt8) : Nat → Nat → List Int → List Int
  | 0, _, b => b
  | m + 1, i, b => w16 v m (i + 1) (b.set i (wordAt v i))
theorem w16_len (v : List UInt8) : ∀ (m i : Nat) (b : List Int), (w16 v m i b).length = b.length
  | 0, _, _ => rfl
  | m + 1, i, b => by rw [w16, w16_len v m]; simp
theorem w1_eq (n : Nat) (v : List UInt8) (b2 : List Int) (hv : 64 ≤ v.length) : ∀ (m k i : Nat) (b : List Int), b.length = 64 → i + m = 16 → m < k → sha_words_l1 n v b2 k (i : Int) b = some (w16 v m i b)
  | m, 0, i, b, _, _, h => by omega
  | 0, k + 1, i, b, hb, hi, _ => by
    rw [sha_words_l1, if_neg (show ¬ decide ((i : Int) < 16) = true by simp; omega)]; rfl
  | m + 1, k + 1, i, b, hb, hi, hk => by
    rw [w1s n k i v b2 b (by omega) hv hb]
    exact w1_eq n v b2 hv m k (i + 1) _ (by simp [hb]) (by omega) (by omega)
theorem r1_eq (n : Nat) (v : List UInt8) (v2 b3 b6 : List Int) (hv : 64 ≤ v.length) : ∀ (m k i : Nat) (b : List Int), b.length = 64 → i + m = 16 → m < k → ref05_Block_l1 n v v2 b3 b6 k (i : Int) b = some (w16 v m i b)
  | m, 0, i, b, _, _, h => by omega
  | 0, k + 1, i, b, hb, hi, _ => by
    rw [ref05_Block_l1, if_neg (show ¬ decide ((i : Int) < 16) = true by simp; omega)]; rfl
  | m + 1, k + 1, i, b, hb, hi, hk => by
    rw [r1s n k i v v2 b3 b6 b (by omega) hv hb]
    exact r1_eq n v v2 b3 b6 hv m k (i + 1) _ (by simp [hb]) (by omega) (by omega)
def X3 (a b c : Int) : Int := IntKind.wrap .u32 ((BitVec.ofInt (IntKind.bits .u32) (IntKind.wrap .u32 ((BitVec.ofInt (IntKind.bits .u32) a ^^^ BitVec.ofInt (IntKind.bits .u32) b).toNat)) ^^^ BitVec.ofInt (IntKind.bits .u32) c).toNat)
def nextW (b : List Int) (i : Nat) : Int :=
  let x := b[i - 2]?.getD 0
  let y := b[i - 15]?.getD 0
  IntKind.wrap .u32 (IntKind.wrap .u32 (IntKind.wrap .u32 (X3 (TV x 17) (TV x 19) (Int.fdiv x (2 ^ (min (Int.toNat 10) (IntKind.bits .u32)))) + (b[i - 7]?.getD 0)) + X3 (TV y 7) (TV y 18) (Int.fdiv y (2 ^ (min (Int.toNat 3) (IntKind.bits .u32))))) + (b[i - 16]?.getD 0))
theorem subw {i : Nat} (c : Nat) (h : c ≤ i) (hi : i < 1000) : IntKind.wrap .i64 ((i : Int) - (c : Int)) = ((i - c : Nat) : Int) := by rw [wrap_id _ (by omega) (by omega)]; omega
theorem w2s (n k i : Nat) (b2 b : List Int) (hi : i < 64) (h16 : 16 ≤ i) (hb : b.length = 64) :
    sha_words_l2 n b2 (k + 1) (i : Int) b = sha_words_l2 n b2 k ((i + 1 : Nat) : Int) (b.set i (nextW b i)) := by
  rw [sha_words_l2, show IntKind.wrap .i64 ((i : Int) - 2) = ((i - 2 : Nat) : Int) from subw 2 (by omega) (by omega), show IntKind.wrap .i64 ((i : Int) - 15) = ((i - 15 : Nat) : Int) from subw 15 (by omega) (by omega),
    show IntKind.wrap .i64 ((i : Int) - 7) = ((i - 7 : Nat) : Int) from subw 7 (by omega) (by omega), show IntKind.wrap .i64 ((i : Int) - 16) = ((i - 16 : Nat) : Int) from subw 16 (by omega) (by omega), wrap_s i (by omega)]
  simp only [Int.toNat_natCast, lett, sw17, sw19, sw7, sw18, SV_TV, Option.bind_some]
  rw [if_pos (show decide ((i : Int) < 64) = true by simp; omega)]
  repeat (with_reducible (refine ifp ?hc ?_); case hc => (first | (apply decide_eq_true; omega) | (apply decide_eq_true; constructor <;> omega) | rfl))
  unfold nextW X3
  with_reducible rfl
theorem r2s (n k i : Nat) (v2 b3 b6 b : List Int) (hi : i < 64) (h16 : 16 ≤ i) (hb : b.length = 64) :
    ref05_Block_l2 n v2 b3 b6 (k + 1) (i : Int) b = ref05_Block_l2 n v2 b3 b6 k ((i + 1 : Nat) : Int) (b.set i (nextW b i)) := by
  rw [ref05_Block_l2, show IntKind.wrap .i64 ((i : Int) - 2) = ((i - 2 : Nat) : Int) from subw 2 (by omega) (by omega), show IntKind.wrap .i64 ((i : Int) - 15) = ((i - 15 : Nat) : Int) from subw 15 (by omega) (by omega),
    show IntKind.wrap .i64 ((i : Int) - 7) = ((i - 7 : Nat) : Int) from subw 7 (by omega) (by omega), show IntKind.wrap .i64 ((i : Int) - 16) = ((i - 16 : Nat) : Int) from subw 16 (by omega) (by omega), wrap_s i (by omega)]
  simp only [Int.toNat_natCast, lett, rt17, rt19, rt7, rt18, Option.bind_some]
  rw [if_pos (show decide ((i : Int) < 64) = true by simp; omega)]
  repeat (with_reducible (refine ifp ?hc ?_); case hc => (first | (apply decide_eq_true; omega) | (apply decide_eq_true; constructor <;> omega) | rfl))
  unfold nextW X3
  with_reducible rfl
def w64 : Nat → Nat → List Int → List Int
  | 0, _, b => b
  | m + 1, i, b => w64 m (i + 1) (b.set i (nextW b i))
theorem w64_len : ∀ (m i : Nat) (b : List Int), (w64 m i b).length = b.length
  | 0, _, _ => rfl
  | m + 1, i, b => by rw [w64, w64_len m]; simp
theorem w2_eq (n : Nat) (b2 : List Int) : ∀ (m k i : Nat) (b : List Int), b.length = 64 → 16 ≤ i → i + m = 64 → m < k → sha_words_l2 n b2 k (i : Int) b = some (w64 m i b)
  | m, 0, i, b, _, _, _, h => by omega
  | 0, k + 1, i, b, hb, _, hi, _ => by
    rw [sha_words_l2, if_neg (show ¬ decide ((i : Int) < 64) = true by simp; omega)]; rfl
  | m + 1, k + 1, i, b, hb, h16, hi, hk => by
    rw [w2s n k i b2 b (by omega) h16 hb]
    exact w2_eq n b2 m k (i + 1) _ (by simp [hb]) (by omega) (by omega) (by omega)
theorem r2_eq (n : Nat) (v2 b3 b6 : List Int) : ∀ (m k i : Nat) (b : List Int), b.length = 64 → 16 ≤ i → i + m = 64 → m < k → ref05_Block_l2 n v2 b3 b6 k (i : Int) b = some (w64 m i b)
  | m, 0, i, b, _, _, _, h => by omega
  | 0, k + 1, i, b, hb, _, hi, _ => by
    rw [ref05_Block_l2, if_neg (show ¬ decide ((i : Int) < 64) = true by simp; omega)]; rfl
  | m + 1, k + 1, i, b, hb, h16, hi, hk => by
    rw [r2s n k i v2 b3 b6 b (by omega) h16 hb]
    exact r2_eq n v2 b3 b6 m k (i + 1) _ (by simp [hb]) (by omega) (by omega) (by omega)
def words (v : List UInt8) : List Int := w64 48 16 (w16 v 16 0 (List.replicate 64 0))
theorem words_len (v : List UInt8) : (words v).length = 64 := by unfold words; rw [w64_len, w16_len]; simp
theorem rep64 : decide (List.length (List.replicate 64 (0 : Nat)) = 64) = true := by simp
theorem sha_words_eq (n : Nat) (v : List UInt8) (hn : 100 ≤ n) (hv : 64 ≤ v.length) : sha_words n v = some (words v) := by
  have h1 : sha_words_l1 n v (List.replicate 64 0) n 0 (List.replicate 64 0) = some (w16 v 16 0 (List.replicate 64 0)) := w1_eq n v (List.replicate 64 0) hv 16 n 0 (List.replicate 64 0) (by simp) rfl (by omega)
  have hl : (w16 v 16 0 (List.replicate 64 0)).length = 64 := by rw [w16_len]; simp
  have hw : words v = w64 48 16 (w16 v 16 0 (List.replicate 64 0)) := rfl
  generalize w16 v 16 0 (List.replicate 64 0) = b at *
  have h2 : sha_words_l2 n (List.replicate 64 0) n 16 b = some (w64 48 16 b) := w2_eq n (List.replicate 64 0) 48 n 16 b hl (by omega) rfl (by omega)
  have e : decide (List.length (w64 48 16 b) = 64) = true := decide_eq_true (by rw [w64_len, hl])
  rw [hw]
  generalize w64 48 16 b = b' at *
  unfold sha_words
  rw [h1]
  simp only [Option.bind_some]
  rw [h2]
  simp only [Option.bind_some]
  rw [if_pos e, if_pos rep64, if_pos e, if_pos e]
theorem ref_words_eq (n : Nat) (v : List UInt8) (v2 b3 b6 : List Int) (hn : 100 ≤ n) (hv : 64 ≤ v.length) : (ref05_Block_l1 n v v2 b3 b6 n 0 (List.replicate 64 0)).bind (fun o6 => ref05_Block_l2 n v2 b3 b6 n 16 o6) = some (words v) := by
  have h1 : ref05_Block_l1 n v v2 b3 b6 n 0 (List.replicate 64 0) = some (w16 v 16 0 (List.replicate 64 0)) := r1_eq n v v2 b3 b6 hv 16 n 0 (List.replicate 64 0) (by simp) rfl (by omega)
  have hl : (w16 v 16 0 (List.replicate 64 0)).length = 64 := by rw [w16_len]; simp
  have hw : words v = w64 48 16 (w16 v 16 0 (List.replicate 64 0)) := rfl
  rw [h1, hw]
  generalize w16 v 16 0 (List.replicate 64 0) = b at *
  exact r2_eq n v2 b3 b6 48 n 16 b hl (by omega) rfl (by omega)
end Go.Proofs.Yteliiabopphgmaa.M
