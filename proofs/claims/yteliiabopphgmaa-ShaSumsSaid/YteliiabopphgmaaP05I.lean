/-
  Chapter 05: rounds and blocks. Over the printed models.
-/
import Derived.Test.YteliiabopphgmaaP05H
namespace Go.Proofs.Yteliiabopphgmaa.M
open Go Go.Proofs.Yteliiabopphgmaa.RX Go.Proofs.Yteliiabopphgmaa.PL
theorem xor_ones (y : BitVec 32) : (BitVec.ofInt 32 4294967295 ^^^ y).toNat = 4294967295 - y.toNat := by
  rw [show BitVec.ofInt 32 4294967295 = BitVec.allOnes 32 from by decide, BitVec.allOnes_xor, BitVec.toNat_not]
theorem cmpl {e : Int} (h0 : 0 ≤ e) (h1 : e < 4294967296) : IntKind.wrap .u32 ((BitVec.ofInt (IntKind.bits .u32) (IntKind.max .u32) ^^^ BitVec.ofInt (IntKind.bits .u32) e).toNat) = IntKind.wrap .u32 (4294967295 - e) := by
  obtain ⟨x, rfl⟩ := Int.eq_ofNat_of_zero_le h0
  have hx : x < 4294967296 := by omega
  have e2 : (BitVec.ofInt 32 (x : Int)).toNat = x := by
    rw [BitVec.toNat_ofInt]
    show ((x : Int) % ((2 ^ 32 : Nat) : Int)).toNat = x
    omega
  have e3 := xor_ones (BitVec.ofInt 32 (x : Int))
  rw [e2] at e3
  show IntKind.wrap .u32 (((BitVec.ofInt 32 4294967295 ^^^ BitVec.ofInt 32 (x : Int)).toNat : Nat) : Int) = _
  rw [e3]
  congr 1
  omega
def Ch (e f g : Int) : Int := IntKind.wrap .u32 ((BitVec.ofInt (IntKind.bits .u32) (IntKind.wrap .u32 ((BitVec.ofInt (IntKind.bits .u32) e &&& BitVec.ofInt (IntKind.bits .u32) f).toNat)) ^^^ BitVec.ofInt (IntKind.bits .u32) (IntKind.wrap .u32 ((BitVec.ofInt (IntKind.bits .u32) (IntKind.wrap .u32 (4294967295 - e)) &&& BitVec.ofInt (IntKind.bits .u32) g).toNat))).toNat)
def ChS (e f g : Int) : Int := IntKind.wrap .u32 ((BitVec.ofInt (IntKind.bits .u32) (IntKind.wrap .u32 ((BitVec.ofInt (IntKind.bits .u32) e &&& BitVec.ofInt (IntKind.bits .u32) f).toNat)) ^^^ BitVec.ofInt (IntKind.bits .u32) (IntKind.wrap .u32 ((BitVec.ofInt (IntKind.bits .u32) (IntKind.wrap .u32 ((BitVec.ofInt (IntKind.bits .u32) (IntKind.max .u32) ^^^ BitVec.ofInt (IntKind.bits .u32) e).toNat)) &&& BitVec.ofInt (IntKind.bits .u32) g).toNat))).toNat)
theorem ChS_Ch {e f g : Int} (h0 : 0 ≤ e) (h1 : e < 4294967296) : ChS e f g = Ch e f g := by unfold ChS Ch; rw [cmpl h0 h1]
def Maj (a b c : Int) : Int := IntKind.wrap .u32 ((BitVec.ofInt (IntKind.bits .u32) (IntKind.wrap .u32 ((BitVec.ofInt (IntKind.bits .u32) (IntKind.wrap .u32 ((BitVec.ofInt (IntKind.bits .u32) a &&& BitVec.ofInt (IntKind.bits .u32) b).toNat)) ^^^ BitVec.ofInt (IntKind.bits .u32) (IntKind.wrap .u32 ((BitVec.ofInt (IntKind.bits .u32) a &&& BitVec.ofInt (IntKind.bits .u32) c).toNat))).toNat)) ^^^ BitVec.ofInt (IntKind.bits .u32) (IntKind.wrap .u32 ((BitVec.ofInt (IntKind.bits .u32) b &&& BitVec.ofInt (IntKind.bits .u32) c).toNat))).toNat)
def One (h x c k w : Int) : Int := IntKind.wrap .u32 ((IntKind.wrap .u32 ((IntKind.wrap .u32 ((IntKind.wrap .u32 (h + x)) + c)) + k)) + w)
def Two (x m : Int) : Int := IntKind.wrap .u32 (x + m)
theorem sround (n : Nat) (a b c d e f g h k w : Int) : sha_round n [a, b, c, d, e, f, g, h] k w = some [IntKind.wrap .u32 (One h (X3 (SV e 6) (SV e 11) (SV e 25)) (ChS e f g) k w + Two (X3 (SV a 2) (SV a 13) (SV a 22)) (Maj a b c)), a, b, c, IntKind.wrap .u32 (d + One h (X3 (SV e 6) (SV e 11) (SV e 25)) (ChS e f g) k w), e, f, g] := by kernel_rfl
abbrev S8 := Int × Int × Int × Int × Int × Int × Int × Int
def toL (s : S8) : List Int := [s.1, s.2.1, s.2.2.1, s.2.2.2.1, s.2.2.2.2.1, s.2.2.2.2.2.1, s.2.2.2.2.2.2.1, s.2.2.2.2.2.2.2]
def rnd (k w : Int) (s : S8) : S8 :=
  let o := One s.2.2.2.2.2.2.2 (X3 (TV s.2.2.2.2.1 6) (TV s.2.2.2.2.1 11) (TV s.2.2.2.2.1 25)) (Ch s.2.2.2.2.1 s.2.2.2.2.2.1 s.2.2.2.2.2.2.1) k w
  (IntKind.wrap .u32 (o + Two (X3 (TV s.1 2) (TV s.1 13) (TV s.1 22)) (Maj s.1 s.2.1 s.2.2.1)), s.1, s.2.1, s.2.2.1, IntKind.wrap .u32 (s.2.2.2.1 + o), s.2.2.2.2.1, s.2.2.2.2.2.1, s.2.2.2.2.2.2.1)
def R32 (x : Int) : Prop := 0 ≤ x ∧ x < 4294967296
def RS (s : S8) : Prop := R32 s.2.2.2.1 ∧ R32 s.2.2.2.2.1
theorem sround' (n : Nat) (k w : Int) (s : S8) (h : R32 s.2.2.2.2.1) : sha_round n (toL s) k w = some (toL (rnd k w s)) := by
  obtain ⟨a, b, c, d, e, f, g, hh⟩ := s
  unfold toL
  rw [sround, ChS_Ch h.1 h.2]
  simp only [SV_TV]
  rfl
theorem rstep5 (n k i : Nat) (v2 b3 b6 b7 : List Int) (s : S8) (hi : i < 64) (h2 : v2.length = 64) (h7 : b7.length = 64) :
    ref05_Block_l3 n v2 b3 b6 b7 (k + 1) s.1 s.2.1 s.2.2.1 s.2.2.2.1 s.2.2.2.2.1 s.2.2.2.2.2.1 s.2.2.2.2.2.2.1 s.2.2.2.2.2.2.2 (i : Int) =
      (let t := rnd (v2[i]?.getD 0) (b7[i]?.getD 0) s; ref05_Block_l3 n v2 b3 b6 b7 k t.1 t.2.1 t.2.2.1 t.2.2.2.1 t.2.2.2.2.1 t.2.2.2.2.2.1 t.2.2.2.2.2.2.1 t.2.2.2.2.2.2.2 ((i + 1 : Nat) : Int)) := by
  rw [ref05_Block_l3, wrap_s i (by omega)]
  simp only [Int.toNat_natCast, lett, rt6, rt11, rt25, rt2, rt13, rt22, Option.bind_some]
  rw [if_pos (show decide ((i : Int) < 64) = true by simp; omega)]
  repeat (with_reducible (refine ifp ?hc ?_); case hc => (first | (apply decide_eq_true; omega) | (apply decide_eq_true; constructor <;> omega) | rfl))
  unfold rnd One Two X3 Ch Maj
  with_reducible rfl
/-- The rounds from i on. -/
def rnds (kk ww : List Int) : Nat → Nat → S8 → S8
  | 0, _, s => s
  | m + 1, i, s => rnds kk ww m (i + 1) (rnd (kk[i]?.getD 0) (ww[i]?.getD 0) s)
theorem rl3_eq (n : Nat) (v2 b3 b6 b7 : List Int) (h2 : v2.length = 64) (h7 : b7.length = 64) : ∀ (m k i : Nat) (s : S8), i + m = 64 → m < k →
    ref05_Block_l3 n v2 b3 b6 b7 k s.1 s.2.1 s.2.2.1 s.2.2.2.1 s.2.2.2.2.1 s.2.2.2.2.2.1 s.2.2.2.2.2.2.1 s.2.2.2.2.2.2.2 (i : Int) = some (rnds v2 b7 m i s)
  | m, 0, i, s, _, h => by omega
  | 0, k + 1, i, s, hi, _ => by
    rw [ref05_Block_l3, if_neg (show ¬ decide ((i : Int) < 64) = true by simp; omega)]; rfl
  | m + 1, k + 1, i, s, hi, hk => by
    rw [rstep5 n k i v2 b3 b6 b7 s (by omega) h2 h7]
    exact rl3_eq n v2 b3 b6 b7 h2 h7 m k (i + 1) _ (by omega) (by omega)
theorem rnd_R (k w : Int) (s : S8) : R32 (rnd k w s).2.2.2.2.1 := w32r _
theorem toL_len (s : S8) : (toL s).length = 8 := rfl
theorem sl1_eq (n : Nat) (b3 b6 b8 kk : List Int) (h8 : b8.length = 64) (hk : kk.length = 64) : ∀ (m k i : Nat) (s : S8), i + m = 64 → m < k → R32 s.2.2.2.2.1 →
    sha_block__a0_l1 n b3 b6 b8 kk k (i : Int) (toL s) = some (toL (rnds kk b8 m i s))
  | m, 0, i, s, _, h, _ => by omega
  | 0, k + 1, i, s, hi, _, _ => by
    rw [sha_block__a0_l1, if_neg (show ¬ decide ((i : Int) < 64) = true by simp; omega)]; rfl
  | m + 1, k + 1, i, s, hi, hkk, hr => by
    rw [sha_block__a0_l1, wrap_s i (by omega), if_pos (show decide ((i : Int) < 64) = true by simp; omega)]
    simp only [Int.toNat_natCast, toL_len]
    repeat (with_reducible (refine ifp ?hc ?_); case hc => (first | (apply decide_eq_true; omega) | (apply decide_eq_true; constructor <;> omega) | rfl))
    rw [sround' n _ _ s hr]
    simp only [Option.bind_some, toL_len]
    (with_reducible (refine ifp ?hc ?_); case hc => (first | (apply decide_eq_true; omega) | (apply decide_eq_true; constructor <;> omega) | rfl))
    exact sl1_eq n b3 b6 b8 kk h8 hk m k (i + 1) _ (by omega) (by omega) (rnd_R _ _ _)
def addS (h s : S8) : S8 := (IntKind.wrap .u32 (h.1 + s.1), IntKind.wrap .u32 (h.2.1 + s.2.1), IntKind.wrap .u32 (h.2.2.1 + s.2.2.1), IntKind.wrap .u32 (h.2.2.2.1 + s.2.2.2.1), IntKind.wrap .u32 (h.2.2.2.2.1 + s.2.2.2.2.1), IntKind.wrap .u32 (h.2.2.2.2.2.1 + s.2.2.2.2.2.1), IntKind.wrap .u32 (h.2.2.2.2.2.2.1 + s.2.2.2.2.2.2.1), IntKind.wrap .u32 (h.2.2.2.2.2.2.2 + s.2.2.2.2.2.2.2))
theorem sl2_eq (n k : Nat) (b6 kk : List Int) (h s : S8) : sha_block__a0_l2 n (toL h) b6 kk (k + 9) 0 (toL s) = some (toL (addS s h)) := by kernel_rfl
theorem addS_comm (h s : S8) : addS s h = addS h s := by
  unfold addS
  simp only [Int.add_comm]
def blockS (kk : List Int) (v : List UInt8) (h : S8) : S8 := addS h (rnds kk (words v) 64 0 h)
theorem d8 (s : S8) : decide (List.length (toL s) = 8) = true := rfl
theorem rep8 : decide (List.length (List.replicate 8 (0 : Nat)) = 8) = true := by simp
theorem sblock_eq (n : Nat) (v : List UInt8) (kk : List Int) (h : S8) (hn : 100 ≤ n) (hv : 64 ≤ v.length) (hk : kk.length = 64) (hr : R32 h.2.2.2.2.1) : sha_block__a0 n (toL h) v kk = some (toL (blockS kk v h), kk) := by
  unfold sha_block__a0
  rw [if_pos (d8 h), if_pos (d8 h), sha_words_eq n v hn hv]
  simp only [Option.bind_some]
  rw [if_pos (d8 h), if_pos (decide_eq_true (words_len v))]
  have h1 : sha_block__a0_l1 n (toL h) (List.replicate 8 0) (words v) kk n 0 (toL h) = some (toL (rnds kk (words v) 64 0 h)) := sl1_eq n (toL h) (List.replicate 8 0) (words v) kk (words_len v) hk 64 n 0 h rfl (by omega) hr
  rw [h1]
  simp only [Option.bind_some]
  obtain ⟨m, rfl⟩ : ∃ m, n = m + 9 := ⟨n - 9, by omega⟩
  rw [sl2_eq (m + 9) m (List.replicate 8 0) kk h (rnds kk (words v) 64 0 h)]
  simp only [Option.bind_some]
  rw [if_pos (d8 _), if_pos rep8, if_pos (d8 _), if_pos (d8 _), addS_comm]
  rfl
end Go.Proofs.Yteliiabopphgmaa.M
