/-
  Chapter 05: digits and pads; the law ShaPads. Over the printed models.
-/
import Derived.Test.YteliiabopphgmaaP05J
namespace Go.Proofs.Yteliiabopphgmaa.M
open Go Go.Proofs.Yteliiabopphgmaa.RX Go.Proofs.Yteliiabopphgmaa.PL
set_option maxRecDepth 100000
theorem byte_dec {p : UInt8 → Bool} (h : ((List.range 256).all fun n => p (UInt8.ofNat n)) = true) (c : UInt8) : p c = true :=
  byte_all (p := fun c => p c = true) (fun n hn => List.all_eq_true.1 h n (List.mem_range.2 hn)) c
def dgs : List UInt8 := [48, 49, 50, 51, 52, 53, 54, 55, 56, 57, 97, 98, 99, 100, 101, 102]
def hx (c : UInt8) : List UInt8 := [dgs[c.toNat / 16]?.getD 0, dgs[c.toNat % 16]?.getD 0]
def hs1 (c : UInt8) : Int := Int.fdiv (c.toNat : Int) (2 ^ (min (Int.toNat 4) (IntKind.bits .u8)))
def hs2 (c : UInt8) : Int := IntKind.wrap .u8 ((BitVec.ofInt (IntKind.bits .u8) (c.toNat : Int) &&& BitVec.ofInt (IntKind.bits .u8) 15).toNat)
theorem hs_ok (c : UInt8) : (decide (0 ≤ hs1 c ∧ hs1 c < (List.length dgs : Int)) && decide (0 ≤ hs2 c ∧ hs2 c < (List.length dgs : Int)) && ([dgs[Int.toNat (hs1 c)]?.getD 0, dgs[Int.toNat (hs2 c)]?.getD 0] == hx c)) = true :=
  byte_dec (p := fun c => (decide (0 ≤ hs1 c ∧ hs1 c < (List.length dgs : Int)) && decide (0 ≤ hs2 c ∧ hs2 c < (List.length dgs : Int)) && ([dgs[Int.toNat (hs1 c)]?.getD 0, dgs[Int.toNat (hs2 c)]?.getD 0] == hx c))) (by kernel_rfl) c
def hr1 (c : UInt8) : Int := ref05_digit (IntKind.wrap .u8 (Int.tdiv (c.toNat : Int) 16))
def hr2 (c : UInt8) : Int := ref05_digit (Int.tmod (c.toNat : Int) 16)
theorem hr_ok (c : UInt8) : (decide (0 ≤ hr1 c ∧ hr1 c < 256) && decide (0 ≤ hr2 c ∧ hr2 c < 256) && ([UInt8.ofNat (Int.toNat (hr1 c)), UInt8.ofNat (Int.toNat (hr2 c))] == hx c)) = true :=
  byte_dec (p := fun c => (decide (0 ≤ hr1 c ∧ hr1 c < 256) && decide (0 ≤ hr2 c ∧ hr2 c < 256) && ([UInt8.ofNat (Int.toNat (hr1 c)), UInt8.ofNat (Int.toNat (hr2 c))] == hx c))) (by kernel_rfl) c
theorem shex1 (n k i : Nat) (l acc : List UInt8) (h : i < l.length) (hl : acc.length ≤ 100000) : sha_Hex_l1 n l (l.length : Int) (k + 1) acc (i : Int) = sha_Hex_l1 n l (l.length : Int) k (acc ++ hx l[i]) (IntKind.wrap .i64 ((i : Int) + 1)) := by
  have h1 := hs_ok l[i]
  simp only [Bool.and_eq_true, beq_iff_eq] at h1
  obtain ⟨⟨h1, h2⟩, h3⟩ := h1
  rw [sha_Hex_l1, if_pos (lt_i h), at_i h]
  show (if decide (0 ≤ (i : Int) ∧ (i : Int) < (l.length : Int)) = true then (if decide (0 ≤ (4 : Int)) = true then (if decide (0 ≤ hs1 l[i] ∧ hs1 l[i] < (List.length dgs : Int)) = true then (if decide (0 ≤ hs2 l[i] ∧ hs2 l[i] < (List.length dgs : Int)) = true then (if decide ((List.length acc + List.length [dgs[Int.toNat (hs1 l[i])]?.getD 0, dgs[Int.toNat (hs2 l[i])]?.getD 0]) * (1 + 1) ≤ limit) = true then (lett (acc ++ [dgs[Int.toNat (hs1 l[i])]?.getD 0, dgs[Int.toNat (hs2 l[i])]?.getD 0]) fun x1 => sha_Hex_l1 n l (l.length : Int) k x1 (IntKind.wrap .i64 ((i : Int) + 1))) else none) else none) else none) else none) else none) = _
  rw [h3, if_pos (in_i h), if_pos (show decide (0 ≤ (4 : Int)) = true from rfl), if_pos h1, if_pos h2, if_pos (fits (by show acc.length + 2 ≤ _; omega))]
  rfl
theorem rhex1 (n k i : Nat) (l acc : List UInt8) (h : i < l.length) (hl : acc.length ≤ 100000) : ref05_Hex_l1 n l (k + 1) acc (i : Int) = ref05_Hex_l1 n l k (acc ++ hx l[i]) (IntKind.wrap .i64 ((i : Int) + 1)) := by
  have h1 := hr_ok l[i]
  simp only [Bool.and_eq_true, beq_iff_eq] at h1
  obtain ⟨⟨h1, h2⟩, h3⟩ := h1
  rw [ref05_Hex_l1, if_pos (lt_i h), at_i h]
  show (if decide (0 ≤ (i : Int) ∧ (i : Int) < (l.length : Int)) = true then (if (16 != 0) = true then (if decide (0 ≤ hr1 l[i] ∧ hr1 l[i] < 256) = true then (if decide (0 ≤ hr2 l[i] ∧ hr2 l[i] < 256) = true then (if decide ((List.length acc + List.length [UInt8.ofNat (Int.toNat (hr1 l[i])), UInt8.ofNat (Int.toNat (hr2 l[i]))]) * (1 + 1) ≤ limit) = true then (ref05_Hex_l1 n l k (acc ++ [UInt8.ofNat (Int.toNat (hr1 l[i])), UInt8.ofNat (Int.toNat (hr2 l[i]))]) (IntKind.wrap .i64 ((i : Int) + 1))) else none) else none) else none) else none) else none) = _
  rw [h3, if_pos (in_i h), if_pos (show (16 != 0) = true from rfl), if_pos h1, if_pos h2, if_pos (fits (by show acc.length + 2 ≤ _; omega))]
theorem hx_len (c : UInt8) : (hx c).length = 2 := rfl
theorem shex (n : Nat) (l : List UInt8) (hl : l.length ≤ 2000) (hn : 2000 < n) : sha_Hex n l = some (l.flatMap hx) := by
  have h := gather (L := fun k s i => sha_Hex_l1 n l (l.length : Int) k s i) l (fun acc c => acc ++ hx c) (fun s => s) (fun i s => s.length = 2 * i) (by omega)
    (fun k s i h hi => shex1 n k i l s h (by omega)) (fun s i h hi => by rw [List.length_append, hi, hx_len]; omega)
    (fun k s _ => by rw [sha_Hex_l1, nlt_n]; rfl) n 0 [] (by omega) (by omega) rfl
  have h0 : sha_Hex_l1 n l (l.length : Int) n [] 0 = some ((l.drop 0).foldl (fun acc c => acc ++ hx c) []) := h.1
  rw [foldl_app, List.nil_append, List.drop_zero] at h0
  unfold sha_Hex
  have hw : IntKind.wrap .i64 (2 * (l.length : Int)) = ((2 * l.length : Nat) : Int) := by rw [wrap_id _ (by omega) (by omega)]; omega
  rw [hw, if_pos (show decide (0 ≤ (0 : Int) ∧ (0 : Int) ≤ ((2 * l.length : Nat) : Int)) = true from decide_eq_true (by omega)),
    if_pos (show decide (((2 * l.length : Nat) : Int) * ((1 + 1 : Nat) : Int) ≤ (limit : Int)) = true from decide_eq_true (by show _ ≤ ((140737488355328 : Nat) : Int); omega)), h0]
  rfl
theorem rhex (n : Nat) (l : List UInt8) (hl : l.length ≤ 2000) (hn : 2000 < n) : ref05_Hex n l = some (l.flatMap hx) := by
  have h := gather (L := fun k s i => ref05_Hex_l1 n l k s i) l (fun acc c => acc ++ hx c) (fun s => s) (fun i s => s.length = 2 * i) (by omega)
    (fun k s i h hi => rhex1 n k i l s h (by omega)) (fun s i h hi => by rw [List.length_append, hi, hx_len]; omega)
    (fun k s _ => by rw [ref05_Hex_l1, nlt_n]; rfl) n 0 [] (by omega) (by omega) rfl
  have h0 : ref05_Hex_l1 n l n [] 0 = some ((l.drop 0).foldl (fun acc c => acc ++ hx c) []) := h.1
  rw [foldl_app, List.nil_append, List.drop_zero] at h0
  unfold ref05_Hex
  rw [h0]; rfl
theorem hex_len (l : List UInt8) : (l.flatMap hx).length = 2 * l.length := by
  induction l with
  | nil => rfl
  | cons c l ih => rw [List.flatMap_cons, List.length_append, ih, hx_len, List.length_cons]; omega

/-! ### pads -/
def down (N : Nat) : Nat → List UInt8
  | 0 => []
  | m + 1 => UInt8.ofNat (N / 256 ^ m % 256) :: down N m
theorem down_len (N : Nat) : ∀ m, (down N m).length = m
  | 0 => rfl
  | m + 1 => by rw [down, List.length_cons, down_len N m]
theorem down_get (N : Nat) : ∀ (m i : Nat), i < m → (down N m)[i]? = some (UInt8.ofNat (N / 256 ^ (m - 1 - i) % 256))
  | 0, i, h => by omega
  | m + 1, 0, _ => by simp [down]
  | m + 1, i + 1, h => by
    rw [down, List.getElem?_cons_succ, down_get N m i (by omega), show m + 1 - 1 - (i + 1) = m - 1 - i by omega]
theorem w8 (x : Nat) : IntKind.wrap .u8 (x : Int) = ((x % 256 : Nat) : Int) := by
  simp only [IntKind.wrap, IntKind.bits, IntKind.signed, Bool.false_and, Bool.false_eq_true, if_false, show ((2 : Int) ^ 8) = 256 from rfl]
  omega
theorem fdivn (a b : Nat) : Int.fdiv (a : Int) (b : Int) = ((a / b : Nat) : Int) := by
  rw [Int.fdiv_eq_ediv_of_nonneg _ (by omega)]; exact (Int.natCast_ediv a b).symm
theorem pad3 (n : Nat) (v3 : Int) (v4 : List UInt8) (i : Nat) (hi : i < 100) : ∀ (m k j v : Nat), j + m = i → m < k → v < 18446744073709551616 → ref05_Pad_l3 n v3 v4 (i : Int) k (v : Int) (j : Int) = some ((v / 256 ^ m : Nat) : Int)
  | m, 0, j, v, _, h, _ => by omega
  | 0, k + 1, j, v, hj, _, _ => by
    rw [ref05_Pad_l3, if_neg (show ¬ decide ((j : Int) < (i : Int)) = true by simp; omega)]; simp
  | m + 1, k + 1, j, v, hj, hk, hv => by
    rw [ref05_Pad_l3, if_pos (lt_i (by omega)), if_pos (show (256 != 0) = true from rfl), wrap_s j (by omega)]
    have e : Int.tdiv (v : Int) 256 = ((v / 256 : Nat) : Int) := by rw [Int.tdiv_eq_ediv_of_nonneg (by omega)]; omega
    rw [e, wrapn (v / 256) (by omega), pad3 n v3 v4 i hi m k (j + 1) (v / 256) (by omega) (by omega) (by omega), Nat.div_div_eq_div_mul, Nat.pow_succ, Nat.mul_comm 256]
theorem ofN (x : Nat) (h : x < 256) : UInt8.ofNat (Int.toNat (IntKind.wrap .u8 (x : Int))) = UInt8.ofNat x := by rw [w8, Nat.mod_eq_of_lt h]; rfl
theorem c8 (x : Nat) : decide (0 ≤ IntKind.wrap .u8 (x : Int) ∧ IntKind.wrap .u8 (x : Int) < 256) = true := by rw [w8]; exact decide_eq_true (by omega)
theorem tmodn (a b : Nat) : Int.tmod (a : Int) (b : Int) = ((a % b : Nat) : Int) := by rw [Int.tmod_eq_emod_of_nonneg (by omega)]; exact (Int.natCast_emod a b).symm
theorem pad2 (n len : Nat) (hlen : len ≤ 2000) (hn : 100 ≤ n) : ∀ (m k : Nat) (acc : List UInt8), m ≤ 8 → m < k → acc.length + m ≤ 10000 → ref05_Pad_l2 n (len : Int) k acc ((m : Int) - 1) = some (acc ++ down (len * 8) m)
  | m, 0, acc, _, h, _ => by omega
  | 0, k + 1, acc, _, _, _ => by
    rw [ref05_Pad_l2, if_neg (show ¬ decide (((0 : Nat) : Int) - 1 ≥ 0) = true by simp)]; simp [down]
  | m + 1, k + 1, acc, hm, hk, ha => by
    have e0 : ((m + 1 : Nat) : Int) - 1 = (m : Int) := by omega
    rw [e0, ref05_Pad_l2, if_pos (show decide ((m : Int) ≥ 0) = true from decide_eq_true (by omega)), wrapn len (by omega)]
    have e1 : IntKind.wrap .u64 ((len : Int) * 8) = ((len * 8 : Nat) : Int) := by
      have : (len : Int) * 8 = ((len * 8 : Nat) : Int) := by omega
      rw [this, wrapn _ (by omega)]
    have h3 : ref05_Pad_l3 n (len : Int) acc (m : Int) n ((len * 8 : Nat) : Int) 0 = some ((len * 8 / 256 ^ m : Nat) : Int) := pad3 n (len : Int) acc m (by omega) m n 0 (len * 8) (by omega) (by omega) (by omega)
    rw [e1, h3]
    simp only [Option.bind_some]
    have e2 : Int.tmod ((len * 8 / 256 ^ m : Nat) : Int) 256 = ((len * 8 / 256 ^ m % 256 : Nat) : Int) := tmodn _ 256
    rw [e2, if_pos (show (256 != 0) = true from rfl), if_pos (c8 _), ofN _ (Nat.mod_lt _ (by decide)), if_pos (fits (by show acc.length + 1 ≤ _; omega))]
    rw [show IntKind.wrap .i64 ((m : Int) - 1) = (m : Int) - 1 from wrap_id _ (by omega) (by omega), pad2 n len hlen hn m k _ (by omega) (by omega) (by simp; omega), down]
    simp
theorem pad1 (n : Nat) (v3 : Int) : ∀ (z k : Nat) (acc : List UInt8), acc.length + z ≤ 10000 → (acc.length + z) % 64 = 56 → z < 64 → z < k → ref05_Pad_l1 n v3 k acc = some (acc ++ List.replicate z 0)
  | z, 0, acc, _, _, _, h => by omega
  | 0, k + 1, acc, _, h, _, _ => by
    rw [ref05_Pad_l1, if_pos (show (64 != 0) = true from rfl), show Int.tmod (acc.length : Int) 64 = ((acc.length % 64 : Nat) : Int) from tmodn _ 64]
    have : acc.length % 64 = 56 := by omega
    rw [this, if_neg (by decide)]; simp
  | z + 1, k + 1, acc, ha, h, hz, hk => by
    rw [ref05_Pad_l1, if_pos (show (64 != 0) = true from rfl), show Int.tmod (acc.length : Int) 64 = ((acc.length % 64 : Nat) : Int) from tmodn _ 64]
    have hne : ((acc.length % 64 : Nat) : Int) ≠ 56 := by omega
    rw [if_pos (by simpa using hne), if_pos (fits (by show acc.length + 1 ≤ _; omega))]
    rw [pad1 n v3 z k (acc ++ [0]) (by simp; omega) (by simp; omega) (by omega) (by omega)]
    simp [List.replicate_succ]
def zer (len : Nat) : Nat := (119 - len % 64) % 64
def padS (s : List UInt8) : List UInt8 := ((s ++ [128]) ++ List.replicate (zer s.length) 0) ++ down (s.length * 8) 8
theorem rpad (n : Nat) (s : List UInt8) (hs : s.length ≤ 2000) (hn : 100 ≤ n) : ref05_Pad n s = some (padS s) := by
  unfold ref05_Pad
  rw [if_pos (show decide (s.length ≤ limit) = true from decide_eq_true (by show _ ≤ 140737488355328; omega)), if_pos (fits (by show s.length + 1 ≤ _; omega))]
  rw [pad1 n (s.length : Int) (zer s.length) n (s ++ [128]) (by unfold zer; simp; omega) (by unfold zer; simp; omega) (by unfold zer; omega) (by unfold zer; omega)]
  simp only [Option.bind_some]
  have h := pad2 n s.length hs hn 8 n ((s ++ [128]) ++ List.replicate (zer s.length) 0) (by omega) (by omega) (by unfold zer; simp; omega)
  have e : ((8 : Nat) : Int) - 1 = 7 := rfl
  rw [e] at h
  rw [h]; rfl
theorem spad1 (n len : Nat) (v0 : List UInt8) (v4 : Int) (hl : len ≤ 2000) : ∀ (m k i : Nat), i + m = 8 → m < k → sha_Pad_l1 n v0 (len : Int) v4 k (i : Int) ((down (len * 8) 8).take i ++ List.replicate m 0) = some (down (len * 8) 8)
  | m, 0, i, _, h => by omega
  | 0, k + 1, i, hi, _ => by
    rw [sha_Pad_l1, if_neg (show ¬ decide ((i : Int) < 8) = true by simp; omega), List.take_of_length_le (by rw [down_len]; omega)]; simp
  | m + 1, k + 1, i, hi, hk => by
    have e1 : IntKind.wrap .u64 (IntKind.wrap .u64 (len : Int) * 8) = ((len * 8 : Nat) : Int) := by
      rw [wrapn len (by omega)]
      have : (len : Int) * 8 = ((len * 8 : Nat) : Int) := by omega
      rw [this, wrapn _ (by omega)]
    have e2 : IntKind.wrap .i64 (56 - IntKind.wrap .i64 (8 * (i : Int))) = ((56 - 8 * i : Nat) : Int) := by
      rw [wrap_id (8 * (i : Int)) (by omega) (by omega), wrap_id _ (by omega) (by omega)]; omega
    have e3 : ((2 : Int) ^ (min (56 - 8 * i) (IntKind.bits .u64))) = ((256 ^ (7 - i) : Nat) : Int) := by
      have : min (56 - 8 * i) (IntKind.bits .u64) = 8 * (7 - i) := by show min (56 - 8 * i) 64 = _; omega
      rw [this, Int.pow_mul]
      simp
    have hc := clen (down (len * 8) 8) 0 i (m + 1) (by rw [down_len]; omega)
    rw [down_len] at hc
    rw [sha_Pad_l1, if_pos (show decide ((i : Int) < 8) = true from decide_eq_true (by omega)), e1, e2, wrap_s i (by omega)]
    simp only [Int.toNat_natCast, hc]
    simp only [e3, fdivn]
    rw [if_pos (show decide (0 ≤ ((56 - 8 * i : Nat) : Int)) = true from decide_eq_true (by omega)), if_pos (show decide (0 ≤ (i : Int) ∧ (i : Int) < 8) = true from decide_eq_true (by omega)), if_pos (c8 _),
      if_pos (show decide (0 ≤ (i : Int) ∧ (i : Int) < ((8 : Nat) : Int)) = true from decide_eq_true (by omega))]
    have e4 : UInt8.ofNat (Int.toNat (IntKind.wrap .u8 ((len * 8 / 256 ^ (7 - i) : Nat) : Int))) = UInt8.ofNat (len * 8 / 256 ^ (7 - i) % 256) := by rw [w8]; rfl
    simp only [lett]
    rw [e4, set_next (down (len * 8) 8) 0 _ i m (down_get (len * 8) 8 i (by omega))]
    exact spad1 n len v0 v4 hl m k (i + 1) (by omega) (by omega)
theorem repeatL_one (z : Nat) : Lib.repeatL ([0] : List UInt8) z = List.replicate z 0 := by
  induction z with
  | zero => rfl
  | succ z ih => rw [Lib.repeatL, ih]; rfl
theorem le63 (x : Nat) (h : x ≤ 100000) : decide ((x : Int) ≤ 9223372036854775807) = true := decide_eq_true (by omega)
theorem spad (n : Nat) (s : List UInt8) (hs : s.length ≤ 2000) (hn : 100 ≤ n) : sha_Pad n s = some (padS s) := by
  have hz : Int.tmod (IntKind.wrap .i64 (119 - (Int.tmod (s.length : Int) 64))) 64 = ((zer s.length : Nat) : Int) := by
    rw [show Int.tmod (s.length : Int) 64 = ((s.length % 64 : Nat) : Int) from tmodn _ 64, wrap_id _ (by omega) (by omega)]
    have : (119 - ((s.length % 64 : Nat) : Int)) = ((119 - s.length % 64 : Nat) : Int) := by omega
    rw [this]
    exact tmodn _ 64
  have hzl : zer s.length < 64 := by unfold zer; omega
  have h1 : sha_Pad_l1 n s (s.length : Int) ((zer s.length : Nat) : Int) n 0 (List.replicate 8 0) = some (down (s.length * 8) 8) := by
    have := spad1 n s.length s ((zer s.length : Nat) : Int) hs 8 n 0 rfl (by omega)
    rw [List.take_zero, List.nil_append] at this
    exact this
  unfold sha_Pad
  rw [if_pos (show (64 != 0) = true from rfl), hz, h1, Option.bind_some, Int.toNat_natCast, repeatL_one, down_len]
  rw [if_pos (le63 _ (by simp; omega)),
    if_pos (show decide (0 ≤ ((zer s.length : Nat) : Int) ∧ ((zer s.length : Nat) : Int) ≤ 1000000000000 ∧ (List.length ([0] : List UInt8) : Int) * ((zer s.length : Nat) : Int) ≤ (limit : Int)) = true from decide_eq_true ⟨by omega, by omega, by show (1 : Int) * _ ≤ ((140737488355328 : Nat) : Int); omega⟩),
    if_pos (le63 _ (by simp; omega))]
  rw [if_pos (show decide ((8 : Nat) = 8) = true from rfl), if_pos (le63 _ (by simp; omega))]
  rfl
theorem padS_len (s : List UInt8) : (padS s).length = s.length + 9 + zer s.length := by unfold padS; simp [down_len]; omega
theorem law05_ShaPads_true (a0 : List UInt8) (_ : List.length a0 ≤ maxLen) : ∃ n, law05_ShaPads n a0 = some true := by
  obtain ⟨n, hn⟩ : ∃ n : Nat, n = 2001 := ⟨_, rfl⟩
  have haw : law05_awake n = some true := by subst hn; kernel_rfl
  refine ⟨n, ?_⟩
  unfold law05_ShaPads
  by_cases hc : (a0.length : Int) > 2000
  · rw [if_pos (decide_eq_true hc), haw]; rfl
  · have hs : a0.length ≤ 2000 := by omega
    have hl := padS_len a0
    have hz : zer a0.length < 64 := by unfold zer; omega
    have hm : (a0.length + 9 + zer a0.length) % 64 = 0 := by unfold zer; omega
    rw [if_neg (show ¬ decide ((a0.length : Int) > 2000) = true by simp; omega), spad n a0 hs (by omega)]
    simp only [Option.bind_some]
    rw [rpad n a0 hs (by omega)]
    simp only [Option.bind_some, beq_self_eq_true, cond_true, Int.toNat_natCast]
    have htk : (padS a0).take a0.length = a0 := by unfold padS; simp [List.append_assoc]
    rw [htk, hl]
    have c1 : (Int.tmod ((a0.length + 9 + zer a0.length : Nat) : Int) 64 == 0) = true := by rw [show Int.tmod ((a0.length + 9 + zer a0.length : Nat) : Int) 64 = _ from tmodn _ 64, hm]; rfl
    have c2 : decide (((a0.length + 9 + zer a0.length : Nat) : Int) ≥ IntKind.wrap .i64 ((a0.length : Int) + 9)) = true := by rw [wrap_id _ (by omega) (by omega)]; exact decide_eq_true (by omega)
    have c3 : decide (((a0.length + 9 + zer a0.length : Nat) : Int) < IntKind.wrap .i64 ((a0.length : Int) + 73)) = true := by rw [wrap_id _ (by omega) (by omega)]; exact decide_eq_true (by omega)
    have c4 : decide (0 ≤ (a0.length : Int) ∧ (a0.length : Int) ≤ ((a0.length + 9 + zer a0.length : Nat) : Int)) = true := decide_eq_true (by omega)
    simp only [c1, c2, c3, c4, cond_true, beq_self_eq_true, if_true, Bool.not_true, Bool.false_or, shex n a0 hs (by omega), rhex n a0 hs (by omega), Option.bind_some, haw, lett]
    rfl
end Go.Proofs.Yteliiabopphgmaa.M
