/-
  Chapter 05: the law ShaSums. Over the printed models.
-/
import Derived.Test.YteliiabopphgmaaP05L
namespace Go.Proofs.Yteliiabopphgmaa.M
open Go Go.Proofs.Yteliiabopphgmaa.RX Go.Proofs.Yteliiabopphgmaa.PL
set_option maxRecDepth 100000
/-! ### the first state -/
theorem root_R (n : Nat) (kind p : Int) : R32 (rootv n kind p) := by
  unfold rootv sha_Root
  simp only [lett]
  split
  · exact ⟨by decide, by decide⟩
  · cases h : sha_Root_l1 n p kind n 0 274877906944 with
    | none => exact ⟨by decide, by decide⟩
    | some r => exact w32r r
theorem si_eq (n : Nat) (hn : 2000 ≤ n) (v0 : List UInt8) (l : List Int) (hl : l.length = 8) : ∀ (m k i : Nat), i + m = 8 → m < k →
    sha_Sum_l1 n v0 l (l.length : Int) k (i : Int) ((l.map (rootv n 2)).take i ++ List.replicate m 0) = some (l.map (rootv n 2))
  | m, 0, i, _, h => by omega
  | 0, k + 1, i, hi, _ => by
    rw [sha_Sum_l1, if_neg (show ¬ decide ((i : Int) < (l.length : Int)) = true by simp; omega), List.take_of_length_le (by simp; omega)]
    simp
  | m + 1, k + 1, i, hi, hk => by
    have hil : i < l.length := by omega
    have hc := clen (l.map (rootv n 2)) 0 i (m + 1) (by simp; omega)
    rw [List.length_map] at hc
    rw [sha_Sum_l1, wrap_s i (by omega), if_pos (lt_i hil), if_pos (in_i hil), at_i hil, sroot n _ 2 hn]
    simp only [Option.bind_some, hc, Int.toNat_natCast]
    rw [if_pos (show decide (0 ≤ (i : Int) ∧ (i : Int) < 8) = true from decide_eq_true (by omega)), if_pos (in_i hil)]
    rw [set_next (l.map (rootv n 2)) 0 (rootv n 2 l[i]) i m (by simp [hil])]
    exact si_eq n hn v0 l hl m k (i + 1) (by omega) (by omega)
theorem ri_eq (n : Nat) (hn : 2000 ≤ n) (v0 : List UInt8) (l : List Int) (hl : l.length = 8) : ∀ (m k i : Nat), i + m = 8 → m < k →
    ref05_Sum_l1 n v0 l k (i : Int) ((l.map (rootv n 2)).take i ++ List.replicate m 0) = some (l.map (rootv n 2))
  | m, 0, i, _, h => by omega
  | 0, k + 1, i, hi, _ => by
    rw [ref05_Sum_l1, if_neg (show ¬ decide ((i : Int) < 8) = true by simp; omega), List.take_of_length_le (by simp; omega)]
    simp
  | m + 1, k + 1, i, hi, hk => by
    have hil : i < l.length := by omega
    have hc := clen (l.map (rootv n 2)) 0 i (m + 1) (by simp; omega)
    rw [List.length_map] at hc
    rw [ref05_Sum_l1, wrap_s i (by omega), if_pos (show decide ((i : Int) < 8) = true from decide_eq_true (by omega)), if_pos (in_i hil), at_i hil, rroot n _ 2 hn]
    simp only [Option.bind_some, hc, Int.toNat_natCast]
    rw [if_pos (show decide (0 ≤ (i : Int) ∧ (i : Int) < 8) = true from decide_eq_true (by omega)), if_pos (in_i hil)]
    rw [set_next (l.map (rootv n 2)) 0 (rootv n 2 l[i]) i m (by simp [hil])]
    exact ri_eq n hn v0 l hl m k (i + 1) (by omega) (by omega)
/-! ### the blocks -/
def R8 (s : S8) : Prop := ∀ x ∈ toL s, R32 x
theorem R8_5 {s : S8} (h : R8 s) : R32 s.2.2.2.2.1 := h _ (by unfold toL; simp)
theorem block_R (kk : List Int) (v : List UInt8) (h : S8) : R8 (blockS kk v h) := by
  intro x hx
  unfold blockS addS toL at hx
  simp only [List.mem_cons, List.not_mem_nil, or_false] at hx
  rcases hx with h | h | h | h | h | h | h | h <;> (rw [h]; exact w32r _)
def blk (kk : List Int) : Nat → List UInt8 → S8 → S8
  | 0, _, s => s
  | m + 1, v, s => blk kk m (v.drop 64) (blockS kk v s)
theorem blk_R (kk : List Int) : ∀ (m : Nat) (v : List UInt8) (s : S8), R8 s → R8 (blk kk m v s)
  | 0, _, _, h => h
  | m + 1, v, s, _ => by rw [blk]; exact blk_R kk m _ _ (block_R kk v s)
theorem sb_eq (n : Nat) (kk : List Int) (hn : 100 ≤ n) (hkk : kk.length = 64) : ∀ (m k : Nat) (v : List UInt8) (s : S8), v.length = 64 * m → m < k → R8 s →
    sha_Sum_l2 n k v (toL s) kk = some (toL (blk kk m v s))
  | m, 0, _, _, _, h, _ => by omega
  | 0, k + 1, v, s, hv, _, _ => by
    have : v = [] := List.eq_nil_of_length_eq_zero (by omega)
    subst this
    rw [sha_Sum_l2, if_neg (by decide)]; rfl
  | m + 1, k + 1, v, s, hv, hk, hr => by
    have hne : (!(v == ([] : List UInt8))) = true := by cases v with
      | nil => simp at hv
      | cons a t => rfl
    rw [sha_Sum_l2, if_pos hne, if_pos (d8 s), sblock_eq n v kk s hn (by omega) hkk (R8_5 hr)]
    simp only [Option.bind_some]
    rw [if_pos (d8 _), if_pos (show decide (0 ≤ (64 : Int) ∧ (64 : Int) ≤ (v.length : Int)) = true from decide_eq_true (by omega))]
    exact sb_eq n kk hn hkk m k (v.drop 64) _ (by simp; omega) (by omega) (block_R kk v s)
theorem rb_eq (n : Nat) (kk : List Int) (v : List UInt8) (hn : 100 ≤ n) (hkk : kk.length = 64) (hvl : v.length ≤ 100000) : ∀ (m k i : Nat) (s : S8), i + 64 * m = v.length → m < k →
    ref05_Sum_l2 n kk v k (i : Int) (toL s) = some (toL (blk kk m (v.drop i) s))
  | m, 0, _, _, _, h => by omega
  | 0, k + 1, i, s, hv, _ => by
    rw [ref05_Sum_l2, wrap_id _ (by omega) (by omega), if_neg (show ¬ decide ((i : Int) + 64 ≤ (v.length : Int)) = true by simp; omega)]; rfl
  | m + 1, k + 1, i, s, hv, hk => by
    rw [ref05_Sum_l2, wrap_id _ (by omega) (by omega), if_pos (show decide ((i : Int) + 64 ≤ (v.length : Int)) = true from decide_eq_true (by omega)), if_pos (d8 s),
      if_pos (show decide (0 ≤ (i : Int) ∧ (i : Int) ≤ (v.length : Int)) = true from decide_eq_true (by omega)), Int.toNat_natCast, rblock_eq n (v.drop i) kk s hn (by simp; omega) hkk]
    simp only [Option.bind_some]
    rw [if_pos (d8 _), show (i : Int) + 64 = ((i + 64 : Nat) : Int) from by omega, rb_eq n kk v hn hkk hvl m k (i + 64) _ (by omega) (by omega), blk, List.drop_drop]
/-! ### the bytes -/
def outB (g : Nat → Nat) : List UInt8 := (List.range 32).map fun i => UInt8.ofNat (g (i / 4) / 256 ^ (3 - i % 4) % 256)
theorem outB_len (g : Nat → Nat) : (outB g).length = 32 := by unfold outB; simp
theorem outB_get (g : Nat → Nat) (i : Nat) (h : i < 32) : (outB g)[i]? = some (UInt8.ofNat (g (i / 4) / 256 ^ (3 - i % 4) % 256)) := by unfold outB; simp [h]
theorem s3_eq (n : Nat) (l : List Int) (g : Nat → Nat) (hl : l.length = 8) (hg : ∀ q, l[q]?.getD 0 = (g q : Int)) : ∀ (m k i : Nat), i + m = 32 → m < k →
    sha_Sum_l3 n l k (i : Int) ((outB g).take i ++ List.replicate m 0) = some (outB g)
  | m, 0, i, _, h => by omega
  | 0, k + 1, i, hi, _ => by
    rw [sha_Sum_l3, if_neg (show ¬ decide ((i : Int) < 32) = true by simp; omega), List.take_of_length_le (by rw [outB_len]; omega)]; simp
  | m + 1, k + 1, i, hi, hk => by
    have e1 : IntKind.wrap .i64 (Int.tdiv (i : Int) 4) = ((i / 4 : Nat) : Int) := by
      rw [Int.tdiv_eq_ediv_of_nonneg (by omega), wrap_id _ (by omega) (by omega)]; omega
    have e2 : IntKind.wrap .i64 (24 - IntKind.wrap .i64 ((Int.tmod (i : Int) 4) * 8)) = ((24 - 8 * (i % 4) : Nat) : Int) := by
      rw [show Int.tmod (i : Int) 4 = ((i % 4 : Nat) : Int) from tmodn _ 4, wrap_id (((i % 4 : Nat) : Int) * 8) (by omega) (by omega), wrap_id _ (by omega) (by omega)]; omega
    have e3 : ((2 : Int) ^ (min (24 - 8 * (i % 4)) (IntKind.bits .u32))) = ((256 ^ (3 - i % 4) : Nat) : Int) := by
      have : min (24 - 8 * (i % 4)) (IntKind.bits .u32) = 8 * (3 - i % 4) := by show min (24 - 8 * (i % 4)) 32 = _; omega
      rw [this, Int.pow_mul]
      simp
    have hc := clen (outB g) 0 i (m + 1) (by rw [outB_len]; omega)
    rw [outB_len] at hc
    rw [sha_Sum_l3, if_pos (show decide ((i : Int) < 32) = true from decide_eq_true (by omega)), e1, e2, wrap_s i (by omega)]
    simp only [Int.toNat_natCast, hc, hl, hg]
    simp only [e3, fdivn]
    rw [if_pos (show (4 != 0) = true from rfl), if_pos (show decide (0 ≤ ((i / 4 : Nat) : Int) ∧ ((i / 4 : Nat) : Int) < 8) = true from decide_eq_true (by omega)),
      if_pos (show decide (0 ≤ ((i / 4 : Nat) : Int) ∧ ((i / 4 : Nat) : Int) < ((8 : Nat) : Int)) = true from decide_eq_true (by omega)),
      if_pos (show decide (0 ≤ ((24 - 8 * (i % 4) : Nat) : Int)) = true from decide_eq_true (by omega)),
      if_pos (show decide (0 ≤ (i : Int) ∧ (i : Int) < 32) = true from decide_eq_true (by omega)), if_pos (c8 _),
      if_pos (show decide (0 ≤ (i : Int) ∧ (i : Int) < ((32 : Nat) : Int)) = true from decide_eq_true (by omega))]
    have e4 : UInt8.ofNat (Int.toNat (IntKind.wrap .u8 ((g (i / 4) / 256 ^ (3 - i % 4) : Nat) : Int))) = UInt8.ofNat (g (i / 4) / 256 ^ (3 - i % 4) % 256) := by rw [w8]; rfl
    simp only [lett]
    rw [e4, set_next (outB g) 0 _ i m (outB_get g i (by omega))]
    exact s3_eq n l g hl hg m k (i + 1) (by omega) (by omega)
theorem r3_eq (n : Nat) (l : List Int) (g : Nat → Nat) (hl : l.length = 8) (hg : ∀ q, l[q]?.getD 0 = (g q : Int)) (hb : ∀ q, g q < 4294967296) : ∀ (m k i : Nat), i + m = 8 → m < k →
    ref05_Sum_l3 n l k ((outB g).take (4 * i)) (i : Int) = some (outB g)
  | m, 0, i, _, h => by omega
  | 0, k + 1, i, hi, _ => by
    rw [ref05_Sum_l3, if_neg (show ¬ decide ((i : Int) < 8) = true by simp; omega), List.take_of_length_le (by rw [outB_len]; omega)]
  | m + 1, k + 1, i, hi, hk => by
    have hbi := hb i
    have d1 : IntKind.wrap .u32 (Int.tdiv ((g i : Nat) : Int) 16777216) = ((g i / 16777216 : Nat) : Int) := by
      rw [Int.tdiv_eq_ediv_of_nonneg (by omega), show ((g i : Nat) : Int) / 16777216 = ((g i / 16777216 : Nat) : Int) from by omega, w32n _ (by omega)]
    have d2 : Int.tmod (IntKind.wrap .u32 (Int.tdiv ((g i : Nat) : Int) 65536)) 256 = ((g i / 65536 % 256 : Nat) : Int) := by
      rw [Int.tdiv_eq_ediv_of_nonneg (by omega), show ((g i : Nat) : Int) / 65536 = ((g i / 65536 : Nat) : Int) from by omega, w32n _ (by omega)]; exact tmodn _ 256
    have d3 : Int.tmod (IntKind.wrap .u32 (Int.tdiv ((g i : Nat) : Int) 256)) 256 = ((g i / 256 % 256 : Nat) : Int) := by
      rw [Int.tdiv_eq_ediv_of_nonneg (by omega), show ((g i : Nat) : Int) / 256 = ((g i / 256 : Nat) : Int) from by omega, w32n _ (by omega)]; exact tmodn _ 256
    have d4 : Int.tmod ((g i : Nat) : Int) 256 = ((g i % 256 : Nat) : Int) := tmodn _ 256
    have o (x : Nat) : UInt8.ofNat (Int.toNat (IntKind.wrap .u8 (x : Int))) = UInt8.ofNat (x % 256) := by rw [w8]; rfl
    rw [ref05_Sum_l3, wrap_s i (by omega)]
    simp only [Int.toNat_natCast, hg, d1, d2, d3, d4, o]
    have htl : ((outB g).take (4 * i)).length = 4 * i := by rw [List.length_take, outB_len]; omega
    rw [if_pos (show decide ((i : Int) < 8) = true from decide_eq_true (by omega)), if_pos (show decide (0 ≤ (i : Int) ∧ (i : Int) < 8) = true from decide_eq_true (by omega)),
      if_pos (show decide (0 ≤ (i : Int) ∧ (i : Int) < (l.length : Int)) = true from decide_eq_true (by omega)),
      if_pos (show (16777216 != 0) = true from rfl), if_pos (show (65536 != 0) = true from rfl), if_pos (show (256 != 0) = true from rfl),
      if_pos (c8 _), if_pos (c8 _), if_pos (c8 _), if_pos (c8 _), if_pos (fits (by show ((outB g).take (4 * i)).length + 4 ≤ _; omega))]
    have t : (outB g).take (4 * i) ++ [UInt8.ofNat (g i / 16777216 % 256), UInt8.ofNat (g i / 65536 % 256 % 256), UInt8.ofNat (g i / 256 % 256 % 256), UInt8.ofNat (g i % 256 % 256)] = (outB g).take (4 * (i + 1)) := by
      rw [show 4 * (i + 1) = 4 * i + 1 + 1 + 1 + 1 from by omega, List.take_add_one, List.take_add_one, List.take_add_one, List.take_add_one,
        outB_get g (4 * i) (by omega), outB_get g (4 * i + 1) (by omega), outB_get g (4 * i + 1 + 1) (by omega), outB_get g (4 * i + 1 + 1 + 1) (by omega),
        show (4 * i) / 4 = i from by omega, show (4 * i + 1) / 4 = i from by omega, show (4 * i + 1 + 1) / 4 = i from by omega, show (4 * i + 1 + 1 + 1) / 4 = i from by omega,
        show (4 * i) % 4 = 0 from by omega, show (4 * i + 1) % 4 = 1 from by omega, show (4 * i + 1 + 1) % 4 = 2 from by omega, show (4 * i + 1 + 1 + 1) % 4 = 3 from by omega]
      simp
    simp only [lett]
    rw [t]
    exact r3_eq n l g hl hg hb m k (i + 1) (by omega) (by omega)
/-! ### sums -/
def wN (l : List Int) (q : Nat) : Nat := Int.toNat (l[q]?.getD 0)
theorem sums_eq (n : Nat) (hn : n = 2000) (s : List UInt8) (hs : s.length ≤ 300) : ∃ r, r.length = 32 ∧ sha_Sum n s = some r ∧ ref05_Sum n s = some r := by
  have hk := sha_kc n hn
  have hk2 := ref_kc n hn
  have hl := kc_len n
  have hp := sp8 n hn
  have hp2 := rp8 n hn
  have p8l : primes8.length = 8 := rfl
  have i1 := si_eq n (by omega) s primes8 p8l 8 n 0 rfl (by omega)
  have i2 := ri_eq n (by omega) s primes8 p8l 8 n 0 rfl (by omega)
  rw [List.take_zero, List.nil_append] at i1 i2
  have hR : ∀ x ∈ primes8.map (rootv n 2), R32 x := by
    intro x hx
    obtain ⟨p, _, rfl⟩ := List.mem_map.1 hx
    exact root_R n 2 p
  have hml : (primes8.map (rootv n 2)).length = 8 := by rw [List.length_map]; rfl
  generalize primes8.map (rootv n 2) = H0 at *
  obtain ⟨h0, rfl⟩ := toL_of hml
  generalize kc n = K at *
  generalize primes8 = P at *
  have pl := padS_len s
  have hz : zer s.length < 64 := by unfold zer; omega
  have hm : (s.length + 9 + zer s.length) % 64 = 0 := by unfold zer; omega
  obtain ⟨m, hm2⟩ : ∃ m, (padS s).length = 64 * m := ⟨(padS s).length / 64, by omega⟩
  have b1 := sb_eq n K (by omega) hl m n (padS s) h0 hm2 (by omega) hR
  have b2 := rb_eq n K (padS s) (by omega) hl (by omega) m n 0 h0 (by omega) (by omega)
  rw [List.drop_zero] at b2
  have hR2 := blk_R K m (padS s) h0 hR
  generalize blk K m (padS s) h0 = F at *
  have hg : ∀ q, (toL F)[q]?.getD 0 = ((wN (toL F) q : Nat) : Int) := by
    intro q
    unfold wN
    cases hq : (toL F)[q]? with
    | none => rfl
    | some x => exact (Int.toNat_of_nonneg (hR2 x (List.mem_of_getElem? hq)).1).symm
  have hgb : ∀ q, wN (toL F) q < 4294967296 := by
    intro q
    unfold wN
    cases hq : (toL F)[q]? with
    | none => exact (by decide : (0 : Nat) < 4294967296)
    | some x =>
      have := hR2 x (List.mem_of_getElem? hq)
      show x.toNat < 4294967296
      have h1 := this.1; have h2 := this.2
      omega
  have f1 := s3_eq n (toL F) (wN (toL F)) rfl hg 32 n 0 rfl (by omega)
  have f2 := r3_eq n (toL F) (wN (toL F)) rfl hg hgb 8 n 0 rfl (by omega)
  rw [List.take_zero, List.nil_append] at f1
  rw [Nat.mul_zero, List.take_zero] at f2
  have ol := outB_len (wN (toL F))
  generalize outB (wN (toL F)) = R at *
  refine ⟨R, ol, ?_, ?_⟩
  · unfold sha_Sum
    rw [hp, Option.bind_some]
    refine (congrArg (fun o => Option.bind o _) i1).trans ?_
    rw [Option.bind_some, hk, Option.bind_some, if_pos (decide_eq_true hl), spad n s (by omega) (by omega), Option.bind_some, b1, Option.bind_some]
    refine (congrArg (fun o => Option.bind o _) f1).trans ?_
    rw [Option.bind_some, if_pos (decide_eq_true ol)]
  · unfold ref05_Sum
    rw [hp2, Option.bind_some]
    refine (congrArg (fun o => Option.bind o _) i2).trans ?_
    rw [Option.bind_some, hk2, Option.bind_some, rpad n s (by omega) (by omega), Option.bind_some]
    refine (congrArg (fun o => Option.bind o _) b2).trans ?_
    rw [Option.bind_some]
    refine (congrArg (fun o => Option.bind o _) f2).trans ?_
    rfl
theorem shexq (n : Nat) (l : List UInt8) (hl : l.length ≤ 2000) (hn : l.length < n) : sha_Hex n l = some (l.flatMap hx) := by
  have h := gather (L := fun k s i => sha_Hex_l1 n l (l.length : Int) k s i) l (fun acc c => acc ++ hx c) (fun s => s) (fun i s => s.length = 2 * i) (by omega)
    (fun k s i h hi => shex1 n k i l s h (by omega)) (fun s i h hi => by rw [List.length_append, hi, hx_len]; omega)
    (fun k s _ => by rw [sha_Hex_l1, nlt_n]; rfl) n 0 [] (by omega) (by omega) rfl
  have h0 : sha_Hex_l1 n l (l.length : Int) n [] 0 = some ((l.drop 0).foldl (fun acc c => acc ++ hx c) []) := h.1
  rw [foldl_app, List.nil_append, List.drop_zero] at h0
  unfold sha_Hex
  have hw : IntKind.wrap .i64 (2 * (l.length : Int)) = ((2 * l.length : Nat) : Int) := by rw [wrap_id _ (by omega) (by omega)]; omega
  rw [hw, if_pos (show decide (0 ≤ (0 : Int) ∧ (0 : Int) ≤ ((2 * l.length : Nat) : Int)) = true from decide_eq_true (by omega)),
    if_pos (show decide (((2 * l.length : Nat) : Int) * ((1 + 1 : Nat) : Int) ≤ (limit : Int)) = true from decide_eq_true (by show _ ≤ ((140737488355328 : Nat) : Int); omega)), h0]
  rfl
theorem rhexq (n : Nat) (l : List UInt8) (hl : l.length ≤ 2000) (hn : l.length < n) : ref05_Hex n l = some (l.flatMap hx) := by
  have h := gather (L := fun k s i => ref05_Hex_l1 n l k s i) l (fun acc c => acc ++ hx c) (fun s => s) (fun i s => s.length = 2 * i) (by omega)
    (fun k s i h hi => rhex1 n k i l s h (by omega)) (fun s i h hi => by rw [List.length_append, hi, hx_len]; omega)
    (fun k s _ => by rw [ref05_Hex_l1, nlt_n]; rfl) n 0 [] (by omega) (by omega) rfl
  have h0 : ref05_Hex_l1 n l n [] 0 = some ((l.drop 0).foldl (fun acc c => acc ++ hx c) []) := h.1
  rw [foldl_app, List.nil_append, List.drop_zero] at h0
  unfold ref05_Hex
  rw [h0]; rfl
theorem law05_ShaSums_true (a0 : List UInt8) (_ : List.length a0 ≤ maxLen) : ∃ n, law05_ShaSums n a0 = some true := by
  obtain ⟨n, hn⟩ : ∃ n : Nat, n = 2000 := ⟨_, rfl⟩
  have haw := awake5 n hn
  refine ⟨n, ?_⟩
  unfold law05_ShaSums
  by_cases hc : (a0.length : Int) > 300
  · rw [if_pos (decide_eq_true hc), haw]; rfl
  · obtain ⟨r, hr, h1, h2⟩ := sums_eq n hn a0 (by omega)
    have hp : sha_Print n a0 = some (r.flatMap hx) := by
      unfold sha_Print
      rw [h1, Option.bind_some, shexq n r (by omega) (by omega)]; rfl
    have hh := rhexq n r (by omega) (by omega)
    have hl2 : ((r.flatMap hx).length : Int) = 64 := by rw [hex_len, hr]; rfl
    rw [if_neg (show ¬ decide ((a0.length : Int) > 300) = true by simp; omega), h1, Option.bind_some, h2, Option.bind_some]
    have e1 : ((r.length : Int) == 32) = true := by rw [hr]; rfl
    simp only [beq_self_eq_true, cond_true, e1, if_true, hp, hh, Option.bind_some, hl2, haw, lett]
end Go.Proofs.Yteliiabopphgmaa.M
