/-
  Chapter 05: the constants; the law ShaBlocks. Over the printed models.
-/
import Derived.Test.YteliiabopphgmaaP05I
namespace Go.Proofs.Yteliiabopphgmaa.M
open Go Go.Proofs.Yteliiabopphgmaa.RX Go.Proofs.Yteliiabopphgmaa.PL
set_option maxRecDepth 100000
def rootv (n : Nat) (kind : Int) (p : Int) : Int := (sha_Root n p kind).getD 0
theorem sroot (n : Nat) (p kind : Int) (hn : 2000 ≤ n) : sha_Root n p kind = some (rootv n kind p) := by
  obtain ⟨r, h1, _⟩ := root_eq n p kind hn
  unfold rootv; rw [h1]; rfl
theorem rroot (n : Nat) (p kind : Int) (hn : 2000 ≤ n) : ref05_Root n p kind = some (rootv n kind p) := by
  obtain ⟨r, h1, h2⟩ := root_eq n p kind hn
  unfold rootv; rw [h1, h2]; rfl
def primes64 : List Int := [2, 3, 5, 7, 11, 13, 17, 19, 23, 29, 31, 37, 41, 43, 47, 53, 59, 61, 67, 71, 73, 79, 83, 89, 97, 101, 103, 107, 109, 113, 127, 131, 137, 139, 149, 151, 157, 163, 167, 173, 179, 181, 191, 193, 197, 199, 211, 223, 227, 229, 233, 239, 241, 251, 257, 263, 269, 271, 277, 281, 283, 293, 307, 311]
def primes8 : List Int := [2, 3, 5, 7, 11, 13, 17, 19]
theorem sp64 (n : Nat) (hn : n = 2000) : sha_Primes n 64 = some primes64 := by subst hn; kernel_rfl
theorem sp8 (n : Nat) (hn : n = 2000) : sha_Primes n 8 = some primes8 := by subst hn; kernel_rfl
theorem rp64 (n : Nat) (hn : n = 2000) : ref05_Primes n 64 = some primes64 := by
  obtain ⟨l, _, h1, h2⟩ := primes_eq n 64 hn
  rw [sp64 n hn] at h1; rw [h2]; exact h1.symm
theorem rp8 (n : Nat) (hn : n = 2000) : ref05_Primes n 8 = some primes8 := by
  obtain ⟨l, _, h1, h2⟩ := primes_eq n 8 hn
  rw [sp8 n hn] at h1; rw [h2]; exact h1.symm
theorem awake5 (n : Nat) (hn : n = 2000) : law05_awake n = some true := by subst hn; exact law05_awake_eq
theorem set_next {α : Type} (C : List α) (d x : α) (i m : Nat) (h : C[i]? = some x) : (C.take i ++ List.replicate (m + 1) d).set i x = C.take (i + 1) ++ List.replicate m d := by
  have hi : i < C.length := (List.getElem?_eq_some_iff.1 h).1
  have hl : (C.take i).length = i := by simp; omega
  rw [List.set_append_right _ _ (by omega), hl, Nat.sub_self, List.replicate_succ, List.set_cons_zero, List.take_add_one, h]
  simp
theorem clen {α : Type} (C : List α) (d : α) (i m : Nat) (h : i + m = C.length) : (C.take i ++ List.replicate m d).length = C.length := by simp; omega
theorem sc_eq (n : Nat) (hn : 2000 ≤ n) (l b0 : List Int) (hl : l.length = 64) : ∀ (m k i : Nat), i + m = 64 → m < k →
    sha_constants_l1 n l (l.length : Int) b0 k (i : Int) ((l.map (rootv n 3)).take i ++ List.replicate m 0) = some (l.map (rootv n 3))
  | m, 0, i, _, h => by omega
  | 0, k + 1, i, hi, _ => by
    rw [sha_constants_l1, if_neg (show ¬ decide ((i : Int) < (l.length : Int)) = true by simp; omega), List.take_of_length_le (by simp; omega)]
    simp
  | m + 1, k + 1, i, hi, hk => by
    have hil : i < l.length := by omega
    have hc := clen (l.map (rootv n 3)) 0 i (m + 1) (by simp; omega)
    rw [List.length_map] at hc
    rw [sha_constants_l1, wrap_s i (by omega), if_pos (lt_i hil), if_pos (in_i hil), at_i hil, sroot n _ 3 hn]
    simp only [Option.bind_some, hc, Int.toNat_natCast]
    rw [if_pos (show decide (0 ≤ (i : Int) ∧ (i : Int) < 64) = true from decide_eq_true (by omega)), if_pos (in_i hil)]
    rw [set_next (l.map (rootv n 3)) 0 (rootv n 3 l[i]) i m (by simp [hil])]
    exact sc_eq n hn l b0 hl m k (i + 1) (by omega) (by omega)
theorem rc_eq (n : Nat) (hn : 2000 ≤ n) (l : List Int) (hl : l.length = 64) : ∀ (m k i : Nat), i + m = 64 → m < k →
    ref05_constants_l1 n l k ((l.map (rootv n 3)).take i) (i : Int) = some (l.map (rootv n 3))
  | m, 0, i, _, h => by omega
  | 0, k + 1, i, hi, _ => by
    rw [ref05_constants_l1, if_neg (show ¬ decide ((i : Int) < (l.length : Int)) = true by simp; omega), List.take_of_length_le (by simp; omega)]
  | m + 1, k + 1, i, hi, hk => by
    have hil : i < l.length := by omega
    rw [ref05_constants_l1, wrap_s i (by omega), if_pos (lt_i hil), if_pos (in_i hil), at_i hil, rroot n _ 3 hn]
    simp only [Option.bind_some]
    have hcl : ((l.map (rootv n 3)).take i).length = i := by simp; omega
    rw [if_pos (show decide ((List.length ((l.map (rootv n 3)).take i) + List.length ([rootv n 3 l[i]] : List Int)) * (4 + 1) ≤ limit) = true from decide_eq_true (by rw [hcl]; show (i + 1) * 5 ≤ 140737488355328; omega))]
    have ht : (l.map (rootv n 3)).take i ++ [rootv n 3 l[i]] = (l.map (rootv n 3)).take (i + 1) := by rw [List.take_add_one]; simp [hil]
    rw [ht]
    exact rc_eq n hn l hl m k (i + 1) (by omega) (by omega)
def kc (n : Nat) : List Int := primes64.map (rootv n 3)
theorem kc_len (n : Nat) : (kc n).length = 64 := by unfold kc primes64; simp
theorem p64_len : primes64.length = 64 := rfl
theorem sha_kc (n : Nat) (hn : n = 2000) : sha_constants n = some (kc n) := by
  have hp := sp64 n hn
  have h1 : sha_constants_l1 n primes64 (primes64.length : Int) (List.replicate 64 0) n 0 (List.replicate 64 0) = some (kc n) := by
    have := sc_eq n (by omega) primes64 (List.replicate 64 0) p64_len 64 n 0 rfl (by omega)
    rw [List.take_zero, List.nil_append] at this
    exact this
  have hk := kc_len n
  generalize kc n = K at *
  unfold sha_constants
  rw [hp]
  simp only [Option.bind_some]
  rw [h1]
  simp only [Option.bind_some]
  rw [if_pos (decide_eq_true hk), if_pos rep64, if_pos (decide_eq_true hk), if_pos (decide_eq_true hk)]
theorem ref_kc (n : Nat) (hn : n = 2000) : ref05_constants n = some (kc n) := by
  have hp := rp64 n hn
  have h1 : ref05_constants_l1 n primes64 n [] 0 = some (kc n) := by
    have := rc_eq n (by omega) primes64 p64_len 64 n 0 rfl (by omega)
    rw [List.take_zero] at this
    exact this
  generalize kc n = K at *
  unfold ref05_constants
  rw [hp]
  simp only [Option.bind_some]
  rw [h1]; rfl
theorem toL_of {l : List Int} (h : l.length = 8) : ∃ s : S8, l = toL s := by
  match l, h with
  | [a, b, c, d, e, f, g, h], _ => exact ⟨(a, b, c, d, e, f, g, h), rfl⟩
theorem rblock_eq (n : Nat) (v : List UInt8) (kk : List Int) (h : S8) (hn : 100 ≤ n) (hv : 64 ≤ v.length) (hk : kk.length = 64) : ref05_Block n (toL h) v kk = some (toL (blockS kk v h)) := by
  have hw := ref_words_eq n v kk (toL h) (List.replicate 8 0) hn hv
  have h3 : ref05_Block_l3 n kk (toL h) (List.replicate 8 0) (words v) n h.1 h.2.1 h.2.2.1 h.2.2.2.1 h.2.2.2.2.1 h.2.2.2.2.2.1 h.2.2.2.2.2.2.1 h.2.2.2.2.2.2.2 0 = some (rnds kk (words v) 64 0 h) := rl3_eq n kk (toL h) (List.replicate 8 0) (words v) hk (words_len v) 64 n 0 h rfl (by omega)
  obtain ⟨o6, h4, h5⟩ := Option.bind_eq_some_iff.1 hw
  unfold ref05_Block
  rw [if_pos (d8 h)]
  have e : (bif (decide ((List.length v : Int) < 64)) then true else (decide ((List.length kk : Int) < 64))) = false := by
    rw [decide_eq_false (by omega), decide_eq_false (by omega)]; rfl
  rw [e, if_neg Bool.false_ne_true, h4]
  simp only [Option.bind_some]
  rw [h5]
  simp only [Option.bind_some]
  generalize hr : rnds kk (words v) 64 0 h = q at *
  have hb : blockS kk v h = addS h q := by unfold blockS; rw [hr]
  rw [hb]
  clear hb hr hw h4 h5
  obtain ⟨a1, a2, a3, a4, a5, a6, a7, a8⟩ := h
  simp only [toL, List.length_cons, List.length_nil, rep8]
  show (ref05_Block_l3 n kk (toL (a1, a2, a3, a4, a5, a6, a7, a8)) (List.replicate 8 0) (words v) n a1 a2 a3 a4 a5 a6 a7 a8 0).bind _ = _
  rw [h3]
  obtain ⟨b1, b2, b3, b4, b5, b6, b7, b8⟩ := q
  rfl
theorem sBlock_eq (n : Nat) (hn : n = 2000) (v : List UInt8) (h : S8) (hr : R32 h.2.2.2.2.1) : ∃ r, r.length = 8 ∧ sha_Block n (toL h) v = some r ∧ ref05_Blocks n (toL h) v = some r := by
  have hk := sha_kc n hn
  have hk2 := ref_kc n hn
  have hl := kc_len n
  have hsb : 64 ≤ v.length → sha_block__a0 n (toL h) v (kc n) = some (toL (blockS (kc n) v h), (kc n)) := fun hv => sblock_eq n v (kc n) h (by omega) hv hl hr
  have hrb : 64 ≤ v.length → ref05_Block n (toL h) v (kc n) = some (toL (blockS (kc n) v h)) := fun hv => rblock_eq n v (kc n) h (by omega) hv hl
  have hrs : ¬ 64 ≤ v.length → ref05_Block n (toL h) v (kc n) = some (toL h) := by
    intro hv
    unfold ref05_Block
    rw [if_pos (d8 h), if_pos (by rw [decide_eq_true (by omega)]; rfl), if_pos (d8 h), if_pos rep8, if_pos (d8 h), if_pos (d8 h)]
  generalize kc n = K at *
  have hrr : ∀ r : S8, ref05_Block n (toL h) v K = some (toL r) → ref05_Blocks n (toL h) v = some (toL r) := by
    intro r hr
    unfold ref05_Blocks
    rw [if_pos (d8 h), if_pos (d8 h), hk2]
    simp only [Option.bind_some]
    rw [hr]
    simp only [Option.bind_some]
    rw [if_pos rep8, if_pos (d8 r), if_pos (d8 r)]
  by_cases hv : 64 ≤ v.length
  · refine ⟨toL (blockS K v h), rfl, ?_, hrr _ (hrb hv)⟩
    unfold sha_Block
    rw [if_pos (d8 h), if_neg (show ¬ decide ((v.length : Int) < 64) = true by simp; omega), hk]
    simp only [Option.bind_some]
    rw [if_pos (decide_eq_true hl), if_pos (d8 h), hsb hv]
    simp only [Option.bind_some]
    rw [if_pos rep8, if_pos (d8 _), if_pos (d8 _)]
  · refine ⟨toL h, rfl, ?_, hrr _ (hrs hv)⟩
    unfold sha_Block
    rw [if_pos (d8 h), if_pos (show decide ((v.length : Int) < 64) = true by simp; omega), if_pos (d8 h), if_pos rep8, if_pos (d8 h), if_pos (d8 h)]
theorem law05_ShaBlocks_true (a0 : List Int) (w0 : W_sha_State a0) (a1 : List UInt8) (_ : List.length a1 ≤ maxLen) : ∃ n, law05_ShaBlocks n a0 a1 = some true := by
  obtain ⟨n, hn⟩ : ∃ n : Nat, n = 2000 := ⟨_, rfl⟩
  refine ⟨n, ?_⟩
  obtain ⟨hl, hb⟩ := w0
  obtain ⟨h, rfl⟩ := toL_of hl
  have hr : R32 h.2.2.2.2.1 := by
    have := hb h.2.2.2.2.1 (by unfold toL; simp)
    have e1 : IntKind.min .u32 = 0 := rfl
    have e2 : IntKind.max .u32 = 4294967295 := rfl
    rw [e1, e2] at this
    exact ⟨this.1, by omega⟩
  obtain ⟨r, hrl, h1, h2⟩ := sBlock_eq n hn a1 h hr
  have haw := awake5 n hn
  unfold law05_ShaBlocks
  rw [if_pos (d8 h)]
  by_cases hc : (a1.length : Int) > 2000
  · rw [if_pos (decide_eq_true hc), haw]; rfl
  · rw [if_neg (show ¬ decide ((a1.length : Int) > 2000) = true by simp; omega), if_pos (d8 h), h1]
    simp only [Option.bind_some]
    rw [h2]
    simp only [Option.bind_some]
    rw [if_pos (decide_eq_true hrl), if_pos (decide_eq_true hrl)]
    simp only [beq_self_eq_true, if_true, haw, Option.bind_some, cond_true]
end Go.Proofs.Yteliiabopphgmaa.M
