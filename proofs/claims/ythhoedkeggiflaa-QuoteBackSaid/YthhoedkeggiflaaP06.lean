/-
  Chapter 6: what the quoting functions compute, said plainly. Over the printed models.
-/
import Derived.Test.YthhoedkeggiflaaM06
import Derived.Test.YthhoedkeggiflaaPlain
namespace Go.Proofs.Ythhoedkeggiflaa.M
open Go Go.Proofs.Ythhoedkeggiflaa.RX Go.Proofs.Ythhoedkeggiflaa.PL

def good (c : UInt8) : Bool := decide (32 ≤ c.toNat) && c.toNat != 127
def hexd (d : Nat) : UInt8 := if d < 10 then UInt8.ofNat (48 + d) else UInt8.ofNat (87 + d)
def esc (c : UInt8) : List UInt8 :=
  if c = 34 ∨ c = 92 then [92, c] else if c = 10 then [92, 110] else if c = 9 then [92, 116] else if good c = false then [92, 120, hexd (c.toNat / 16), hexd (c.toNat % 16)] else [c]
theorem esc_len (c : UInt8) : (esc c).length ≤ 4 := by
  unfold esc; repeat' split
  all_goals simp

theorem ok_good : ∀ c : UInt8, quote_ok (c.toNat : Int) = good c := byte_all (by decide +kernel)
theorem Good_good : ∀ c : UInt8, ref06_Good (c.toNat : Int) = good c := byte_all (by decide +kernel)
theorem b34 (c : UInt8) : ((c.toNat : Int) == 34) = decide (c = 34) := beq_byte c 34 (by decide)
theorem b92 (c : UInt8) : ((c.toNat : Int) == 92) = decide (c = 92) := beq_byte c 92 (by decide)
theorem b10 (c : UInt8) : ((c.toNat : Int) == 10) = decide (c = 10) := beq_byte c 10 (by decide)
theorem b9 (c : UInt8) : ((c.toNat : Int) == 9) = decide (c = 9) := beq_byte c 9 (by decide)
theorem b39 (c : UInt8) : ((c.toNat : Int) == 39) = decide (c = 39) := beq_byte c 39 (by decide)
theorem b32 (c : UInt8) : ((c.toNat : Int) == 32) = decide (c = 32) := beq_byte c 32 (by decide)
theorem b45 (c : UInt8) : ((c.toNat : Int) == 45) = decide (c = 45) := beq_byte c 45 (by decide)
theorem b58 (c : UInt8) : ((c.toNat : Int) == 58) = decide (c = 58) := beq_byte c 58 (by decide)
theorem b35 (c : UInt8) : ((c.toNat : Int) == 35) = decide (c = 35) := beq_byte c 35 (by decide)
theorem b110 (c : UInt8) : ((c.toNat : Int) == 110) = decide (c = 110) := beq_byte c 110 (by decide)
theorem b116 (c : UInt8) : ((c.toNat : Int) == 116) = decide (c = 116) := beq_byte c 116 (by decide)
theorem b120 (c : UInt8) : ((c.toNat : Int) == 120) = decide (c = 120) := beq_byte c 120 (by decide)

theorem hexq : ∀ c : UInt8, (decide (0 ≤ (Int.fdiv (c.toNat : Int) (2 ^ (min (Int.toNat 4) (IntKind.bits .u8)))) ∧ (Int.fdiv (c.toNat : Int) (2 ^ (min (Int.toNat 4) (IntKind.bits .u8)))) < (List.length ([48, 49, 50, 51, 52, 53, 54, 55, 56, 57, 97, 98, 99, 100, 101, 102] : List UInt8) : Int))) = true ∧
    (decide (0 ≤ (IntKind.wrap .u8 ((BitVec.ofInt (IntKind.bits .u8) (c.toNat : Int) &&& BitVec.ofInt (IntKind.bits .u8) 15).toNat)) ∧ (IntKind.wrap .u8 ((BitVec.ofInt (IntKind.bits .u8) (c.toNat : Int) &&& BitVec.ofInt (IntKind.bits .u8) 15).toNat)) < (List.length ([48, 49, 50, 51, 52, 53, 54, 55, 56, 57, 97, 98, 99, 100, 101, 102] : List UInt8) : Int))) = true ∧
    ((([48, 49, 50, 51, 52, 53, 54, 55, 56, 57, 97, 98, 99, 100, 101, 102] : List UInt8))[Int.toNat (Int.fdiv (c.toNat : Int) (2 ^ (min (Int.toNat 4) (IntKind.bits .u8))))]?.getD 0) = hexd (c.toNat / 16) ∧
    ((([48, 49, 50, 51, 52, 53, 54, 55, 56, 57, 97, 98, 99, 100, 101, 102] : List UInt8))[Int.toNat (IntKind.wrap .u8 ((BitVec.ofInt (IntKind.bits .u8) (c.toNat : Int) &&& BitVec.ofInt (IntKind.bits .u8) 15).toNat))]?.getD 0) = hexd (c.toNat % 16) := byte_all (by decide +kernel)

theorem dq (n : Nat) (v0 v3 : List UInt8) (v13 : Int) (i : Nat) (h : i < v0.length) (hb : v3.length ≤ 1000000) : quote_Double_j2 n v0 v3 v13 (i : Int) = some (v3 ++ esc v0[i]) := by
  unfold quote_Double_j2
  simp only [in_i h, at_i h, if_true, lett]
  generalize v0[i] = c
  obtain ⟨h1, h2, h3, h4⟩ := hexq c
  have hs : ∀ l : List UInt8, l.length ≤ 4 → decide ((List.length v3 + List.length l) * (1 + 1) ≤ limit) = true := fun l hl => fits (by omega)
  simp only [b34, b92, b10, b9, ok_good, h1, h2, h3, h4, hs _ (by simp : [92, c].length ≤ 4), hs _ (by simp : [(92 : UInt8), 110].length ≤ 4), hs _ (by simp : [(92 : UInt8), 116].length ≤ 4), hs _ (by simp : [c].length ≤ 4), hs _ (by simp : [92, 120, hexd (c.toNat / 16), hexd (c.toNat % 16)].length ≤ 4), if_true]
  unfold esc
  by_cases c34 : c = 34
  · simp [c34]
  · by_cases c92 : c = 92
    · simp [c92]
    · by_cases c10 : c = 10
      · simp [c10]
      · by_cases c9 : c = 9
        · simp [c9]
        · cases hg : good c <;> simp [c34, c92, c10, c9]

theorem hexr : ∀ c : UInt8, (decide (0 ≤ ref06_digit (IntKind.wrap .u8 (Int.tdiv (c.toNat : Int) 16)) ∧ ref06_digit (IntKind.wrap .u8 (Int.tdiv (c.toNat : Int) 16)) < 256)) = true ∧ (decide (0 ≤ ref06_digit (Int.tmod (c.toNat : Int) 16) ∧ ref06_digit (Int.tmod (c.toNat : Int) 16) < 256)) = true ∧
    UInt8.ofNat (Int.toNat (ref06_digit (IntKind.wrap .u8 (Int.tdiv (c.toNat : Int) 16)))) = hexd (c.toNat / 16) ∧ UInt8.ofNat (Int.toNat (ref06_digit (Int.tmod (c.toNat : Int) 16))) = hexd (c.toNat % 16) := byte_all (by decide +kernel)

theorem dr (n : Nat) (v0 v3 : List UInt8) (i : Nat) (h : i < v0.length) (hb : v3.length ≤ 1000000) : ref06_Double_j2 n v0 v3 (i : Int) = some (v3 ++ esc v0[i]) := by
  unfold ref06_Double_j2
  simp only [in_i h, at_i h, if_true, lett]
  generalize v0[i] = c
  obtain ⟨h1, h2, h3, h4⟩ := hexr c
  have hs : ∀ l : List UInt8, l.length ≤ 4 → decide ((List.length v3 + List.length l) * (1 + 1) ≤ limit) = true := fun l hl => fits (by omega)
  have h16 : ((16 : Int) != 0) = true := rfl
  simp only [b34, b92, b10, b9, Good_good, h1, h2, h3, h4, h16, hs _ (by simp : [92, c].length ≤ 4), hs _ (by simp : [(92 : UInt8), 110].length ≤ 4), hs _ (by simp : [(92 : UInt8), 116].length ≤ 4), hs _ (by simp : [c].length ≤ 4), hs _ (by simp : [92, 120, hexd (c.toNat / 16), hexd (c.toNat % 16)].length ≤ 4), if_true]
  unfold esc
  by_cases c34 : c = 34
  · simp [c34]
  · by_cases c92 : c = 92
    · simp [c92]
    · by_cases c10 : c = 10
      · simp [c10]
      · by_cases c9 : c = 9
        · simp [c9]
        · cases hg : good c <;> simp [c34, c92, c10, c9]

theorem drop_at {α : Type} {l : List α} {i : Nat} (h : i < l.length) : l.drop i = l[i] :: l.drop (i + 1) := List.drop_eq_getElem_cons h

theorem dq_l (n : Nat) (s : List UInt8) (hs : s.length ≤ 3000) : ∀ (k i : Nat) (acc : List UInt8), i ≤ s.length → s.length - i < k → acc.length + 4 * (s.length - i) ≤ 100000 → quote_Double_l1 n s (s.length : Int) k acc (i : Int) = some (acc ++ (s.drop i).flatMap esc)
  | 0, i, acc, h1, h2, h3 => by omega
  | k + 1, i, acc, h1, h2, h3 => by
    rw [quote_Double_l1]
    by_cases h : i < s.length
    · rw [if_pos (lt_i h), dq n s acc _ i h (by omega), Option.bind_some, wrap_s i (by omega)]
      have := esc_len s[i]
      rw [dq_l n s hs k (i + 1) _ (by omega) (by omega) (by simp; omega), drop_at h, List.flatMap_cons, List.append_assoc]
    · rw [if_neg (by rw [nlt_i (Nat.not_lt.1 h)]; exact Bool.false_ne_true), List.drop_eq_nil_of_le (by omega)]
      simp
theorem dr_l (n : Nat) (s : List UInt8) (hs : s.length ≤ 3000) : ∀ (k i : Nat) (acc : List UInt8), i ≤ s.length → s.length - i < k → acc.length + 4 * (s.length - i) ≤ 100000 → ref06_Double_l1 n s k acc (i : Int) = some (acc ++ (s.drop i).flatMap esc)
  | 0, i, acc, h1, h2, h3 => by omega
  | k + 1, i, acc, h1, h2, h3 => by
    rw [ref06_Double_l1]
    by_cases h : i < s.length
    · rw [if_pos (lt_i h), dr n s acc i h (by omega), Option.bind_some, wrap_s i (by omega)]
      have := esc_len s[i]
      rw [dr_l n s hs k (i + 1) _ (by omega) (by omega) (by simp; omega), drop_at h, List.flatMap_cons, List.append_assoc]
    · rw [if_neg (by rw [nlt_i (Nat.not_lt.1 h)]; exact Bool.false_ne_true), List.drop_eq_nil_of_le (by omega)]
      simp

def dblq (s : List UInt8) : List UInt8 := [34] ++ s.flatMap esc ++ [34]
theorem esc_all_len : ∀ s : List UInt8, (s.flatMap esc).length ≤ 4 * s.length
  | [] => by simp
  | c :: s => by
    have := esc_len c; have := esc_all_len s
    simp only [List.flatMap_cons, List.length_append, List.length_cons]; omega
theorem double_eq (n : Nat) (s : List UInt8) (hs : s.length ≤ 3000) (hn : 4000 ≤ n) : quote_Double n s = some (dblq s) ∧ ref06_Double n s = some (dblq s) := by
  have hl := esc_all_len s
  have hw : IntKind.wrap .i64 ((List.length s : Int) + 2) = ((s.length + 2 : Nat) : Int) := wrap_s2 _ (by omega)
  have e0 : (List.drop 0 s) = s := rfl
  have hd : decide ((List.length ([34] ++ s.flatMap esc) + List.length ([34] : List UInt8)) * (1 + 1) ≤ limit) = true := fits (by rw [List.length_append]; simp only [List.length_cons, List.length_nil]; omega)
  constructor
  · unfold quote_Double
    have h1 : decide ((0 : Int) ≤ 0 ∧ (0 : Int) ≤ ((s.length + 2 : Nat) : Int)) = true := by simp; omega
    have h2 : decide (((s.length + 2 : Nat) : Int) * ((1 + 1 : Nat) : Int) ≤ (limit : Int)) = true := decide_eq_true (by show ((s.length + 2 : Nat) : Int) * ((1 + 1 : Nat) : Int) ≤ ((140737488355328 : Nat) : Int); omega)
    have h3 : decide ((List.length ([] : List UInt8) + List.length ([34] : List UInt8)) * (1 + 1) ≤ limit) = true := by decide
    have := dq_l n s hs n 0 ([] ++ [34]) (by omega) (by omega) (by simp; omega)
    rw [hw, if_pos h1, if_pos h2, if_pos h3, show ((0 : Int)) = ((0 : Nat) : Int) from rfl, this, Option.bind_some, List.drop_zero, List.nil_append, if_pos hd]
    rfl
  · unfold ref06_Double
    have := dr_l n s hs n 0 [34] (by omega) (by omega) (by simp; omega)
    rw [show ((0 : Int)) = ((0 : Nat) : Int) from rfl, this, Option.bind_some, List.drop_zero, if_pos hd]
    rfl

/-! ### between single quotes -/
def sq (c : UInt8) : List UInt8 := if c = 39 then [39, 39] else [c]
theorem sq_len (c : UInt8) : (sq c).length ≤ 2 := by unfold sq; split <;> simp
def sgl : List UInt8 → Option (List UInt8)
  | [] => some []
  | c :: s => if good c then (sgl s).map (sq c ++ ·) else none
theorem sgl_len : ∀ {s t : List UInt8}, sgl s = some t → t.length ≤ 2 * s.length
  | [], t, h => by cases h; simp
  | c :: s, t, h => by
    unfold sgl at h
    split at h
    · cases hs : sgl s with
      | none => rw [hs] at h; cases h
      | some u =>
        rw [hs] at h; cases h
        have := sgl_len hs; have := sq_len c
        simp only [List.length_append, List.length_cons]; omega
    · cases h
theorem sq_j (n : Nat) (v0 v4 : List UInt8) (v13 : Int) (i : Nat) (h : i < v0.length) (hb : v4.length ≤ 1000000) : quote_Single_j2 n v0 v4 v13 (i : Int) = some (if good v0[i] then .inl (v4 ++ sq v0[i]) else .inr ([], false)) := by
  unfold quote_Single_j2
  simp only [in_i h, at_i h, if_true, ok_good, b39]
  generalize v0[i] = c
  have h1 : decide ((List.length v4 + List.length [c]) * (1 + 1) ≤ limit) = true := fits (by simp; omega)
  have h2 : decide ((List.length (v4 ++ [c]) + List.length ([39] : List UInt8)) * (1 + 1) ≤ limit) = true := fits (by simp; omega)
  simp only [h1, h2, if_true]
  cases good c
  · simp
  · unfold sq
    by_cases hc : c = 39 <;> simp [hc]
theorem sr_j (n : Nat) (v0 v4 : List UInt8) (i : Nat) (h : i < v0.length) (hb : v4.length ≤ 1000000) : ref06_Single_j2 n v0 v4 (i : Int) = some (if good v0[i] then .inl (v4 ++ sq v0[i]) else .inr ([], false)) := by
  unfold ref06_Single_j2
  simp only [in_i h, at_i h, if_true, Good_good, b39]
  generalize v0[i] = c
  have h1 : decide ((List.length v4 + List.length [c]) * (1 + 1) ≤ limit) = true := fits (by simp; omega)
  have h2 : decide ((List.length (v4 ++ [c]) + List.length ([39] : List UInt8)) * (1 + 1) ≤ limit) = true := fits (by simp; omega)
  simp only [h1, h2, if_true]
  cases good c
  · simp
  · unfold sq
    by_cases hc : c = 39 <;> simp [hc]
def sres (acc : List UInt8) (o : Option (List UInt8)) : Sum (List UInt8) (List UInt8 × Bool) := match o with | some t => .inl (acc ++ t) | none => .inr ([], false)
theorem sq_l (n : Nat) (s : List UInt8) (hs : s.length ≤ 3000) : ∀ (k i : Nat) (acc : List UInt8), i ≤ s.length → s.length - i < k → acc.length + 2 * (s.length - i) ≤ 100000 → quote_Single_l1 n s (s.length : Int) k acc (i : Int) = some (sres acc (sgl (s.drop i)))
  | 0, i, acc, h1, h2, h3 => by omega
  | k + 1, i, acc, h1, h2, h3 => by
    rw [quote_Single_l1]
    by_cases h : i < s.length
    · rw [if_pos (lt_i h), sq_j n s acc _ i h (by omega), Option.bind_some, drop_at h, sgl]
      have := sq_len s[i]
      cases hg : good s[i] with
      | false => rfl
      | true =>
        simp only [if_true, Sum.elim_inl]
        rw [wrap_s i (by omega), sq_l n s hs k (i + 1) _ (by omega) (by omega) (by simp; omega)]
        cases sgl (s.drop (i + 1)) <;> simp [sres]
    · rw [if_neg (by rw [nlt_i (Nat.not_lt.1 h)]; exact Bool.false_ne_true), List.drop_eq_nil_of_le (by omega)]
      simp [sgl, sres]
theorem sr_l (n : Nat) (s : List UInt8) (hs : s.length ≤ 3000) : ∀ (k i : Nat) (acc : List UInt8), i ≤ s.length → s.length - i < k → acc.length + 2 * (s.length - i) ≤ 100000 → ref06_Single_l1 n s k acc (i : Int) = some (sres acc (sgl (s.drop i)))
  | 0, i, acc, h1, h2, h3 => by omega
  | k + 1, i, acc, h1, h2, h3 => by
    rw [ref06_Single_l1]
    by_cases h : i < s.length
    · rw [if_pos (lt_i h), sr_j n s acc i h (by omega), Option.bind_some, drop_at h, sgl]
      have := sq_len s[i]
      cases hg : good s[i] with
      | false => rfl
      | true =>
        simp only [if_true, Sum.elim_inl]
        rw [wrap_s i (by omega), sr_l n s hs k (i + 1) _ (by omega) (by omega) (by simp; omega)]
        cases sgl (s.drop (i + 1)) <;> simp [sres]
    · rw [if_neg (by rw [nlt_i (Nat.not_lt.1 h)]; exact Bool.false_ne_true), List.drop_eq_nil_of_le (by omega)]
      simp [sgl, sres]
def sglq (s : List UInt8) : List UInt8 × Bool := match sgl s with | some t => ([39] ++ t ++ [39], true) | none => ([], false)
theorem single_eq (n : Nat) (s : List UInt8) (hs : s.length ≤ 3000) (hn : 4000 ≤ n) : quote_Single n s = some (sglq s) ∧ ref06_Single n s = some (sglq s) := by
  have hw : IntKind.wrap .i64 ((List.length s : Int) + 2) = ((s.length + 2 : Nat) : Int) := wrap_s2 _ (by omega)
  constructor
  · unfold quote_Single
    have h1 : decide ((0 : Int) ≤ 0 ∧ (0 : Int) ≤ ((s.length + 2 : Nat) : Int)) = true := by simp; omega
    have h2 : decide (((s.length + 2 : Nat) : Int) * ((1 + 1 : Nat) : Int) ≤ (limit : Int)) = true := decide_eq_true (by show ((s.length + 2 : Nat) : Int) * ((1 + 1 : Nat) : Int) ≤ ((140737488355328 : Nat) : Int); omega)
    have h3 : decide ((List.length ([] : List UInt8) + List.length ([39] : List UInt8)) * (1 + 1) ≤ limit) = true := by decide
    have := sq_l n s hs n 0 ([] ++ [39]) (by omega) (by omega) (by simp; omega)
    rw [hw, if_pos h1, if_pos h2, if_pos h3, show ((0 : Int)) = ((0 : Nat) : Int) from rfl, this, Option.bind_some, List.drop_zero, List.nil_append]
    unfold sglq sres
    cases hq : sgl s with
    | none => rfl
    | some t =>
      have := sgl_len hq
      simp only [Sum.elim_inl]
      rw [if_pos (fits (by simp; omega))]
  · unfold ref06_Single
    have := sr_l n s hs n 0 [39] (by omega) (by omega) (by simp; omega)
    rw [show ((0 : Int)) = ((0 : Nat) : Int) from rfl, this, Option.bind_some, List.drop_zero]
    unfold sglq sres
    cases hq : sgl s with
    | none => rfl
    | some t =>
      have := sgl_len hq
      simp only [Sum.elim_inl]
      rw [if_pos (fits (by simp; omega))]

/-! ### plain texts -/
def sp18 : List UInt8 := [63, 58, 44, 91, 93, 123, 125, 35, 38, 42, 33, 124, 62, 39, 34, 37, 64, 96]
def sp5 : List UInt8 := [44, 91, 93, 123, 125]
theorem ix18 : ∀ c : UInt8, decide (strings_IndexByte [63, 58, 44, 91, 93, 123, 125, 35, 38, 42, 33, 124, 62, 39, 34, 37, 64, 96] (c.toNat : Int) ≥ 0) = sp18.contains c := byte_all (by decide +kernel)
theorem ix5 : ∀ c : UInt8, decide (strings_IndexByte [44, 91, 93, 123, 125] (c.toNat : Int) ≥ 0) = sp5.contains c := byte_all (by decide +kernel)
theorem beq_bytes (c d : UInt8) : ((c.toNat : Int) == (d.toNat : Int)) = (c == d) := by
  rw [Bool.eq_iff_iff, beq_iff_eq, beq_iff_eq, ← UInt8.toNat_inj]
  omega
theorem one_l (n : Nat) (c : UInt8) (L : List UInt8) (hL : L.length ≤ 3000) : ∀ (k i : Nat), i ≤ L.length → L.length - i < k → ref06_one_l1 n (c.toNat : Int) L k (i : Int) = some (if (L.drop i).contains c = true then .inr true else .inl ())
  | 0, i, h1, h2 => by omega
  | k + 1, i, h1, h2 => by
    rw [ref06_one_l1]
    by_cases h : i < L.length
    · rw [if_pos (lt_i h), if_pos (in_i h), at_i h, beq_bytes, drop_at h, List.contains_cons]
      cases hc : L[i] == c with
      | true =>
        have : (c == L[i]) = true := by rw [beq_iff_eq] at hc ⊢; exact hc.symm
        simp [this]
      | false =>
        have : (c == L[i]) = false := by rw [beq_eq_false_iff_ne] at hc ⊢; exact fun e => hc e.symm
        rw [this, Bool.false_or, wrap_s i (by omega), one_l n c L hL k (i + 1) (by omega) (by omega)]
        rfl
    · rw [if_neg (by rw [nlt_i (Nat.not_lt.1 h)]; exact Bool.false_ne_true), List.drop_eq_nil_of_le (by omega)]
      rfl
theorem one_eq (n : Nat) (c : UInt8) (L : List UInt8) (hL : L.length ≤ 3000) (hn : 4000 ≤ n) : ref06_one n (c.toNat : Int) L = some (L.contains c) := by
  unfold ref06_one
  rw [show ((0 : Int)) = ((0 : Nat) : Int) from rfl, one_l n c L hL n 0 (by omega) (by omega), List.drop_zero]
  cases L.contains c <;> rfl

theorem rq_l (n : Nat) (s : List UInt8) (hs : s.length ≤ 3000) : ∀ (k i : Nat), i ≤ s.length → s.length - i < k → quote_Row_l1 n s (s.length : Int) k (i : Int) = some (if (s.drop i).any sp5.contains = true then .inr false else .inl ())
  | 0, i, h1, h2 => by omega
  | k + 1, i, h1, h2 => by
    rw [quote_Row_l1]
    by_cases h : i < s.length
    · simp only [lett]
      rw [if_pos (lt_i h), if_pos (in_i h), at_i h, ix5, drop_at h, List.any_cons]
      cases hc : sp5.contains s[i] with
      | true => simp
      | false =>
        rw [Bool.false_or, wrap_s i (by omega), rq_l n s hs k (i + 1) (by omega) (by omega)]
        rfl
    · rw [if_neg (by rw [nlt_i (Nat.not_lt.1 h)]; exact Bool.false_ne_true), List.drop_eq_nil_of_le (by omega)]
      rfl
theorem rr_l (n : Nat) (s : List UInt8) (hs : s.length ≤ 3000) (hn : 4000 ≤ n) : ∀ (k i : Nat), i ≤ s.length → s.length - i < k → ref06_Row_l1 n s k (i : Int) = some (if (s.drop i).any sp5.contains = true then .inr false else .inl ())
  | 0, i, h1, h2 => by omega
  | k + 1, i, h1, h2 => by
    rw [ref06_Row_l1]
    by_cases h : i < s.length
    · rw [if_pos (lt_i h), if_pos (in_i h), at_i h, one_eq n _ _ (by simp) hn, Option.bind_some, drop_at h, List.any_cons]
      show (if (sp5.contains s[i]) = true then _ else _) = _
      cases hc : sp5.contains s[i] with
      | true => simp
      | false =>
        rw [Bool.false_or, wrap_s i (by omega), rr_l n s hs hn k (i + 1) (by omega) (by omega)]
        rfl
    · rw [if_neg (by rw [nlt_i (Nat.not_lt.1 h)]; exact Bool.false_ne_true), List.drop_eq_nil_of_le (by omega)]
      rfl

def blankN (s : List UInt8) (j : Nat) : Bool := if h : j < s.length then s[j] == 32 else true
theorem byte_eq (c d : UInt8) : decide (c = d) = (c == d) := by
  rw [Bool.eq_iff_iff]; simp
theorem bl (n j : Nat) (s : List UInt8) : quote_Plain_1_s1 n (j : Int) s = some (blankN s j) := by
  unfold quote_Plain_1_s1 blankN
  have h0 : decide ((j : Int) < 0) = false := decide_eq_false (by omega)
  by_cases h : j < s.length
  · have h1 : decide ((j : Int) ≥ (s.length : Int)) = false := decide_eq_false (by omega)
    rw [h0, h1, in_i h, at_i h, b32, dif_pos h, byte_eq]
    rfl
  · have h1 : decide ((j : Int) ≥ (s.length : Int)) = true := decide_eq_true (by omega)
    rw [h0, h1, dif_neg h]
    rfl
theorem bl_neg (n : Nat) (s : List UInt8) : quote_Plain_1_s1 n (-1) s = some true := by
  unfold quote_Plain_1_s1
  simp [lett]
theorem pl_l (n : Nat) (s : List UInt8) (hs : s.length ≤ 3000) (h0 : ∀ h : 0 < s.length, s[0] ≠ 35) : ∀ (k i : Nat), i ≤ s.length → s.length - i < k → ∃ r, quote_Plain_l1 n s s (s.length : Int) k (i : Int) = some r ∧ ref06_Plain_l1 n s (s.length : Int) k (i : Int) = some r
  | 0, i, h1, h2 => by omega
  | k + 1, i, h1, h2 => by
    rw [quote_Plain_l1, ref06_Plain_l1]
    by_cases h : i < s.length
    · obtain ⟨r, hq, hr⟩ := pl_l n s hs h0 k (i + 1) (by omega) (by omega)
      rw [if_pos (lt_i h), if_pos (lt_i h)]
      simp only [in_i h, at_i h, lett, b58, b35, ok_good, Good_good, if_true, Bool.or_true]
      cases hg : good s[i] with
      | false => exact ⟨.inr false, by simp, by simp⟩
      | true =>
        have hwJ := wrap_s i (by omega)
        have bJ := bl n (i + 1) s
        have inJ := fun h' : i + 1 < s.length => in_i h'
        have atJ := fun h' : i + 1 < s.length => at_i (d := (0 : UInt8)) h'
        generalize ((i + 1 : Nat) : Int) = J at hwJ bJ inJ atJ hq hr
        by_cases h58 : s[i] = 58
        · have h35 : s[i] ≠ 35 := by rw [h58]; decide
          have hlast : ((i : Int) == IntKind.wrap .i64 ((s.length : Int) - 1)) = decide (s.length ≤ i + 1) := by
            rw [wrap_p s.length (by omega) (by omega), Bool.eq_iff_iff, beq_iff_eq, decide_eq_true_eq]; omega
          by_cases h' : i + 1 < s.length
          · have hl : decide (s.length ≤ i + 1) = false := decide_eq_false (by omega)
            have hb : blankN s (i + 1) = (s[i + 1] == 32) := by simp [blankN, h']
            cases hx : s[i + 1] == 32 with
            | true => exact ⟨.inr false, by simp [h58, hwJ, bJ, hb, hx], by simp [h58, hlast, hl, hwJ, inJ h', atJ h', b32, byte_eq, hx]⟩
            | false => exact ⟨r, by simp [h58, hwJ, bJ, hb, hx, hq], by simp [h58, hlast, hl, hwJ, inJ h', atJ h', b32, byte_eq, hx, hr]⟩
          · have hl : decide (s.length ≤ i + 1) = true := decide_eq_true (by omega)
            have hb : blankN s (i + 1) = true := by simp [blankN, h']
            exact ⟨.inr false, by simp [h58, hwJ, bJ, hb], by simp [h58, hlast, hl]⟩
        · by_cases h35 : s[i] = 35
          · have hi0 : 0 < i := by
              rcases Nat.eq_zero_or_pos i with rfl | h9
              · exact absurd h35 (h0 h)
              · exact h9
            have hp : i - 1 < s.length := by omega
            have hwK := wrap_p i (by omega) hi0
            have bK := bl n (i - 1) s
            have inK := in_i hp
            have atK := at_i (d := (0 : UInt8)) hp
            have hgt : decide ((i : Int) > 0) = true := decide_eq_true (by omega)
            have hb : blankN s (i - 1) = (s[i - 1] == 32) := by simp [blankN, hp]
            generalize ((i - 1 : Nat) : Int) = K at hwK bK inK atK
            cases hx : s[i - 1] == 32 with
            | true => exact ⟨.inr false, by simp [h58, h35, hwK, bK, hb, hx], by simp only [h58, h35, hgt, hwK, inK, atK, b32, byte_eq, hx]; simp⟩
            | false => exact ⟨r, by simp [h58, h35, hwK, bK, hb, hx, hwJ, hq], by simp only [h58, h35, hgt, hwK, inK, atK, b32, byte_eq, hx, hwJ, hr]; simp⟩
          · exact ⟨r, by simp [h58, h35, hwJ, hq], by simp [h58, h35, hwJ, hr]⟩
    · exact ⟨.inl (), by rw [if_neg (by rw [nlt_i (Nat.not_lt.1 h)]; exact Bool.false_ne_true)], by rw [if_neg (by rw [nlt_i (Nat.not_lt.1 h)]; exact Bool.false_ne_true)]⟩

theorem plain_eq (n : Nat) (s : List UInt8) (hs : s.length ≤ 3000) (hn : 4000 ≤ n) : ∃ b, quote_Plain n s = some b ∧ ref06_Plain n s = some b := by
  have hone := fun c => one_eq n c sp18 (by decide) hn
  unfold quote_Plain ref06_Plain
  by_cases hw : s = [] ∨ s = [126] ∨ s = [110, 117, 108, 108]
  · rcases hw with rfl | rfl | rfl <;> exact ⟨false, by simp [lett], by simp [lett]⟩
  · have hne : s ≠ [] := fun e => hw (.inl e)
    have hlen : 0 < s.length := List.length_pos_iff.2 hne
    have e1 : (s == []) = false := by simpa using hne
    have e2 : (s == [126]) = false := by simp; exact fun e => hw (.inr (.inl e))
    have e3 : (s == [110, 117, 108, 108]) = false := by simp; exact fun e => hw (.inr (.inr e))
    have e4 : ((List.length s : Int) == 0) = false := by simp; exact hne
    have hp : s.length - 1 < s.length := by omega
    have z0 : decide (0 ≤ (0 : Int) ∧ (0 : Int) < (List.length s : Int)) = true := in_i hlen
    have z1 : (s[Int.toNat 0]?.getD 0) = s[0] := at_i hlen
    have hwK := wrap_p s.length (by omega) hlen
    have inK := in_i hp
    have atK := at_i (d := (0 : UInt8)) hp
    generalize ((s.length - 1 : Nat) : Int) = K at hwK inK atK
    simp only [e1, e2, e3, e4, z0, z1, hwK, inK, atK, b32, b45, lett, ix18, Bool.or_true, if_true, cond_false]
    by_cases h32 : s[0] = 32
    · exact ⟨false, by simp [h32], by simp [h32]⟩
    · by_cases hl32 : s[s.length - 1] = 32
      · exact ⟨false, by simp [h32, hl32], by simp [h32, hl32]⟩
      · have hone0 : ref06_one n (s[0].toNat : Int) [63, 58, 44, 91, 93, 123, 125, 35, 38, 42, 33, 124, 62, 39, 34, 37, 64, 96] = some (sp18.contains s[0]) := hone s[0]
        rw [hone0]
        cases hsp : sp18.contains s[0] with
        | true => exact ⟨false, by simp [h32, hl32], by simp [h32, hl32]⟩
        | false =>
          have h35 : ∀ h : 0 < s.length, s[0] ≠ 35 := by
            intro _ e
            rw [e] at hsp
            exact absurd hsp (by decide)
          obtain ⟨r, hq, hr⟩ := pl_l n s hs h35 n 0 (by omega) (by omega)
          have hq : quote_Plain_l1 n s s (s.length : Int) n 0 = some r := hq
          have hr : ref06_Plain_l1 n s (s.length : Int) n 0 = some r := hr
          have fin : ∃ b, (Sum.elim (fun _ => some true) (fun o4 => some o4) : Sum Unit Bool → Option Bool) r = some b := by cases r <;> exact ⟨_, rfl⟩
          obtain ⟨b, hb⟩ := fin
          have b1 := bl n 1 s
          have b1 : quote_Plain_1_s1 n 1 s = some (blankN s 1) := b1
          by_cases h45 : s[0] = 45
          · by_cases h1 : 1 < s.length
            · have en : ((List.length s : Int) == 1) = false := by rw [beq_eq_false_iff_ne]; omega
              have y0 : decide (0 ≤ (1 : Int) ∧ (1 : Int) < (List.length s : Int)) = true := in_i h1
              have y1 : (s[Int.toNat 1]?.getD 0) = s[1] := at_i h1
              have hbl : blankN s 1 = (s[1] == 32) := by simp [blankN, h1]
              cases hx : s[1] == 32 with
              | true => exact ⟨false, by simp [h45, hl32, b1, hbl, hx], by simp only [h45, hl32, en, y0, y1, byte_eq, hx, b32]; simp⟩
              | false => exact ⟨b, by simp only [h45, hl32, b1, hbl, hx, hq, byte_eq]; simpa using hb, by simp only [h45, hl32, en, y0, y1, byte_eq, hx, hr, b32]; simpa using hb⟩
            · have en : ((List.length s : Int) == 1) = true := by rw [beq_iff_eq]; omega
              have hbl : blankN s 1 = true := by simp [blankN, h1]
              exact ⟨false, by simp [h45, hl32, b1, hbl], by simp only [h45, hl32, en]; simp⟩
          · exact ⟨b, by simp only [h32, hl32, h45, hq]; simpa using hb, by simp only [h32, hl32, h45, hr]; simpa using hb⟩

theorem row_eq (n : Nat) (s : List UInt8) (hs : s.length ≤ 3000) (hn : 4000 ≤ n) : ∃ b, quote_Row n s = some b ∧ ref06_Row n s = some b := by
  obtain ⟨b, h1, h2⟩ := plain_eq n s hs hn
  unfold quote_Row ref06_Row
  rw [show ((0 : Int)) = ((0 : Nat) : Int) from rfl, rq_l n s hs n 0 (by omega) (by omega), rr_l n s hs hn n 0 (by omega) (by omega), List.drop_zero, h1, h2]
  cases s.any sp5.contains
  · exact ⟨b, rfl, rfl⟩
  · exact ⟨false, rfl, rfl⟩

theorem awake06 : law06_awake 5000 = some true := by kernel_rfl

theorem law06_QuoteAsks_true (a0 : List UInt8) (_ : List.length a0 ≤ maxLen) (a1 : Bool) (_ : True) : ∃ n, law06_QuoteAsks n a0 a1 = some true := by
  refine ⟨5000, ?_⟩
  unfold law06_QuoteAsks
  by_cases hs : a0.length ≤ 3000
  · obtain ⟨d1, d2⟩ := double_eq 5000 a0 hs (by omega)
    obtain ⟨s1, s2⟩ := single_eq 5000 a0 hs (by omega)
    obtain ⟨p, p1, p2⟩ := plain_eq 5000 a0 hs (by omega)
    obtain ⟨r, r1, r2⟩ := row_eq 5000 a0 hs (by omega)
    have hgt : decide ((a0.length : Int) > 3000) = false := decide_eq_false (by omega)
    have hwr : quote_Write 5000 a0 a1 = some (if (bif a1 then r else p) = true then a0 else dblq a0) := by
      unfold quote_Write
      rw [d1, p1, r1]
      cases a1 <;> cases r <;> cases p <;> rfl
    rw [hgt, d1, d2, s1, s2, p1, p2, r1, r2, hwr, awake06]
    cases a1 <;> cases r <;> cases p <;> simp [law06_QuoteAsks_j1, lett]
  · have hgt : decide ((a0.length : Int) > 3000) = true := decide_eq_true (by omega)
    rw [if_pos hgt, awake06]; rfl
end Go.Proofs.Ythhoedkeggiflaa.M
