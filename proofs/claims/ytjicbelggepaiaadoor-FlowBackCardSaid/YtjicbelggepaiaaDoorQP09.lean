/-
  Part of the proof of FlowBack: P09.
-/
import Derived.Test.YtjicbelggepaiaaDoorQM09
import Derived.Test.YtjicbelggepaiaaDoorQLoop
import Derived.Test.YtjicbelggepaiaaDoorQStr
import Derived.Test.YtjicbelggepaiaaDoorQRxShelf
set_option linter.all false
namespace Go.Proofs.YtjicbelggepaiaaDoor.M
open Go Go.Proofs.YtjicbelggepaiaaDoor.RX Go.Proofs.YtjicbelggepaiaaDoor.PL
set_option maxRecDepth 100000
def good (c : UInt8) : Bool := decide (32 ≤ c.toNat) && c.toNat != 127
theorem ok_good : ∀ c : UInt8, quote_ok (c.toNat : Int) = good c := byte_all (by decide +kernel)
theorem Good_good : ∀ c : UInt8, ref06_Good (c.toNat : Int) = good c := byte_all (by decide +kernel)
theorem b34 (c : UInt8) : ((c.toNat : Int) == 34) = decide (c = 34) := beq_byte c 34 (by decide)
theorem b92 (c : UInt8) : ((c.toNat : Int) == 92) = decide (c = 92) := beq_byte c 92 (by decide)
theorem b10 (c : UInt8) : ((c.toNat : Int) == 10) = decide (c = 10) := beq_byte c 10 (by decide)
theorem b9 (c : UInt8) : ((c.toNat : Int) == 9) = decide (c = 9) := beq_byte c 9 (by decide)
theorem b39 (c : UInt8) : ((c.toNat : Int) == 39) = decide (c = 39) := beq_byte c 39 (by decide)
theorem b32 (c : UInt8) : ((c.toNat : Int) == 32) = decide (c = 32) := beq_byte c 32 (by decide)
theorem b45 (c : UInt8) : ((c.toNat : Int) == 45) = decide (c = 45) := beq_byte c 45 (by decide)
theorem b58 (c : UInt8) : ((c.toNat : Int) == 58) = decide (c = 58) := beq_byte c 58 (by decide)
theorem b35 (c : UInt8) : ((c.toNat : Int) == 35) = decide (c = 35) := beq_byte c 35 (by decide)
theorem b110 (c : UInt8) : ((c.toNat : Int) == 110) = decide (c = 110) := beq_byte c 110 (by decide)
theorem b116 (c : UInt8) : ((c.toNat : Int) == 116) = decide (c = 116) := beq_byte c 116 (by decide)
theorem b120 (c : UInt8) : ((c.toNat : Int) == 120) = decide (c = 120) := beq_byte c 120 (by decide)
theorem beq_bytes (c d : UInt8) : ((c.toNat : Int) == (d.toNat : Int)) = (c == d) := by
  rw [Bool.eq_iff_iff, beq_iff_eq, beq_iff_eq, ← UInt8.toNat_inj]
  omega
theorem byte_eq (c d : UInt8) : decide (c = d) = (c == d) := by
  rw [Bool.eq_iff_iff]; simp
def hexd (d : Nat) : UInt8 := if d < 10 then UInt8.ofNat (48 + d) else UInt8.ofNat (87 + d)
def esc (c : UInt8) : List UInt8 :=
  if c = 34 ∨ c = 92 then [92, c] else if c = 10 then [92, 110] else if c = 9 then [92, 116] else if good c = false then [92, 120, hexd (c.toNat / 16), hexd (c.toNat % 16)] else [c]
theorem esc_len (c : UInt8) : (esc c).length ≤ 4 := by
  unfold esc; repeat' split
  all_goals simp
theorem hexq : ∀ c : UInt8, (decide (0 ≤ (Int.fdiv (c.toNat : Int) (2 ^ (min (Int.toNat 4) (IntKind.bits .u8)))) ∧ (Int.fdiv (c.toNat : Int) (2 ^ (min (Int.toNat 4) (IntKind.bits .u8)))) < (List.length ([48, 49, 50, 51, 52, 53, 54, 55, 56, 57, 97, 98, 99, 100, 101, 102] : List UInt8) : Int))) = true ∧
    (decide (0 ≤ (IntKind.wrap .u8 ((BitVec.ofInt (IntKind.bits .u8) (c.toNat : Int) &&& BitVec.ofInt (IntKind.bits .u8) 15).toNat)) ∧ (IntKind.wrap .u8 ((BitVec.ofInt (IntKind.bits .u8) (c.toNat : Int) &&& BitVec.ofInt (IntKind.bits .u8) 15).toNat)) < (List.length ([48, 49, 50, 51, 52, 53, 54, 55, 56, 57, 97, 98, 99, 100, 101, 102] : List UInt8) : Int))) = true ∧
    ((([48, 49, 50, 51, 52, 53, 54, 55, 56, 57, 97, 98, 99, 100, 101, 102] : List UInt8))[Int.toNat (Int.fdiv (c.toNat : Int) (2 ^ (min (Int.toNat 4) (IntKind.bits .u8))))]?.getD 0) = hexd (c.toNat / 16) ∧
    ((([48, 49, 50, 51, 52, 53, 54, 55, 56, 57, 97, 98, 99, 100, 101, 102] : List UInt8))[Int.toNat (IntKind.wrap .u8 ((BitVec.ofInt (IntKind.bits .u8) (c.toNat : Int) &&& BitVec.ofInt (IntKind.bits .u8) 15).toNat))]?.getD 0) = hexd (c.toNat % 16) := byte_all (by decide +kernel)
theorem dq (n : Nat) (v0 v3 : List UInt8) (v13 : Int) (i : Nat) (h : i < v0.length) (hb : v3.length ≤ 1000000) : quote_Double_j2 n v0 v3 v13 (i : Int) = some (v3 ++ esc v0[i]) := by
  unfold quote_Double_j2
  simp only [in_i h, at_i h, if_true, lett]
  generalize v0[i] = c
  obtain ⟨h1, h2, h3, h4⟩ := hexq c
  have hs : ∀ l : List UInt8, l.length ≤ 4 → decide ((List.length v3 + List.length l) * (1 + 1) ≤ limit) = true := fun l hl => fits (by omega)
  simp only [b34, b92, b10, b9, ok_good, h1, h2, h3, h4, hs _ (by simp : [92, c].length ≤ 4), hs _ (by simp : [(92 : UInt8), 110].length ≤ 4), hs _ (by simp : [(92 : UInt8), 116].length ≤ 4), hs _ (by simp : [c].length ≤ 4), hs _ (by simp : [92, 120, hexd (c.toNat / 16), hexd (c.toNat % 16)].length ≤ 4), if_true]
  unfold esc
  by_cases c34 : c = 34
  · simp [c34]
  · by_cases c92 : c = 92
    · simp [c92]
    · by_cases c10 : c = 10
      · simp [c10]
      · by_cases c9 : c = 9
        · simp [c9]
        · cases hg : good c <;> simp [c34, c92, c10, c9]
theorem hexr : ∀ c : UInt8, (decide (0 ≤ ref06_digit (IntKind.wrap .u8 (Int.tdiv (c.toNat : Int) 16)) ∧ ref06_digit (IntKind.wrap .u8 (Int.tdiv (c.toNat : Int) 16)) < 256)) = true ∧ (decide (0 ≤ ref06_digit (Int.tmod (c.toNat : Int) 16) ∧ ref06_digit (Int.tmod (c.toNat : Int) 16) < 256)) = true ∧
    UInt8.ofNat (Int.toNat (ref06_digit (IntKind.wrap .u8 (Int.tdiv (c.toNat : Int) 16)))) = hexd (c.toNat / 16) ∧ UInt8.ofNat (Int.toNat (ref06_digit (Int.tmod (c.toNat : Int) 16))) = hexd (c.toNat % 16) := byte_all (by decide +kernel)
theorem dr (n : Nat) (v0 v3 : List UInt8) (i : Nat) (h : i < v0.length) (hb : v3.length ≤ 1000000) : ref06_Double_j2 n v0 v3 (i : Int) = some (v3 ++ esc v0[i]) := by
  unfold ref06_Double_j2
  simp only [in_i h, at_i h, if_true, lett]
  generalize v0[i] = c
  obtain ⟨h1, h2, h3, h4⟩ := hexr c
  have hs : ∀ l : List UInt8, l.length ≤ 4 → decide ((List.length v3 + List.length l) * (1 + 1) ≤ limit) = true := fun l hl => fits (by omega)
  have h16 : ((16 : Int) != 0) = true := rfl
  simp only [b34, b92, b10, b9, Good_good, h1, h2, h3, h4, h16, hs _ (by simp : [92, c].length ≤ 4), hs _ (by simp : [(92 : UInt8), 110].length ≤ 4), hs _ (by simp : [(92 : UInt8), 116].length ≤ 4), hs _ (by simp : [c].length ≤ 4), hs _ (by simp : [92, 120, hexd (c.toNat / 16), hexd (c.toNat % 16)].length ≤ 4), if_true]
  unfold esc
  by_cases c34 : c = 34
  · simp [c34]
  · by_cases c92 : c = 92
    · simp [c92]
    · by_cases c10 : c = 10
      · simp [c10]
      · by_cases c9 : c = 9
        · simp [c9]
        · cases hg : good c <;> simp [c34, c92, c10, c9]
theorem dq_l (n : Nat) (s : List UInt8) (hs : s.length ≤ 100000) : ∀ (k i : Nat) (acc : List UInt8), i ≤ s.length → s.length - i < k → acc.length + 4 * (s.length - i) ≤ 1000000 → quote_Double_l1 n s (s.length : Int) k acc (i : Int) = some (acc ++ (s.drop i).flatMap esc)
  | 0, i, acc, h1, h2, h3 => by omega
  | k + 1, i, acc, h1, h2, h3 => by
    rw [quote_Double_l1]
    by_cases h : i < s.length
    · rw [if_pos (lt_i h), dq n s acc _ i h (by omega), Option.bind_some, wrap_s i (by omega)]
      have := esc_len s[i]
      rw [dq_l n s hs k (i + 1) _ (by omega) (by omega) (by simp; omega), drop_at h, List.flatMap_cons, List.append_assoc]
    · rw [if_neg (by rw [nlt_i (Nat.not_lt.1 h)]; exact Bool.false_ne_true), List.drop_eq_nil_of_le (by omega)]
      simp
theorem dr_l (n : Nat) (s : List UInt8) (hs : s.length ≤ 100000) : ∀ (k i : Nat) (acc : List UInt8), i ≤ s.length → s.length - i < k → acc.length + 4 * (s.length - i) ≤ 1000000 → ref06_Double_l1 n s k acc (i : Int) = some (acc ++ (s.drop i).flatMap esc)
  | 0, i, acc, h1, h2, h3 => by omega
  | k + 1, i, acc, h1, h2, h3 => by
    rw [ref06_Double_l1]
    by_cases h : i < s.length
    · rw [if_pos (lt_i h), dr n s acc i h (by omega), Option.bind_some, wrap_s i (by omega)]
      have := esc_len s[i]
      rw [dr_l n s hs k (i + 1) _ (by omega) (by omega) (by simp; omega), drop_at h, List.flatMap_cons, List.append_assoc]
    · rw [if_neg (by rw [nlt_i (Nat.not_lt.1 h)]; exact Bool.false_ne_true), List.drop_eq_nil_of_le (by omega)]
      simp
def dblq (s : List UInt8) : List UInt8 := [34] ++ s.flatMap esc ++ [34]
theorem esc_all_len : ∀ s : List UInt8, (s.flatMap esc).length ≤ 4 * s.length
  | [] => by simp
  | c :: s => by
    have := esc_len c; have := esc_all_len s
    simp only [List.flatMap_cons, List.length_append, List.length_cons]; omega
theorem double_eq (n : Nat) (s : List UInt8) (hs : s.length ≤ 100000) (hn : 200000 ≤ n) : quote_Double n s = some (dblq s) ∧ ref06_Double n s = some (dblq s) := by
  have hl := esc_all_len s
  have hw : IntKind.wrap .i64 ((List.length s : Int) + 2) = ((s.length + 2 : Nat) : Int) := wrap_s2 _ (by omega)
  have e0 : (List.drop 0 s) = s := rfl
  have hd : decide ((List.length ([34] ++ s.flatMap esc) + List.length ([34] : List UInt8)) * (1 + 1) ≤ limit) = true := fits (by rw [List.length_append]; simp only [List.length_cons, List.length_nil]; omega)
  constructor
  · unfold quote_Double
    have h1 : decide ((0 : Int) ≤ 0 ∧ (0 : Int) ≤ ((s.length + 2 : Nat) : Int)) = true := by simp; omega
    have h2 : decide (((s.length + 2 : Nat) : Int) * ((1 + 1 : Nat) : Int) ≤ (limit : Int)) = true := decide_eq_true (by show ((s.length + 2 : Nat) : Int) * ((1 + 1 : Nat) : Int) ≤ ((140737488355328 : Nat) : Int); omega)
    have h3 : decide ((List.length ([] : List UInt8) + List.length ([34] : List UInt8)) * (1 + 1) ≤ limit) = true := by decide
    have := dq_l n s hs n 0 ([] ++ [34]) (by omega) (by omega) (by simp; omega)
    rw [hw, if_pos h1, if_pos h2, if_pos h3, show ((0 : Int)) = ((0 : Nat) : Int) from rfl, this, Option.bind_some, List.drop_zero, List.nil_append, if_pos hd]
    rfl
  · unfold ref06_Double
    have := dr_l n s hs n 0 [34] (by omega) (by omega) (by simp; omega)
    rw [show ((0 : Int)) = ((0 : Nat) : Int) from rfl, this, Option.bind_some, List.drop_zero, if_pos hd]
    rfl
def sp18 : List UInt8 := [63, 58, 44, 91, 93, 123, 125, 35, 38, 42, 33, 124, 62, 39, 34, 37, 64, 96]
def sp5 : List UInt8 := [44, 91, 93, 123, 125]
theorem ix18 : ∀ c : UInt8, decide ((Lib.indexByte ([63, 58, 44, 91, 93, 123, 125, 35, 38, 42, 33, 124, 62, 39, 34, 37, 64, 96] : List UInt8) (Int.toNat (c.toNat : Int)).toUInt8) ≥ 0) = sp18.contains c := byte_all (by decide +kernel)
theorem ix5 : ∀ c : UInt8, decide ((Lib.indexByte ([44, 91, 93, 123, 125] : List UInt8) (Int.toNat (c.toNat : Int)).toUInt8) ≥ 0) = sp5.contains c := byte_all (by decide +kernel)
theorem one_l (n : Nat) (c : UInt8) (L : List UInt8) (hL : L.length ≤ 100000) : ∀ (k i : Nat), i ≤ L.length → L.length - i < k → ref06_one_l1 n (c.toNat : Int) L k (i : Int) = some (if (L.drop i).contains c = true then .inr true else .inl ())
  | 0, i, h1, h2 => by omega
  | k + 1, i, h1, h2 => by
    rw [ref06_one_l1]
    by_cases h : i < L.length
    · rw [if_pos (lt_i h), if_pos (in_i h), at_i h, beq_bytes, drop_at h, List.contains_cons]
      cases hc : L[i] == c with
      | true =>
        have : (c == L[i]) = true := by rw [beq_iff_eq] at hc ⊢; exact hc.symm
        simp [this]
      | false =>
        have : (c == L[i]) = false := by rw [beq_eq_false_iff_ne] at hc ⊢; exact fun e => hc e.symm
        rw [this, Bool.false_or, wrap_s i (by omega), one_l n c L hL k (i + 1) (by omega) (by omega)]
        rfl
    · rw [if_neg (by rw [nlt_i (Nat.not_lt.1 h)]; exact Bool.false_ne_true), List.drop_eq_nil_of_le (by omega)]
      rfl
theorem one_eq (n : Nat) (c : UInt8) (L : List UInt8) (hL : L.length ≤ 100000) (hn : 200000 ≤ n) : ref06_one n (c.toNat : Int) L = some (L.contains c) := by
  unfold ref06_one
  rw [show ((0 : Int)) = ((0 : Nat) : Int) from rfl, one_l n c L hL n 0 (by omega) (by omega), List.drop_zero]
  cases L.contains c <;> rfl
theorem rq_l (n : Nat) (s : List UInt8) (hs : s.length ≤ 100000) : ∀ (k i : Nat), i ≤ s.length → s.length - i < k → quote_Row_l1 n s (s.length : Int) k (i : Int) = some (if (s.drop i).any sp5.contains = true then .inr false else .inl ())
  | 0, i, h1, h2 => by omega
  | k + 1, i, h1, h2 => by
    rw [quote_Row_l1]
    by_cases h : i < s.length
    · simp only [lett]
      rw [if_pos (lt_i h), if_pos (in_i h), at_i h, ix5, drop_at h, List.any_cons]
      cases hc : sp5.contains s[i] with
      | true => simp
      | false =>
        rw [Bool.false_or, wrap_s i (by omega), rq_l n s hs k (i + 1) (by omega) (by omega)]
        rfl
    · rw [if_neg (by rw [nlt_i (Nat.not_lt.1 h)]; exact Bool.false_ne_true), List.drop_eq_nil_of_le (by omega)]
      rfl
theorem rr_l (n : Nat) (s : List UInt8) (hs : s.length ≤ 100000) (hn : 200000 ≤ n) : ∀ (k i : Nat), i ≤ s.length → s.length - i < k → ref06_Row_l1 n s k (i : Int) = some (if (s.drop i).any sp5.contains = true then .inr false else .inl ())
  | 0, i, h1, h2 => by omega
  | k + 1, i, h1, h2 => by
    rw [ref06_Row_l1]
    by_cases h : i < s.length
    · rw [if_pos (lt_i h), if_pos (in_i h), at_i h, one_eq n _ _ (by simp) hn, Option.bind_some, drop_at h, List.any_cons]
      show (if (sp5.contains s[i]) = true then _ else _) = _
      cases hc : sp5.contains s[i] with
      | true => simp
      | false =>
        rw [Bool.false_or, wrap_s i (by omega), rr_l n s hs hn k (i + 1) (by omega) (by omega)]
        rfl
    · rw [if_neg (by rw [nlt_i (Nat.not_lt.1 h)]; exact Bool.false_ne_true), List.drop_eq_nil_of_le (by omega)]
      rfl
def blankN (s : List UInt8) (j : Nat) : Bool := if h : j < s.length then s[j] == 32 else true
theorem bl (n j : Nat) (s : List UInt8) : quote_Plain_1__e n (j : Int) s = some (blankN s j) := by
  unfold quote_Plain_1__e blankN
  have h0 : decide ((j : Int) < 0) = false := decide_eq_false (by omega)
  by_cases h : j < s.length
  · have h1 : decide ((j : Int) ≥ (s.length : Int)) = false := decide_eq_false (by omega)
    rw [h0, h1, in_i h, at_i h, b32, dif_pos h, byte_eq]
    rfl
  · have h1 : decide ((j : Int) ≥ (s.length : Int)) = true := decide_eq_true (by omega)
    rw [h0, h1, dif_neg h]
    rfl
def okAt (s : List UInt8) (i : Nat) : Bool := if h : i < s.length then good s[i] && !(s[i] == 58 && blankN s (i + 1)) && !(s[i] == 35 && blankN s (i - 1)) else true
def okFrom (s : List UInt8) (i : Nat) : Bool := (List.range' i (s.length - i)).all (okAt s)
theorem okFrom_step {s : List UInt8} {i : Nat} (h : i < s.length) : okFrom s i = (okAt s i && okFrom s (i + 1)) := by
  unfold okFrom
  rw [show s.length - i = (s.length - (i + 1)) + 1 by omega, List.range'_succ, List.all_cons]
theorem okFrom_end {s : List UInt8} {i : Nat} (h : s.length ≤ i) : okFrom s i = true := by
  unfold okFrom
  rw [show s.length - i = 0 by omega]; rfl
theorem okFrom_at {s : List UInt8} : ∀ {i j : Nat}, okFrom s i = true → i ≤ j → j < s.length → okAt s j = true := by
  intro i j h hij hj
  unfold okFrom at h
  rw [List.all_eq_true] at h
  exact h j (List.mem_range'_1.2 ⟨hij, by omega⟩)
def plr (b : Bool) : Sum Unit Bool := if b = true then .inl () else .inr false
theorem pl_l (n : Nat) (s : List UInt8) (hs : s.length ≤ 100000) (h0 : ∀ h : 0 < s.length, s[0] ≠ 35) : ∀ (k i : Nat), i ≤ s.length → s.length - i < k → quote_Plain_l1 n s s (s.length : Int) k (i : Int) = some (plr (okFrom s i)) ∧ ref06_Plain_l1 n s (s.length : Int) k (i : Int) = some (plr (okFrom s i))
  | 0, i, h1, h2 => by omega
  | k + 1, i, h1, h2 => by
    rw [quote_Plain_l1, ref06_Plain_l1]
    by_cases h : i < s.length
    · obtain ⟨hq, hr⟩ := pl_l n s hs h0 k (i + 1) (by omega) (by omega)
      rw [okFrom_step h]
      generalize okFrom s (i + 1) = r at hq hr ⊢
      have hok : okAt s i = (good s[i] && !(s[i] == 58 && blankN s (i + 1)) && !(s[i] == 35 && blankN s (i - 1))) := by unfold okAt; rw [dif_pos h]
      have hX : ∃ X, plr (okAt s i && r) = X := ⟨_, rfl⟩
      obtain ⟨X, hX⟩ := hX
      rw [hX]
      rw [hok] at hX
      rw [if_pos (lt_i h), if_pos (lt_i h)]
      simp only [in_i h, at_i h, lett, b58, b35, ok_good, Good_good, if_true, Bool.or_true]
      cases hg : good s[i] with
      | false =>
        rw [hg] at hX
        obtain rfl : X = .inr false := by rw [← hX]; simp [plr]
        exact ⟨by simp, by simp⟩
      | true =>
        rw [hg] at hX
        have hwJ := wrap_s i (by omega)
        have bJ := bl n (i + 1) s
        have inJ := fun h' : i + 1 < s.length => in_i h'
        have atJ := fun h' : i + 1 < s.length => at_i (d := (0 : UInt8)) h'
        generalize ((i + 1 : Nat) : Int) = J at hwJ bJ inJ atJ hq hr
        by_cases h58 : s[i] = 58
        · have h35 : s[i] ≠ 35 := by rw [h58]; decide
          have hlast : ((i : Int) == IntKind.wrap .i64 ((s.length : Int) - 1)) = decide (s.length ≤ i + 1) := by
            rw [wrap_p s.length (by omega) (by omega), Bool.eq_iff_iff, beq_iff_eq, decide_eq_true_eq]; omega
          by_cases h' : i + 1 < s.length
          · have hl : decide (s.length ≤ i + 1) = false := decide_eq_false (by omega)
            have hb : blankN s (i + 1) = (s[i + 1] == 32) := by simp [blankN, h']
            cases hx : s[i + 1] == 32 with
            | true =>
              obtain rfl : X = .inr false := by rw [← hX, hb, hx, h58]; simp [plr]
              exact ⟨by simp [h58, hwJ, bJ, hb, hx], by simp [h58, hlast, hl, hwJ, inJ h', atJ h', b32, byte_eq, hx]⟩
            | false =>
              obtain rfl : X = plr r := by rw [← hX, hb, hx, h58]; simp
              exact ⟨by simp [h58, hwJ, bJ, hb, hx, hq], by simp [h58, hlast, hl, hwJ, inJ h', atJ h', b32, byte_eq, hx, hr]⟩
          · have hl : decide (s.length ≤ i + 1) = true := decide_eq_true (by omega)
            have hb : blankN s (i + 1) = true := by simp [blankN, h']
            obtain rfl : X = .inr false := by rw [← hX, hb, h58]; simp [plr]
            exact ⟨by simp [h58, hwJ, bJ, hb], by simp [h58, hlast, hl]⟩
        · have n58 : (s[i] == 58) = false := by simpa using h58
          by_cases h35 : s[i] = 35
          · have hi0 : 0 < i := by
              rcases Nat.eq_zero_or_pos i with rfl | h9
              · exact absurd h35 (h0 h)
              · exact h9
            have hp : i - 1 < s.length := by omega
            have hwK := wrap_p i (by omega) hi0
            have bK := bl n (i - 1) s
            have inK := in_i hp
            have atK := at_i (d := (0 : UInt8)) hp
            have hgt : decide ((i : Int) > 0) = true := decide_eq_true (by omega)
            have hb : blankN s (i - 1) = (s[i - 1] == 32) := by simp [blankN, hp]
            generalize ((i - 1 : Nat) : Int) = K at hwK bK inK atK
            cases hx : s[i - 1] == 32 with
            | true =>
              obtain rfl : X = .inr false := by rw [← hX, hb, hx, n58, h35]; simp [plr]
              exact ⟨by simp [h58, h35, hwK, bK, hb, hx], by simp only [h58, h35, hgt, hwK, inK, atK, b32, byte_eq, hx]; simp⟩
            | false =>
              obtain rfl : X = plr r := by rw [← hX, hb, hx, n58, h35]; simp
              exact ⟨by simp [h58, h35, hwK, bK, hb, hx, hwJ, hq], by simp only [h58, h35, hgt, hwK, inK, atK, b32, byte_eq, hx, hwJ, hr]; simp⟩
          · have n35 : (s[i] == 35) = false := by simpa using h35
            obtain rfl : X = plr r := by rw [← hX, n58, n35]; simp
            exact ⟨by simp [h58, h35, hwJ, hq], by simp [h58, h35, hwJ, hr]⟩
    · rw [okFrom_end (Nat.not_lt.1 h)]
      exact ⟨by rw [if_neg (by rw [nlt_i (Nat.not_lt.1 h)]; exact Bool.false_ne_true)]; rfl, by rw [if_neg (by rw [nlt_i (Nat.not_lt.1 h)]; exact Bool.false_ne_true)]; rfl⟩
def plainB (s : List UInt8) : Bool :=
  if h : 0 < s.length then
    !(s == [126]) && !(s == [110, 117, 108, 108]) && !(s[0] == 32) && !(s[s.length - 1] == 32) && !(sp18.contains s[0]) && !(s[0] == 45 && blankN s 1) && okFrom s 0
  else false
def rowB (s : List UInt8) : Bool := !(s.any sp5.contains) && plainB s
theorem plain_eq (n : Nat) (s : List UInt8) (hs : s.length ≤ 100000) (hn : 200000 ≤ n) : quote_Plain n s = some (plainB s) ∧ ref06_Plain n s = some (plainB s) := by
  have hone := fun c => one_eq n c sp18 (by decide) hn
  unfold quote_Plain ref06_Plain
  by_cases hw : s = [] ∨ s = [126] ∨ s = [110, 117, 108, 108]
  · rcases hw with rfl | rfl | rfl <;> exact ⟨by simp [lett, plainB], by simp [lett, plainB]⟩
  · have hne : s ≠ [] := fun e => hw (.inl e)
    have hlen : 0 < s.length := List.length_pos_iff.2 hne
    have e1 : (s == []) = false := by simpa using hne
    have e2 : (s == [126]) = false := by simp; exact fun e => hw (.inr (.inl e))
    have e3 : (s == [110, 117, 108, 108]) = false := by simp; exact fun e => hw (.inr (.inr e))
    have e4 : ((List.length s : Int) == 0) = false := by simp; exact hne
    have hp : s.length - 1 < s.length := by omega
    have z0 : decide (0 ≤ (0 : Int) ∧ (0 : Int) < (List.length s : Int)) = true := in_i hlen
    have z1 : (s[Int.toNat 0]?.getD 0) = s[0] := at_i hlen
    have hwK := wrap_p s.length (by omega) hlen
    have inK := in_i hp
    have atK := at_i (d := (0 : UInt8)) hp
    have hX : ∃ X, plainB s = X := ⟨_, rfl⟩
    obtain ⟨X, hX⟩ := hX
    rw [hX]
    unfold plainB at hX
    rw [dif_pos hlen, e2, e3] at hX
    generalize ((s.length - 1 : Nat) : Int) = K at hwK inK atK
    simp only [e1, e2, e3, e4, z0, z1, hwK, inK, atK, b32, b45, lett, ix18, Bool.or_true, if_true, cond_false]
    by_cases h32 : s[0] = 32
    · obtain rfl : X = false := by rw [← hX, h32]; simp
      exact ⟨by simp [h32], by simp [h32]⟩
    · have n32 : (s[0] == 32) = false := by simpa using h32
      by_cases hl32 : s[s.length - 1] = 32
      · obtain rfl : X = false := by rw [← hX, hl32]; simp
        exact ⟨by simp [h32, hl32], by simp [h32, hl32]⟩
      · have m32 : (s[s.length - 1] == 32) = false := by simpa using hl32
        have hone0 : ref06_one n (s[0].toNat : Int) [63, 58, 44, 91, 93, 123, 125, 35, 38, 42, 33, 124, 62, 39, 34, 37, 64, 96] = some (sp18.contains s[0]) := hone s[0]
        rw [hone0]
        cases hsp : sp18.contains s[0] with
        | true =>
          obtain rfl : X = false := by rw [← hX, hsp]; simp
          exact ⟨by simp [h32, hl32], by simp [h32, hl32]⟩
        | false =>
          have h35 : ∀ h : 0 < s.length, s[0] ≠ 35 := by
            intro _ e
            rw [e] at hsp
            exact absurd hsp (by decide)
          obtain ⟨hq, hr⟩ := pl_l n s hs h35 n 0 (by omega) (by omega)
          have hq : quote_Plain_l1 n s s (s.length : Int) n 0 = some (plr (okFrom s 0)) := hq
          have hr : ref06_Plain_l1 n s (s.length : Int) n 0 = some (plr (okFrom s 0)) := hr
          have hb : (Sum.elim (fun _ => some true) (fun o4 => some o4) : Sum Unit Bool → Option Bool) (plr (okFrom s 0)) = some (okFrom s 0) := by cases okFrom s 0 <;> rfl
          generalize plr (okFrom s 0) = r at hq hr hb
          rw [n32, m32, hsp] at hX
          have b1 := bl n 1 s
          have b1 : quote_Plain_1__e n 1 s = some (blankN s 1) := b1
          by_cases h45 : s[0] = 45
          · by_cases h1 : 1 < s.length
            · have en : ((List.length s : Int) == 1) = false := by rw [beq_eq_false_iff_ne]; omega
              have y0 : decide (0 ≤ (1 : Int) ∧ (1 : Int) < (List.length s : Int)) = true := in_i h1
              have y1 : (s[Int.toNat 1]?.getD 0) = s[1] := at_i h1
              have hbl : blankN s 1 = (s[1] == 32) := by simp [blankN, h1]
              cases hx : s[1] == 32 with
              | true =>
                obtain rfl : X = false := by rw [← hX, hbl, hx, h45]; simp
                exact ⟨by simp [h45, hl32, b1, hbl, hx], by simp only [h45, hl32, en, y0, y1, byte_eq, hx, b32]; simp⟩
              | false =>
                obtain rfl : X = okFrom s 0 := by rw [← hX, hbl, hx]; simp
                exact ⟨by simp only [h45, hl32, b1, hbl, hx, hq, byte_eq]; simpa using hb, by simp only [h45, hl32, en, y0, y1, byte_eq, hx, hr, b32]; simpa using hb⟩
            · have en : ((List.length s : Int) == 1) = true := by rw [beq_iff_eq]; omega
              have hbl : blankN s 1 = true := by simp [blankN, h1]
              obtain rfl : X = false := by rw [← hX, hbl, h45]; simp
              exact ⟨by simp [h45, hl32, b1, hbl], by simp only [h45, hl32, en]; simp⟩
          · have n45 : (s[0] == 45) = false := by simpa using h45
            obtain rfl : X = okFrom s 0 := by rw [← hX, n45]; simp
            exact ⟨by simp only [h32, hl32, h45, hq]; simpa using hb, by simp only [h32, hl32, h45, hr]; simpa using hb⟩
theorem row_eq (n : Nat) (s : List UInt8) (hs : s.length ≤ 100000) (hn : 200000 ≤ n) : quote_Row n s = some (rowB s) ∧ ref06_Row n s = some (rowB s) := by
  obtain ⟨h1, h2⟩ := plain_eq n s hs hn
  unfold quote_Row ref06_Row rowB
  rw [show ((0 : Int)) = ((0 : Nat) : Int) from rfl, rq_l n s hs n 0 (by omega) (by omega), rr_l n s hs hn n 0 (by omega) (by omega), List.drop_zero, h1, h2]
  cases s.any sp5.contains <;> exact ⟨rfl, rfl⟩
def wtxt (row : Bool) (s : List UInt8) : List UInt8 := if (bif row then rowB s else plainB s) = true then s else dblq s
theorem write_eq (n : Nat) (s : List UInt8) (row : Bool) (hs : s.length ≤ 100000) (hn : 200000 ≤ n) : quote_Write n s row = some (wtxt row s) := by
  obtain ⟨d1, _⟩ := double_eq n s hs hn
  obtain ⟨p1, _⟩ := plain_eq n s hs hn
  obtain ⟨r1, _⟩ := row_eq n s hs hn
  unfold quote_Write wtxt
  rw [d1, p1, r1]
  cases row <;> cases rowB s <;> cases plainB s <;> rfl
theorem strSort_sorted (l : List BS) : (strSort l).Pairwise (· ≤ ·) := by
  have := List.pairwise_mergeSort (le := fun x y : BS => decide (x ≤ y)) (fun a b c h1 h2 => by simp only [decide_eq_true_eq] at *; exact bs_le_trans h1 h2) (fun a b => by simpa using bs_total a b) l
  exact this.imp fun h => by simpa using h
theorem compact_up (zs : List BS) (hz : zs.Pairwise (· ≤ ·)) : ∀ m, m ≤ zs.length → Asc (Lib.compactUpTo zs.toArray m) ∧ ∀ x, x ∈ Lib.compactUpTo zs.toArray m ↔ x ∈ zs.take m
  | 0, _ => by simp [Lib.compactUpTo]
  | m + 1, hm => by
    obtain ⟨h1, h2⟩ := compact_up zs hz m (by omega)
    have hg : ∀ j (h : j < zs.length), zs.toArray[j]! = zs[j] := fun j h => by simp [h]
    have hle : ∀ j (h : j < zs.length), j < m → zs[j] ≤ zs[m] := fun j h hj => List.pairwise_iff_getElem.1 hz j m h (by omega) hj
    rw [Lib.compactUpTo_succ, List.take_succ_eq_append_getElem (by omega : m < zs.length)]
    by_cases hk : Lib.keeps zs.toArray m = true
    · rw [if_pos hk, hg m (by omega)]
      refine ⟨List.pairwise_append.2 ⟨h1, by simp, fun x hx y hy => ?_⟩, fun x => by rw [List.mem_append, List.mem_append, h2]⟩
      rw [List.mem_singleton.1 hy]
      obtain ⟨j, hj, rfl⟩ := List.mem_take_iff_getElem.1 ((h2 x).1 hx)
      have hjm : j < m := by omega
      refine bs_lt_of_le_of_ne (hle j (by omega) hjm) fun e => ?_
      have hk' : m = 0 ∨ zs.toArray[m]! ≠ zs.toArray[m - 1]! := by simpa [Lib.keeps] using hk
      rcases hk' with h0 | h0
      · omega
      · rw [hg m (by omega), hg (m - 1) (by omega)] at h0
        have a1 : zs[j] ≤ zs[m - 1] := by
          by_cases hq : j = m - 1
          · subst hq; exact bs_not_lt.1 (bs_irrefl _)
          · exact List.pairwise_iff_getElem.1 hz j (m - 1) (by omega) (by omega) (by omega)
        have a2 : zs[m - 1] ≤ zs[m] := hle (m - 1) (by omega) (by omega)
        exact h0 (bs_antisymm (e ▸ a1) a2)
    · rw [if_neg hk, List.append_nil]
      refine ⟨h1, fun x => ?_⟩
      have hk' : ¬ (m = 0 ∨ zs.toArray[m]! ≠ zs.toArray[m - 1]!) := by simpa [Lib.keeps] using hk
      have hm0 : m ≠ 0 := fun e => hk' (.inl e)
      have he : zs[m] = zs[m - 1] := by
        have : zs.toArray[m]! = zs.toArray[m - 1]! := Classical.byContradiction fun h => hk' (.inr h)
        rwa [hg m (by omega), hg (m - 1) (by omega)] at this
      rw [h2, List.mem_append, List.mem_singleton]
      constructor
      · exact fun h => .inl h
      · rintro (h | h)
        · exact h
        · rw [h, he]
          exact List.mem_take_iff_getElem.2 ⟨m - 1, by omega, rfl⟩
theorem compact_srt (l : List BS) : Lib.compact (strSort l) = srt l := by
  obtain ⟨h1, h2⟩ := compact_up (strSort l) (strSort_sorted l) _ (Nat.le_refl _)
  refine Asc.ext h1 (asc_srt l) fun x => ?_
  rw [mem_srt]
  have := h2 x
  rw [List.take_length] at this
  rw [show Lib.compact (strSort l) = Lib.compactUpTo (strSort l).toArray (strSort l).length from rfl, this]
  exact List.mem_mergeSort
theorem lim17 {a : Nat} (h : a ≤ 1000000) : decide (a * 17 ≤ limit) = true := decide_eq_true (by show a * 17 ≤ 140737488355328; omega)
theorem name_Sorted_eq (n : Nat) (l : List BS) (h : l.length ≤ 1000000) : name_Sorted n l = some (srt l) := by
  unfold name_Sorted
  have h1 : decide ((List.length ([] : List BS) + List.length l) * (16 + 1) ≤ limit) = true := cap_add (by simp; omega)
  have h3 : (Sh.sort l).length = l.length := List.length_mergeSort l
  rw [if_pos h1, List.nil_append, if_pos (lim17 h), if_pos (lim17 (by omega))]
  exact congrArg some (compact_srt l)
def aboveB (out : List BS) (x : BS) : Bool := if out.length = 0 then true else decide ((out[out.length - 1]?.getD []) < x)
def Best (l out : List BS) (i : Nat) (v : Int) : Prop :=
  (v = -1 ∧ ∀ j (h : j < l.length), j < i → aboveB out l[j] = false) ∨ ∃ (b : Nat) (h : b < l.length), v = (b : Int) ∧ b < i ∧ aboveB out l[b] = true ∧ ∀ j (h : j < l.length), j < i → aboveB out l[j] = true → l[b] ≤ l[j]
theorem last_at {out : List BS} (h0 : out.length ≠ 0) (ho : out.length < 1000000) : (decide (0 ≤ (IntKind.wrap .i64 ((List.length out : Int) - 1)) ∧ (IntKind.wrap .i64 ((List.length out : Int) - 1)) < (List.length out : Int))) = true ∧ (out[Int.toNat (IntKind.wrap .i64 ((List.length out : Int) - 1))]?.getD []) = (out[out.length - 1]?.getD []) := by
  rw [wrap_p out.length (by omega) (by omega)]
  exact ⟨in_i (by omega), rfl⟩
theorem j3_eq (n : Nat) (l out : List BS) (i : Nat) (v : Int) (hi : i < l.length) (ho : out.length < 1000000) (hv : v = -1 ∨ ∃ b : Nat, v = (b : Int) ∧ b < l.length) :
    ref02_Sorted_j3 n l out v (i : Int) = some (if (aboveB out l[i] && (decide (v < 0) || decide (l[i] < (l[Int.toNat v]?.getD [])))) = true then (i : Int) else v) := by
  have hA : (bif ((List.length out : Int) == 0) then true else (!(Op.bytesLess (l[Int.toNat (i : Int)]?.getD []) (out[Int.toNat (IntKind.wrap .i64 ((List.length out : Int) - 1))]?.getD []) || (l[Int.toNat (i : Int)]?.getD []) == (out[Int.toNat (IntKind.wrap .i64 ((List.length out : Int) - 1))]?.getD [])))) = aboveB out l[i] := by
    unfold aboveB
    rw [leq_dec, at_i hi]
    by_cases h0 : out.length = 0
    · simp [h0]
    · have e : ((List.length out : Int) == 0) = false := by rw [beq_eq_false_iff_ne]; omega
      rw [e, if_neg h0, (last_at h0 ho).2, cond_false, Bool.eq_iff_iff]
      simp [bs_not_le]
  unfold ref02_Sorted_j3
  rw [hA]
  have c2 : (!(((List.length out : Int) == 0) == false) || decide (0 ≤ (IntKind.wrap .i64 ((List.length out : Int) - 1)) ∧ (IntKind.wrap .i64 ((List.length out : Int) - 1)) < (List.length out : Int))) = true := by
    by_cases h0 : out.length = 0
    · simp [h0]
    · rw [(last_at h0 ho).1, Bool.or_true]
  have c4 : (!(((decide (v < 0)) == false) && (aboveB out l[i] == true)) || decide (0 ≤ v ∧ v < (List.length l : Int))) = true := by
    rcases hv with rfl | ⟨b, rfl, hb⟩
    · simp
    · rw [in_i hb, Bool.or_true]
  simp only [in_i hi, Bool.or_true, if_true, c2, c4, lett, less_dec, at_i hi]
  cases aboveB out l[i] <;> cases decide (v < 0) <;> simp
  split <;> rfl
theorem best_step {l out : List BS} {i : Nat} {v : Int} (hi : i < l.length) (h : Best l out i v) : Best l out (i + 1) (if (aboveB out l[i] && (decide (v < 0) || decide (l[i] < (l[Int.toNat v]?.getD [])))) = true then (i : Int) else v) := by
  cases ha : aboveB out l[i] with
  | false =>
    rw [Bool.false_and, if_neg Bool.false_ne_true]
    rcases h with ⟨rfl, h⟩ | ⟨b, hb, rfl, hbi, hab, h⟩
    · refine .inl ⟨rfl, fun j hj hji => ?_⟩
      by_cases e : j = i
      · subst e; exact ha
      · exact h j hj (by omega)
    · refine .inr ⟨b, hb, rfl, by omega, hab, fun j hj hji haj => ?_⟩
      by_cases e : j = i
      · subst e; rw [ha] at haj; cases haj
      · exact h j hj (by omega) haj
  | true =>
    rw [Bool.true_and]
    rcases h with ⟨rfl, h⟩ | ⟨b, hb, rfl, hbi, hab, h⟩
    · rw [if_pos (by simp)]
      refine .inr ⟨i, hi, rfl, by omega, ha, fun j hj hji haj => ?_⟩
      by_cases e : j = i
      · subst e; exact bs_not_lt.1 (bs_irrefl _)
      · rw [h j hj (by omega)] at haj; cases haj
    · have e0 : decide ((b : Int) < 0) = false := decide_eq_false (by omega)
      rw [e0, Bool.false_or, at_i hb]
      by_cases hlt : l[i] < l[b]
      · rw [if_pos (decide_eq_true hlt)]
        refine .inr ⟨i, hi, rfl, by omega, ha, fun j hj hji haj => ?_⟩
        by_cases e : j = i
        · subst e; exact bs_not_lt.1 (bs_irrefl _)
        · exact bs_le_trans (bs_le_of_lt hlt) (h j hj (by omega) haj)
      · rw [if_neg (by simpa using hlt)]
        refine .inr ⟨b, hb, rfl, by omega, hab, fun j hj hji haj => ?_⟩
        by_cases e : j = i
        · subst e; exact bs_not_lt.1 hlt
        · exact h j hj (by omega) haj
theorem l2_eq (n : Nat) (l out : List BS) (hl : l.length < 1000000) (ho : out.length < 1000000) : ∀ (k i : Nat) (v : Int), i ≤ l.length → l.length - i < k → Best l out i v → ∃ r, ref02_Sorted_l2 n l out k v (i : Int) = some r ∧ Best l out l.length r
  | 0, i, v, _, h, _ => by omega
  | k + 1, i, v, h1, h2, hb => by
    rw [ref02_Sorted_l2]
    by_cases h : i < l.length
    · have hv : v = -1 ∨ ∃ b : Nat, v = (b : Int) ∧ b < l.length := by
        rcases hb with ⟨e, _⟩ | ⟨b, hb, e, _⟩
        · exact .inl e
        · exact .inr ⟨b, e, hb⟩
      rw [if_pos (lt_i h), j3_eq n l out i v h ho hv, Option.bind_some, wrap_s i (by omega)]
      exact l2_eq n l out hl ho k (i + 1) _ (by omega) (by omega) (best_step h hb)
    · have : i = l.length := by omega
      subst this
      rw [if_neg (by rw [nlt_n]; exact Bool.false_ne_true)]
      exact ⟨v, rfl, hb⟩
theorem l1_eq (n : Nat) (l : List BS) (hl : l.length < 100000) (hn : 100000 ≤ n) : ∀ (k m : Nat), m ≤ (srt l).length → (srt l).length - m < k → ref02_Sorted_l1 n l k ((srt l).take m) = some (srt l)
  | 0, m, _, h => by omega
  | k + 1, m, h1, h2 => by
    have hlen := srt_length_le l
    have hA := asc_srt l
    have htl : ((srt l).take m).length = m := by rw [List.length_take]; omega
    have hab : ∀ x, aboveB ((srt l).take m) x = true ↔ (m = 0 ∨ ∃ h : m - 1 < (srt l).length, (srt l)[m - 1] < x) := by
      intro x
      unfold aboveB
      rw [htl]
      by_cases h0 : m = 0
      · simp [h0]
      · rw [if_neg h0, List.getElem?_take, if_pos (by omega), List.getElem?_eq_getElem (by omega)]
        simp [h0]
        constructor
        · exact fun h => ⟨by omega, h⟩
        · exact fun ⟨_, h⟩ => h
    obtain ⟨r, hr, hb⟩ := l2_eq n l ((srt l).take m) (by omega) (by omega) n 0 (-1) (by omega) (by omega) (.inl ⟨rfl, fun j _ h => by omega⟩)
    have hr : ref02_Sorted_l2 n l ((srt l).take m) n (-1) 0 = some r := hr
    rw [ref02_Sorted_l1, hr, Option.bind_some]
    rcases hb with ⟨rfl, hb⟩ | ⟨b, hbl, rfl, _, hcb, hb⟩
    · have hm : m = (srt l).length := by
        refine Classical.byContradiction fun hne => ?_
        have hmT : m < (srt l).length := by omega
        obtain ⟨j, hj, e⟩ := List.mem_iff_getElem.1 (mem_srt.1 (List.getElem_mem hmT))
        have := hb j hj hj
        rw [e] at this
        have h3 : aboveB ((srt l).take m) (srt l)[m] = true := by
          rw [hab]
          by_cases h0 : m = 0
          · exact .inl h0
          · exact .inr ⟨by omega, List.pairwise_iff_getElem.1 hA (m - 1) m (by omega) hmT (by omega)⟩
        rw [this] at h3; cases h3
      rw [if_pos (by decide)]
      subst hm
      rw [List.take_length]
    · obtain ⟨j, hj, e⟩ := List.mem_iff_getElem.1 (mem_srt.2 (List.getElem_mem hbl) : l[b] ∈ srt l)
      have hmj : m ≤ j := by
        rcases (hab _).1 hcb with h0 | ⟨h0, h3⟩
        · omega
        · refine Classical.byContradiction fun hne => ?_
          rw [← e] at h3
          by_cases hq : j = m - 1
          · subst hq; exact bs_irrefl _ h3
          · exact bs_irrefl _ (bs_trans h3 (List.pairwise_iff_getElem.1 hA j (m - 1) hj h0 (by omega)))
      have hmT : m < (srt l).length := by omega
      have hbm : l[b] = (srt l)[m] := by
        obtain ⟨j', hj', e'⟩ := List.mem_iff_getElem.1 (mem_srt.1 (List.getElem_mem hmT))
        have h3 : aboveB ((srt l).take m) (srt l)[m] = true := by
          rw [hab]
          by_cases h0 : m = 0
          · exact .inl h0
          · exact .inr ⟨by omega, List.pairwise_iff_getElem.1 hA (m - 1) m (by omega) hmT (by omega)⟩
        have h4 := hb j' hj' hj' (by rw [e']; exact h3)
        rw [e'] at h4
        refine bs_antisymm h4 ?_
        rw [← e]
        by_cases hq : j = m
        · subst hq; exact bs_not_lt.1 (bs_irrefl _)
        · exact bs_le_of_lt (List.pairwise_iff_getElem.1 hA m j hmT hj (by omega))
      have e0 : decide ((b : Int) < 0) = false := decide_eq_false (by omega)
      have hc : decide ((List.length ((srt l).take m) + List.length ([l[b]] : List BS)) * (16 + 1) ≤ limit) = true := cap_add (by rw [htl]; simp; omega)
      rw [e0, if_neg Bool.false_ne_true, if_pos (in_i hbl), at_i hbl, if_pos hc, hbm, ← List.take_succ_eq_append_getElem hmT]
      exact l1_eq n l hl hn k (m + 1) (by omega) (by omega)
theorem ref02_Sorted_eq (n : Nat) (l : List BS) (hl : l.length < 10000) (hn : 100000 ≤ n) : ref02_Sorted n l = some (srt l) := by
  unfold ref02_Sorted
  have := l1_eq n l (by omega) hn n 0 (by omega) (by have := srt_length_le l; omega)
  rw [List.take_zero] at this
  rw [this]; rfl
theorem eq_drop {l m : List BS} {i : Nat} (h1 : i < l.length) (h2 : i < m.length) : (l.drop i = m.drop i) ↔ l[i] = m[i] ∧ l.drop (i + 1) = m.drop (i + 1) := by
  rw [drop_at h1, drop_at h2, List.cons.injEq]
theorem same_l {L : Nat → Int → Option (Sum Unit Bool)} (l m : List BS) (hlm : l.length = m.length) (hl : l.length < 10000)
    (hs : ∀ k i (h : i < l.length) (h' : i < m.length), L (k + 1) (i : Int) = if (!(l[i] == m[i])) = true then some (.inr false) else L k (IntKind.wrap .i64 ((i : Int) + 1)))
    (he : ∀ k, L (k + 1) (l.length : Int) = some (.inl ())) : ∀ k i, i ≤ l.length → l.length - i < k → L k (i : Int) = some (if l.drop i = m.drop i then .inl () else .inr false)
  | 0, i, _, h => by omega
  | k + 1, i, h1, h2 => by
    by_cases h : i < l.length
    · have h' : i < m.length := by omega
      rw [hs k i h h']
      simp only [eq_drop h h']
      by_cases e : l[i] = m[i]
      · simp only [e, beq_self_eq_true, Bool.not_true, Bool.false_eq_true, if_false, true_and]
        rw [wrap_s i (by omega)]
        exact same_l l m hlm hl hs he k (i + 1) (by omega) (by omega)
      · simp [e]
    · have : i = l.length := by omega
      subst this
      rw [he, List.drop_eq_nil_of_le (Nat.le_refl _), List.drop_eq_nil_of_le (by omega), if_pos rfl]
theorem ref02_Same_eq (n : Nat) (l m : List BS) (hl : l.length < 10000) (hn : 100000 ≤ n) : ref02_Same n l m = some (decide (l = m)) := by
  unfold ref02_Same
  by_cases hlm : l.length = m.length
  · have e : ((List.length l : Int) != (List.length m : Int)) = false := by simp [hlm]
    have := same_l (L := ref02_Same_l1 n l m) l m hlm hl
      (fun k i h h' => by rw [ref02_Same_l1, if_pos (lt_i h), if_pos (in_i h), if_pos (in_i h'), at_i h, at_i h'])
      (fun k => by rw [ref02_Same_l1, nlt_n]; rfl) n 0 (by omega) (by omega)
    rw [e, if_neg Bool.false_ne_true, show (0 : Int) = ((0 : Nat) : Int) from rfl, this, List.drop_zero, List.drop_zero]
    by_cases h : l = m
    · rw [if_pos h, decide_eq_true h]; rfl
    · rw [if_neg h, decide_eq_false h]; rfl
  · have e : ((List.length l : Int) != (List.length m : Int)) = true := by simpa using fun h => hlm (by omega)
    rw [e, if_pos rfl, decide_eq_false (fun h => hlm (congrArg List.length h))]
end Go.Proofs.YtjicbelggepaiaaDoor.M
