/-
  The plain law of ProbeAsks over the printed model.
-/
import Derived.Test.YtlkigifojblliaaP30R
namespace Go.Proofs.Ytlkigifojblliaa.M
open Go.Proofs.Ytlkigifojblliaa.RX

theorem right_eq (c : S28) : probe_Right c = ref30_Right c := by
  unfold probe_Right ref30_Right lett
  cases ht : c.f_Test with
  | nil => simp
  | cons x l =>
    have : ((List.length (x :: l) : Int) == 0) = false := by simp; omega
    simp only [this]
    rw [Bool.eq_iff_iff]
    simp only [Bool.cond_false_right, Bool.and_eq_true, decide_eq_true_eq, Bool.not_eq_true', beq_eq_false_iff_ne, ne_eq, List.cons_ne_nil, not_false_eq_true, true_and, Bool.cond_true_right, Bool.cond_false_left, Bool.cond_true_left, Bool.or_eq_true, Bool.not_false]
    by_cases h : (c.f_Every < 1 ∨ c.f_Every > 1099511627776)
    · rw [if_pos (by simpa using h)]
      constructor
      · rintro ⟨⟨⟨⟨⟨h1, h2⟩, h3⟩, h4⟩, h5⟩, h6⟩; omega
      · intro h; cases h
    · rw [if_neg (by simpa using h)]
      simp only [Bool.and_eq_true, decide_eq_true_eq]
      omega

theorem asked_iff (c : S28) (s : S30) : probe_asked c s = true ↔ probe_Right c = true ∧ 1 ≤ s.f_Health ∧ s.f_Health ≤ 3 := by
  unfold probe_asked
  simp only [Bool.cond_false_right, Bool.and_eq_true, decide_eq_true_eq, and_assoc, ge_iff_le]

theorem ask_eq (c : S28) (s : S30) (now : Int) (b : Bool) : probe_Ask c s now b = ref30_Ask c s now b := by
  unfold probe_Ask ref30_Ask lett
  rw [← right_eq]
  have ha := asked_iff c s
  cases hr : probe_Right c with
  | false =>
    have : probe_asked c s = false := by
      cases h : probe_asked c s with
      | false => rfl
      | true => rw [(ha.1 h).1] at hr; cases hr
    simp [this]
  | true =>
    by_cases h1 : s.f_Health < 1 ∨ s.f_Health > 3
    · have : probe_asked c s = false := by
        cases h : probe_asked c s with
        | false => rfl
        | true => have := (ha.1 h).2; omega
      rcases h1 with h1 | h1 <;> simp [this, h1]
    · have : probe_asked c s = true := ha.2 ⟨hr, by omega, by omega⟩
      have h2 : decide (s.f_Health < 1) = false := by simp; omega
      have h3 : decide (s.f_Health > 3) = false := by simp; omega
      simp only [this, h2, h3, Bool.not_true, cond_false]
      by_cases h4 : now < s.f_Next
      · simp [h4]
      · simp only [h4, decide_false, Bool.false_eq_true, if_false]
        unfold probe_Ask_j1 ref30_Ask_j1
        simp only
        cases b with
        | false => simp
        | true =>
          simp only [Bool.not_true, Bool.false_eq_true, if_false]
          split
          · rfl
          · rfl

theorem begin_eq (c : S28) (now : Int) : probe_Begin c now = ref30_Begin c now := by
  unfold probe_Begin ref30_Begin
  rw [right_eq]
theorem due_eq (c : S28) (s : S30) : probe_Due c s = ref30_Due c s := by
  unfold probe_Due ref30_Due
  rw [← right_eq]
  have ha := asked_iff c s
  cases hr : probe_Right c with
  | false =>
    have : probe_asked c s = false := by
      cases h : probe_asked c s with
      | false => rfl
      | true => rw [(ha.1 h).1] at hr; cases hr
    simp [this]
  | true =>
    by_cases h1 : s.f_Health < 1 ∨ s.f_Health > 3
    · have : probe_asked c s = false := by
        cases h : probe_asked c s with
        | false => rfl
        | true => have := (ha.1 h).2; omega
      rcases h1 with h1 | h1 <;> simp [this, h1]
    · have : probe_asked c s = true := ha.2 ⟨hr, by omega, by omega⟩
      have h2 : decide (s.f_Health < 1) = false := by simp; omega
      have h3 : decide (s.f_Health > 3) = false := by simp; omega
      simp [this, h2, h3]

theorem name_eq (n : Nat) (x : Int) : ∃ s, probe_Name n x = some s ∧ ref30_Name n x = some s := by
  by_cases h3 : x = 3
  · subst h3; exact ⟨[117, 110, 104, 101, 97, 108, 116, 104, 121], rfl, rfl⟩
  by_cases h2 : x = 2
  · subst h2; exact ⟨[104, 101, 97, 108, 116, 104, 121], rfl, rfl⟩
  by_cases h1 : x = 1
  · subst h1; exact ⟨[115, 116, 97, 114, 116, 105, 110, 103], rfl, rfl⟩
  by_cases h0 : x = 0
  · subst h0; exact ⟨[110, 111, 110, 101], rfl, rfl⟩
  refine ⟨[], ?_, ?_⟩
  · have e0 : (x == 0) = false := by simpa using h0
    have e1 : (x == 1) = false := by simpa using h1
    have e2 : (x == 2) = false := by simpa using h2
    have e3 : (x == 3) = false := by simpa using h3
    simp [probe_Name, probe_Name_j1, probe_Name_j2, e0, e1, e2, e3]
  · have : (bif (decide (x < 0)) then true else (decide (x > 3))) = true := by
      by_cases hx : x < 0
      · simp [hx]
      · simp [hx]; omega
    simp [ref30_Name, lett, this]

theorem asks_true (c : S28) (s : S30) (now other : Int) (b : Bool) : ∃ n, law30_ProbeAsks n c s now other b = some true := by
  refine ⟨0, ?_⟩
  simp only [law30_ProbeAsks, lett]
  split
  · rw [awake30]; rfl
  · obtain ⟨q, h1, h2⟩ := name_eq 0 other
    simp [right_eq, ask_eq, begin_eq, due_eq, h1, h2, awake30]
theorem law30_ProbeAsks_true (a0 : S28) (_ : W29 a0) (a1 : S30) (_ : W31 a1) (a2 : Int) (_ : IntKind.min .i64 ≤ a2 ∧ a2 ≤ IntKind.max .i64) (a3 : Int) (_ : IntKind.min .i64 ≤ a3 ∧ a3 ≤ IntKind.max .i64) (a4 : Bool) (_ : True) : ∃ n, law30_ProbeAsks n a0 a1 a2 a3 a4 = some true := asks_true a0 a1 a2 a3 a4
end Go.Proofs.Ytlkigifojblliaa.M
