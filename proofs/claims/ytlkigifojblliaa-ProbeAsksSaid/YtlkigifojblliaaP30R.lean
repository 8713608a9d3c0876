/-
  The plain law of ProbeRuns over the printed model.
-/
import Derived.Test.YtlkigifojblliaaM30
namespace Go.Proofs.Ytlkigifojblliaa.M
open Go.Proofs.Ytlkigifojblliaa.RX

theorem wrap_id (x : Int) (h1 : -9223372036854775808 ≤ x) (h2 : x ≤ 9223372036854775807) : IntKind.wrap .i64 x = x := by
  simp only [IntKind.wrap, IntKind.bits, IntKind.signed, Bool.true_and, decide_eq_true_eq, show ((2 : Int) ^ (64 - 1)) = 9223372036854775808 from rfl, show ((2 : Int) ^ 64) = 18446744073709551616 from rfl]
  split <;> omega

theorem awake30 (n : Nat) : law30_awake n = some true := by kernel_rfl

/-- What is known at the loop's head. -/
structure Inv30 (c : S28) (start : Int) (row : Int) (good : Bool) (now : Int) (s : S30) : Prop where
  row0 : 0 ≤ row
  next : s.f_Next = now + c.f_Every
  began : s.f_Began = start
  health : s.f_Health = 1 ∨ s.f_Health = 2 ∨ s.f_Health = 3
  bad : s.f_Health = 3 ↔ row ≥ c.f_Retries
  fails : row < c.f_Retries → s.f_Fails = row
  fails3 : row ≥ c.f_Retries → s.f_Fails = c.f_Retries
  good1 : s.f_Health = 1 → good = false
  good2 : s.f_Health = 2 → good = true

variable {c : S28} {start : Int} {answers : List Bool}
theorem right_iff : probe_Right c = true ↔ c.f_Test ≠ [] ∧ 1 ≤ c.f_Every ∧ c.f_Every ≤ 1099511627776 ∧ 0 ≤ c.f_Start ∧ c.f_Start ≤ 1099511627776 ∧ 1 ≤ c.f_Retries ∧ c.f_Retries ≤ 10 := by
  unfold probe_Right lett
  simp only [Bool.cond_false_right, Bool.and_eq_true, decide_eq_true_eq, Bool.not_eq_true', beq_eq_false_iff_ne, ne_eq]
  constructor
  · rintro ⟨⟨⟨⟨⟨⟨h1, h2⟩, h3⟩, h4⟩, h5⟩, h6⟩, h7⟩; exact ⟨h1, h2, h3, h4, h5, h6, h7⟩
  · rintro ⟨h1, h2, h3, h4, h5, h6, h7⟩; exact ⟨⟨⟨⟨⟨⟨h1, h2⟩, h3⟩, h4⟩, h5⟩, h6⟩, h7⟩

/-- The limits of the statement. -/
structure Lim (c : S28) (start : Int) (answers : List Bool) : Prop where
  right : probe_Right c = true
  every : c.f_Every ≤ 1000
  s0 : 0 ≤ start
  s1 : start ≤ 1099511627776
  len : (answers.length : Int) ≤ 200

theorem asked_of (hr : probe_Right c = true) {s : S30} (h : s.f_Health = 1 ∨ s.f_Health = 2 ∨ s.f_Health = 3) : probe_asked c s = true := by
  unfold probe_asked
  simp only [hr, Bool.cond_false_right, Bool.and_eq_true, decide_eq_true_eq, true_and]
  omega

/-- One answer: the state behind it. -/
theorem step30 (L : Lim c start answers) {row : Int} {good : Bool} {now : Int} {s : S30} (x : Bool) (hrow : row ≤ 200) (hnow0 : 0 ≤ now ∧ now ≤ 1099511827776) (I : Inv30 c start row good now s) :
    ∃ t, probe_Ask c s (now + c.f_Every) x = (t, true) ∧ Inv30 c start (if x = false then 0 else if s.f_Health ≠ 1 ∨ now + c.f_Every - start ≥ c.f_Start then row + 1 else row) (if x = false then true else good) (now + c.f_Every) t := by
  obtain ⟨h1, h2, h3, h4, h5, h6, h7⟩ := right_iff.1 L.right
  have hE := L.every
  have hs0 := L.s0
  have hs1 := L.s1
  obtain ⟨I0, I1, I2, I3, I4, I5, I6, I7, I8⟩ := I
  have w3 : IntKind.wrap .i64 (now + c.f_Every + c.f_Every) = now + c.f_Every + c.f_Every := wrap_id _ (by omega) (by omega)
  have w4 : IntKind.wrap .i64 (now + c.f_Every - start) = now + c.f_Every - start := wrap_id _ (by omega) (by omega)
  have hf : 0 ≤ s.f_Fails ∧ s.f_Fails ≤ 200 := by
    by_cases h : row < c.f_Retries
    · have := I5 h; omega
    · have := I6 (by omega); omega
  have w6 : IntKind.wrap .i64 (s.f_Fails + 1) = s.f_Fails + 1 := wrap_id _ (by omega) (by omega)
  have hask : probe_asked c s = true := asked_of L.right I3
  have e2 : (probe_Ask c s (now + c.f_Every) x) = (probe_Ask_j1 x (now + c.f_Every) c (S30.mk s.f_Health s.f_Fails s.f_Began (now + c.f_Every + c.f_Every)) (S30.mk 0 0 0 0), true) := by
    unfold probe_Ask
    simp [hask, I1, w3, lett]
  refine ⟨_, e2, ?_⟩
  unfold probe_Ask_j1
  simp only [I2, w4, w6]
  cases x with
  | false =>
    simp only [Bool.not_false, if_true]
    exact ⟨by omega, rfl, rfl, .inr (.inl rfl), ⟨(fun h => by cases h), fun h => by omega⟩, fun _ => rfl, (fun h => by omega), (fun h => by cases h), fun _ => rfl⟩
  | true =>
    simp only [Bool.not_true, Bool.false_eq_true, if_false, Bool.true_eq_false]
    by_cases hh : s.f_Health ≠ 1 ∨ now + c.f_Every - start ≥ c.f_Start
    · rw [if_pos hh]
      have : (bif s.f_Health == 1 then decide (now + c.f_Every - start < c.f_Start) else false) = false := by
        simp only [Bool.cond_false_right, Bool.and_eq_false_iff, beq_eq_false_iff_ne, decide_eq_false_iff_not]; omega
      simp only [this, Bool.false_eq_true, if_false, decide_eq_true_eq]
      by_cases hr : s.f_Fails + 1 ≥ c.f_Retries
      · rw [if_pos hr]
        have hr2 : row + 1 ≥ c.f_Retries := by
          by_cases h : row < c.f_Retries
          · have := I5 h; omega
          · omega
        exact ⟨by omega, rfl, rfl, .inr (.inr rfl), ⟨fun _ => hr2, fun _ => rfl⟩, (fun h => by omega), fun _ => rfl, (fun h => by cases h), (fun h => by cases h)⟩
      · rw [if_neg hr]
        have hlt : row < c.f_Retries := by
          by_cases h : row < c.f_Retries
          · exact h
          · have := I6 (by omega); omega
        have := I5 hlt
        exact ⟨by omega, rfl, rfl, I3, ⟨fun h => by have := I4.1 h; omega, fun h => by omega⟩, fun _ => by simp only; omega, (fun h => by omega), I7, I8⟩
    · rw [if_neg hh]
      have : (bif s.f_Health == 1 then decide (now + c.f_Every - start < c.f_Start) else false) = true := by
        simp only [Bool.cond_false_right, Bool.and_eq_true, beq_iff_eq, decide_eq_true_eq]; omega
      simp only [this, if_true]
      exact ⟨I0, rfl, rfl, I3, I4, I5, I6, I7, I8⟩

theorem round30 (L : Lim c start answers) (n i : Nat) {row : Int} {good : Bool} {now : Int} {s : S30} (hi : i < answers.length) (hrow : row ≤ i) (hnow : now = start + i * c.f_Every) (I : Inv30 c start row good now s) :
    ∃ row' good' s', law30_ProbeRuns_j2 n start answers row good now i c s = some (.inl (row', good', now + c.f_Every, s')) ∧ row' ≤ i + 1 ∧ Inv30 c start row' good' (now + c.f_Every) s' := by
  obtain ⟨h1, h2, h3, h4, h5, h6, h7⟩ := right_iff.1 L.right
  have hE := L.every
  have hs0 := L.s0
  have hs1 := L.s1
  have hlen := L.len
  have hnow0 : 0 ≤ now ∧ now ≤ 1099511827776 := by
    subst hnow
    have a1 : 0 ≤ (i : Int) * c.f_Every := Int.mul_nonneg (by omega) (by omega)
    have a2 : (i : Int) * c.f_Every ≤ 200 * 1000 := Int.mul_le_mul (by omega) (by omega) (by omega) (by omega)
    omega
  have hlt : (0 ≤ (i : Int) ∧ (i : Int) < (answers.length : Int)) := by omega
  have w1 : IntKind.wrap .i64 (now + c.f_Every) = now + c.f_Every := wrap_id _ (by omega) (by omega)
  have w2 : IntKind.wrap .i64 (now + c.f_Every - 1) = now + c.f_Every - 1 := wrap_id _ (by omega) (by omega)
  have w3 : IntKind.wrap .i64 (now + c.f_Every + c.f_Every) = now + c.f_Every + c.f_Every := wrap_id _ (by omega) (by omega)
  have w4 : IntKind.wrap .i64 (now + c.f_Every - start) = now + c.f_Every - start := wrap_id _ (by omega) (by omega)
  have w5 : IntKind.wrap .i64 (row + 1) = row + 1 := wrap_id _ (by have := I.row0; omega) (by omega)
  have hask : probe_asked c s = true := asked_of L.right I.health
  generalize hx : answers[Int.toNat (i : Int)]?.getD false = x
  obtain ⟨t, ht, It⟩ := step30 L x (by omega) hnow0 I
  have e1 : (probe_Ask c s (now + c.f_Every - 1) x) = (s, false) := by
    unfold probe_Ask
    have : decide (now + c.f_Every - 1 < s.f_Next) = true := by rw [I.next]; simp; omega
    simp [hask, this]
  have hdue : probe_Due c t = now + c.f_Every + c.f_Every := by
    unfold probe_Due
    simp [asked_of L.right It.health, It.next]
  refine ⟨_, _, t, ?_, ?_, It⟩
  · unfold law30_ProbeRuns_j2
    rw [if_pos (by simp [hlt] : decide (0 ≤ (i : Int) ∧ (i : Int) < (answers.length : Int)) = true)]
    simp only [hx, w1, w2, w3, lett, e1, ht, hdue]
    simp only [Bool.false_eq_true, if_false, Bool.not_true, cond_false, bne_self_eq_false]
    rw [if_pos (by simp [hlt] : decide (0 ≤ (i : Int) ∧ (i : Int) < (answers.length : Int)) = true), if_pos (by simp [hlt] : decide (0 ≤ (i : Int) ∧ (i : Int) < (answers.length : Int)) = true)]
    have e3 : law30_ProbeRuns_j3 n start answers row good (now + c.f_Every) i s.f_Health (!x) c t = some ((if x = false then 0 else if s.f_Health ≠ 1 ∨ now + c.f_Every - start ≥ c.f_Start then row + 1 else row), (if x = false then true else good)) := by
      unfold law30_ProbeRuns_j3
      cases x with
      | false => simp
      | true =>
        simp only [Bool.not_true, Bool.false_eq_true, if_false, w4, w5, Bool.cond_true_left, Bool.or_eq_true, bne_iff_ne, decide_eq_true_eq, Bool.true_eq_false]
        split <;> rfl
    rw [e3]
    simp only [Option.bind_some]
    rw [if_neg]
    simp only [Bool.cond_true_left, Bool.cond_false_right, Bool.not_eq_true, Bool.or_eq_false_iff, Bool.not_eq_false', beq_iff_eq, Bool.and_eq_false_iff, beq_eq_false_iff_ne]
    refine ⟨⟨?_, ?_⟩, ?_⟩
    · have := It.bad
      rw [Bool.eq_iff_iff]
      simpa using this
    · by_cases h : t.f_Health = 2
      · right; simpa using It.good2 h
      · left; exact h
    · by_cases h : t.f_Health = 1
      · right; exact It.good1 h
      · left; exact h
  · split
    · omega
    · split <;> omega
theorem loop30 (L : Lim c start answers) (n : Nat) : ∀ (k i : Nat) (row : Int) (good : Bool) (now : Int) (s : S30), i ≤ answers.length → answers.length < i + k → row ≤ i → now = start + i * c.f_Every → Inv30 c start row good now s →
    law30_ProbeRuns_l1 n start answers c k row good now i s = some (.inl ()) := by
  intro k
  induction k with
  | zero => intro i row good now s h1 h2; omega
  | succ k ih =>
    intro i row good now s h1 h2 h3 h4 I
    rw [law30_ProbeRuns_l1]
    by_cases hi : i < answers.length
    · rw [if_pos (by simpa using hi)]
      obtain ⟨row', good', s', he, hr, I'⟩ := round30 L n i hi h3 h4 I
      rw [he]
      have hlen := L.len
      have w : IntKind.wrap .i64 ((i : Int) + 1) = ((i + 1 : Nat) : Int) := by rw [wrap_id _ (by omega) (by omega)]; omega
      simp only [Option.bind_some, Sum.elim_inl, w]
      exact ih (i + 1) row' good' _ s' hi (by omega) (by omega) (by rw [h4]; simp only [Int.natCast_add, Int.add_mul]; omega) I'
    · rw [if_neg (by simpa using hi)]

theorem law30_ProbeRuns_true (a0 : S28) (w0 : W29 a0) (a1 : Int) (w1 : IntKind.min .i64 ≤ a1 ∧ a1 ≤ IntKind.max .i64) (a2 : List Bool) (w2 : W44 a2) : ∃ n, law30_ProbeRuns n a0 a1 a2 = some true := by
  refine ⟨a2.length + 1, ?_⟩
  unfold law30_ProbeRuns
  simp only [lett]
  split
  · rw [awake30]; rfl
  · rename_i hc
    simp only [Bool.cond_true_left, Bool.or_eq_true, Bool.not_eq_true', decide_eq_true_eq, not_or, Bool.not_eq_false] at hc
    obtain ⟨⟨⟨⟨hR, hE⟩, h0⟩, h1⟩, hl⟩ := hc
    have L : Lim a0 a1 a2 := ⟨hR, by omega, by omega, by omega, by omega⟩
    obtain ⟨r1, r2, r3, r4, r5, r6, r7⟩ := right_iff.1 hR
    have w : IntKind.wrap .i64 (a1 + a0.f_Every) = a1 + a0.f_Every := wrap_id _ (by omega) (by omega)
    have hb : probe_Begin a0 a1 = S30.mk 1 0 a1 (a1 + a0.f_Every) := by unfold probe_Begin; simp [hR, w]
    rw [hb]
    have := loop30 L (a2.length + 1) (a2.length + 1) 0 0 false a1 (S30.mk 1 0 a1 (a1 + a0.f_Every)) (by omega) (by omega) (by omega) (by simp)
      ⟨by omega, rfl, rfl, .inl rfl, ⟨(fun h => by cases h), (fun h => by omega)⟩, (fun _ => rfl), (fun h => by omega), (fun _ => rfl), (fun h => by cases h)⟩
    rw [show ((0 : Nat) : Int) = 0 from rfl] at this
    rw [this]
    simp only [Option.bind_some, Sum.elim_inl, awake30]
end Go.Proofs.Ytlkigifojblliaa.M
