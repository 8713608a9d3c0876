/-
  The plain law of LifePlays over the printed models.
-/
import Derived.Test.YtncggmddppbgeaaM32
namespace Go.Proofs.Ytncggmddppbgeaa.M
open Go.Proofs.Ytncggmddppbgeaa.RX

theorem awake32 (n : Nat) : law32_awake n = some true := by kernel_rfl

theorem wrap_id (x : Int) (h1 : -9223372036854775808 ≤ x) (h2 : x ≤ 9223372036854775807) : IntKind.wrap .i64 x = x := by
  simp only [IntKind.wrap, IntKind.bits, IntKind.signed, Bool.true_and, decide_eq_true_eq, show ((2 : Int) ^ (64 - 1)) = 9223372036854775808 from rfl, show ((2 : Int) ^ 64) = 18446744073709551616 from rfl]
  split <;> omega
theorem wrap_in (x : Int) : -9223372036854775808 ≤ IntKind.wrap .i64 x ∧ IntKind.wrap .i64 x ≤ 9223372036854775807 := by
  simp only [IntKind.wrap, IntKind.bits, IntKind.signed, Bool.true_and, decide_eq_true_eq, show ((2 : Int) ^ (64 - 1)) = 9223372036854775808 from rfl, show ((2 : Int) ^ 64) = 18446744073709551616 from rfl]
  split <;> omega

theorem right_eq (c : S23) : ref30_Right c = probe_Right c := by
  unfold ref30_Right probe_Right
  simp only [lett]
  rw [Bool.eq_iff_iff]
  cases hc : c.f_Test with
  | nil => simp
  | cons a l =>
    simp only [List.length_cons, Bool.cond_true_left, Bool.cond_false_right, Bool.or_eq_true, beq_iff_eq, decide_eq_true_eq, Bool.and_eq_true]
    split
    · simp; omega
    · rename_i h
      simp only [not_or] at h
      simp; omega
theorem begin_eq (c : S23) (t : Int) : ref30_Begin c t = probe_Begin c t := by
  unfold ref30_Begin probe_Begin; rw [right_eq]
theorem asked_eq (c : S23) (s : S29) : (bif (bif (!(ref30_Right c)) then true else (decide (s.f_Health < 1))) then true else (decide (s.f_Health > 3))) = !(probe_asked c s) := by
  unfold probe_asked; rw [right_eq]
  rw [Bool.eq_iff_iff]
  cases probe_Right c <;> simp <;> omega
theorem due_eq (c : S23) (s : S29) : ref30_Due c s = probe_Due c s := by
  unfold ref30_Due probe_Due; rw [asked_eq]
theorem ask_eq (c : S23) (s : S29) (t : Int) (x : Bool) : ref30_Ask c s t x = probe_Ask c s t x := by
  unfold ref30_Ask probe_Ask
  simp only [lett]
  rw [asked_eq]
  by_cases h : (bif !probe_asked c s then true else decide (t < s.f_Next)) = true
  · simp only [if_pos h]
  · simp only [if_neg h]
    unfold probe_Ask_j1 ref30_Ask_j1
    cases x with
    | false => simp
    | true =>
      simp only [Bool.not_true, Bool.false_eq_true, if_false]
      by_cases h1 : (bif s.f_Health == 1 then decide (IntKind.wrap .i64 (s.f_Next - s.f_Began) < c.f_Start) else false) = true
      · simp only [if_pos h1]
      · simp only [if_neg h1]
theorem dueAgain_eq (p t c d : Int) (h : Bool) : ref31_Due p t c d h = again_Due p t c d h := by
  unfold ref31_Due again_Due
  cases h with
  | true => rfl
  | false =>
    simp only [Bool.false_eq_true, if_false]
    by_cases h1 : (bif p == 1 then true else p == 3) = true
    · rw [if_pos h1, if_pos h1]
    · rw [if_neg h1, if_neg h1]
      by_cases h2 : p = 2
      · subst h2; by_cases h3 : c = 0 <;> simp [h3]
      · simp [h2]
theorem waitLoop (n : Nat) (a : Int) (ha : a ≤ 9223372036854775807) (m : Nat) : ∀ (k : Nat), k + 1 < a → k ≤ 9 → ref31_Wait_l1 n a (m + 1) (100 * 2 ^ k) (1 + k) = ref31_Wait_l1 n a m (100 * 2 ^ (k + 1)) (1 + (k + 1 : Nat)) := by
  intro k h1 h2
  rw [ref31_Wait_l1]
  have h3 : ∀ j : Fin 10, IntKind.wrap .i64 (100 * 2 ^ j.val * 2) = 100 * 2 ^ (j.val + 1) ∧ (100 * 2 ^ j.val : Int) < 60000 := by decide +kernel
  have h4 := h3 ⟨k, by omega⟩
  simp only at h4
  rw [if_pos (by simp [h4.2]; omega), h4.1, wrap_id _ (by omega) (by omega)]
  rfl
theorem waitLoops (n : Nat) (a : Int) (ha : a ≤ 9223372036854775807) (m : Nat) : ∀ (k : Nat), k < a → k ≤ 10 → ref31_Wait_l1 n a (m + k) 100 1 = ref31_Wait_l1 n a m (100 * 2 ^ k) (1 + k) := by
  intro k
  induction k generalizing m with
  | zero => intro _ _; simp
  | succ k ih =>
    intro h1 h2
    rw [show m + (k + 1) = (m + 1) + k by omega, ih (m + 1) (by omega) (by omega), waitLoop n a ha m k (by omega) (by omega)]
theorem wait_eq (m : Nat) (a : Int) (h1 : -9223372036854775808 ≤ a) (h2 : a ≤ 9223372036854775807) : ∃ v, again_Wait (m + 11) a = some v ∧ ref31_Wait (m + 11) a = some v := by
  by_cases h0 : a < 1
  · unfold again_Wait ref31_Wait; simp [h0]
  have hw := wrap_id (a - 1) (by omega) (by omega)
  by_cases h3 : a ≤ 10
  · -- few
    obtain ⟨k, rfl⟩ : ∃ k : Nat, a = k + 1 := ⟨(a - 1).toNat, by omega⟩
    have hk : k ≤ 9 := by omega
    have h5 : ((k : Int) + 1 - 1) = k := by omega
    have h6 : ∀ j : Fin 10, IntKind.wrap .i64 (IntKind.wrap .u64 (100 * 2 ^ (min j.val (IntKind.bits .u64)))) = 100 * 2 ^ j.val ∧ ¬ (100 * 2 ^ j.val : Int) > 60000 ∧ ¬ (60000 : Int) < (100 * 2 ^ j.val) := by decide +kernel
    have h7 := h6 ⟨k, by omega⟩
    simp only at h7
    refine ⟨100 * 2 ^ k, ?_, ?_⟩
    · unfold again_Wait
      rw [h5] at hw
      have h8 : ¬ (20 : Int) < k := by omega
      have h9 : (0 : Int) ≤ k := by omega
      simp only [h0, decide_false, Bool.false_eq_true, if_false, hw, h5, h8, h9, decide_true, if_true, Int.toNat_natCast, h7.1, lett, h7.2.2]
    · have hl : ref31_Wait_l1 (m + 11) ((k : Int) + 1) (m + 11) 100 1 = some (100 * 2 ^ k) := by
        have := waitLoops (m + 11) ((k : Int) + 1) h2 (m + 11 - k) k (by omega) (by omega)
        rw [show m + 11 - k + k = m + 11 by omega] at this
        rw [this, show m + 11 - k = (m + 10 - k) + 1 by omega, ref31_Wait_l1, if_neg (by simp; omega)]
      unfold ref31_Wait
      simp only [h0, decide_false, Bool.false_eq_true, if_false, hl, Option.bind_some, h7.2.1]
  · refine ⟨60000, ?_, ?_⟩
    · have h6 : ∀ j : Fin 21, 10 ≤ j.val → 60000 < IntKind.wrap .i64 (IntKind.wrap .u64 (100 * 2 ^ (min j.val (IntKind.bits .u64)))) := by decide +kernel
      have h7 : ∃ j : Fin 21, 10 ≤ j.val ∧ (if (20 : Int) < a - 1 then 20 else a - 1) = j.val := by
        by_cases h8 : (20 : Int) < a - 1
        · exact ⟨⟨20, by omega⟩, by simp, by simp [h8]⟩
        · exact ⟨⟨(a - 1).toNat, by omega⟩, by simp; omega, by simp [h8]; omega⟩
      obtain ⟨j, h8, h9⟩ := h7
      have h10 := h6 j h8
      have h11 : (0 : Int) ≤ j.val := by omega
      unfold again_Wait
      simp only [h0, decide_false, Bool.false_eq_true, if_false, hw, h9, h11, decide_true, if_true, Int.toNat_natCast, lett, h10]
    · have hl : ref31_Wait_l1 (m + 11) a (m + 11) 100 1 = some (100 * 2 ^ 10) := by
        have := waitLoops (m + 11) a h2 (m + 1) 10 (by omega) (by omega)
        rw [show m + 1 + 10 = m + 11 by omega] at this
        rw [this, ref31_Wait_l1, if_neg (by simp)]
      unfold ref31_Wait
      simp only [h0, decide_false, Bool.false_eq_true, if_false, hl, Option.bind_some]
      decide

theorem same_eq (n : Nat) (l : List (List UInt8)) (hn : l.length < n) (hl : l.length ≤ 20) : ref02_Same n l l = some true := by
  have key : ∀ (k i : Nat), i ≤ l.length → l.length < i + k → ref02_Same_l1 n l l k i = some (.inl ()) := by
    intro k
    induction k with
    | zero => intro i h1 h2; omega
    | succ k ih =>
      intro i h1 h2
      rw [ref02_Same_l1]
      by_cases hi : i < l.length
      · have hlt : (0 ≤ (i : Int) ∧ (i : Int) < (l.length : Int)) := by omega
        simp only [hlt, and_self, decide_true, if_true, beq_self_eq_true, Bool.not_true, Bool.false_eq_true, if_false]
        rw [wrap_id _ (by omega) (by omega)]
        exact ih (i + 1) hi (by omega)
      · rw [if_neg (by simp; omega)]
  unfold ref02_Same
  rw [if_neg (by simp)]
  have := key n 0 (by omega) (by omega)
  rw [show ((0 : Nat) : Int) = 0 from rfl] at this
  rw [this]; rfl
/-- The document's box that a box is. -/
def toRef (b : S31) : S35 := S35.mk b.f_Spec b.f_Id b.f_State b.f_Code b.f_Runs b.f_Done b.f_At b.f_ByHand b.f_Sick b.f_Probe

theorem next_eq (b : S31) : ref32_Next (toRef b) = life_Next b := by
  unfold ref32_Next life_Next toRef; simp only [due_eq]
theorem start_eq (b : S31) (t : Int) : ref32_Start (toRef b) t = (toRef (life_Start b t).1, (life_Start b t).2) := by
  unfold ref32_Start life_Start life_run toRef
  simp only [lett, begin_eq]
  split <;> rfl
theorem tick_eq (b : S31) (t : Int) : ref32_Tick (toRef b) t = (toRef (life_Tick b t).1, (life_Tick b t).2) := by
  unfold ref32_Tick life_Tick life_run
  rw [next_eq]
  simp only [lett, begin_eq, ask_eq]
  by_cases h : (bif life_Next b == -1 then true else decide (life_Next b > t)) = true
  · simp only [if_pos h]
  · simp only [if_neg h]
    by_cases h2 : (b.f_State == 2) = true
    · simp only [toRef, if_pos h2]; exact if_pos h2
    · simp only [toRef, if_neg h2]; exact if_neg h2
theorem stop_eq (b : S31) : ref32_Stop (toRef b) = (toRef (life_Stop b).1, (life_Stop b).2) := by
  unfold ref32_Stop life_Stop life_Stop_j1 ref32_Stop_j1 toRef
  simp only [lett]
  by_cases h : b.f_State = 2
  · simp [h]
  · by_cases h2 : b.f_At = -1 <;> simp [h, h2]
theorem exit_eq (m : Nat) (b : S31) (t c : Int) : ∃ r, life_Exit (m + 11) b t c = some r ∧ ref32_Exit (m + 11) (toRef b) t c = some (toRef r.1, r.2) ∧ r.1.f_Spec = b.f_Spec := by
  unfold life_Exit ref32_Exit life_Exit_j1 ref32_Exit_j1
  simp only [lett, dueAgain_eq, toRef]
  by_cases h : b.f_State = 2
  · simp only [h, bne_self_eq_false, Bool.false_eq_true, if_false]
    by_cases h2 : again_Due b.f_Spec.f_Restart b.f_Spec.f_Tries c b.f_Done false = true
    · simp only [if_pos h2]
      have hw := wrap_in (b.f_Done + 1)
      obtain ⟨v, h3, h4⟩ := wait_eq m (IntKind.wrap .i64 (b.f_Done + 1)) hw.1 hw.2
      rw [h3, h4]
      exact ⟨_, rfl, rfl, rfl⟩
    · simp only [if_neg h2]
      exact ⟨_, rfl, rfl, rfl⟩
  · simp only [bne_iff_ne, ne_eq, h, not_false_eq_true, if_true]
    exact ⟨_, rfl, rfl, rfl⟩
theorem spec_start (b : S31) (t : Int) : (life_Start b t).1.f_Spec = b.f_Spec := by unfold life_Start life_run; simp only [lett]; split <;> rfl
theorem spec_tick (b : S31) (t : Int) : (life_Tick b t).1.f_Spec = b.f_Spec := by
  unfold life_Tick life_run; simp only [lett]
  split
  · rfl
  · split <;> rfl
theorem spec_stop (b : S31) : (life_Stop b).1.f_Spec = b.f_Spec := by
  unfold life_Stop life_Stop_j1; simp only [lett]
  by_cases h : b.f_State = 2
  · simp [h]
  · by_cases h2 : b.f_At = -1 <;> simp [h, h2]
theorem do_eq (m : Nat) (b : S31) (t : Int) (d : S40) : ∃ r, law32_do (m + 11) b t d = some r ∧ law32_same (m + 11) (toRef b) t d = some (toRef r.1, r.2) ∧ r.1.f_Spec = b.f_Spec := by
  unfold law32_do law32_same law32_do_j1 law32_do_j2
  have h9 : ((9 : Int) != 0) = true := by decide
  simp only [h9, if_true, lett]
  generalize Int.tmod d.f_Kind 9 = k
  by_cases h0 : k = 0
  · subst h0; simp only [beq_self_eq_true, if_true, start_eq]; exact ⟨_, rfl, rfl, spec_start b t⟩
  have e0 : (k == 0) = false := by simpa using h0
  by_cases h1 : k = 1
  · subst h1
    obtain ⟨r, h3, h4, h5⟩ := exit_eq m b t d.f_N
    simp only [e0, Bool.false_eq_true, if_false, beq_self_eq_true, if_true, h3, h4]; exact ⟨_, rfl, rfl, h5⟩
  have e1 : (k == 1) = false := by simpa using h1
  by_cases h2 : k = 2
  · subst h2; simp only [e0, e1, Bool.false_eq_true, if_false, beq_self_eq_true, if_true, stop_eq]; exact ⟨_, rfl, rfl, spec_stop b⟩
  have e2 : (k == 2) = false := by simpa using h2
  by_cases h3 : k = 3
  · subst h3; simp only [e0, e1, e2, Bool.false_eq_true, if_false, beq_self_eq_true, if_true]; exact ⟨_, rfl, rfl, rfl⟩
  have e3 : (k == 3) = false := by simpa using h3
  by_cases h4 : k = 4
  · subst h4; simp only [e0, e1, e2, e3, Bool.false_eq_true, if_false, beq_self_eq_true, if_true]; exact ⟨_, rfl, rfl, rfl⟩
  have e4 : (k == 4) = false := by simpa using h4
  simp only [e0, e1, e2, e3, e4, Bool.false_eq_true, if_false, tick_eq]
  exact ⟨_, rfl, rfl, spec_tick b t⟩
theorem seen_eq (b : S31) : ref32_Seen (toRef b) = life_Seen b := by
  unfold ref32_Seen life_Seen ref32_Seen_j1 life_Seen_j1 toRef; simp only [lett]; split <;> rfl
theorem like_eq (n : Nat) (b : S31) (hn : 20 < n) (h1 : b.f_Spec.f_Nets.length ≤ 20) (h2 : b.f_Spec.f_Vols.length ≤ 20) : law32_like n b (toRef b) = some true := by
  have hs : (life_Seen b).f_Spec = b.f_Spec := by unfold life_Seen life_Seen_j1; simp only [lett]; split <;> rfl
  have ha : ref27_Alike n b.f_Spec b.f_Spec = some true := by
    unfold ref27_Alike
    rw [same_eq n _ (by omega) h1, Option.bind_some]
    simp only [Bool.not_true, beq_self_eq_true, if_true]
    rw [same_eq n _ (by omega) h2, Option.bind_some]
    simp [lett]
  unfold law32_like
  simp only [seen_eq, next_eq, lett, hs, bne_self_eq_false, cond_false, beq_self_eq_true, if_true, ha, Option.bind_some, Bool.not_true, Bool.false_eq_true, if_false]
  simp [toRef]

theorem loop32 (m : Nat) (l : List S40) (hl : l.length ≤ 100) : ∀ (k i : Nat) (t : Int) (b : S31), i ≤ l.length → l.length < i + k → b.f_Spec.f_Nets.length ≤ 20 → b.f_Spec.f_Vols.length ≤ 20 → law32_LifePlays_l1 (m + 21) l k t i b (toRef b) = some (.inl ()) := by
  intro k
  induction k with
  | zero => intro i t b h1 h2; omega
  | succ k ih =>
    intro i t b h1 h2 h3 h4
    rw [law32_LifePlays_l1]
    by_cases hi : i < l.length
    · have hlt : (0 ≤ (i : Int) ∧ (i : Int) < (l.length : Int)) := by omega
      simp only [hlt, and_self, decide_true, if_true, lett]
      generalize hd : (l[Int.toNat (i : Int)]?.getD (S40.mk 0 0 0)) = d
      obtain ⟨r, e1, e2, e3⟩ := do_eq (m + 10) b (law32_later t d.f_Later) d
      rw [show m + 10 + 11 = m + 21 by omega] at e1 e2
      rw [show (S40.mk d.f_Kind d.f_Later d.f_N) = d from rfl, e1, Option.bind_some, e2, Option.bind_some]
      simp only [bne_self_eq_false, cond_false, beq_self_eq_true, if_true]
      rw [like_eq _ _ (by omega) (by rw [e3]; exact h3) (by rw [e3]; exact h4), Option.bind_some]
      simp only [Bool.not_true, Bool.false_eq_true, if_false]
      rw [wrap_id _ (by omega) (by omega)]
      exact ih (i + 1) _ r.1 hi (by omega) (by rw [e3]; exact h3) (by rw [e3]; exact h4)
    · rw [if_neg (by simp; omega)]

theorem law32_LifePlays_true (a0 : S25) (w0 : W26 a0) (a1 : Int) (w1 : IntKind.min .i64 ≤ a1 ∧ a1 ≤ IntKind.max .i64) (a2 : List S40) (w2 : W27 a2) : ∃ n, law32_LifePlays n a0 a1 a2 = some true := by
  refine ⟨a2.length + 21, ?_⟩
  unfold law32_LifePlays
  simp only [lett]
  split
  · rw [awake32]; rfl
  · rename_i hc
    simp only [Bool.cond_true_left, Bool.or_eq_true, decide_eq_true_eq, not_or] at hc
    obtain ⟨⟨h1, h2⟩, h3⟩ := hc
    have hb : ref32_New a1 a0 = toRef (life_New a1 a0) := rfl
    rw [hb, like_eq _ _ (by omega) (by show a0.f_Nets.length ≤ 20; omega) (by show a0.f_Vols.length ≤ 20; omega), Option.bind_some]
    simp only [Bool.not_true, Bool.false_eq_true, if_false]
    have := loop32 a2.length a2 (by omega) (a2.length + 21) 0 0 (life_New a1 a0) (by omega) (by omega) (by show a0.f_Nets.length ≤ 20; omega) (by show a0.f_Vols.length ≤ 20; omega)
    rw [show ((0 : Nat) : Int) = 0 from rfl] at this
    rw [this]
    simp only [Option.bind_some, Sum.elim_inl, awake32]
end Go.Proofs.Ytncggmddppbgeaa.M
