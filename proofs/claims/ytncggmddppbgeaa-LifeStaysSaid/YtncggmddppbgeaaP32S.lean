/-
  The plain law of LifeStays over the printed models.
-/
import Derived.Test.YtncggmddppbgeaaP32
namespace Go.Proofs.Ytncggmddppbgeaa.M
open Go.Proofs.Ytncggmddppbgeaa.RX

/-- What is known of the box behind i deeds. -/
structure Inv (p : S25) (i : Int) (rests : Bool) (b : S31) : Prop where
  spec : b.f_Spec = p
  state : b.f_State = 1 ∨ b.f_State = 2 ∨ b.f_State = 3
  runs : 0 ≤ b.f_Runs ∧ b.f_Runs ≤ i
  ran : b.f_State ≠ 1 → 1 ≤ b.f_Runs
  never : b.f_State ≠ 3 → b.f_At = -1
  due : b.f_At ≠ -1 → p.f_Restart ≠ 0 ∧ (p.f_Restart = 2 → p.f_Tries > 0 → b.f_Done < p.f_Tries)
  done : 0 ≤ b.f_Done ∧ b.f_Done ≤ i
  lim : p.f_Restart = 2 → p.f_Tries > 0 → b.f_Done ≤ p.f_Tries
  no : p.f_Restart = 0 → b.f_Done = 0
  rest : rests = true → b.f_State ≠ 2 ∧ b.f_At = -1

/-- What a deed does. -/
structure Step (p : S25) (i : Int) (rests : Bool) (k : Int) (b : S31) (r : S31 × Int × Int) : Prop where
  inv : Inv p (i + 1) (if r.2.2 = 0 ∧ k = 2 then true else if r.2.2 = 0 ∧ k = 0 then false else rests) r.1
  up : b.f_Runs ≤ r.1.f_Runs ∧ r.1.f_Runs ≤ b.f_Runs + 1
  what : (if r.2.2 = 0 ∧ k = 2 then true else if r.2.2 = 0 ∧ k = 0 then false else rests) = true → r.2.1 ≠ 2
variable {p : S25} {i : Int} {rests : Bool} {b : S31}
theorem Inv.weak (h : Inv p i rests b) : Inv p (i + 1) rests b := ⟨h.spec, h.state, by have := h.runs; omega, h.ran, h.never, h.due, by have := h.done; omega, h.lim, h.no, h.rest⟩
theorem Inv.forget (h : Inv p i rests b) : Inv p i false b := ⟨h.spec, h.state, h.runs, h.ran, h.never, h.due, h.done, h.lim, h.no, fun x => by cases x⟩

theorem step_start (h : Inv p i rests b) (hi : 0 ≤ i ∧ i ≤ 100) (t : Int) : Step p i rests 0 b ((life_Start b t).1, 0, (life_Start b t).2) := by
  unfold life_Start life_run
  simp only [lett]
  by_cases h2 : b.f_State = 2
  · simp only [h2, beq_self_eq_true, if_true]
    exact ⟨by simpa using h.weak, by simp; omega, by simp⟩
  · have e2 : (b.f_State == 2) = false := by simpa using h2
    have hr := h.runs
    have hw : IntKind.wrap .i64 (b.f_Runs + 1) = b.f_Runs + 1 := wrap_id _ (by omega) (by omega)
    simp only [e2, Bool.false_eq_true, if_false, hw]
    refine ⟨?_, ?_, by simp⟩
    · simp
      exact ⟨h.spec, .inr (.inl rfl), by simp; omega, by simp; omega, by simp, by simp, by simp; omega, by simp; omega, by simp, by simp⟩
    · simp; omega
theorem step_stop (h : Inv p i rests b) (hi : 0 ≤ i ∧ i ≤ 100) : Step p i rests 2 b ((life_Stop b).1, 0, (life_Stop b).2) := by
  unfold life_Stop life_Stop_j1
  simp only [lett]
  have hr := h.runs
  have hd := h.done
  by_cases h2 : b.f_State = 2
  · have e2 : (b.f_State == 2) = true := by simpa using h2
    simp only [e2, if_true, Sum.elim_inl]
    refine ⟨?_, by simp; omega, by simp⟩
    have := h.ran (by omega)
    exact ⟨h.spec, .inr (.inr rfl), by simp; omega, by simp; omega, by simp, by simp, by simp; omega, h.lim, h.no, by simp⟩
  · have e2 : (b.f_State == 2) = false := by simpa using h2
    by_cases h3 : b.f_At = -1
    · have e3 : (b.f_At == -1) = true := by simpa using h3
      simp only [e2, Bool.false_eq_true, if_false, e3, if_true, Sum.elim_inr]
      exact ⟨by simpa using h.weak, by simp; omega, by simp⟩
    · have e3 : (b.f_At == -1) = false := by simpa using h3
      simp only [e2, Bool.false_eq_true, if_false, e3, Sum.elim_inl]
      refine ⟨?_, by simp; omega, by simp⟩
      simp
      exact ⟨h.spec, h.state, by simp; omega, h.ran, by simp, by simp, by simp; omega, h.lim, h.no, by simp [h2]⟩
theorem step_exit (m : Nat) (h : Inv p i rests b) (hi : 0 ≤ i ∧ i ≤ 100) (t c : Int) (ht : 0 ≤ t ∧ t ≤ 100000000) : ∃ r, life_Exit (m + 11) b t c = some r ∧ Step p i rests 1 b (r.1, 0, r.2) := by
  unfold life_Exit life_Exit_j1
  simp only [lett]
  have hr := h.runs
  have hd := h.done
  by_cases h2 : b.f_State = 2
  · have e2 : (b.f_State != 2) = false := by simpa using h2
    have hran := h.ran (by omega)
    simp only [e2, Bool.false_eq_true, if_false]
    by_cases h3 : again_Due b.f_Spec.f_Restart b.f_Spec.f_Tries c b.f_Done false = true
    · simp only [if_pos h3]
      have hw := wrap_in (b.f_Done + 1)
      obtain ⟨v, h4, _⟩ := wait_eq m (IntKind.wrap .i64 (b.f_Done + 1)) hw.1 hw.2
      rw [h4]
      refine ⟨_, rfl, ?_, by simp; omega, ?_⟩
      · simp
        have hdue : p.f_Restart ≠ 0 ∧ (p.f_Restart = 2 → p.f_Tries > 0 → b.f_Done < p.f_Tries) := by
          rw [h.spec] at h3
          unfold again_Due at h3
          simp only [Bool.false_eq_true, if_false] at h3
          by_cases h5 : p.f_Restart = 2
          · simp [h5] at h3; omega
          · by_cases h6 : p.f_Restart = 0
            · simp [h6] at h3
            · exact ⟨h6, fun x => absurd x h5⟩
        exact ⟨h.spec, .inr (.inr rfl), by simp; omega, by simp; omega, by simp, fun _ => hdue, by simp; omega, h.lim, h.no, fun x => by have := (h.rest x).1; omega⟩
      · simp
    · simp only [if_neg h3]
      refine ⟨_, rfl, ?_, by simp; omega, by simp⟩
      simp
      exact ⟨h.spec, .inr (.inr rfl), by simp; omega, by simp; omega, by simp, by simp, by simp; omega, h.lim, h.no, fun x => by have := (h.rest x).1; omega⟩
  · have e2 : (b.f_State != 2) = true := by simpa using h2
    simp only [e2, if_true]
    exact ⟨_, rfl, by simpa using h.weak, by simp; omega, by simp⟩
theorem step_tick (h : Inv p i rests b) (hi : 0 ≤ i ∧ i ≤ 100) (t k : Int) (hk : k ≠ 0 ∧ k ≠ 2) : Step p i rests k b ((life_Tick b t).1, (life_Tick b t).2, 0) := by
  have hr := h.runs
  have hd := h.done
  have hw : IntKind.wrap .i64 (b.f_Runs + 1) = b.f_Runs + 1 := wrap_id _ (by omega) (by omega)
  have hw2 : IntKind.wrap .i64 (b.f_Done + 1) = b.f_Done + 1 := wrap_id _ (by omega) (by omega)
  unfold life_Tick life_run
  simp only [lett, hw, hw2]
  by_cases h1 : (bif life_Next b == -1 then true else decide (life_Next b > t)) = true
  · simp only [if_pos h1]
    exact ⟨by simpa [hk.1, hk.2] using h.weak, by simp; omega, by simp⟩
  · simp only [if_neg h1]
    by_cases h2 : b.f_State = 2
    · have e2 : (b.f_State == 2) = true := by simpa using h2
      simp only [e2, if_true]
      refine ⟨?_, by simp; omega, by simp⟩
      simp [hk.1, hk.2]
      have := h.weak
      exact ⟨this.spec, this.state, this.runs, this.ran, this.never, this.due, this.done, this.lim, this.no, this.rest⟩
    · have e2 : (b.f_State == 2) = false := by simpa using h2
      simp only [e2, Bool.false_eq_true, if_false]
      have hn : life_Next b ≠ -1 := by
        intro hh; apply h1; simp [hh]
      have hat : b.f_At ≠ -1 := by
        intro hh; apply hn; unfold life_Next; simp [e2, hh]
      have hdue := h.due hat
      refine ⟨?_, by simp; omega, ?_⟩
      · simp [hk.1, hk.2]
        exact ⟨h.spec, .inr (.inl rfl), by simp; omega, by simp; omega, by simp, by simp, by simp; omega, fun x y => by have := hdue.2 x y; simp; omega, fun x => absurd x hdue.1, fun x => absurd (h.rest x).2 hat⟩
      · simp [hk.1, hk.2]
        cases rests with
        | false => rfl
        | true => exact absurd (h.rest rfl).2 hat
theorem step_sick (h : Inv p i rests b) (x : Bool) (k : Int) (hk : k ≠ 0 ∧ k ≠ 2) : Step p i rests k b (life_Sick b x, 0, 0) := by
  unfold life_Sick
  have := h.weak
  refine ⟨?_, by simp; omega, by simp⟩
  simp [hk.1, hk.2]
  exact ⟨this.spec, this.state, this.runs, this.ran, this.never, this.due, this.done, this.lim, this.no, this.rest⟩
theorem step_do (m : Nat) (h : Inv p i rests b) (hi : 0 ≤ i ∧ i ≤ 100) (t : Int) (ht : 0 ≤ t ∧ t ≤ 100000000) (d : S40) : ∃ r, law32_do (m + 11) b t d = some r ∧ Step p i rests (Int.tmod d.f_Kind 9) b r := by
  unfold law32_do law32_do_j1 law32_do_j2
  have h9 : ((9 : Int) != 0) = true := by decide
  simp only [h9, if_true, lett]
  generalize Int.tmod d.f_Kind 9 = k
  by_cases h0 : k = 0
  · subst h0; simp only [beq_self_eq_true, if_true]; exact ⟨_, rfl, step_start h hi t⟩
  have e0 : (k == 0) = false := by simpa using h0
  by_cases h1 : k = 1
  · subst h1
    obtain ⟨r, h3, h4⟩ := step_exit m h hi t d.f_N ht
    simp only [e0, Bool.false_eq_true, if_false, beq_self_eq_true, if_true, h3]; exact ⟨_, rfl, h4⟩
  have e1 : (k == 1) = false := by simpa using h1
  by_cases h2 : k = 2
  · subst h2; simp only [e0, e1, Bool.false_eq_true, if_false, beq_self_eq_true, if_true]; exact ⟨_, rfl, step_stop h hi⟩
  have e2 : (k == 2) = false := by simpa using h2
  by_cases h3 : k = 3
  · subst h3; simp only [e0, e1, e2, Bool.false_eq_true, if_false, beq_self_eq_true, if_true]; exact ⟨_, rfl, step_sick h _ 3 (by omega)⟩
  have e3 : (k == 3) = false := by simpa using h3
  by_cases h4 : k = 4
  · subst h4; simp only [e0, e1, e2, e3, Bool.false_eq_true, if_false, beq_self_eq_true, if_true]; exact ⟨_, rfl, step_sick h _ 4 (by omega)⟩
  have e4 : (k == 4) = false := by simpa using h4
  simp only [e0, e1, e2, e3, e4, Bool.false_eq_true, if_false]
  exact ⟨_, rfl, step_tick h hi t k ⟨h0, h2⟩⟩
theorem later_in (t x : Int) (i : Nat) (ht : 0 ≤ t ∧ t ≤ 70000 * i) (hi : i ≤ 100) : 0 ≤ law32_later t x ∧ law32_later t x ≤ 70000 * (i + 1 : Nat) := by
  unfold law32_later
  by_cases h1 : x < 0
  · simp [h1]; omega
  · by_cases h2 : x > 70000
    · simp only [h1, h2, decide_true, decide_false, Bool.false_eq_true, if_false, if_true]; rw [wrap_id _ (by omega) (by omega)]; omega
    · simp only [h1, h2, decide_false, Bool.false_eq_true, if_false]; rw [wrap_id _ (by omega) (by omega)]; omega
theorem loop32S (m : Nat) (l : List S40) (hl : l.length ≤ 100) : ∀ (k i : Nat) (t : Int) (rests : Bool) (b : S31), i ≤ l.length → l.length < i + k → 0 ≤ t ∧ t ≤ 70000 * i → Inv p i rests b → law32_LifeStays_l1 (m + 11) l p k t rests i b = some (.inl ()) := by
  intro k
  induction k with
  | zero => intro i t rests b h1 h2; omega
  | succ k ih =>
    intro i t rests b h1 h2 ht I
    rw [law32_LifeStays_l1]
    by_cases hi : i < l.length
    · rw [if_pos (by simpa using hi)]
      have hlt : (0 ≤ (i : Int) ∧ (i : Int) < (l.length : Int)) := by omega
      have h9 : ((9 : Int) != 0) = true := by decide
      unfold law32_LifeStays_j2
      simp only [hlt, and_self, decide_true, if_true, lett]
      generalize hd : (l[Int.toNat (i : Int)]?.getD (S40.mk 0 0 0)) = d
      have hlat := later_in t d.f_Later i ht (by omega)
      obtain ⟨r, e1, st⟩ := step_do (p := p) m I (by omega) (law32_later t d.f_Later) (by omega) d
      rw [show (S40.mk d.f_Kind d.f_Later d.f_N) = d from rfl, e1, Option.bind_some]
      have e2 : law32_LifeStays_j3 (m + 11) l (law32_later t d.f_Later) rests i r.2.1 r.2.2 (Int.tmod d.f_Kind 9) (bif (r.2.2 == 0) then ((Int.tmod d.f_Kind 9) == 2) else false) p r.1 b = some (if r.2.2 = 0 ∧ (Int.tmod d.f_Kind 9) = 2 then true else if r.2.2 = 0 ∧ (Int.tmod d.f_Kind 9) = 0 then false else rests) := by
        unfold law32_LifeStays_j3
        simp only [Bool.cond_false_right, Bool.and_eq_true, beq_iff_eq]
        split
        · rfl
        · split <;> rfl
      rw [if_pos (by decide), e2, Option.bind_some]
      obtain ⟨J, up, wh⟩ := st
      generalize (if r.2.2 = 0 ∧ (Int.tmod d.f_Kind 9) = 2 then true else if r.2.2 = 0 ∧ (Int.tmod d.f_Kind 9) = 0 then false else rests) = rests' at J wh
      have hr := I.runs
      rw [wrap_id (b.f_Runs + 1) (by omega) (by omega), if_neg, if_neg]
      · simp only [Option.bind_some, Sum.elim_inl]
        rw [wrap_id _ (by omega) (by omega)]
        exact ih (i + 1) _ rests' r.1 hi (by omega) hlat (by exact_mod_cast J)
      · simp only [Bool.cond_true_left, Bool.cond_false_right, Bool.or_eq_true, Bool.and_eq_true, beq_iff_eq, decide_eq_true_eq, not_or, not_and]
        refine ⟨fun h3 h4 => ?_, fun h3 => ?_⟩
        · have := J.lim h3.1 h3.2; omega
        · have := J.no h3; omega
      · simp only [Bool.cond_true_left, Bool.cond_false_right, Bool.or_eq_true, Bool.and_eq_true, beq_iff_eq, bne_iff_ne, decide_eq_true_eq, not_or, not_and]
        refine ⟨⟨⟨fun h3 => ⟨(J.rest h3).1, wh h3⟩, by omega⟩, by omega⟩, fun h3 => ?_⟩
        have := J.ran h3; omega
    · rw [if_neg (by simp; omega)]

theorem law32_LifeStays_true (a0 : S25) (w0 : W26 a0) (a1 : List S40) (w1 : W27 a1) : ∃ n, law32_LifeStays n a0 a1 = some true := by
  refine ⟨a1.length + 11, ?_⟩
  unfold law32_LifeStays
  simp only [lett]
  split
  · rw [awake32]; rfl
  · rename_i hc
    simp only [decide_eq_true_eq] at hc
    have := loop32S (p := a0) a1.length a1 (by omega) (a1.length + 11) 0 0 false (life_New 1 a0) (by omega) (by omega) (by omega)
      ⟨rfl, .inl rfl, by simp [life_New], by simp [life_New], by simp [life_New], by simp [life_New], by simp [life_New], by simp [life_New]; omega, by simp [life_New], by simp⟩
    rw [show ((0 : Nat) : Int) = 0 from rfl] at this
    rw [this]
    simp only [Option.bind_some, Sum.elim_inl, awake32]
end Go.Proofs.Ytncggmddppbgeaa.M
