/-
  Chapter 13: TmplBack.
-/
import Derived.Test.YtljnmojkhajolaaDoorP13D
namespace Go.Proofs.YtljnmojkhajolaaDoor.M
open Go Go.Proofs.YtljnmojkhajolaaDoor.RX Go.Proofs.YtljnmojkhajolaaDoor.PL

theorem awake13 : law13_awake 200000 = some true := by kernel_rfl
theorem Ps_words {d : Nat} {r w : BS} {l : List TP} {r' : BS} (h : Ps d r w l r') : d = 1 → (36 : UInt8) ∉ r → l = fl (w ++ r) := by
  induction h with
  | done d r w h =>
    intro hd _
    rcases h with h | h
    · rw [h, List.append_nil]
    · omega
  | char d c r w l r' h1 h2 h ih =>
    intro hd hm
    rw [ih hd (fun h => hm (List.mem_cons_of_mem _ h)), List.append_assoc]; rfl
  | dollar d r w l r' h ih => intro hd hm; exact absurd (List.mem_cons_self ..) hm
  | plain d r w l r' hd8 h0 h1 hv h ih => intro hd hm; exact absurd (List.mem_cons_self ..) hm
  | one d r w r1 l r' hd8 hv hf h ih => intro hd hm; exact absurd (List.mem_cons_self ..) hm
  | sub d r w sb r1 l r' hd8 hv ho hs h ihs ih => intro hd hm; exact absurd (List.mem_cons_self ..) hm
theorem dollars_l (n : Nat) (s t : BS) (v5 : List TP) (v7 : BS) (hs : s.length ≤ 100000) : ∀ (k i : Nat), i ≤ s.length → s.length - i < k → law13_TmplBack_l1 n s t v5 v7 k (((s.take i).count 36 : Nat) : Int) (i : Int) = some ((s.count 36 : Nat) : Int)
  | 0, i, _, h => by omega
  | k + 1, i, h1, h2 => by
    rw [law13_TmplBack_l1]
    by_cases h : i < s.length
    · have hc : (s.take (i + 1)).count 36 = (s.take i).count 36 + (if s[i] = 36 then 1 else 0) := by
        rw [List.take_succ_eq_append_getElem h, List.count_append, List.count_singleton]
        by_cases e : s[i] = 36 <;> simp [e]
      have hle : (s.take i).count 36 ≤ s.length := Nat.le_trans List.count_le_length (by rw [List.length_take]; omega)
      have ih := dollars_l n s t v5 v7 hs k (i + 1) (by omega) (by omega)
      rw [hc] at ih
      unfold law13_TmplBack_j2
      rw [if_pos (lt_i h), if_pos (in_i h), at_i h, b36]
      by_cases e : s[i] = 36
      · rw [if_pos (decide_eq_true e), Option.bind_some, wrap_s _ (by omega), wrap_s i (by omega)]
        rw [if_pos e] at ih; exact ih
      · rw [if_neg (by simpa using e), Option.bind_some, wrap_s i (by omega)]
        rw [if_neg e, Nat.add_zero] at ih; exact ih
    · have : i = s.length := by omega
      subst this
      rw [nlt_n, if_neg Bool.false_ne_true, List.take_length]
theorem Parse_T (n : Nat) (l : List TP) (hn : 200000 ≤ n) (hV : V 1 l) (hl : (T 9 l).length ≤ 100000) : tmpl_Parse n (T 9 l) = some (N [] l, 0) := by
  refine Parse_of n _ _ hn hl ?_
  have := V_Ps hV (by omega) (by omega) [] [] (.inl rfl)
  rw [List.append_nil] at this
  exact this
theorem law13_TmplBack_true (a0 : List UInt8) (_ : List.length a0 ≤ maxLen) (a1 : List UInt8) (_ : List.length a1 ≤ maxLen) : ∃ n, law13_TmplBack n a0 a1 = some true := by
  refine ⟨200000, ?_⟩
  unfold law13_TmplBack
  rw [awake13]
  by_cases hb : (bif (decide ((List.length a0 : Int) > 2000)) then true else (decide ((List.length a1 : Int) > 2000))) = true
  · rw [if_pos hb]; rfl
  · rw [if_neg hb]
    have h0 : a0.length ≤ 2000 := by
      apply Classical.byContradiction; intro h; apply hb
      rw [decide_eq_true (show (a0.length : Int) > 2000 by omega)]; rfl
    have h1 : a1.length ≤ 2000 := by
      apply Classical.byContradiction; intro h; apply hb
      rw [decide_eq_true (show (a1.length : Int) > 2000 by omega)]; simp
    obtain ⟨l, e, p1, p2, p3⟩ := Parse_ok 200000 a0 (by omega) (by omega)
    rw [p1, Option.bind_some]
    by_cases he : e = 0
    · have hP := p2 he
      obtain ⟨hV, hN⟩ := Ps_form hP
      have hlen : (T 9 l).length ≤ 3 * a0.length := by have := (Ps_len hP (by omega) (by omega)).2; simpa using this
      have hT := Text_eq 8 1 200000 l (by omega) (by omega) hV (by show (T 9 l).length ≤ _; omega) (by omega)
      have hw := Parse_T 200000 l (by omega) hV (by omega)
      rw [hN] at hw
      have hk := taken_eq 8 1 200000 l (by omega) (by omega) hV (by show (T 9 l).length ≤ _; omega) (by omega)
      have hS := rSame_eq 8 1 200000 l (by omega) (by omega) hV (by show (T 9 l).length ≤ _; omega) (by omega)
      have hD := dollars_l 200000 a0 a1 l (T 9 l) (by omega) 200000 0 (by omega) (by omega)
      have hD : law13_TmplBack_l1 200000 a0 a1 l (T 9 l) 200000 0 0 = some ((a0.count 36 : Nat) : Int) := hD
      obtain ⟨k, g, q1, q2, q3⟩ := Parse_ok 200000 a1 (by omega) (by omega)
      have hVk : V 1 k ∧ (T 9 k).length ≤ 6000 := by
        by_cases hg : g = 0
        · have hl : (T 9 k).length ≤ 3 * a1.length := by have := (Ps_len (q2 hg) (by omega) (by omega)).2; simpa using this
          exact ⟨(Ps_form (q2 hg)).1, by omega⟩
        · rw [q3 hg]; exact ⟨.nil 1, by rw [T_nil]; simp⟩
      have hTk := Text_eq 8 1 200000 k (by omega) (by omega) hVk.1 (by show (T 9 k).length ≤ _; omega) (by omega)
      have hVb := V_app hV hVk.1
      have hTb : T 9 (l ++ k) = T 9 l ++ T 9 k := T_app 8 l k
      have hPb := Parse_T 200000 (l ++ k) (by omega) hVb (by rw [hTb, List.length_append]; omega)
      have hTN : T 9 (N [] (l ++ k)) = T 9 l ++ T 9 k := by
        have := T_N 8 (l ++ k) []
        rw [this, hTb]; rfl
      have hTB := Text_eq 8 1 200000 (N [] (l ++ k)) (by omega) (by omega) (V_N hVb [] (by simp)) (by show (T 9 _).length ≤ _; rw [hTN, List.length_append]; omega) (by omega)
      rw [hTN] at hTB
      rw [hTb] at hPb
      have z : ((0 : Int) != 0) = false := rfl
      have z2 : ((0 : Int) == 0) = true := rfl
      subst he
      have f1 : decide (((List.length (T 9 l) + List.length (T 9 k) : Nat) : Int) ≤ 9223372036854775807) = true := str_fits (by omega)
      simp only [z, Bool.false_eq_true, if_false, hT, Option.bind_some, hw, hk, hS, hD, beq_self_eq_true, if_true, cond_false, Bool.not_true, q1, hTk, f1, hPb, z2, hTB]
      cases hg : (g != 0)
      all_goals simp only [Bool.false_eq_true, if_false, if_true, Option.bind_some, cond_true]
      all_goals
        by_cases hc : ((((a0.count 36 : Nat) : Int)) == 0) = true
        · have hcc : a0.count 36 = 0 := by simpa using hc
          have hl := Ps_words hP rfl (List.count_eq_zero.1 hcc)
          rw [List.nil_append] at hl
          unfold fl at hl
          by_cases ha : a0 = []
          · rw [if_pos ha] at hl
            subst hl; subst ha
            simp [lett]
          · rw [if_neg ha] at hl
            subst hl
            simp only [hcc]
            simp [lett]
        · have hc' : ((((a0.count 36 : Nat) : Int)) == 0) = false := by simpa using hc
          simp only [hc', Bool.false_eq_true, cond_false, lett]
          simp [lett]
    · have hz : (e != 0) = true := by simpa using he
      simp only [hz, if_true]
      rfl
end Go.Proofs.YtljnmojkhajolaaDoor.M
