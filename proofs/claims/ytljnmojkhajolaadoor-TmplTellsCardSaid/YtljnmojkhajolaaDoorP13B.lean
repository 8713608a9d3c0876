/-
  Chapter 13: the parser's runs, as a relation.
-/
import Derived.Test.YtljnmojkhajolaaDoorP13
namespace Go.Proofs.YtljnmojkhajolaaDoor.M
open Go Go.Proofs.YtljnmojkhajolaaDoor.RX Go.Proofs.YtljnmojkhajolaaDoor.PL

/-- At depth d, from r on, with words w under way: the parts that come, and where they end. -/
inductive Ps : Nat → BS → BS → List TP → BS → Prop
  | done (d : Nat) (r w : BS) (h : r = [] ∨ (1 < d ∧ r.head? = some 125)) : Ps d r w (fl w) r
  | char (d : Nat) (c : UInt8) (r w : BS) (l : List TP) (r' : BS) (h1 : c ≠ 36) (h2 : ¬ (1 < d ∧ c = 125)) (h : Ps d r (w ++ [c]) l r') : Ps d (c :: r) w l r'
  | dollar (d : Nat) (r w : BS) (l : List TP) (r' : BS) (h : Ps d r (w ++ [36]) l r') : Ps d (36 :: 36 :: r) w l r'
  | plain (d : Nat) (r w : BS) (l : List TP) (r' : BS) (hd : d ≤ 8) (h0 : r.head? ≠ some 36) (h1 : r.head? ≠ some 123) (hv : varB (nmOf r) = true) (h : Ps d (afOf r) [] l r') :
      Ps d (36 :: r) w (fl w ++ S_tmpl_Part.mk (nmOf r) [] 1 [] :: l) r'
  | one (d : Nat) (r w r1 : BS) (l : List TP) (r' : BS) (hd : d ≤ 8) (hv : varB (nmOf r) = true) (he : afOf r = 125 :: r1) (h : Ps d r1 [] l r') :
      Ps d (36 :: 123 :: r) w (fl w ++ S_tmpl_Part.mk (nmOf r) [] 1 [] :: l) r'
  | sub (d : Nat) (r w : BS) (sb : List TP) (r1 : BS) (l : List TP) (r' : BS) (hd : d ≤ 8) (hv : varB (nmOf r) = true) (ho : (mk (afOf r)).1 ≠ 1) (hs : Ps (d + 1) ((afOf r).drop (mk (afOf r)).2) [] sb (125 :: r1)) (h : Ps d r1 [] l r') :
      Ps d (36 :: 123 :: r) w (fl w ++ S_tmpl_Part.mk (nmOf r) [] ((mk (afOf r)).1 : Int) sb :: l) r'

theorem drop_head {s : BS} {a : Nat} {c : UInt8} (h : (s.drop a).head? = some c) : ∃ h' : a < s.length, s[a] = c ∧ s.drop a = c :: s.drop (a + 1) := by
  by_cases h' : a < s.length
  · rw [drop_at h'] at h ⊢
    have : s[a] = c := by rw [List.head?_cons] at h; exact Option.some.inj h
    exact ⟨h', this, by rw [this]⟩
  · rw [List.drop_eq_nil_of_le (by omega)] at h; cases h
theorem mk_one {r : BS} (h : r.head? = some 125) : (mk r).1 = 1 := by
  cases r with
  | nil => cases h
  | cons c r => simp only [List.head?_cons, Option.some.injEq] at h; subst h; rfl

/-- What a run's result says. -/
def Fine (d : Nat) (s : BS) (a : Nat) (w : BS) (l : List TP) (rd : Rd) : Prop := rd.f_s = s ∧ (rd.f_e = 0 → ∃ b : Nat, rd.f_at = (b : Int) ∧ a ≤ b ∧ b ≤ s.length ∧ Ps d (s.drop a) w l (s.drop b))
theorem rd_eta (rd : Rd) : rd = S_tmpl_reader.mk rd.f_s rd.f_at rd.f_e := rfl
theorem loop_ok (R : Int → Rd → Option (List TP × Rd)) (n d : Nat) (s : BS) (hn : 100001 ≤ n) (hd1 : 1 ≤ d) (hd : d ≤ 9) (hs : s.length ≤ 100000)
    (hR : d ≤ 8 → ∀ a, a ≤ s.length → ∃ l rd, R ((d + 1 : Nat) : Int) (S_tmpl_reader.mk s (a : Int) 0) = some (l, rd) ∧ Fine (d + 1) s a [] l rd) :
    ∀ (k a : Nat) (out : List TP) (w : BS), a ≤ s.length → s.length - a < k → out.length + w.length ≤ a → ∃ l rd, tmpl_reader_parts__o0_g1_0 R n k (d : Int) out w (S_tmpl_reader.mk s (a : Int) 0) = some (out ++ l, rd) ∧ Fine d s a w l rd
  | 0, a, _, _, _, h, _ => by omega
  | k + 1, a, out, w, h1, h2, h3 => by
    by_cases h : a < s.length
    · rw [step R n k d out w s a h hs (by omega) (by omega)]
      by_cases hend : 1 < d ∧ s[a] = 125
      · rw [if_pos hend]
        exact ⟨fl w, _, rfl, rfl, fun _ => ⟨a, rfl, Nat.le_refl _, h1, .done d _ w (.inr ⟨hend.1, by rw [drop_at h, hend.2]; rfl⟩)⟩⟩
      rw [if_neg hend]
      by_cases h36 : s[a] = 36
      · rw [if_pos h36]
        -- what is left to do behind a variable
        have go : ∀ (p : TP) (rd : Rd), rd.f_s = s → (rd.f_e = 0 → ∃ b : Nat, rd.f_at = (b : Int) ∧ a < b ∧ b ≤ s.length ∧ ∀ l r', Ps d (s.drop b) [] l r' → Ps d (s.drop a) w (fl w ++ p :: l) r') →
            ∃ l rd', tmpl_reader_parts__o0_g1_0 R n k (d : Int) (out ++ fl w ++ [p]) [] rd = some (out ++ l, rd') ∧ Fine d s a w l rd' := by
          intro p rd e1 e2
          have hf := fl_len w
          obtain ⟨k, rfl⟩ : ∃ k', k = k' + 1 := ⟨k - 1, by omega⟩
          by_cases he : rd.f_e = 0
          · obtain ⟨b, b1, b2, b3, b4⟩ := e2 he
            rw [rd_eta rd, e1, b1, he]
            obtain ⟨l, rd', q1, q2, q3⟩ := loop_ok R n d s hn hd1 hd hs hR (k + 1) b (out ++ fl w ++ [p]) [] b3 (by omega) (by simp; omega)
            refine ⟨fl w ++ p :: l, rd', by rw [q1]; simp, q2, fun hz => ?_⟩
            obtain ⟨c, c1, c2, c3, c4⟩ := q3 hz
            exact ⟨c, c1, by omega, c3, b4 _ _ c4⟩
          · rw [rd_eta rd, stop_err R n k d _ [] rd.f_s rd.f_at rd.f_e he (by simp; omega)]
            exact ⟨fl w ++ [p], _, by simp [fl], e1, fun hz => absurd hz he⟩
        have hda : s.drop a = 36 :: s.drop (a + 1) := by rw [drop_at h, h36]
        by_cases q36 : (s.drop (a + 1)).head? = some 36
        · obtain ⟨g1, g2, g3⟩ := drop_head q36
          rw [j3_dollar R n d out w s (a + 1) g1 g2 hs (by omega), Option.bind_some]
          obtain ⟨l, rd, q1, q2, q3⟩ := loop_ok R n d s hn hd1 hd hs hR k (a + 1 + 1) out (w ++ [36]) (by omega) (by omega) (by simp; omega)
          refine ⟨l, rd, q1, q2, fun hz => ?_⟩
          obtain ⟨c, c1, c2, c3, c4⟩ := q3 hz
          exact ⟨c, c1, by omega, c3, by rw [hda, g3]; exact .dollar d _ w l _ c4⟩
        · by_cases q123 : (s.drop (a + 1)).head? = some 123
          · obtain ⟨g1, g2, g3⟩ := drop_head q123
            rw [j3_brace R n d _ out w s (a + 1) g1 g2 hs (by omega), ref_eq R n d s (a + 1 + 1) hn (by omega) hs (by omega)]
            have hlen := nm_len (s.drop (a + 1 + 1))
            rw [List.length_drop] at hlen
            by_cases h8 : 8 < d
            · rw [if_pos h8, Option.bind_some, Option.bind_some]
              exact go _ _ rfl fun hz => by cases hz
            rw [if_neg h8]
            cases hv : varB (nmOf (s.drop (a + 1 + 1))) with
            | false =>
              rw [if_neg (by decide), Option.bind_some, Option.bind_some]
              exact go _ _ rfl fun hz => by cases hz
            | true =>
              rw [if_pos rfl]
              have haf := af_drop s (a + 1 + 1)
              by_cases hm : (mk (afOf (s.drop (a + 1 + 1)))).1 = 1
              · rw [if_pos hm, Option.bind_some, Option.bind_some]
                refine go _ _ rfl fun hz => ?_
                by_cases hb : (afOf (s.drop (a + 1 + 1))).head? = some 125
                · have hb2 := hb
                  rw [haf] at hb2
                  obtain ⟨f1, f2, f3⟩ := drop_head hb2
                  refine ⟨a + 1 + 1 + (nmOf (s.drop (a + 1 + 1))).length + 1, rfl, by omega, by omega, fun l r' hp => ?_⟩
                  rw [hda, g3]
                  exact .one d _ w _ l r' (by omega) hv (by rw [haf]; exact f3) hp
                · rw [if_neg hb] at hz; cases hz
              · rw [if_neg hm]
                obtain ⟨m1, m2, m3, m4, m5⟩ := mk_len (afOf (s.drop (a + 1 + 1)))
                have m1' := m1
                rw [haf, List.length_drop] at m1'
                rw [← haf] at m1'
                obtain ⟨sb, rd, r1, r2, r3⟩ := hR (by omega) (a + 1 + 1 + (nmOf (s.drop (a + 1 + 1))).length + (mk (afOf (s.drop (a + 1 + 1)))).2) (by omega)
                rw [r1, Option.bind_some]
                simp only
                by_cases he : rd.f_e = 0
                · obtain ⟨b, b1, b2, b3, b4⟩ := r3 he
                  rw [rd_eta rd, r2, b1, he, end_eq n s b hs b3, Option.bind_some, Option.bind_some, Option.bind_some]
                  refine go _ _ rfl fun hz => ?_
                  by_cases hb : (s.drop b).head? = some 125
                  · obtain ⟨f1, f2, f3⟩ := drop_head hb
                    refine ⟨b + 1, rfl, by omega, by omega, fun l r' hp => ?_⟩
                    rw [hda, g3]
                    refine .sub d _ w sb _ l r' (by omega) hv hm ?_ hp
                    rw [← f3, haf, List.drop_drop, ← haf]
                    exact b4
                  · rw [if_neg hb] at hz; cases hz
                · rw [rd_eta rd, r2, end_err n s _ _ he, Option.bind_some, Option.bind_some, Option.bind_some]
                  exact go _ _ rfl fun hz => absurd hz he
          · rw [j3_plain R n d _ out w s (a + 1) (by omega) q36 q123 hs (by omega), plain_eq n d s (a + 1) hn hs (by omega)]
            have hlen := nm_len (s.drop (a + 1))
            rw [List.length_drop] at hlen
            by_cases h8 : 8 < d
            · rw [if_pos h8, Option.bind_some, Option.bind_some]
              exact go _ _ rfl fun hz => by cases hz
            rw [if_neg h8, Option.bind_some, Option.bind_some]
            refine go _ _ rfl fun hz => ?_
            cases hv : varB (nmOf (s.drop (a + 1))) with
            | false => rw [hv] at hz; cases hz
            | true =>
              refine ⟨a + 1 + (nmOf (s.drop (a + 1))).length, rfl, by omega, by omega, fun l r' hp => ?_⟩
              rw [hda]
              exact .plain d _ w l r' (by omega) q36 q123 hv (by rw [af_drop]; exact hp)
      · rw [if_neg h36]
        obtain ⟨l, rd, q1, q2, q3⟩ := loop_ok R n d s hn hd1 hd hs hR k (a + 1) out (w ++ [s[a]]) (by omega) (by omega) (by simp; omega)
        refine ⟨l, rd, q1, q2, fun hz => ?_⟩
        obtain ⟨c, c1, c2, c3, c4⟩ := q3 hz
        exact ⟨c, c1, by omega, c3, by rw [drop_at h]; exact .char d _ _ w l _ h36 hend c4⟩
    · have ha : a = s.length := by omega
      subst ha
      rw [stop_end R n k d out w s (by omega)]
      exact ⟨fl w, _, rfl, rfl, fun _ => ⟨s.length, rfl, Nat.le_refl _, Nat.le_refl _, .done d _ w (.inl (by simp))⟩⟩
theorem parts_ok (s : BS) (hs : s.length ≤ 100000) : ∀ (m d n : Nat), d + m = 9 → 1 ≤ d → 100002 + m ≤ n → ∀ a, a ≤ s.length → ∃ l rd, tmpl_reader_parts__o0 n (d : Int) (S_tmpl_reader.mk s (a : Int) 0) = some (l, rd) ∧ Fine d s a [] l rd
  | m, d, n, hdm, hd1, hn, a, ha => by
    obtain ⟨n, rfl⟩ : ∃ n', n = n' + 1 := ⟨n - 1, by omega⟩
    rw [parts_unf]
    obtain ⟨l, rd, q1, q2⟩ := loop_ok (tmpl_reader_parts__o0 n) n d s (by omega) hd1 (by omega) hs (fun h8 a' ha' => by
      obtain ⟨m, rfl⟩ : ∃ m', m = m' + 1 := ⟨m - 1, by omega⟩
      exact parts_ok s hs m (d + 1) n (by omega) (by omega) (by omega) a' ha') n a [] [] ha (by omega) (by simp)
    exact ⟨l, rd, by simpa using q1, q2⟩
  termination_by m => m
theorem Parse_ok (n : Nat) (s : BS) (hn : 200000 ≤ n) (hs : s.length ≤ 100000) : ∃ l e, tmpl_Parse n s = some (l, e) ∧ (e = 0 → Ps 1 s [] l []) ∧ (e ≠ 0 → l = []) := by
  obtain ⟨l, rd, q1, q2, q3⟩ := parts_ok s hs 8 1 n (by omega) (by omega) (by omega) 0 (by omega)
  unfold tmpl_Parse
  have q1 : tmpl_reader_parts__o0 n 1 (S_tmpl_reader.mk s 0 0) = some (l, rd) := q1
  rw [q1, Option.bind_some]
  by_cases he : rd.f_e = 0
  · rw [if_neg (by simp [he])]
    refine ⟨l, 0, rfl, fun _ => ?_, fun h => absurd rfl h⟩
    obtain ⟨b, b1, b2, b3, b4⟩ := q3 he
    rw [List.drop_zero] at b4
    have key : ∀ {d r w l r'}, Ps d r w l r' → d = 1 → r' = [] := by
      intro d r w l r' h
      induction h with
      | done d r w h => intro e; rcases h with h | h; exact h; omega
      | char _ _ _ _ _ _ _ _ _ ih => exact ih
      | dollar _ _ _ _ _ _ ih => exact ih
      | plain _ _ _ _ _ _ _ _ _ _ ih => exact ih
      | one _ _ _ _ _ _ _ _ _ _ ih => exact ih
      | sub _ _ _ _ _ _ _ _ _ _ _ _ _ ih => exact ih
    rw [key b4 rfl] at b4
    exact b4
  · rw [if_pos (by simpa using he)]
    exact ⟨[], rd.f_e, rfl, fun h => absurd h he, fun _ => rfl⟩

/-! ### a run that the relation tells of -/
theorem run_of {d : Nat} {r w : BS} {l : List TP} {r' : BS} (h : Ps d r w l r') : 1 ≤ d → d ≤ 9 → ∀ (n : Nat) (s : BS) (a : Nat), 100002 + (9 - d) ≤ n → s.length ≤ 100000 → a ≤ s.length → r = s.drop a →
    ∃ b, r' = s.drop b ∧ a ≤ b ∧ b ≤ s.length ∧ ∀ (k : Nat) (out : List TP), s.length - a < k → out.length + w.length ≤ a → tmpl_reader_parts__o0_g1_0 (tmpl_reader_parts__o0 n) n k (d : Int) out w (S_tmpl_reader.mk s (a : Int) 0) = some (out ++ l, S_tmpl_reader.mk s (b : Int) 0) := by
  induction h with
  | done d r w h =>
    intro hd1 hd n s a hn hs ha hr
    refine ⟨a, hr, Nat.le_refl _, ha, fun k out hk ho => ?_⟩
    obtain ⟨k, rfl⟩ : ∃ k', k = k' + 1 := ⟨k - 1, by omega⟩
    by_cases h' : a < s.length
    · have hr' := hr
      rw [drop_at h'] at hr'
      rcases h with h | h
      · rw [h] at hr'; cases hr'
      · have hc : s[a] = 125 := by have h2 := h.2; rw [hr', List.head?_cons] at h2; exact Option.some.inj h2
        rw [step _ n k d out w s a h' hs (by omega) (by omega), if_pos ⟨h.1, hc⟩]
    · have he : a = s.length := by omega
      subst he
      rw [stop_end _ n k d out w s (by omega)]
  | char d c r w l r' h1 h2 h ih =>
    intro hd1 hd n s a hn hs ha hr
    have h' : a < s.length := by
      apply Classical.byContradiction; intro hc
      rw [List.drop_eq_nil_of_le (by omega)] at hr; cases hr
    rw [drop_at h'] at hr
    simp only [List.cons.injEq] at hr
    obtain ⟨b, b1, b2, b3, b4⟩ := ih hd1 hd n s (a + 1) hn hs (by omega) hr.2
    refine ⟨b, b1, by omega, b3, fun k out hk ho => ?_⟩
    obtain ⟨k, rfl⟩ : ∃ k', k = k' + 1 := ⟨k - 1, by omega⟩
    rw [step _ n k d out w s a h' hs (by omega) (by omega), if_neg (by rw [← hr.1]; exact h2), if_neg (by rw [← hr.1]; exact h1), ← hr.1]
    exact b4 k out (by omega) (by simp; omega)
  | dollar d r w l r' h ih =>
    intro hd1 hd n s a hn hs ha hr
    have h' : a + 1 < s.length := by
      apply Classical.byContradiction; intro hc
      have := congrArg List.length hr
      simp at this; omega
    rw [drop_at (show a < s.length by omega), drop_at h'] at hr
    simp only [List.cons.injEq] at hr
    obtain ⟨b, b1, b2, b3, b4⟩ := ih hd1 hd n s (a + 1 + 1) hn hs (by omega) hr.2.2
    refine ⟨b, b1, by omega, b3, fun k out hk ho => ?_⟩
    obtain ⟨k, rfl⟩ : ∃ k', k = k' + 1 := ⟨k - 1, by omega⟩
    rw [step _ n k d out w s a (by omega) hs (by omega) (by omega), if_neg (by rw [← hr.1]; intro hc; exact absurd hc.2 (by decide)), if_pos hr.1.symm, j3_dollar _ n d out w s (a + 1) h' hr.2.1.symm hs (by omega), Option.bind_some]
    exact b4 k out (by omega) (by simp; omega)
  | plain d r w l r' hd8 h0 h1 hv h ih =>
    intro hd1 hd n s a hn hs ha hr
    have h' : a < s.length := by
      apply Classical.byContradiction; intro hc
      rw [List.drop_eq_nil_of_le (by omega)] at hr; cases hr
    rw [drop_at h'] at hr
    simp only [List.cons.injEq] at hr
    obtain ⟨hr1, rfl⟩ := hr
    have hlen := nm_len (s.drop (a + 1))
    rw [List.length_drop] at hlen
    have hf := fl_len w
    obtain ⟨b, b1, b2, b3, b4⟩ := ih hd1 hd n s (a + 1 + (nmOf (s.drop (a + 1))).length) hn hs (by omega) (af_drop s (a + 1))
    refine ⟨b, b1, by omega, b3, fun k out hk ho => ?_⟩
    obtain ⟨k, rfl⟩ : ∃ k', k = k' + 1 := ⟨k - 1, by omega⟩
    rw [step _ n k d out w s a h' hs (by omega) (by omega), if_neg (by rw [← hr1]; intro hc; exact absurd hc.2 (by decide)), if_pos hr1.symm, j3_plain _ n d _ out w s (a + 1) (by omega) h0 h1 hs (by omega), plain_eq n d s (a + 1) (by omega) hs (by omega), if_neg (by omega), Option.bind_some, Option.bind_some]
    simp only
    rw [if_pos hv, b4 k _ (by omega) (by simp; omega)]
    simp
  | one d r w r1 l r' hd8 hv he h ih =>
    intro hd1 hd n s a hn hs ha hr
    have h' : a + 1 < s.length := by
      apply Classical.byContradiction; intro hc
      have := congrArg List.length hr
      simp at this; omega
    rw [drop_at (show a < s.length by omega), drop_at h'] at hr
    simp only [List.cons.injEq] at hr
    obtain ⟨hr1, hr2, rfl⟩ := hr
    have hlen := nm_len (s.drop (a + 1 + 1))
    rw [List.length_drop] at hlen
    have hf := fl_len w
    have haf := af_drop s (a + 1 + 1)
    have hb : (s.drop (a + 1 + 1 + (nmOf (s.drop (a + 1 + 1))).length)).head? = some 125 := by rw [← haf, he]; rfl
    obtain ⟨f1, f2, f3⟩ := drop_head hb
    rw [haf, f3] at he
    simp only [List.cons.injEq, true_and] at he
    obtain ⟨b, b1, b2, b3, b4⟩ := ih hd1 hd n s (a + 1 + 1 + (nmOf (s.drop (a + 1 + 1))).length + 1) hn hs (by omega) he.symm
    refine ⟨b, b1, by omega, b3, fun k out hk ho => ?_⟩
    obtain ⟨k, rfl⟩ : ∃ k', k = k' + 1 := ⟨k - 1, by omega⟩
    rw [step _ n k d out w s a (by omega) hs (by omega) (by omega), if_neg (by rw [← hr1]; intro hc; exact absurd hc.2 (by decide)), if_pos hr1.symm, j3_brace _ n d _ out w s (a + 1) h' hr2.symm hs (by omega), ref_eq _ n d s (a + 1 + 1) (by omega) (by omega) hs (by omega),
      if_neg (by omega), if_pos hv, if_pos (mk_one (by rw [haf]; exact hb)), Option.bind_some, Option.bind_some]
    simp only
    rw [if_pos (by rw [haf]; exact hb), b4 k _ (by omega) (by simp; omega)]
    simp
  | sub d r w sb r1 l r' hd8 hv hm hsb h ihs ih =>
    intro hd1 hd n s a hn hs ha hr
    have h' : a + 1 < s.length := by
      apply Classical.byContradiction; intro hc
      have := congrArg List.length hr
      simp at this; omega
    rw [drop_at (show a < s.length by omega), drop_at h'] at hr
    simp only [List.cons.injEq] at hr
    obtain ⟨hr1, hr2, rfl⟩ := hr
    have hlen := nm_len (s.drop (a + 1 + 1))
    rw [List.length_drop] at hlen
    have hf := fl_len w
    have haf := af_drop s (a + 1 + 1)
    obtain ⟨m1, m2, m3, m4, m5⟩ := mk_len (afOf (s.drop (a + 1 + 1)))
    have m1' := m1
    rw [haf, List.length_drop] at m1'
    rw [← haf] at m1'
    obtain ⟨n, rfl⟩ : ∃ n', n = n' + 1 := ⟨n - 1, by omega⟩
    obtain ⟨b, b1, b2, b3, b4⟩ := ihs (by omega) (by omega) n s (a + 1 + 1 + (nmOf (s.drop (a + 1 + 1))).length + (mk (afOf (s.drop (a + 1 + 1)))).2) (by omega) hs (by omega) (by
      generalize (mk (afOf (s.drop (a + 1 + 1)))).2 = x
      rw [haf, List.drop_drop])
    have hb : (s.drop b).head? = some 125 := by rw [← b1]; rfl
    obtain ⟨f1, f2, f3⟩ := drop_head hb
    rw [f3] at b1
    simp only [List.cons.injEq, true_and] at b1
    obtain ⟨c, c1, c2, c3, c4⟩ := ih hd1 hd (n + 1) s (b + 1) hn hs (by omega) b1
    refine ⟨c, c1, by omega, c3, fun k out hk ho => ?_⟩
    obtain ⟨k, rfl⟩ : ∃ k', k = k' + 1 := ⟨k - 1, by omega⟩
    have hsub := b4 n [] (by omega) (by simp)
    rw [List.nil_append] at hsub
    rw [step _ (n + 1) k d out w s a (by omega) hs (by omega) (by omega), if_neg (by rw [← hr1]; intro hc; exact absurd hc.2 (by decide)), if_pos hr1.symm, j3_brace _ (n + 1) d _ out w s (a + 1) h' hr2.symm hs (by omega), ref_eq _ (n + 1) d s (a + 1 + 1) (by omega) (by omega) hs (by omega),
      if_neg (by omega), if_pos hv, if_neg hm, parts_unf, hsub, Option.bind_some]
    simp only
    rw [end_eq (n + 1) s b hs b3, Option.bind_some, Option.bind_some, Option.bind_some]
    simp only
    rw [if_pos hb, c4 k _ (by omega) (by simp; omega)]
    simp
theorem Parse_of (n : Nat) (s : BS) (l : List TP) (hn : 200000 ≤ n) (hs : s.length ≤ 100000) (h : Ps 1 s [] l []) : tmpl_Parse n s = some (l, 0) := by
  obtain ⟨n, rfl⟩ : ∃ n', n = n' + 1 := ⟨n - 1, by omega⟩
  obtain ⟨b, _, _, _, b4⟩ := run_of h (by omega) (by omega) n s 0 (by omega) hs (by omega) rfl
  have := b4 n [] (by omega) (by simp)
  unfold tmpl_Parse
  have e : tmpl_reader_parts__o0 (n + 1) 1 (S_tmpl_reader.mk s 0 0) = some (l, S_tmpl_reader.mk s (b : Int) 0) := by
    rw [parts_unf]; exact this
  rw [e, Option.bind_some]; rfl
end Go.Proofs.YtljnmojkhajolaaDoor.M
