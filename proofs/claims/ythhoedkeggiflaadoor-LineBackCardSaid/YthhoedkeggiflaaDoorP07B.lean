/-
  Chapter 7: LineBack. Lines that were split, joined, are split into the same.
-/
import Derived.Test.YthhoedkeggiflaaDoorP07
namespace Go.Proofs.YthhoedkeggiflaaDoor.M
open Go Go.Proofs.YthhoedkeggiflaaDoor.RX Go.Proofs.YthhoedkeggiflaaDoor.PL

/-! ### a scan looks no further than where it ends -/
theorem uesc_take {t : BS} {b : UInt8} {l m : Nat} (h : uesc t = some (b, l)) (hm : l ≤ m + 1) : uesc (t.take m) = some (b, l) := by
  have hl := uesc_len h
  obtain ⟨m, rfl⟩ : ∃ m', m = m' + 1 := ⟨m - 1, by omega⟩
  cases t with
  | nil => cases h
  | cons d r =>
    rw [List.take_succ_cons]
    simp only [uesc] at h ⊢
    by_cases h1 : d = 92 ∨ d = 34
    · rw [if_pos h1] at h ⊢; exact h
    rw [if_neg h1] at h ⊢
    by_cases h2 : d = 110
    · rw [if_pos h2] at h ⊢; exact h
    rw [if_neg h2] at h ⊢
    by_cases h3 : d = 116
    · rw [if_pos h3] at h ⊢; exact h
    rw [if_neg h3] at h ⊢
    by_cases h4 : d = 120
    · rw [if_pos h4] at h ⊢
      cases r with
      | nil => cases h
      | cons x r =>
        cases r with
        | nil => cases h
        | cons y r =>
          have : l = 4 := by
            simp only at h
            split at h
            · cases h; rfl
            · cases h
          subst this
          obtain ⟨m, rfl⟩ : ∃ m', m = m' + 2 := ⟨m - 2, by omega⟩
          exact h
    · rw [if_neg h4] at h; cases h
theorem take_at {s : BS} {i e : Nat} (h : i < e) (he : e ≤ s.length) : i < (s.take e).length ∧ ∀ (h1 : i < (s.take e).length) (h2 : i < s.length), (s.take e)[i] = s[i] := by
  refine ⟨by rw [List.length_take]; omega, fun h1 h2 => List.getElem_take⟩
theorem take_drop' (s : BS) (e i : Nat) : (s.take e).drop i = (s.drop i).take (e - i) := List.drop_take ..
theorem cut34 (n : Nat) (s : BS) (e : Nat) (hs : s.length ≤ 10000) (he : e ≤ s.length) : ∀ (k i : Nat) (acc : BS) (r : Sum Unit (BS × Int × Int)), s.length < k + i → acc.length ≤ i → quote_Scan_l1 n s 34 (k + 1) (i : Int) acc = some r → (finq r).2.2 = 0 → (finq r).2.1 ≤ (e : Int) → quote_Scan_l1 n (s.take e) 34 (k + 1) (i : Int) acc = some r
  | k, i, acc, r, h1, h2, hr, h0, hle => by
    obtain ⟨q, q', g1, _, _, g4⟩ := scan34 n s hs k i acc h1 h2
    rw [hr] at g1; cases g1
    obtain ⟨j, g5, g6, g7, _⟩ := g4 h0
    have hie : i < e := by omega
    have h : i < s.length := by omega
    obtain ⟨t1, t2⟩ := take_at hie he
    have hl : (s.take e).length = e := by rw [List.length_take]; omega
    rw [q34 n k s acc i (by omega) (by omega) h] at hr
    rw [q34 n k (s.take e) acc i (by omega) (by omega) t1, t2 t1 h]
    obtain ⟨k, rfl⟩ : ∃ k', k = k' + 1 := ⟨k - 1, by omega⟩
    by_cases hg : good s[i] = false
    · rw [if_pos hg] at hr; cases hr; cases h0
    · rw [if_neg hg] at hr ⊢
      by_cases c34 : s[i] = 34
      · rw [if_pos c34] at hr ⊢; exact hr
      · rw [if_neg c34] at hr ⊢
        by_cases c92 : s[i] = 92
        · rw [if_pos c92] at hr ⊢
          cases hu : uesc (s.drop (i + 1)) with
          | none => rw [hu] at hr; cases hr; cases h0
          | some p =>
            obtain ⟨b, l⟩ := p
            rw [hu] at hr
            have hlen := uesc_len hu
            rw [List.length_drop] at hlen
            obtain ⟨q, q', g1, _, _, g4⟩ := scan34 n s hs k (i + l) (acc ++ [b]) (by omega) (by simp; omega)
            simp only at hr
            rw [hr] at g1; cases g1
            obtain ⟨j', g5', g6', _, _⟩ := g4 h0
            have hu2 : uesc ((s.take e).drop (i + 1)) = some (b, l) := by rw [take_drop']; exact uesc_take hu (by omega)
            rw [hu2]
            exact cut34 n s e hs he k (i + l) (acc ++ [b]) r (by omega) (by simp; omega) hr h0 hle
        · rw [if_neg c92] at hr ⊢
          exact cut34 n s e hs he k (i + 1) (acc ++ [s[i]]) r (by omega) (by simp; omega) hr h0 hle
  termination_by k => k
theorem cut39 (n : Nat) (s : BS) (e : Nat) (hs : s.length ≤ 10000) (he : e ≤ s.length) : ∀ (k i : Nat) (acc : BS) (r : Sum Unit (BS × Int × Int)), s.length < k + i → acc.length ≤ i → quote_Scan_l1 n s 39 (k + 1) (i : Int) acc = some r → (finq r).2.2 = 0 → (finq r).2.1 ≤ (e : Int) → quote_Scan_l1 n (s.take e) 39 (k + 1) (i : Int) acc = some r
  | k, i, acc, r, h1, h2, hr, h0, hle => by
    obtain ⟨q, q', g1, _, _, g4⟩ := scan39 n s hs k i acc h1 h2
    rw [hr] at g1; cases g1
    obtain ⟨j, g5, g6, g7, _⟩ := g4 h0
    have hie : i < e := by omega
    have h : i < s.length := by omega
    obtain ⟨t1, t2⟩ := take_at hie he
    have hl : (s.take e).length = e := by rw [List.length_take]; omega
    rw [q39 n k s acc i (by omega) (by omega) h] at hr
    rw [q39 n k (s.take e) acc i (by omega) (by omega) t1, t2 t1 h]
    obtain ⟨k, rfl⟩ : ∃ k', k = k' + 1 := ⟨k - 1, by omega⟩
    by_cases hg : good s[i] = false
    · rw [if_pos hg] at hr; cases hr; cases h0
    · rw [if_neg hg] at hr ⊢
      by_cases c39 : s[i] = 39
      · rw [if_pos c39] at hr ⊢
        by_cases hx : (if h' : i + 1 < s.length then s[i + 1] == 39 else false) = true
        · rw [if_pos hx] at hr
          obtain ⟨q, q', g1, _, _, g4⟩ := scan39 n s hs k (i + 2) (acc ++ [39]) (by omega) (by simp; omega)
          rw [hr] at g1; cases g1
          obtain ⟨j', g5', g6', _, _⟩ := g4 h0
          have hx2 : (if h' : i + 1 < (s.take e).length then (s.take e)[i + 1] == 39 else false) = true := by
            have h' : i + 1 < s.length := by omega
            rw [dif_pos h'] at hx
            obtain ⟨u1, u2⟩ := take_at (s := s) (show i + 1 < e by omega) he
            rw [dif_pos u1, u2 u1 h']; exact hx
          rw [if_pos hx2]
          exact cut39 n s e hs he k (i + 2) (acc ++ [39]) r (by omega) (by simp; omega) hr h0 hle
        · rw [if_neg hx] at hr
          have hx2 : ¬ (if h' : i + 1 < (s.take e).length then (s.take e)[i + 1] == 39 else false) = true := by
            intro hy
            apply hx
            by_cases u1 : i + 1 < (s.take e).length
            · rw [dif_pos u1] at hy
              have h' : i + 1 < s.length := by omega
              obtain ⟨_, u2⟩ := take_at (s := s) (show i + 1 < e by omega) he
              rw [u2 u1 h'] at hy
              rw [dif_pos h']; exact hy
            · rw [dif_neg u1] at hy; cases hy
          rw [if_neg hx2]; exact hr
      · rw [if_neg c39] at hr ⊢
        exact cut39 n s e hs he k (i + 1) (acc ++ [s[i]]) r (by omega) (by simp; omega) hr h0 hle
  termination_by k => k
/-- A scan that ends well within the first e bytes is the scan of these alone. -/
theorem scan_cut (n : Nat) (s : BS) (i e : Nat) (r : BS × Int × Int) (hn : 20000 ≤ n) (hs : s.length ≤ 10000) (he : e ≤ s.length) (h : i < e) (hr : quote_Scan n s (i : Int) = some r) (h0 : r.2.2 = 0) (hle : r.2.1 ≤ (e : Int)) : quote_Scan n (s.take e) (i : Int) = some r := by
  obtain ⟨n, rfl⟩ : ∃ m, n = m + 1 := ⟨n - 1, by omega⟩
  have hi : i < s.length := by omega
  obtain ⟨t1, t2⟩ := take_at h he
  have t2 := t2 t1 hi
  have hl : (s.take e).length = e := by rw [List.length_take]; omega
  unfold quote_Scan at hr ⊢
  have d1 : decide ((i : Int) < 0) = false := decide_eq_false (by omega)
  have d2 : decide ((i : Int) ≥ (s.length : Int)) = false := decide_eq_false (by omega)
  have d3 : decide ((i : Int) ≥ ((s.take e).length : Int)) = false := decide_eq_false (by omega)
  have n34 : ((s[i].toNat : Int) != 34) = !(decide (s[i] = 34)) := by rw [← b34]; rfl
  have n39 : ((s[i].toNat : Int) != 39) = !(decide (s[i] = 39)) := by rw [← b39]; rfl
  simp only [d1, d2, in_i hi, at_i hi, n34, n39, lett, wrap_s i (by omega), Bool.or_true, if_true, cond_false] at hr
  simp only [d1, d3, in_i t1, at_i t1, t2, n34, n39, lett, wrap_s i (by omega), Bool.or_true, if_true, cond_false]
  by_cases c34 : s[i] = 34
  · obtain ⟨q, q', h1, _, _, _⟩ := scan34 (n + 1) s hs n (i + 1) [] (by omega) (by simp)
    rw [c34] at hr ⊢
    have h1' : quote_Scan_l1 (n + 1) s ((34 : UInt8).toNat : Int) (n + 1) ((i + 1 : Nat) : Int) [] = some q := h1
    simp only [h1', decide_true, Bool.not_true, cond_false, Bool.false_eq_true, if_false, Option.bind_some] at hr
    have hq : finq q = r := by
      cases q with
      | inl _ => exact Option.some.inj hr
      | inr o => exact Option.some.inj hr
    have h2 := cut34 (n + 1) s e hs he n (i + 1) [] q (by omega) (by simp) h1 (by rw [hq]; exact h0) (by rw [hq]; exact hle)
    have h2' : quote_Scan_l1 (n + 1) (s.take e) ((34 : UInt8).toNat : Int) (n + 1) ((i + 1 : Nat) : Int) [] = some q := h2
    simp only [h2', decide_true, Bool.not_true, cond_false, Bool.false_eq_true, if_false, Option.bind_some]
    exact hr
  · by_cases c39 : s[i] = 39
    · obtain ⟨q, q', h1, _, _, _⟩ := scan39 (n + 1) s hs n (i + 1) [] (by omega) (by simp)
      rw [c39] at hr ⊢
      have e1 : decide ((39 : UInt8) = 34) = false := by decide
      have e2 : decide ((39 : UInt8) = 39) = true := by decide
      have h1' : quote_Scan_l1 (n + 1) s ((39 : UInt8).toNat : Int) (n + 1) ((i + 1 : Nat) : Int) [] = some q := h1
      simp only [h1', e1, e2, Bool.not_true, Bool.not_false, cond_true, Bool.false_eq_true, if_false, Option.bind_some] at hr
      have hq : finq q = r := by
        cases q with
        | inl _ => exact Option.some.inj hr
        | inr o => exact Option.some.inj hr
      have h2 := cut39 (n + 1) s e hs he n (i + 1) [] q (by omega) (by simp) h1 (by rw [hq]; exact h0) (by rw [hq]; exact hle)
      have h2' : quote_Scan_l1 (n + 1) (s.take e) ((39 : UInt8).toNat : Int) (n + 1) ((i + 1 : Nat) : Int) [] = some q := h2
      simp only [h2', e1, e2, Bool.not_true, Bool.not_false, cond_true, Bool.false_eq_true, if_false, Option.bind_some]
      exact hr
    · simp [c34, c39] at hr
      rw [← hr] at h0; cases h0

/-! ### what is said is said again -/
theorem say_at (n k : Nat) (s : BS) (i e : Nat) (hn : 20000 ≤ n) (hs : s.length ≤ 10000) (h : i < s.length) (he : e ≤ i) : ∃ r, quote_Scan n s (i : Int) = some r ∧ Nx s i r ∧
    line_say_g1_0 n (k + 1) s (i : Int) (e : Int) = (if rem s[i] (bef s i) = true then some (s.take e, true) else if quo s[i] (bef s i) = true then (if r.2.2 = 0 then line_say_g1_0 n k s r.2.1 r.2.1 else some ([], false))
      else if good s[i] = false then some ([], false) else if s[i] = 32 then line_say_g1_0 n k s ((i + 1 : Nat) : Int) (e : Int) else line_say_g1_0 n k s ((i + 1 : Nat) : Int) ((i + 1 : Nat) : Int)) := by
  have hne : ((i : Int) == (s.length : Int)) = false := by rw [eq_i]; exact decide_eq_false (by omega)
  obtain ⟨r, q1, q2, q3, q4⟩ := j3_eq n s i e hn h hs he
  refine ⟨r, q1, q3, ?_⟩
  have hchk : (!(((i : Int) == 0) == false) || decide (0 ≤ (IntKind.wrap .i64 ((i : Int) - 1)) ∧ (IntKind.wrap .i64 ((i : Int) - 1)) < (List.length s : Int))) = true := by
    by_cases h0 : 0 < i
    · rw [(prev_in h h0 (by omega)).1, Bool.or_true]
    · have : i = 0 := by omega
      subst this; rfl
  rw [line_say_g1_0, hne, if_neg Bool.false_ne_true, if_pos hchk, if_pos (in_i h), at_i h, q4]
  by_cases hr : rem s[i] (bef s i) = true
  · rw [if_pos hr, if_pos hr]; rfl
  · rw [if_neg hr, if_neg hr]
    by_cases hq : quo s[i] (bef s i) = true
    · rw [if_pos hq, if_pos hq]
      by_cases hz : r.2.2 = 0
      · have hz' : (r.2.2 != 0) = false := by rw [hz]; rfl
        rw [hz', if_neg Bool.false_ne_true, if_pos hz]; rfl
      · have hz' : (r.2.2 != 0) = true := by simpa using hz
        rw [hz', if_pos rfl, if_neg hz]; rfl
    · rw [if_neg hq, if_neg hq]
      cases hg : good s[i] with
      | false => rfl
      | true =>
        rw [if_neg (by decide : ¬ true = false), if_neg (by decide : ¬ true = false)]
        by_cases hb : s[i] = 32
        · rw [if_pos hb, if_pos hb]
          show line_say_g1_0 n k s (IntKind.wrap .i64 ((i : Int) + 1)) (e : Int) = _
          rw [wrap_s i (by omega)]
        · rw [if_neg hb, if_neg hb]
          show line_say_g1_0 n k s (IntKind.wrap .i64 ((i : Int) + 1)) ((i + 1 : Nat) : Int) = _
          rw [wrap_s i (by omega)]
theorem say_end (n k : Nat) (s : BS) (e : Nat) (he : e ≤ s.length) : line_say_g1_0 n (k + 1) s (s.length : Int) (e : Int) = some (s.take e, true) := by
  have heq : (((s.length : Nat) : Int) == (s.length : Int)) = true := by rw [eq_i]; exact decide_eq_true rfl
  rw [line_say_g1_0, heq, if_pos rfl, if_pos (le_i he), tn]
theorem bef_take {s : BS} {i e : Nat} (h : i < e) (he : e ≤ s.length) : bef (s.take e) i = bef s i := by
  unfold bef
  by_cases h0 : 0 < i
  · rw [if_pos h0, if_pos h0, List.getElem?_take_of_lt (by omega)]
  · rw [if_neg h0, if_neg h0]
theorem say_run (n : Nat) (s : BS) (hn : 20000 ≤ n) (hs : s.length ≤ 10000) : ∀ (k i e : Nat) (t : BS), i ≤ s.length → s.length - i < k → e ≤ i → s.take e = trimR (s.take i) → line_say_g1_0 n k s (i : Int) (e : Int) = some (t, true) →
    (∃ u, t = trimR u) ∧ ∃ E, e ≤ E ∧ E ≤ s.length ∧ t = s.take E ∧ (E = e ∨ (i < E ∧ line_say_g1_0 n k (s.take E) (i : Int) (e : Int) = some (t, true)))
  | 0, i, e, t, _, h, _, _, _ => by omega
  | k + 1, i, e, t, h1, h2, he, hinv, hr => by
    by_cases h : i < s.length
    · obtain ⟨r, q1, q2, q3⟩ := say_at n k s i e hn hs h he
      rw [q3] at hr
      by_cases hrem : rem s[i] (bef s i) = true
      · rw [if_pos hrem] at hr
        cases hr
        exact ⟨⟨_, hinv⟩, e, Nat.le_refl _, by omega, rfl, .inl rfl⟩
      · rw [if_neg hrem] at hr
        -- what a step of the run on a beginning is
        have again : ∀ E, i < E → E ≤ s.length → ∃ r', quote_Scan n (s.take E) (i : Int) = some r' ∧ line_say_g1_0 n (k + 1) (s.take E) (i : Int) (e : Int) = (if quo s[i] (bef s i) = true then (if r'.2.2 = 0 then line_say_g1_0 n k (s.take E) r'.2.1 r'.2.1 else some ([], false))
            else if good s[i] = false then some ([], false) else if s[i] = 32 then line_say_g1_0 n k (s.take E) ((i + 1 : Nat) : Int) (e : Int) else line_say_g1_0 n k (s.take E) ((i + 1 : Nat) : Int) ((i + 1 : Nat) : Int)) := by
          intro E hE hEs
          obtain ⟨t1, t2⟩ := take_at hE hEs
          obtain ⟨r', p1, _, p3⟩ := say_at n k (s.take E) i e hn (by rw [List.length_take]; omega) t1 he
          rw [t2 t1 h, bef_take hE hEs, if_neg hrem] at p3
          exact ⟨r', p1, p3⟩
        have ends : ∀ j, j ≤ s.length → j > i → line_say_g1_0 n k (s.take j) (j : Int) (j : Int) = some (s.take j, true) := by
          intro j hj hij
          obtain ⟨k, rfl⟩ : ∃ k', k = k' + 1 := ⟨k - 1, by omega⟩
          have hl : (s.take j).length = j := by rw [List.length_take]; omega
          have := say_end n k (s.take j) j (by omega)
          rw [hl, List.take_take, Nat.min_self] at this
          exact this
        by_cases hq : quo s[i] (bef s i) = true
        · rw [if_pos hq] at hr
          by_cases hz : r.2.2 = 0
          · rw [if_pos hz] at hr
            obtain ⟨j, f1, f2, f3, f4⟩ := q2 hz
            rw [f1] at hr
            have hj : j - 1 < s.length := by omega
            rw [List.getElem?_eq_getElem hj, Option.getD_some] at f4
            obtain ⟨hu, E, e1, e2, e3, e4⟩ := say_run n s hn hs k j j t f3 (by omega) (Nat.le_refl _) (by rw [show j = (j - 1) + 1 by omega, take_succ_at hj, trimR_snoc, if_neg f4]) hr
            refine ⟨hu, E, by omega, e2, e3, .inr ⟨by omega, ?_⟩⟩
            obtain ⟨r', p1, p2⟩ := again E (by omega) e2
            have hcut := scan_cut n s i E r hn hs e2 (by omega) q1 hz (by rw [f1]; omega)
            rw [hcut] at p1; cases p1
            rw [p2, if_pos hq, if_pos hz, f1]
            rcases e4 with rfl | ⟨_, e5⟩
            · rw [ends E e2 (by omega), e3]
            · exact e5
          · rw [if_neg hz] at hr; cases hr
        · rw [if_neg hq] at hr
          by_cases hg : good s[i] = false
          · rw [if_pos hg] at hr; cases hr
          · rw [if_neg hg] at hr
            by_cases hb : s[i] = 32
            · rw [if_pos hb] at hr
              obtain ⟨hu, E, e1, e2, e3, e4⟩ := say_run n s hn hs k (i + 1) e t (by omega) (by omega) (by omega) (by rw [take_succ_at h, trimR_snoc, if_pos hb]; exact hinv) hr
              refine ⟨hu, E, e1, e2, e3, ?_⟩
              rcases e4 with e4 | ⟨e4, e5⟩
              · exact .inl e4
              · refine .inr ⟨by omega, ?_⟩
                obtain ⟨r', _, p2⟩ := again E (by omega) e2
                rw [p2, if_neg hq, if_neg hg, if_pos hb]
                exact e5
            · rw [if_neg hb] at hr
              obtain ⟨hu, E, e1, e2, e3, e4⟩ := say_run n s hn hs k (i + 1) (i + 1) t (by omega) (by omega) (by omega) (by rw [take_succ_at h, trimR_snoc, if_neg hb]) hr
              refine ⟨hu, E, by omega, e2, e3, .inr ⟨by omega, ?_⟩⟩
              obtain ⟨r', _, p2⟩ := again E (by omega) e2
              rw [p2, if_neg hq, if_neg hg, if_neg hb]
              rcases e4 with rfl | ⟨_, e5⟩
              · rw [ends (i + 1) e2 (by omega), e3]
              · exact e5
    · have hi : i = s.length := by omega
      subst hi
      rw [say_end n k s e (by omega)] at hr
      cases hr
      exact ⟨⟨_, hinv⟩, e, Nat.le_refl _, by omega, rfl, .inl rfl⟩
theorem say_unf (n : Nat) (s : BS) (hn : 20000 ≤ n) : line_say n s = line_say_g1_0 n n s 0 0 := by
  unfold line_say
  obtain ⟨k, rfl⟩ : ∃ k, n = k + 1 := ⟨n - 1, by omega⟩
  have : line_say_g1_e (k + 1) (k + 1) s = line_say_g1_0 (k + 1) (k + 1) s 0 0 := by
    rw [line_say_g1_e, line_say_g1_0]; rfl
  rw [this]
  cases line_say_g1_0 (k + 1) (k + 1) s 0 0 <;> rfl
theorem trimR_last (u : BS) (h : trimR u ≠ []) : (trimR u).getLast h ≠ 32 := by
  have key : ∀ v : BS, ∀ h : (v.dropWhile (· == 32)).reverse ≠ [], (v.dropWhile (· == 32)).reverse.getLast h ≠ 32 := by
    intro v h
    rw [List.getLast_reverse]
    have hne : v.dropWhile (· == 32) ≠ [] := fun e => h (by rw [e]; rfl)
    have := List.head_dropWhile_not (fun x : UInt8 => x == 32) hne
    simpa using this
  exact key u.reverse h
/-- What a row says, says itself: it begins with no remark, and ends with no blank. -/
theorem say_fix (n : Nat) (s t : BS) (hn : 20000 ≤ n) (hs : s.length ≤ 10000) (h : line_say n s = some (t, true)) : line_say n t = some (t, true) ∧ t = s.take t.length ∧ t.length ≤ s.length ∧ (∀ hne : t ≠ [], t.getLast hne ≠ 32) ∧ t.head? ≠ some 35 := by
  rw [say_unf n s hn] at h
  obtain ⟨⟨u, hu⟩, E, _, e2, e3, e4⟩ := say_run n s hn hs n 0 0 t (by omega) (by omega) (by omega) rfl h
  have hl : t.length = E := by rw [e3, List.length_take]; omega
  refine ⟨?_, by rw [hl]; exact e3, by omega, fun hne => ?_, ?_⟩
  · rw [say_unf n t hn]
    rcases e4 with rfl | ⟨_, e5⟩
    · have : t = [] := List.eq_nil_of_length_eq_zero hl
      subst this
      obtain ⟨k, rfl⟩ : ∃ k, n = k + 1 := ⟨n - 1, by omega⟩
      exact say_end (k + 1) k [] 0 (by simp)
    · rw [← e3] at e5; exact e5
  · subst hu; exact trimR_last u hne
  · intro h35
    cases t with
    | nil => cases h35
    | cons c t =>
      simp only [List.head?_cons, Option.some.injEq] at h35
      subst h35
      have h0 : 0 < s.length := by simp at hl; omega
      have hc : s[0] = 35 := by
        have : (s.take E)[0]? = some 35 := by rw [← e3]; rfl
        rw [List.getElem?_take_of_lt (by simp at hl; omega), List.getElem?_eq_getElem h0] at this
        exact Option.some.inj this
      obtain ⟨k, rfl⟩ : ∃ k, n = k + 1 := ⟨n - 1, by omega⟩
      obtain ⟨r, _, _, q3⟩ := say_at (k + 1) k s 0 0 hn hs h0 (Nat.le_refl _)
      have q3' : line_say_g1_0 (k + 1) (k + 1) s 0 0 = _ := q3
      rw [h, if_pos (by rw [hc]; rfl)] at q3'
      cases q3'
end Go.Proofs.YthhoedkeggiflaaDoor.M
