import Derived.Test.YtefojkdckfidcaaDoorQPS10D
set_option linter.all false
namespace Go.Proofs.YtefojkdckfidcaaDoor.M
open Go Go.Proofs.YtefojkdckfidcaaDoor.RX Go.Proofs.YtefojkdckfidcaaDoor.PL
set_option maxRecDepth 100000
theorem rowOf_nl : ∀ s : BS, (10 : UInt8) ∉ (rowOf s).1 ∧ (s = (rowOf s).1 ++ 10 :: (rowOf s).2 ∨ (s = (rowOf s).1 ∧ (rowOf s).2 = []))
 | [] => ⟨by simp [rowOf, upto], .inr ⟨rfl, rfl⟩⟩
 | c :: s => by
  obtain ⟨h1, h2⟩ := rowOf_nl s
  rw [rowOf_cons]
  by_cases hc : c = 10
  ·rw [if_pos hc]; subst hc; exact ⟨by simp, .inl rfl⟩
  ·rw [if_neg hc]
   refine ⟨by simp only [List.mem_cons, not_or]; exact ⟨fun e => hc e.symm, h1⟩, ?_⟩
   rcases h2 with h2 | ⟨h2, h3⟩
   ·left; simp only [List.cons_append]; rw [← h2]
   ·right; simp only; rw [← h2]; exact ⟨rfl, h3⟩
theorem rowOf_app : ∀ (a b : BS), (10 : UInt8) ∉ a → rowOf (a ++ 10 :: b) = (a, b)
 | [], b, _ => by rw [List.nil_append, rowOf_cons, if_pos rfl]
 | c :: a, b, h => by
  simp only [List.mem_cons, not_or] at h
  rw [List.cons_append, rowOf_cons, if_neg (fun e => h.1 e.symm), rowOf_app a b h.2]
theorem sp_nil {n : Nat} {no : Nat} {ls : List S_line_Line} (h : Sp n [] no ls) : ls = [] := by
 cases h with
 | nil => rfl
 | skip _ _ _ hs => exact absurd rfl hs
 | line _ _ _ _ hs => exact absurd rfl hs
theorem uesc_take {t : BS} {b : UInt8} {l m : Nat} (h : uesc t = some (b, l)) (hm : l ≤ m + 1) : uesc (t.take m) = some (b, l) := by
 have hl := uesc_len h
 obtain ⟨m, rfl⟩ : ∃ m', m = m' + 1 := ⟨m - 1, by omega⟩
 cases t with
 | nil => cases h
 | cons d r =>
  rw [List.take_succ_cons]
  simp only [uesc] at h ⊢
  by_cases h1 : d = 92 ∨ d = 34
  ·rw [if_pos h1] at h ⊢; exact h
  rw [if_neg h1] at h ⊢
  by_cases h2 : d = 110
  ·rw [if_pos h2] at h ⊢; exact h
  rw [if_neg h2] at h ⊢
  by_cases h3 : d = 116
  ·rw [if_pos h3] at h ⊢; exact h
  rw [if_neg h3] at h ⊢
  by_cases h4 : d = 120
  ·rw [if_pos h4] at h ⊢
   cases r with
   | nil => cases h
   | cons x r =>
    cases r with
    | nil => cases h
    | cons y r =>
     have : l = 4 := by
      simp only at h
      split at h
      ·cases h; rfl
      ·cases h
     subst this
     obtain ⟨m, rfl⟩ : ∃ m', m = m' + 2 := ⟨m - 2, by omega⟩
     exact h
  ·rw [if_neg h4] at h; cases h
theorem take_at {s : BS} {i e : Nat} (h : i < e) (he : e ≤ s.length) : i < (s.take e).length ∧ ∀ (h1 : i < (s.take e).length) (h2 : i < s.length), (s.take e)[i] = s[i] := by
 refine ⟨by rw [List.length_take]; omega, fun h1 h2 => List.getElem_take⟩
theorem take_drop' (s : BS) (e i : Nat) : (s.take e).drop i = (s.drop i).take (e - i) := List.drop_take ..
theorem cut34 (n : Nat) (s : BS) (e : Nat) (hs : s.length ≤ 10000) (he : e ≤ s.length) : ∀ (k i : Nat) (acc : BS) (r : Sum Unit (BS × Int × Int)), s.length < k + i → acc.length ≤ i → quote_Scan_l1 n s 34 (k + 1) (i : Int) acc = some r → (finq r).2.2 = 0 → (finq r).2.1 ≤ (e : Int) → quote_Scan_l1 n (s.take e) 34 (k + 1) (i : Int) acc = some r
 | k, i, acc, r, h1, h2, hr, h0, hle => by
  obtain ⟨q, q', g1, _, _, g4⟩ := scan34 n s hs k i acc h1 h2
  rw [hr] at g1; cases g1
  obtain ⟨j, g5, g6, g7, _⟩ := g4 h0
  have hie : i < e := by omega
  have h : i < s.length := by omega
  obtain ⟨t1, t2⟩ := take_at hie he
  have hl : (s.take e).length = e := by rw [List.length_take]; omega
  rw [q34 n k s acc i (by omega) (by omega) h] at hr
  rw [q34 n k (s.take e) acc i (by omega) (by omega) t1, t2 t1 h]
  obtain ⟨k, rfl⟩ : ∃ k', k = k' + 1 := ⟨k - 1, by omega⟩
  by_cases hg : good s[i] = false
  ·rw [if_pos hg] at hr; cases hr; cases h0
  ·rw [if_neg hg] at hr ⊢
   by_cases c34 : s[i] = 34
   ·rw [if_pos c34] at hr ⊢; exact hr
   ·rw [if_neg c34] at hr ⊢
    by_cases c92 : s[i] = 92
    ·rw [if_pos c92] at hr ⊢
     cases hu : uesc (s.drop (i + 1)) with
     | none => rw [hu] at hr; cases hr; cases h0
     | some p =>
      obtain ⟨b, l⟩ := p
      rw [hu] at hr
      have hlen := uesc_len hu
      rw [List.length_drop] at hlen
      obtain ⟨q, q', g1, _, _, g4⟩ := scan34 n s hs k (i + l) (acc ++ [b]) (by omega) (by simp; omega)
      simp only at hr
      rw [hr] at g1; cases g1
      obtain ⟨j', g5', g6', _, _⟩ := g4 h0
      have hu2 : uesc ((s.take e).drop (i + 1)) = some (b, l) := by rw [take_drop']; exact uesc_take hu (by omega)
      rw [hu2]
      exact cut34 n s e hs he k (i + l) (acc ++ [b]) r (by omega) (by simp; omega) hr h0 hle
    ·rw [if_neg c92] at hr ⊢
     exact cut34 n s e hs he k (i + 1) (acc ++ [s[i]]) r (by omega) (by simp; omega) hr h0 hle
 termination_by k => k
theorem cut39 (n : Nat) (s : BS) (e : Nat) (hs : s.length ≤ 10000) (he : e ≤ s.length) : ∀ (k i : Nat) (acc : BS) (r : Sum Unit (BS × Int × Int)), s.length < k + i → acc.length ≤ i → quote_Scan_l1 n s 39 (k + 1) (i : Int) acc = some r → (finq r).2.2 = 0 → (finq r).2.1 ≤ (e : Int) → quote_Scan_l1 n (s.take e) 39 (k + 1) (i : Int) acc = some r
 | k, i, acc, r, h1, h2, hr, h0, hle => by
  obtain ⟨q, q', g1, _, _, g4⟩ := scan39 n s hs k i acc h1 h2
  rw [hr] at g1; cases g1
  obtain ⟨j, g5, g6, g7, _⟩ := g4 h0
  have hie : i < e := by omega
  have h : i < s.length := by omega
  obtain ⟨t1, t2⟩ := take_at hie he
  have hl : (s.take e).length = e := by rw [List.length_take]; omega
  rw [q39 n k s acc i (by omega) (by omega) h] at hr
  rw [q39 n k (s.take e) acc i (by omega) (by omega) t1, t2 t1 h]
  obtain ⟨k, rfl⟩ : ∃ k', k = k' + 1 := ⟨k - 1, by omega⟩
  by_cases hg : good s[i] = false
  ·rw [if_pos hg] at hr; cases hr; cases h0
  ·rw [if_neg hg] at hr ⊢
   by_cases c39 : s[i] = 39
   ·rw [if_pos c39] at hr ⊢
    by_cases hx : (if h' : i + 1 < s.length then s[i + 1] == 39 else false) = true
    ·rw [if_pos hx] at hr
     obtain ⟨q, q', g1, _, _, g4⟩ := scan39 n s hs k (i + 2) (acc ++ [39]) (by omega) (by simp; omega)
     rw [hr] at g1; cases g1
     obtain ⟨j', g5', g6', _, _⟩ := g4 h0
     have hx2 : (if h' : i + 1 < (s.take e).length then (s.take e)[i + 1] == 39 else false) = true := by
      have h' : i + 1 < s.length := by omega
      rw [dif_pos h'] at hx
      obtain ⟨u1, u2⟩ := take_at (s := s) (show i + 1 < e by omega) he
      rw [dif_pos u1, u2 u1 h']; exact hx
     rw [if_pos hx2]
     exact cut39 n s e hs he k (i + 2) (acc ++ [39]) r (by omega) (by simp; omega) hr h0 hle
    ·rw [if_neg hx] at hr
     have hx2 : ¬ (if h' : i + 1 < (s.take e).length then (s.take e)[i + 1] == 39 else false) = true := by
      intro hy
      apply hx
      by_cases u1 : i + 1 < (s.take e).length
      ·rw [dif_pos u1] at hy
       have h' : i + 1 < s.length := by omega
       obtain ⟨_, u2⟩ := take_at (s := s) (show i + 1 < e by omega) he
       rw [u2 u1 h'] at hy
       rw [dif_pos h']; exact hy
      ·rw [dif_neg u1] at hy; cases hy
     rw [if_neg hx2]; exact hr
   ·rw [if_neg c39] at hr ⊢
    exact cut39 n s e hs he k (i + 1) (acc ++ [s[i]]) r (by omega) (by simp; omega) hr h0 hle
 termination_by k => k
theorem scan_cut (n : Nat) (s : BS) (i e : Nat) (r : BS × Int × Int) (hn : 20000 ≤ n) (hs : s.length ≤ 10000) (he : e ≤ s.length) (h : i < e) (hr : quote_Scan n s (i : Int) = some r) (h0 : r.2.2 = 0) (hle : r.2.1 ≤ (e : Int)) : quote_Scan n (s.take e) (i : Int) = some r := by
 obtain ⟨n, rfl⟩ : ∃ m, n = m + 1 := ⟨n - 1, by omega⟩
 have hi : i < s.length := by omega
 obtain ⟨t1, t2⟩ := take_at h he
 have t2 := t2 t1 hi
 have hl : (s.take e).length = e := by rw [List.length_take]; omega
 unfold quote_Scan at hr ⊢
 have d1 : decide ((i : Int) < 0) = false := decide_eq_false (by omega)
 have d2 : decide ((i : Int) ≥ (s.length : Int)) = false := decide_eq_false (by omega)
 have d3 : decide ((i : Int) ≥ ((s.take e).length : Int)) = false := decide_eq_false (by omega)
 have n34 : ((s[i].toNat : Int) != 34) = !(decide (s[i] = 34)) := by rw [← b34]; rfl
 have n39 : ((s[i].toNat : Int) != 39) = !(decide (s[i] = 39)) := by rw [← b39]; rfl
 simp only [d1, d2, in_i hi, at_i hi, n34, n39, lett, wrap_s i (by omega), Bool.or_true, if_true, cond_false] at hr
 simp only [d1, d3, in_i t1, at_i t1, t2, n34, n39, lett, wrap_s i (by omega), Bool.or_true, if_true, cond_false]
 by_cases c34 : s[i] = 34
 ·obtain ⟨q, q', h1, _, _, _⟩ := scan34 (n + 1) s hs n (i + 1) [] (by omega) (by simp)
  rw [c34] at hr ⊢
  have h1' : quote_Scan_l1 (n + 1) s ((34 : UInt8).toNat : Int) (n + 1) ((i + 1 : Nat) : Int) [] = some q := h1
  simp only [h1', decide_true, Bool.not_true, cond_false, Bool.false_eq_true, if_false, Option.bind_some] at hr
  have hq : finq q = r := by
   cases q with
   | inl _ => exact Option.some.inj hr
   | inr o => exact Option.some.inj hr
  have h2 := cut34 (n + 1) s e hs he n (i + 1) [] q (by omega) (by simp) h1 (by rw [hq]; exact h0) (by rw [hq]; exact hle)
  have h2' : quote_Scan_l1 (n + 1) (s.take e) ((34 : UInt8).toNat : Int) (n + 1) ((i + 1 : Nat) : Int) [] = some q := h2
  simp only [h2', decide_true, Bool.not_true, cond_false, Bool.false_eq_true, if_false, Option.bind_some]
  exact hr
 ·by_cases c39 : s[i] = 39
  ·obtain ⟨q, q', h1, _, _, _⟩ := scan39 (n + 1) s hs n (i + 1) [] (by omega) (by simp)
   rw [c39] at hr ⊢
   have e1 : decide ((39 : UInt8) = 34) = false := by decide
   have e2 : decide ((39 : UInt8) = 39) = true := by decide
   have h1' : quote_Scan_l1 (n + 1) s ((39 : UInt8).toNat : Int) (n + 1) ((i + 1 : Nat) : Int) [] = some q := h1
   simp only [h1', e1, e2, Bool.not_true, Bool.not_false, cond_true, Bool.false_eq_true, if_false, Option.bind_some] at hr
   have hq : finq q = r := by
    cases q with
    | inl _ => exact Option.some.inj hr
    | inr o => exact Option.some.inj hr
   have h2 := cut39 (n + 1) s e hs he n (i + 1) [] q (by omega) (by simp) h1 (by rw [hq]; exact h0) (by rw [hq]; exact hle)
   have h2' : quote_Scan_l1 (n + 1) (s.take e) ((39 : UInt8).toNat : Int) (n + 1) ((i + 1 : Nat) : Int) [] = some q := h2
   simp only [h2', e1, e2, Bool.not_true, Bool.not_false, cond_true, Bool.false_eq_true, if_false, Option.bind_some]
   exact hr
  ·simp [c34, c39] at hr
   rw [← hr] at h0; cases h0
theorem say_at (n k : Nat) (s : BS) (i e : Nat) (hn : 20000 ≤ n) (hs : s.length ≤ 10000) (h : i < s.length) (he : e ≤ i) : ∃ r, quote_Scan n s (i : Int) = some r ∧ Nx s i r ∧
  line_say_g1_0 n (k + 1) s (i : Int) (e : Int) = (if rem s[i] (bef s i) = true then some (s.take e, true) else if quo s[i] (bef s i) = true then (if r.2.2 = 0 then line_say_g1_0 n k s r.2.1 r.2.1 else some ([], false))
   else if good s[i] = false then some ([], false) else if s[i] = 32 then line_say_g1_0 n k s ((i + 1 : Nat) : Int) (e : Int) else line_say_g1_0 n k s ((i + 1 : Nat) : Int) ((i + 1 : Nat) : Int)) := by
 have hne : ((i : Int) == (s.length : Int)) = false := by rw [eq_i]; exact decide_eq_false (by omega)
 obtain ⟨r, q1, q2, q3, q4⟩ := say_j3 n s i e hn h hs he
 refine ⟨r, q1, q3, ?_⟩
 have hchk : (!(((i : Int) == 0) == false) || decide (0 ≤ (IntKind.wrap .i64 ((i : Int) - 1)) ∧ (IntKind.wrap .i64 ((i : Int) - 1)) < (List.length s : Int))) = true := by
  by_cases h0 : 0 < i
  ·rw [(prev_in h h0 (by omega)).1, Bool.or_true]
  ·have : i = 0 := by omega
   subst this; rfl
 rw [line_say_g1_0, hne, if_neg Bool.false_ne_true, if_pos hchk, if_pos (in_i h), at_i h, q4]
 by_cases hr : rem s[i] (bef s i) = true
 ·rw [if_pos hr, if_pos hr]; rfl
 ·rw [if_neg hr, if_neg hr]
  by_cases hq : quo s[i] (bef s i) = true
  ·rw [if_pos hq, if_pos hq]
   by_cases hz : r.2.2 = 0
   ·have hz' : (r.2.2 != 0) = false := by rw [hz]; rfl
    rw [hz', if_neg Bool.false_ne_true, if_pos hz]; rfl
   ·have hz' : (r.2.2 != 0) = true := by simpa using hz
    rw [hz', if_pos rfl, if_neg hz]; rfl
  ·rw [if_neg hq, if_neg hq]
   cases hg : good s[i] with
   | false => rfl
   | true =>
    rw [if_neg (by decide : ¬ true = false), if_neg (by decide : ¬ true = false)]
    by_cases hb : s[i] = 32
    ·rw [if_pos hb, if_pos hb]
     show line_say_g1_0 n k s (IntKind.wrap .i64 ((i : Int) + 1)) (e : Int) = _
     rw [wrap_s i (by omega)]
    ·rw [if_neg hb, if_neg hb]
     show line_say_g1_0 n k s (IntKind.wrap .i64 ((i : Int) + 1)) ((i + 1 : Nat) : Int) = _
     rw [wrap_s i (by omega)]
theorem say_end (n k : Nat) (s : BS) (e : Nat) (he : e ≤ s.length) : line_say_g1_0 n (k + 1) s (s.length : Int) (e : Int) = some (s.take e, true) := by
 have heq : (((s.length : Nat) : Int) == (s.length : Int)) = true := by rw [eq_i]; exact decide_eq_true rfl
 rw [line_say_g1_0, heq, if_pos rfl, if_pos (le_i he), tn]
theorem bef_take {s : BS} {i e : Nat} (h : i < e) (he : e ≤ s.length) : bef (s.take e) i = bef s i := by
 unfold bef
 by_cases h0 : 0 < i
 ·rw [if_pos h0, if_pos h0, List.getElem?_take_of_lt (by omega)]
 ·rw [if_neg h0, if_neg h0]
theorem say_run (n : Nat) (s : BS) (hn : 20000 ≤ n) (hs : s.length ≤ 10000) : ∀ (k i e : Nat) (t : BS), i ≤ s.length → s.length - i < k → e ≤ i → s.take e = trimR (s.take i) → line_say_g1_0 n k s (i : Int) (e : Int) = some (t, true) →
  (∃ u, t = trimR u) ∧ ∃ E, e ≤ E ∧ E ≤ s.length ∧ t = s.take E ∧ (E = e ∨ (i < E ∧ line_say_g1_0 n k (s.take E) (i : Int) (e : Int) = some (t, true)))
 | 0, i, e, t, _, h, _, _, _ => by omega
 | k + 1, i, e, t, h1, h2, he, hinv, hr => by
  by_cases h : i < s.length
  ·obtain ⟨r, q1, q2, q3⟩ := say_at n k s i e hn hs h he
   rw [q3] at hr
   by_cases hrem : rem s[i] (bef s i) = true
   ·rw [if_pos hrem] at hr
    cases hr
    exact ⟨⟨_, hinv⟩, e, Nat.le_refl _, by omega, rfl, .inl rfl⟩
   ·rw [if_neg hrem] at hr
    have again : ∀ E, i < E → E ≤ s.length → ∃ r', quote_Scan n (s.take E) (i : Int) = some r' ∧ line_say_g1_0 n (k + 1) (s.take E) (i : Int) (e : Int) = (if quo s[i] (bef s i) = true then (if r'.2.2 = 0 then line_say_g1_0 n k (s.take E) r'.2.1 r'.2.1 else some ([], false))
      else if good s[i] = false then some ([], false) else if s[i] = 32 then line_say_g1_0 n k (s.take E) ((i + 1 : Nat) : Int) (e : Int) else line_say_g1_0 n k (s.take E) ((i + 1 : Nat) : Int) ((i + 1 : Nat) : Int)) := by
     intro E hE hEs
     obtain ⟨t1, t2⟩ := take_at hE hEs
     obtain ⟨r', p1, _, p3⟩ := say_at n k (s.take E) i e hn (by rw [List.length_take]; omega) t1 he
     rw [t2 t1 h, bef_take hE hEs, if_neg hrem] at p3
     exact ⟨r', p1, p3⟩
    have ends : ∀ j, j ≤ s.length → j > i → line_say_g1_0 n k (s.take j) (j : Int) (j : Int) = some (s.take j, true) := by
     intro j hj hij
     obtain ⟨k, rfl⟩ : ∃ k', k = k' + 1 := ⟨k - 1, by omega⟩
     have hl : (s.take j).length = j := by rw [List.length_take]; omega
     have := say_end n k (s.take j) j (by omega)
     rw [hl, List.take_take, Nat.min_self] at this
     exact this
    by_cases hq : quo s[i] (bef s i) = true
    ·rw [if_pos hq] at hr
     by_cases hz : r.2.2 = 0
     ·rw [if_pos hz] at hr
      obtain ⟨j, f1, f2, f3, f4⟩ := q2 hz
      rw [f1] at hr
      have hj : j - 1 < s.length := by omega
      rw [List.getElem?_eq_getElem hj, Option.getD_some] at f4
      obtain ⟨hu, E, e1, e2, e3, e4⟩ := say_run n s hn hs k j j t f3 (by omega) (Nat.le_refl _) (by rw [show j = (j - 1) + 1 by omega, take_succ_at hj, trimR_snoc, if_neg f4]) hr
      refine ⟨hu, E, by omega, e2, e3, .inr ⟨by omega, ?_⟩⟩
      obtain ⟨r', p1, p2⟩ := again E (by omega) e2
      have hcut := scan_cut n s i E r hn hs e2 (by omega) q1 hz (by rw [f1]; omega)
      rw [hcut] at p1; cases p1
      rw [p2, if_pos hq, if_pos hz, f1]
      rcases e4 with rfl | ⟨_, e5⟩
      ·rw [ends E e2 (by omega), e3]
      ·exact e5
     ·rw [if_neg hz] at hr; cases hr
    ·rw [if_neg hq] at hr
     by_cases hg : good s[i] = false
     ·rw [if_pos hg] at hr; cases hr
     ·rw [if_neg hg] at hr
      by_cases hb : s[i] = 32
      ·rw [if_pos hb] at hr
       obtain ⟨hu, E, e1, e2, e3, e4⟩ := say_run n s hn hs k (i + 1) e t (by omega) (by omega) (by omega) (by rw [take_succ_at h, trimR_snoc, if_pos hb]; exact hinv) hr
       refine ⟨hu, E, e1, e2, e3, ?_⟩
       rcases e4 with e4 | ⟨e4, e5⟩
       ·exact .inl e4
       ·refine .inr ⟨by omega, ?_⟩
        obtain ⟨r', _, p2⟩ := again E (by omega) e2
        rw [p2, if_neg hq, if_neg hg, if_pos hb]
        exact e5
      ·rw [if_neg hb] at hr
       obtain ⟨hu, E, e1, e2, e3, e4⟩ := say_run n s hn hs k (i + 1) (i + 1) t (by omega) (by omega) (by omega) (by rw [take_succ_at h, trimR_snoc, if_neg hb]) hr
       refine ⟨hu, E, by omega, e2, e3, .inr ⟨by omega, ?_⟩⟩
       obtain ⟨r', _, p2⟩ := again E (by omega) e2
       rw [p2, if_neg hq, if_neg hg, if_neg hb]
       rcases e4 with rfl | ⟨_, e5⟩
       ·rw [ends (i + 1) e2 (by omega), e3]
       ·exact e5
  ·have hi : i = s.length := by omega
   subst hi
   rw [say_end n k s e (by omega)] at hr
   cases hr
   exact ⟨⟨_, hinv⟩, e, Nat.le_refl _, by omega, rfl, .inl rfl⟩
theorem say_unf (n : Nat) (s : BS) (hn : 20000 ≤ n) : line_say n s = line_say_g1_0 n n s 0 0 := by
 unfold line_say
 obtain ⟨k, rfl⟩ : ∃ k, n = k + 1 := ⟨n - 1, by omega⟩
 have : line_say_g1_e (k + 1) (k + 1) s = line_say_g1_0 (k + 1) (k + 1) s 0 0 := by
  rw [line_say_g1_e, line_say_g1_0]; rfl
 rw [this]
 cases line_say_g1_0 (k + 1) (k + 1) s 0 0 <;> rfl
theorem trimR_last (u : BS) (h : trimR u ≠ []) : (trimR u).getLast h ≠ 32 := by
 have key : ∀ v : BS, ∀ h : (v.dropWhile (· == 32)).reverse ≠ [], (v.dropWhile (· == 32)).reverse.getLast h ≠ 32 := by
  intro v h
  rw [List.getLast_reverse]
  have hne : v.dropWhile (· == 32) ≠ [] := fun e => h (by rw [e]; rfl)
  have := List.head_dropWhile_not (fun x : UInt8 => x == 32) hne
  simpa using this
 exact key u.reverse h
theorem say_fix (n : Nat) (s t : BS) (hn : 20000 ≤ n) (hs : s.length ≤ 10000) (h : line_say n s = some (t, true)) : line_say n t = some (t, true) ∧ t = s.take t.length ∧ t.length ≤ s.length ∧ (∀ hne : t ≠ [], t.getLast hne ≠ 32) ∧ t.head? ≠ some 35 := by
 rw [say_unf n s hn] at h
 obtain ⟨⟨u, hu⟩, E, _, e2, e3, e4⟩ := say_run n s hn hs n 0 0 t (by omega) (by omega) (by omega) rfl h
 have hl : t.length = E := by rw [e3, List.length_take]; omega
 refine ⟨?_, by rw [hl]; exact e3, by omega, fun hne => ?_, ?_⟩
 ·rw [say_unf n t hn]
  rcases e4 with rfl | ⟨_, e5⟩
  ·have : t = [] := List.eq_nil_of_length_eq_zero hl
   subst this
   obtain ⟨k, rfl⟩ : ∃ k, n = k + 1 := ⟨n - 1, by omega⟩
   exact say_end (k + 1) k [] 0 (by simp)
  ·rw [← e3] at e5; exact e5
 ·subst hu; exact trimR_last u hne
 ·intro h35
  cases t with
  | nil => cases h35
  | cons c t =>
   simp only [List.head?_cons, Option.some.injEq] at h35
   subst h35
   have h0 : 0 < s.length := by simp at hl; omega
   have hc : s[0] = 35 := by
    have : (s.take E)[0]? = some 35 := by rw [← e3]; rfl
    rw [List.getElem?_take_of_lt (by simp at hl; omega), List.getElem?_eq_getElem h0] at this
    exact Option.some.inj this
   obtain ⟨k, rfl⟩ : ∃ k, n = k + 1 := ⟨n - 1, by omega⟩
   obtain ⟨r, _, _, q3⟩ := say_at (k + 1) k s 0 0 hn hs h0 (Nat.le_refl _)
   have q3' : line_say_g1_0 (k + 1) (k + 1) s 0 0 = _ := q3
   rw [h, if_pos (by rw [hc]; rfl)] at q3'
   cases q3'
theorem sp_ok {n : Nat} (hn : 20000 ≤ n) {s : BS} {no : Nat} {ls : List S_line_Line} (h : Sp n s no ls) : s.length ≤ 10000 → (∀ x ∈ ls, LnOk x) ∧ ls.length ≤ s.length ∧ mu ls ≤ s.length + 1 := by
 induction h with
 | nil no => exact fun _ => ⟨fun x hx => (by cases hx), Nat.le_refl _, by simp [mu]⟩
 | skip s no ls hs h hr ih =>
  intro hl
  obtain ⟨g1, g2, g3⟩ := rowOf_len s
  have g2 := g2 hs
  obtain ⟨h1, h2, h3⟩ := ih (by omega)
  exact ⟨h1, by omega, by omega⟩
 | line s no t ls hs ht h hb hr ih =>
  intro hl
  obtain ⟨g1, g2, g3⟩ := rowOf_len s
  have g2 := g2 hs
  obtain ⟨h1, h2, h3⟩ := ih (by omega)
  have hil := ind_le (rowOf s).1
  obtain ⟨t', t1, _, t3⟩ := say_eq n ((rowOf s).1.drop (ind (rowOf s).1)) hn (by rw [List.length_drop]; omega)
  rw [h] at t1
  cases t1
  rw [List.length_drop] at t3
  have t3 : t.length ≤ (rowOf s).1.length - ind (rowOf s).1 := t3
  refine ⟨fun x hx => ?_, by rw [List.length_cons]; omega, ?_⟩
  ·rcases List.mem_cons.1 hx with rfl | hx
   ·exact ⟨by simp only; omega, by simp only; omega⟩
   ·exact h1 x hx
  ·show t.length + 1 + mu ls ≤ _
   rcases (rowOf_nl s).2 with e | ⟨e1, e2⟩
   ·have := congrArg List.length e
    rw [List.length_append, List.length_cons] at this
    omega
   ·have hls : ls = [] := by rw [e2] at hr; exact sp_nil hr
    have := congrArg List.length e1
    rw [hls]
    show t.length + 1 + 0 ≤ _
    omega
theorem LsOk.of {n : Nat} (hn : 20000 ≤ n) {s : BS} {ls : List S_line_Line} (h : Sp n s 0 ls) (hs : s.length ≤ 10000) : LsOk ls ∧ mu ls ≤ 10001 := by
 obtain ⟨h1, h2, h3⟩ := sp_ok hn h hs
 exact ⟨⟨by omega, h1⟩, by omega⟩
theorem split_o (n : Nat) (s : BS) : line_Split_o n s = line_Split n s := by
 have hl : ∀ (k : Nat) (v : BS) (o : List S_line_Line) (i : Int), line_Split_o_l1 n k v o i = line_Split_l1 n k v o i := by
  intro k
  induction k with
  | zero => intro v o i; rfl
  | succ k ih =>
   intro v o i
   rw [line_Split_o_l1, line_Split_l1]
   have hj : line_Split_o_j2 n v o i = line_Split_j2 n v o i := rfl
   rw [hj]
   congr 1
   ·congr 1
    funext o1
    cases o1 with
    | inl o1 => exact ih ..
    | inr o1 => rfl
 unfold line_Split_o line_Split
 rw [hl]
def pS (n : Nat) (ls : List Ln) : Nd × Int × Int :=
 match blkS n ls with
 | .inl e => (Z8, e.1, e.2)
 | .inr (_, x :: _) => (Z8, x.f_No, 3)
 | .inr (v, []) => bif (node_Right n v).getD false then (v, 0, 0) else (Z8, 0, 9)
theorem bparse (hV : ∀ n, 400000 ≤ n → ValTot n) (hVR : ∀ (n : Nat) (s : BS), 400000 ≤ n → s.length ≤ 10000 → Red 10000 (valS n s).1) (n : Nat) (s : BS) (ls : List Ln) (hn : 500000 ≤ n) (hs : line_Split n s = some (ls, 0, 0)) (hne : ls ≠ []) (hok : LsOk ls) (hmu : mu ls ≤ 10001) : block_Parse n s = some (pS n ls) := by
 have hlen : 0 < ls.length := List.length_pos_iff.2 hne
 have hlm := hok.1
 unfold block_Parse
 rw [split_o, hs]
 simp only [Option.bind_some]
 have e0 : ((List.length ls : Int) == 0) = false := by
  have : ¬ (List.length ls : Int) = 0 := by omega
  simpa using this
 rw [if_neg (by decide), e0, if_neg Bool.false_ne_true]
 obtain ⟨p, p1, p2⟩ := bblock hV hVR n 20000 (by omega) ls 0 0 hlen (by omega) hok (by rw [List.drop_zero]; omega)
 have p1 : block_reader_block__o0_s2 n (S_block_reader.mk ls 0 0 0) = some p := p1
 rw [p1]
 simp only [Option.bind_some]
 rw [List.drop_zero] at p2
 unfold pS block_Parse_j1
 have hgood := blkS_good hVR n ls hok (by omega)
 obtain ⟨v, ⟨l', at', no', e'⟩⟩ := p
 cases hr : blkS n ls with
 | inl e =>
  rw [hr] at p2
  obtain ⟨h1, h2, h3⟩ := p2
  simp only at h2 h3 ⊢
  have e1 : (e' == 0) = false := by rw [h2]; simpa using h1
  have e2 : (e' != 0) = true := by rw [h2]; simpa using h1
  rw [e1, cond_false, if_neg Bool.false_ne_true]
  simp only [Option.bind_some]
  rw [e2, if_pos rfl, h2, h3]
 | inr w =>
  obtain ⟨w, rest⟩ := w
  rw [hr] at p2
  obtain ⟨h1, h2, h3, a', h4, h5, h6, _⟩ := p2
  simp only at h1 h2 h3 h4 h5 h6 ⊢
  subst h1 h2 h4
  rw [show ((0 : Int) == 0) = true from rfl, cond_true]
  cases rest with
  | nil =>
   have hle : l'.length ≤ a' := by
    have := congrArg List.length h6
    rw [List.length_drop, List.length_nil] at this; omega
   rw [nlt_i hle, if_neg Bool.false_ne_true]
   simp only [Option.bind_some]
   obtain ⟨b, b1, _⟩ := node_Right_eq n v (((hgood v [] hr).1 12).1) (by omega)
   rw [if_neg (by decide), b1]
   cases b <;> rfl
  | cons x r =>
   have hlt : a' < l'.length := by
    rcases Nat.lt_or_ge a' l'.length with h | h
    ·exact h
    ·rw [List.drop_eq_nil_of_le h] at h6; cases h6
   have hx : l'[a'] = x := by
    rw [drop_at hlt] at h6
    exact (List.cons.inj h6).1
   rw [lt_i hlt, if_pos rfl, if_pos (in_i hlt), at_i hlt, hx, bfail _ _ _ rfl]
   rfl
theorem fitZ : Fit 12 Z8 := ⟨Nat.zero_le _, Nat.zero_le _, fun _ => rfl, fun _ => rfl, fun h => absurd h (by decide), fun _ => rfl, ⟨by decide, by decide⟩, fun x hx => (by cases hx)⟩
theorem pS_right (hVR : ∀ (n : Nat) (s : BS), 400000 ≤ n → s.length ≤ 10000 → Red 10000 (valS n s).1) (n : Nat) (ls : List Ln) (hn : 500000 ≤ n) (hok : LsOk ls) (hmu : mu ls ≤ 10001) : Fit 12 (pS n ls).1 ∧ ((pS n ls).2.2 = 0 → sz8 12 (pS n ls).1 ≤ 2000 ∧ Shk 10000 12 (pS n ls).1 ∧ (pS n ls).2.1 = 0 ∧ blkS n ls = .inr ((pS n ls).1, [])) ∧ ((pS n ls).2.2 ≠ 0 → (pS n ls).1 = Z8) := by
 have hgood := blkS_good hVR n ls hok (by omega)
 unfold pS
 cases hr : blkS n ls with
 | inl e =>
  refine ⟨fitZ, fun h => ?_, fun _ => rfl⟩
  have : ∀ (n : Nat) (ls : List Ln) (e : Int × Int), blkS n ls = .inl e → e.2 ≠ 0 := blkS_err
  exact (this n ls e hr h).elim
 | inr w =>
  obtain ⟨v, rest⟩ := w
  cases rest with
  | cons x r => exact ⟨fitZ, fun h => absurd h (show ¬ (3 : Int) = 0 by decide), fun _ => rfl⟩
  | nil =>
   simp only
   obtain ⟨b, b1, b2⟩ := node_Right_eq n v (((hgood v [] hr).1 12).1) (by omega)
   rw [b1, Option.getD_some]
   cases b with
   | false => exact ⟨fitZ, fun h => absurd h (show ¬ (9 : Int) = 0 by decide), fun _ => rfl⟩
   | true =>
    obtain ⟨g1, g2⟩ := b2.1 rfl
    exact ⟨g1, fun _ => ⟨g2, ((hgood v [] hr).1 12).2, rfl, rfl⟩, fun h => (h rfl).elim⟩
theorem valTot : ∀ n, 400000 ≤ n → ValTot n := fun n hn s hs => by
 obtain ⟨x, e, ok, p1, _⟩ := scalar_ref n s false hs (by omega)
 obtain ⟨y, f, q1, _⟩ := parse_ref n s hs hn
 exact ⟨⟨x, e, p1⟩, y, f, q1⟩
theorem valRed (n : Nat) (s : BS) (hn : 400000 ≤ n) (hs : s.length ≤ 10000) : Red 10000 (valS n s).1 := by
 unfold valS
 cases s with
 | nil => exact Red.null
 | cons c t =>
  simp only
  split
  ·obtain ⟨y, f, q1, _, _, q4⟩ := parse_ref n (c :: t) hs hn
   rw [q1]; exact q4.mono hs
  ·obtain ⟨x, e, ok, p1, _, _, _, p5⟩ := scalar_ref n (c :: t) false hs (by omega)
   rw [p1]; exact p5.mono hs
def fitB : Nat → Nd → Bool
 | 0, _ => false
 | d + 1, t => decide (t.f_Kids.length ≤ 2000) && decide (t.f_Keys.length ≤ 2000) && decide (t.f_Kind ≠ 1 → t.f_Text = []) && decide (t.f_Kind ≠ 3 → t.f_Keys = []) && decide (t.f_Kind = 3 → t.f_Keys.length = t.f_Kids.length ∧ t.f_Keys.Nodup) && (decide (t.f_Kind ≥ 2) || t.f_Kids.isEmpty) && decide (0 ≤ t.f_Kind ∧ t.f_Kind ≤ 3) && t.f_Kids.all (fitB d)
theorem fitB_fit : ∀ (d : Nat) (t : Nd), fitB d t = true → Fit d t
 | 0, _, h => by cases h
 | d + 1, t, h => by
  unfold fitB at h
  simp only [Bool.and_eq_true, decide_eq_true_eq, List.all_eq_true, Bool.or_eq_true, List.isEmpty_iff] at h
  obtain ⟨⟨⟨⟨⟨⟨⟨h1, h2⟩, h3⟩, h4⟩, h5⟩, h6⟩, h7⟩, h8⟩ := h
  exact ⟨h1, h2, h3, h4, h5, fun h => h6.resolve_left (by omega), h7, fun x hx => fitB_fit d x (h8 x hx)⟩
def n10 : Nd := S_api_Node.mk 3 [] [[97]] [S_api_Node.mk 2 [] [] [S_api_Node.mk 1 [120] [] [], S_api_Node.mk 3 [] [[98], [99]] [S_api_Node.mk 1 [49] [] [], S_api_Node.mk 2 [] [] [S_api_Node.mk 1 [50] [] []]]]]
theorem awake10 (n : Nat) (hn : 600000 ≤ n) : law10_awake n = some true := by
 obtain ⟨m, rfl⟩ : ∃ m, n = m + 60 := ⟨n - 60, by omega⟩
 have b1 : block_reader_block__o0_s2 (m + 60) (S_block_reader.mk [S_line_Line.mk 1 0 [97, 58], S_line_Line.mk 2 0 [45, 32, 120], S_line_Line.mk 3 0 [45, 32, 98, 58, 32, 49], S_line_Line.mk 4 2 [99, 58, 32, 91, 50, 93]] 0 0 0) = some (n10, S_block_reader.mk [S_line_Line.mk 1 0 [97, 58], S_line_Line.mk 2 2 [120], S_line_Line.mk 3 2 [98, 58, 32, 49], S_line_Line.mk 4 2 [99, 58, 32, 91, 50, 93]] 4 0 0) := by clear hn; kernel_rfl
 have s1 : line_Split_o (m + 60) [97, 58, 10, 45, 32, 120, 10, 45, 32, 98, 58, 32, 49, 10, 32, 32, 99, 58, 32, 91, 50, 93, 10] = some ([S_line_Line.mk 1 0 [97, 58], S_line_Line.mk 2 0 [45, 32, 120], S_line_Line.mk 3 0 [45, 32, 98, 58, 32, 49], S_line_Line.mk 4 2 [99, 58, 32, 91, 50, 93]], 0, 0) := by clear hn; kernel_rfl
 have v1 : block_Parse (m + 60) [97, 58, 10, 45, 32, 120, 10, 45, 32, 98, 58, 32, 49, 10, 32, 32, 99, 58, 32, 91, 50, 93, 10] = some (n10, 0, 0) := by
  unfold block_Parse
  rw [s1, Option.bind_some, if_neg (by decide), if_neg (by decide)]
  simp only
  rw [b1, Option.bind_some]
  simp only
  rw [node_Right_yes (m + 60) n10 (fitB_fit _ _ (by decide)) (by decide) (by omega)]
  rfl
 have v2 : block_Parse (m + 60) [97, 58, 32, 49, 10, 32, 32, 98, 58, 32, 50, 10] = some (Z8, 2, 3) := by clear hn; kernel_rfl
 unfold law10_awake
 rw [v1, v2]
 rfl
theorem ind_rep (m : Nat) (t : BS) (h : t.head? ≠ some 32) : ind (List.replicate m 32 ++ t) = m := by
 induction m with
 | zero =>
  cases t with
  | nil => rfl
  | cons c t =>
   rw [List.replicate_zero, List.nil_append, ind_cons, if_neg]
   intro e; subst e; exact h rfl
 | succ m ih => rw [List.replicate_succ, List.cons_append, ind_cons, if_pos rfl, ih]
def LR (k : Nat) (a b : Ln) : Prop := b.f_Text = a.f_Text ∧ b.f_Indent = (k : Int) * a.f_Indent
inductive LRs (k : Nat) : List Ln → List Ln → Prop
 | nil : LRs k [] []
 | cons {a b : Ln} {l m : List Ln} (h : LR k a b) (t : LRs k l m) : LRs k (a :: l) (b :: m)
theorem LRs.app {k : Nat} {l l' m m' : List Ln} (h : LRs k l l') (h' : LRs k m m') : LRs k (l ++ m) (l' ++ m') := by
 induction h with
 | nil => exact h'
 | cons h _ ih => exact .cons h ih
def NoRow (l : List Ln) : Prop := ∀ x ∈ l, rowQ x.f_Text = false
def RR (k : Nat) (o o' : Rs) : Prop :=
 match o, o' with
 | .inl e, .inl e' => e.2 = e'.2
 | .inr w, .inr w' => w.1 = w'.1 ∧ LRs k w.2 w'.2 ∧ NoRow w.2
 | _, _ => False
theorem lt_mul {k : Nat} (hk : 1 ≤ k) {a b : Int} : (k : Int) * a < (k : Int) * b ↔ a < b := Int.mul_lt_mul_left (by omega)
theorem eq_mul {k : Nat} (hk : 1 ≤ k) {a b : Int} : (k : Int) * a = (k : Int) * b ↔ a = b := Int.mul_eq_mul_left_iff (by omega)
theorem in_spread {k : Nat} (hk : 1 ≤ k) {B : List Ln → Rs} (hB : ∀ l l', LRs k l l' → NoRow l → RR k (B l) (B l')) {ind : Int} {b : Bool} {l l' : List Ln} (h : LRs k l l') (hn : NoRow l) : RR k (inS B ind b l) (inS B ((k : Int) * ind) b l') := by
 cases h with
 | nil => exact ⟨rfl, .nil, hn⟩
 | cons h t =>
  rename_i x y l m
  obtain ⟨h1, h2⟩ := h
  have hq := hn x List.mem_cons_self
  have hc : ((k : Int) * ind < y.f_Indent ∨ (b = true ∧ y.f_Indent = (k : Int) * ind ∧ rowQ y.f_Text = true)) ↔ (ind < x.f_Indent ∨ (b = true ∧ x.f_Indent = ind ∧ rowQ x.f_Text = true)) := by
   rw [h1, h2, lt_mul hk, hq]
   simp
  unfold inS
  simp only
  by_cases c : ind < x.f_Indent ∨ (b = true ∧ x.f_Indent = ind ∧ rowQ x.f_Text = true)
  ·rw [if_pos c, if_pos (hc.2 c)]
   exact hB _ _ (.cons ⟨h1, h2⟩ t) hn
  ·rw [if_neg c, if_neg (fun h => c (hc.1 h))]
   exact ⟨rfl, .cons ⟨h1, h2⟩ t, hn⟩
theorem val_spread {k n : Nat} {no no' : Int} {s : BS} {l l' : List Ln} (h : LRs k l l') (hn : NoRow l) : RR k (valR n no s l) (valR n no' s l') := by
 unfold valR
 by_cases c : (valS n s).2 = 0
 ·rw [if_pos c, if_pos c]; exact ⟨rfl, h, hn⟩
 ·rw [if_neg c, if_neg c]; exact rfl
theorem pair_spread {k : Nat} (hk : 1 ≤ k) {n : Nat} {B : List Ln → Rs} (hB : ∀ l l', LRs k l l' → NoRow l → RR k (B l) (B l')) {ind : Int} : ∀ (f : Nat) (ks : List BS) (acc : List Nd) (l l' : List Ln), LRs k l l' → NoRow l → RR k (pairL n B ind f ks acc l) (pairL n B ((k : Int) * ind) f ks acc l')
 | 0, _, _, _, _, _, _ => rfl
 | f + 1, ks, acc, [], l', h, hn => by
  cases h
  exact ⟨rfl, .nil, hn⟩
 | f + 1, ks, acc, x :: l, l', h, hn => by
  cases h with
  | cons h t =>
   rename_i y m
   obtain ⟨h1, h2⟩ := h
   have hnl : NoRow l := fun z hz => hn z (List.mem_cons_of_mem _ hz)
   unfold pairL
   rw [h1]
   generalize entS n x.f_Text = E
   have hc1 : ((k : Int) * ind < y.f_Indent ∨ (y.f_Indent = (k : Int) * ind ∧ (E.2.2 < 0 ∨ (0 < E.2.2 ∧ E.1 ∈ ks)))) ↔ (ind < x.f_Indent ∨ (x.f_Indent = ind ∧ (E.2.2 < 0 ∨ (0 < E.2.2 ∧ E.1 ∈ ks)))) := by
    rw [h2, lt_mul hk, eq_mul hk]
   have hc2 : (y.f_Indent < (k : Int) * ind ∨ E.2.2 = 0) ↔ (x.f_Indent < ind ∨ E.2.2 = 0) := by
    rw [h2, lt_mul hk]
   by_cases c1 : ind < x.f_Indent ∨ (x.f_Indent = ind ∧ (E.2.2 < 0 ∨ (0 < E.2.2 ∧ E.1 ∈ ks)))
   ·rw [if_pos c1, if_pos (hc1.2 c1)]; exact rfl
   rw [if_neg c1, if_neg (fun h => c1 (hc1.1 h))]
   by_cases c2 : x.f_Indent < ind ∨ E.2.2 = 0
   ·rw [if_pos c2, if_pos (hc2.2 c2)]; exact ⟨rfl, .cons ⟨h1, h2⟩ t, hn⟩
   rw [if_neg c2, if_neg (fun h => c2 (hc2.1 h))]
   have hkid : RR k (pairKid n B ind x E.2.1 l) (pairKid n B ((k : Int) * ind) y E.2.1 m) := by
    unfold pairKid
    by_cases c3 : E.2.1 ≠ []
    ·rw [if_pos c3, if_pos c3]; exact val_spread t hnl
    ·rw [if_neg c3, if_neg c3]; exact in_spread hk hB t hnl
   cases r1 : pairKid n B ind x E.2.1 l with
   | inl e =>
    cases r2 : pairKid n B ((k : Int) * ind) y E.2.1 m with
    | inl e' => rw [r1, r2] at hkid; exact hkid
    | inr w' => rw [r1, r2] at hkid; exact hkid.elim
   | inr w =>
    cases r2 : pairKid n B ((k : Int) * ind) y E.2.1 m with
    | inl e' => rw [r1, r2] at hkid; exact hkid.elim
    | inr w' =>
     rw [r1, r2] at hkid
     obtain ⟨g1, g2, g3⟩ := hkid
     obtain ⟨v, r⟩ := w
     obtain ⟨v', r'⟩ := w'
     simp only at g1 g2 g3 ⊢
     subst g1
     exact pair_spread hk hB f _ _ r r' g2 g3
theorem blk_spread {k : Nat} (hk : 1 ≤ k) : ∀ (n : Nat) (l l' : List Ln), LRs k l l' → NoRow l → RR k (blkS n l) (blkS n l')
 | 0, _, _, _, _ => rfl
 | n + 1, [], l', h, _ => by
  cases h
  exact rfl
 | n + 1, x :: l, l', h, hn => by
  cases h with
  | cons h t =>
   rename_i y m
   obtain ⟨h1, h2⟩ := h
   have hq := hn x List.mem_cons_self
   have hnl : NoRow l := fun z hz => hn z (List.mem_cons_of_mem _ hz)
   unfold blkS
   rw [h1, hq, if_neg Bool.false_ne_true, if_neg Bool.false_ne_true]
   by_cases c1 : 0 < (entS n x.f_Text).2.2
   ·rw [if_pos c1, if_pos c1, h2]
    exact pair_spread hk (blk_spread hk n) n [] [] _ _ (.cons ⟨h1, h2⟩ t) hn
   rw [if_neg c1, if_neg c1]
   by_cases c2 : (entS n x.f_Text).2.2 < 0
   ·rw [if_pos c2, if_pos c2]; exact rfl
   rw [if_neg c2, if_neg c2]
   exact val_spread t hnl
def G10 (k : Nat) : Nat → BS → BS
 | _, [] => []
 | m, c :: r => (if m = 1 then [10, 35, 10] else []) ++ (if m ≠ 0 ∧ c = 32 then List.replicate k 32 ++ G10 k 2 r else c :: G10 k (if c = 10 then 1 else 0) r)
theorem sp_l5 (n : Nat) (v0 : BS) (k : Nat) (v7 : Int) (hk : k ≤ 1000) : ∀ (f : Nat) (out : BS) (i : Nat), i ≤ k → k - i < f → out.length + (k - i) ≤ 1000000 → law10_spread_l5 n v0 (k : Int) v7 f out (i : Int) = some (out ++ List.replicate (k - i) 32)
 | 0, _, _, _, h, _ => by omega
 | f + 1, out, i, h1, h2, h3 => by
  rw [law10_spread_l5]
  by_cases h : i < k
  ·rw [if_pos (decide_eq_true (by omega)), if_pos (fits9 (by simp; omega)), wrap_s i (by omega), sp_l5 n v0 k v7 hk f (out ++ [32]) (i + 1) (by omega) (by omega) (by simp; omega), List.append_assoc]
   rw [show k - i = k - (i + 1) + 1 by omega, List.replicate_succ]; rfl
  ·rw [if_neg (by rw [decide_eq_false (by omega)]; decide), show k - i = 0 by omega]
   simp
theorem sp_l4 (n : Nat) (s : BS) (k : Nat) (hk : k ≤ 3) (hn : 100 ≤ n) (hs : s.length ≤ 10000) : ∀ (f : Nat) (out : BS) (i : Nat), i ≤ s.length → s.length - i < f → out.length + 10 * (s.length - i) ≤ 1000000 → law10_spread_l4 n s (k : Int) f out (i : Int) = some (out ++ List.replicate (k * ind (s.drop i)) 32, ((i + ind (s.drop i) : Nat) : Int))
 | 0, _, _, _, h, _ => by omega
 | f + 1, out, i, h1, h2, h3 => by
  rw [law10_spread_l4]
  by_cases h : i < s.length
  ·rw [if_pos (by rw [in_i h, Bool.or_true]), lt_i h, cond_true, at_i h, b32, drop_at h, ind_cons]
   by_cases hc : s[i] = 32
   ·have h5 := sp_l5 n s k (i : Int) (by omega) n out 0 (Nat.zero_le _) (by omega) (by omega)
    have h5 : law10_spread_l5 n s (k : Int) (i : Int) n out 0 = some (out ++ List.replicate k 32) := h5
    rw [if_pos (decide_eq_true hc), if_pos hc, h5]
    simp only [Option.bind_some]
    rw [wrap_s i (by omega), sp_l4 n s k hk hn hs f _ (i + 1) (by omega) (by omega) (by simp; omega), List.append_assoc, List.replicate_append_replicate, Nat.mul_succ, Nat.add_comm (k * _) k]
    rw [show i + 1 + ind (List.drop (i + 1) s) = i + (ind (List.drop (i + 1) s) + 1) by omega]
   ·rw [if_neg (by simpa using hc), if_neg hc]
    simp
  ·rw [if_pos (by rw [nlt_i (Nat.not_lt.1 h)]; rfl), nlt_i (Nat.not_lt.1 h), cond_false, List.drop_eq_nil_of_le (by omega)]
   simp [ind]
theorem g_cons (k m : Nat) (c : UInt8) (r : BS) : G10 k m (c :: r) = (if m = 1 then [10, 35, 10] else []) ++ (if m ≠ 0 ∧ c = 32 then List.replicate k 32 ++ G10 k 2 r else c :: G10 k (if c = 10 then 1 else 0) r) := by rw [G10]
theorem g_nil (k m : Nat) : G10 k m [] = [] := by rw [G10]
theorem g_zero (k : Nat) (c : UInt8) (r : BS) : G10 k 0 (c :: r) = c :: G10 k (if c = 10 then 1 else 0) r := by
 rw [g_cons, if_neg (by decide), if_neg (fun h => h.1 rfl)]; rfl
theorem g_two (k : Nat) : ∀ l : BS, G10 k 2 l = List.replicate (k * ind l) 32 ++ G10 k 0 (l.drop (ind l))
 | [] => by simp [g_nil, ind]
 | c :: r => by
  rw [ind_cons]
  by_cases hc : c = 32
  ·rw [if_pos hc, List.drop_succ_cons, g_cons, if_neg (by decide), if_pos ⟨by decide, hc⟩, List.nil_append, g_two k r, ← List.append_assoc, List.replicate_append_replicate, Nat.mul_succ, Nat.add_comm k]
  ·rw [if_neg hc, List.drop_zero, g_cons, if_neg (by decide), if_neg (fun h => hc h.2), g_zero]
   simp
theorem g_one (k : Nat) (c : UInt8) (r : BS) : G10 k 1 (c :: r) = [10, 35, 10] ++ G10 k 2 (c :: r) := by
 rw [g_cons, g_cons, if_pos rfl, if_neg (show ¬ 2 = 1 by decide)]
 simp
theorem sp_l1 (n : Nat) (s : BS) (k : Nat) (hk : k ≤ 3) (hn : 20000 ≤ n) (hs : s.length ≤ 10000) : ∀ (f : Nat) (out : BS) (m : Nat) (i : Nat), m ≤ 1 → i ≤ s.length → s.length - i < f → out.length + 20 * (s.length - i) ≤ 1000000 → law10_spread_l1 n s (k : Int) f out (decide (m = 1)) (i : Int) = some (out ++ G10 k m (s.drop i))
 | 0, _, _, _, _, _, h, _ => by omega
 | f + 1, out, m, i, hm, h1, h2, h3 => by
  rw [law10_spread_l1]
  by_cases h : i < s.length
  ·rw [if_pos (lt_i h)]
   have hgo : ∀ (o2 : BS) (j : Nat) (hj : j < s.length), i ≤ j → o2.length + 20 * (s.length - j) ≤ 1000010 →
     (Sum.elim (fun (o1 : BS × Int) => if (decide (0 ≤ o1.2 ∧ o1.2 < (List.length s : Int))) = true then (if (decide ((List.length o1.1 + List.length ([((s)[Int.toNat o1.2]?.getD 0)] : List (UInt8))) * (1 + 1) ≤ limit)) = true then (if (decide (0 ≤ o1.2 ∧ o1.2 < (List.length s : Int))) = true then (some (Sum.inl ((o1.1 ++ ([((s)[Int.toNat o1.2]?.getD 0)] : List (UInt8))), ((((s)[Int.toNat o1.2]?.getD 0).toNat : Int) == 10), o1.2)) : Option (Sum (BS × Bool × Int) BS)) else none) else none) else none) (fun o1 => some (.inr o1)) (Sum.inl (o2, (j : Int)) : Sum (BS × Int) BS)).bind (fun o1 => Sum.elim (fun o1 => law10_spread_l1 n s (k : Int) f o1.1 o1.2.1 (IntKind.wrap .i64 (o1.2.2 + 1))) (fun o1 => some o1) o1) = some (o2 ++ G10 k 0 (s.drop j)) := by
    intro o2 j hj hij hb
    rw [Sum.elim_inl]
    simp only
    rw [in_i hj, at_i hj, if_pos rfl, if_pos (fits9 (by simp; omega)), if_pos rfl, b10]
    simp only [Option.bind_some, Sum.elim_inl]
    rw [wrap_s j (by omega), drop_at hj, g_zero]
    have := sp_l1 n s k hk hn hs f (o2 ++ [s[j]]) (if s[j] = 10 then 1 else 0) (j + 1) (by split <;> omega) (by omega) (by omega) (by simp; omega)
    have hdec : decide ((if s[j] = 10 then 1 else 0) = 1) = decide (s[j] = 10) := by
     by_cases c : s[j] = 10
     ·simp [c]
     ·simp [c]
    rw [hdec] at this
    rw [this, List.append_assoc]; rfl
   unfold law10_spread_j2 law10_spread_j3
   by_cases hm1 : m = 1
   ·subst hm1
    have h4 := sp_l4 n s k hk (by omega) hs n (out ++ [10, 35, 10]) i h1 (by omega) (by simp; omega)
    have hil := ind_le (s.drop i)
    rw [List.length_drop] at hil
    rw [if_pos (by rfl), if_pos (fits9 (by simp; omega)), h4]
    simp only [Option.bind_some]
    have hdr : s.drop (i + ind (s.drop i)) = (s.drop i).drop (ind (s.drop i)) := by rw [List.drop_drop]
    rw [drop_at h, g_one, g_two, ← drop_at h, ← hdr]
    by_cases he : i + ind (s.drop i) = s.length
    ·rw [if_pos (by rw [eq_i]; exact decide_eq_true he), he, List.drop_length]
     simp [g_nil]
    ·rw [if_neg (by rw [eq_i, decide_eq_false he]; decide)]
     simp only [Option.bind_some]
     have hb : k * ind (s.drop i) ≤ 3 * ind (s.drop i) := Nat.mul_le_mul_right _ hk
     rw [hgo _ (i + ind (s.drop i)) (by omega) (by omega) (by simp; omega)]
     simp
   ·have hm0 : m = 0 := by omega
    subst hm0
    rw [if_neg (by decide)]
    simp only [Option.bind_some]
    exact hgo out i h (Nat.le_refl _) (by omega)
  ·rw [if_neg (by rw [nlt_i (by omega)]; decide), List.drop_eq_nil_of_le (by omega), g_nil, List.append_nil]
theorem spread_eq (n : Nat) (s : BS) (k : Nat) (hk : k ≤ 3) (hn : 20000 ≤ n) (hs : s.length ≤ 10000) : law10_spread n s (k : Int) = some (G10 k 1 s) := by
 unfold law10_spread
 have h := sp_l1 n s k hk hn hs n [] 1 0 (Nat.le_refl _) (Nat.zero_le _) (by omega) (by simp; omega)
 have h : law10_spread_l1 n s (k : Int) n [] true 0 = some (G10 k 1 s) := h
 rw [h]; rfl
theorem g_row (k : Nat) : ∀ s : BS, G10 k 0 s = (rowOf s).1 ++ (if (rowOf s).1.length < s.length then 10 :: G10 k 1 (rowOf s).2 else [])
 | [] => by simp [g_nil, rowOf, upto]
 | c :: r => by
  rw [g_zero, rowOf_cons]
  by_cases hc : c = 10
  ·subst hc
   rw [if_pos rfl, if_pos rfl, if_pos (by simp)]; rfl
  ·rw [if_neg hc, if_neg hc, g_row k r]
   simp only [List.length_cons, List.cons_append, Nat.add_lt_add_iff_right]
theorem row_ind (s : BS) : ind (rowOf s).1 = ind s ∧ (rowOf (s.drop (ind s))).1 = (rowOf s).1.drop (ind s) ∧ (rowOf (s.drop (ind s))).2 = (rowOf s).2 ∧ ((rowOf (s.drop (ind s))).1.length < (s.drop (ind s)).length ↔ (rowOf s).1.length < s.length) := by
 induction s with
 | nil => exact ⟨rfl, rfl, rfl, by simp [ind]⟩
 | cons c r ih =>
  by_cases hc : c = 32
  ·subst hc
   rw [ind_cons, rowOf_cons, if_pos rfl, if_neg (by decide)]
   obtain ⟨h1, h2, h3, h4⟩ := ih
   refine ⟨?_, ?_, ?_, ?_⟩
   ·show ind (32 :: (rowOf r).1) = _
    rw [ind_cons, if_pos rfl, h1]
   ·rw [List.drop_succ_cons, h2]; rfl
   ·rw [List.drop_succ_cons, h3]
   ·rw [List.drop_succ_cons, h4]; simp
  ·have h0 : ind (rowOf (c :: r)).1 = 0 := by
    rw [rowOf_cons]
    split
    ·rfl
    ·show ind (c :: (rowOf r).1) = 0
     rw [ind_cons, if_neg hc]
   rw [ind_cons, if_neg hc]
   exact ⟨h0, by rw [List.drop_zero, List.drop_zero], by rw [List.drop_zero], by rw [List.drop_zero]⟩
theorem g_line (k : Nat) (s : BS) (hs : s ≠ []) : ∃ u, G10 k 1 s = 10 :: 35 :: 10 :: u ∧ (rowOf u).1 = List.replicate (k * ind (rowOf s).1) 32 ++ (rowOf s).1.drop (ind (rowOf s).1) ∧ (rowOf u).2 = G10 k 1 (rowOf s).2 ∧ (u = [] → (rowOf s).2 = []) := by
 obtain ⟨c, r, rfl⟩ : ∃ c r, s = c :: r := by
  cases s with
  | nil => exact (hs rfl).elim
  | cons c r => exact ⟨c, r, rfl⟩
 generalize hS : c :: r = S
 refine ⟨G10 k 2 S, by rw [← hS, g_one]; rfl, ?_⟩
 obtain ⟨h1, h2, h3, h4⟩ := row_ind S
 rw [g_two, g_row, h2, h3, h1]
 have hnl : (10 : UInt8) ∉ List.replicate (k * ind S) 32 ++ (rowOf S).1.drop (ind S) := by
  intro h
  rcases List.mem_append.1 h with h | h
  ·have := List.eq_of_mem_replicate h; cases this
  ·exact (rowOf_nl S).1 (List.mem_of_mem_drop h)
 have hdl : ((rowOf S).1.drop (ind S)).length < (S.drop (ind S)).length ↔ (rowOf S).1.length < S.length := by rw [← h2]; exact h4
 by_cases hlt : (rowOf S).1.length < S.length
 ·rw [if_pos (hdl.2 hlt), ← List.append_assoc, rowOf_app _ _ hnl]
  exact ⟨rfl, rfl, fun h => by simp at h⟩
 ·rw [if_neg (fun h => hlt (hdl.1 h)), List.append_nil]
  have hrest : (rowOf S).2 = [] := by
   rcases (rowOf_nl S).2 with e | ⟨_, e⟩
   ·exfalso
    apply hlt
    have := congrArg List.length e
    rw [List.length_append, List.length_cons] at this
    omega
   ·exact e
  rw [hrest]
  have hno : ∀ l : BS, (10 : UInt8) ∉ l → rowOf l = (l, []) := fun l h => by
   unfold rowOf
   rw [upto_none.2 h]
  rw [hno _ hnl]
  exact ⟨rfl, by rw [g_nil], fun _ => rfl⟩
def nxL : BS → Bool
 | [] => false
 | d :: _ => !(d == 32) && !(d == 10)
def loneB : BS → Bool
 | [] => true
 | c :: r => (!(c == 45) || nxL r) && loneB r
theorem lone_suffix {a b : BS} (h : a <:+ b) (hb : loneB b = true) : loneB a = true := by
 obtain ⟨p, rfl⟩ := h
 induction p with
 | nil => exact hb
 | cons c p ih =>
  rw [List.cons_append] at hb
  unfold loneB at hb
  exact ih (Bool.and_eq_true_iff.1 hb).2
theorem say_two (n : Nat) (d : UInt8) (r t : BS) (hn : 20000 ≤ n) (hs : (45 :: d :: r).length ≤ 10000) (hd : d ≠ 32) (h : line_say n (45 :: d :: r) = some (t, true)) : 2 ≤ t.length := by
 obtain ⟨m, rfl⟩ : ∃ m, n = m + 2 := ⟨n - 2, by omega⟩
 rw [say_unf _ _ hn] at h
 obtain ⟨r0, _, _, e0⟩ := say_at (m + 2) (m + 1) (45 :: d :: r) 0 0 hn hs (by simp) (Nat.le_refl _)
 have h : line_say_g1_0 (m + 2) (m + 1 + 1) (45 :: d :: r) ((0 : Nat) : Int) ((0 : Nat) : Int) = some (t, true) := h
 rw [e0] at h
 have x0 : (45 :: d :: r)[0] = 45 := rfl
 have y0 : bef (45 :: d :: r) 0 = 32 := rfl
 simp only [x0, y0] at h
 rw [if_neg (by decide), if_neg (by decide), if_neg (by decide), if_neg (by decide)] at h
 obtain ⟨r1, _, _, e1⟩ := say_at (m + 2) m (45 :: d :: r) 1 1 hn hs (by simp) (Nat.le_refl _)
 rw [e1] at h
 have x1 : (45 :: d :: r)[1] = d := rfl
 have y1 : bef (45 :: d :: r) 1 = 45 := rfl
 simp only [x1, y1] at h
 rw [if_neg (by simp [rem]), if_neg (by simp [quo])] at h
 by_cases hg : good d = false
 ·rw [if_pos hg] at h; cases h
 rw [if_neg hg, if_neg hd] at h
 obtain ⟨_, E, g1, g2, g3, _⟩ := say_run (m + 2) (45 :: d :: r) hn hs m 2 2 t (by simp) (by simp at hs ⊢; omega) (Nat.le_refl _) (by
  show [45, d] = trimR ([45] ++ [d])
  rw [trimR_snoc, if_neg hd]; rfl) h
 rw [g3, List.length_take]
 omega
theorem row_lone {n : Nat} (hn : 20000 ≤ n) {s : BS} (hs : s.length ≤ 10000) (hl : loneB s = true) {t : BS} (h : line_say n ((rowOf s).1.drop (ind (rowOf s).1)) = some (t, true)) : rowQ t = false := by
 generalize hu : (rowOf s).1.drop (ind (rowOf s).1) = u at h
 obtain ⟨g1, g2, g3⟩ := rowOf_len s
 have hul : u.length ≤ 10000 := by rw [← hu, List.length_drop]; omega
 obtain ⟨_, f2, f3, _⟩ := say_fix n u t hn hul h
 have hsuf : ∃ w, u ++ w <:+ s ∧ (w = [] ∨ ∃ w', w = 10 :: w') := by
  rcases (rowOf_nl s).2 with e | ⟨e, _⟩
  ·refine ⟨10 :: (rowOf s).2, ?_, .inr ⟨_, rfl⟩⟩
   rw [← hu]
   refine ⟨(rowOf s).1.take (ind (rowOf s).1), ?_⟩
   rw [← List.append_assoc, List.take_append_drop]; exact e.symm
  ·refine ⟨[], ?_, .inl rfl⟩
   rw [List.append_nil, ← hu]
   refine ⟨(rowOf s).1.take (ind (rowOf s).1), ?_⟩
   rw [List.take_append_drop]; exact e.symm
 obtain ⟨w, hw, hw2⟩ := hsuf
 have hlu := lone_suffix hw hl
 cases u with
 | nil =>
  have : t = [] := by rw [f2]; exact List.take_nil
  rw [this]; rfl
 | cons c r =>
  by_cases hc : c = 45
  ·subst hc
   rw [List.cons_append] at hlu
   unfold loneB at hlu
   obtain ⟨a1, _⟩ := Bool.and_eq_true_iff.1 hlu
   have a1 : nxL (r ++ w) = true := by
    rcases Bool.or_eq_true_iff.1 a1 with a | a
    ·exact absurd a (by decide)
    ·exact a
   cases r with
   | nil =>
    exfalso
    rcases hw2 with rfl | ⟨w', rfl⟩
    ·cases a1
    ·exact absurd a1 (by show ¬ (!((10 : UInt8) == 32) && !((10 : UInt8) == 10)) = true; decide)
   | cons d r =>
    have hd : d ≠ 32 := by
     rintro rfl
     exact absurd a1 (by show ¬ (!((32 : UInt8) == 32) && !((32 : UInt8) == 10)) = true; decide)
    have h2 := say_two n d r t hn hul hd h
    have ht : ∃ r', t = 45 :: d :: r' := by
     obtain ⟨m, hm⟩ : ∃ m, t.length = m + 2 := ⟨t.length - 2, by omega⟩
     rw [hm] at f2
     exact ⟨_, f2⟩
    obtain ⟨r', rfl⟩ := ht
    show ((45 : UInt8) == 45 && d == 32) = false
    simp [hd]
  ·cases ht : t with
   | nil => rfl
   | cons a t' =>
    have ha : a = c := by
     rw [ht] at f2
     rw [List.length_cons, List.take_succ_cons] at f2
     exact (List.cons.inj f2).1
    subst ha
    have : (a == 45) = false := by simpa using hc
    cases t' with
    | nil => exact this
    | cons b t'' =>
     show (a == 45 && b == 32) = false
     rw [this]; rfl
def SplR (k : Nat) (out out' : List Ln) (r r' : Sum (List Ln) (Int × Int)) : Prop :=
 match r, r' with
 | .inl o, .inl o' => ∃ ls ls', o = out ++ ls ∧ o' = out' ++ ls' ∧ LRs k ls ls' ∧ NoRow ls
 | .inr e, .inr e' => e.2 = 3 ∧ e'.2 = 3
 | _, _ => False
theorem SplR.more {k : Nat} {out out' : List Ln} {a b : Ln} {r r' : Sum (List Ln) (Int × Int)} (h : SplR k (out ++ [a]) (out' ++ [b]) r r') (hab : LR k a b) (hr : rowQ a.f_Text = false) : SplR k out out' r r' := by
 unfold SplR at h ⊢
 cases r with
 | inr e =>
  cases r' with
  | inr e' => exact h
  | inl o' => exact h
 | inl o =>
  cases r' with
  | inr e => exact h
  | inl o' =>
   obtain ⟨ls, ls', h1, h2, h3, h4⟩ := h
   refine ⟨a :: ls, b :: ls', by rw [h1]; simp, by rw [h2]; simp, .cons hab h3, fun x hx => ?_⟩
   rcases List.mem_cons.1 hx with rfl | hx
   ·exact hr
   ·exact h4 x hx
theorem say_nil (n : Nat) (hn : 20000 ≤ n) : line_say n [] = some ([], true) := by
 obtain ⟨m, rfl⟩ : ∃ m, n = m + 1 := ⟨n - 1, by omega⟩
 rfl
theorem say_rem (n : Nat) (hn : 20000 ≤ n) : line_say n [35] = some ([], true) := by
 obtain ⟨m, rfl⟩ : ∃ m, n = m + 1 := ⟨n - 1, by omega⟩
 clear hn
 kernel_rfl
theorem row10 (u : BS) : rowOf (10 :: u) = ([], u) := by rw [rowOf_cons, if_pos rfl]
theorem row35 (u : BS) : rowOf (35 :: 10 :: u) = ([35], u) := by rw [rowOf_cons, if_neg (by decide), row10]
theorem two_skip (n : Nat) (hn : 20000 ≤ n) (f : Nat) (u : BS) (out : List Ln) (no : Nat) (h1 : (10 :: 35 :: 10 :: u).length ≤ 10000) (h2 : out.length ≤ no) (h3 : no + (10 :: 35 :: 10 :: u).length ≤ 10000) : line_Split_l1 n (f + 2) (10 :: 35 :: 10 :: u) out ((no + 1 : Nat) : Int) = line_Split_l1 n f u out ((no + 3 : Nat) : Int) := by
 simp only [List.length_cons] at h1 h3
 have i0 : ind ([] : BS) = 0 := rfl
 have i1 : ind ([35] : BS) = 0 := rfl
 rw [split_at n hn (f + 1) (10 :: 35 :: 10 :: u) out no ([], true) (by simp) (by simp; omega) h2 (by simp; omega) (by rw [row10]; exact say_nil n hn), row10, i0, if_neg (by decide), if_pos rfl]
 rw [split_at n hn f (35 :: 10 :: u) out (no + 1) ([], true) (by simp) (by simp; omega) (by omega) (by simp; omega) (by rw [row35]; exact say_rem n hn), row35, i1, if_neg (by decide), if_pos rfl]
theorem drop_blank (l : BS) : (l.drop (ind l)).head? ≠ some 32 := by
 induction l with
 | nil => intro h; cases h
 | cons c r ih =>
  rw [ind_cons]
  by_cases hc : c = 32
  ·rw [if_pos hc, List.drop_succ_cons]; exact ih
  ·rw [if_neg hc, List.drop_zero]
   intro h
   have h : some c = some 32 := h
   cases h
   exact hc rfl
theorem split_spread (k : Nat) (hk1 : 1 ≤ k) (n : Nat) (hn : 20000 ≤ n) : ∀ (f : Nat) (s : BS) (f' : Nat) (out out' : List Ln) (no no' : Nat), s.length < f → (G10 k 1 s).length < f' → s.length ≤ 10000 → out.length ≤ no → no + s.length ≤ 10000 → out'.length ≤ no' → no' + (G10 k 1 s).length ≤ 10000 → loneB s = true →
  ∃ r r', line_Split_l1 n f s out ((no + 1 : Nat) : Int) = some r ∧ line_Split_l1 n f' (G10 k 1 s) out' ((no' + 1 : Nat) : Int) = some r' ∧ SplR k out out' r r'
 | 0, s, _, _, _, _, _, h, _, _, _, _, _, _, _ => by omega
 | f + 1, s, f', out, out', no, no', h1, h2, h3, h4, h5, h6, h7, hl => by
  by_cases hs : s = []
  ·subst hs
   obtain ⟨f', rfl⟩ : ∃ q, f' = q + 1 := ⟨f' - 1, by omega⟩
   exact ⟨.inl out, .inl out', rfl, rfl, [], [], by simp, by simp, .nil, fun x hx => by cases hx⟩
  ·obtain ⟨u, u1, u2, u3, u4⟩ := g_line k s hs
   obtain ⟨g1, g2, g3⟩ := rowOf_len s
   have g2 := g2 hs
   obtain ⟨t, t1, t2, t3⟩ := say_eq n ((rowOf s).1.drop (ind (rowOf s).1)) hn (by rw [List.length_drop]; omega)
   rw [u1] at h2 h7 ⊢
   simp only [List.length_cons] at h2 h7
   obtain ⟨f', rfl⟩ : ∃ q, f' = q + 3 := ⟨f' - 3, by omega⟩
   rw [two_skip n hn (f' + 1) u out' no' (by simp; omega) h6 (by simp; omega), split_at n hn f s out no t hs h3 h4 h5 t1]
   have hind : ind (List.replicate (k * ind (rowOf s).1) 32 ++ (rowOf s).1.drop (ind (rowOf s).1)) = k * ind (rowOf s).1 := ind_rep _ _ (drop_blank _)
   have hsuf : (rowOf s).2 <:+ s := by
    rcases (rowOf_nl s).2 with e | ⟨_, e⟩
    ·exact ⟨(rowOf s).1 ++ [10], by rw [List.append_assoc]; exact e.symm⟩
    ·rw [e]; exact List.nil_suffix
   have hlr := lone_suffix hsuf hl
   have hul : (rowOf u).2.length ≤ u.length := (rowOf_len u).2.2
   have hrow : (rowOf u).1.drop (ind (rowOf u).1) = (rowOf s).1.drop (ind (rowOf s).1) := by
    rw [u2, hind, List.drop_append_of_le_length (by simp), List.drop_of_length_le (by simp), List.nil_append]
   by_cases hu : u = []
   ·subst hu
    have e1 : (rowOf s).1.drop (ind (rowOf s).1) = [] := hrow.symm
    have e2 := u4 rfl
    rw [e1, say_nil n hn] at t1
    cases t1
    obtain ⟨f, rfl⟩ : ∃ q, f = q + 1 := ⟨f - 1, by omega⟩
    rw [e2]
    have hb : ¬ (bif (!true) then true else (bif (((ind (rowOf s).1 : Nat) : Int) == 0) then (bif (([] : BS) == [45, 45, 45]) then true else (([] : BS) == [46, 46, 46])) else false)) = true := by
     cases (((ind (rowOf s).1 : Nat) : Int) == 0) <;> decide
    simp only
    rw [if_neg hb, if_pos trivial]
    exact ⟨.inl out, .inl out', rfl, rfl, [], [], by simp, by simp, .nil, fun x hx => by cases hx⟩
   have t1' : line_say n ((rowOf u).1.drop (ind (rowOf u).1)) = some t := by rw [hrow]; exact t1
   rw [show ((no' + 3 : Nat) : Int) = ((no' + 2 + 1 : Nat) : Int) from rfl, split_at n hn f' u out' (no' + 2) t hu (by omega) (by omega) (by omega) t1', u2, hind]
   obtain ⟨t, b⟩ := t
   simp only
   have hz : (((k * ind (rowOf s).1 : Nat) : Int) == 0) = (((ind (rowOf s).1 : Nat) : Int) == 0) := by
    have h1 : (((k * ind (rowOf s).1 : Nat) : Int) == ((0 : Nat) : Int)) = decide (k * ind (rowOf s).1 = 0) := eq_i
    have h2 : (((ind (rowOf s).1 : Nat) : Int) == ((0 : Nat) : Int)) = decide (ind (rowOf s).1 = 0) := eq_i
    have h1 : (((k * ind (rowOf s).1 : Nat) : Int) == 0) = decide (k * ind (rowOf s).1 = 0) := h1
    have h2 : (((ind (rowOf s).1 : Nat) : Int) == 0) = decide (ind (rowOf s).1 = 0) := h2
    rw [h1, h2, decide_eq_decide, Nat.mul_eq_zero]
    exact ⟨fun h => h.resolve_left (by omega), .inr⟩
   rw [hz]
   by_cases hbad : (bif (!b) then true else (bif (((ind (rowOf s).1 : Nat) : Int) == 0) then (bif (t == [45, 45, 45]) then true else (t == [46, 46, 46])) else false)) = true
   ·rw [if_pos hbad, if_pos hbad]
    exact ⟨_, _, rfl, rfl, rfl, rfl⟩
   rw [if_neg hbad, if_neg hbad]
   have hbt : b = true := by
    cases b with
    | true => rfl
    | false => exact (hbad rfl).elim
   subst hbt
   rw [u3] at hul ⊢
   by_cases ht0 : t = []
   ·rw [if_pos ht0, if_pos ht0]
    exact split_spread k hk1 n hn f (rowOf s).2 f' out out' (no + 1) (no' + 2 + 1) (by omega) (by omega) (by omega) (by omega) (by omega) (by omega) (by omega) hlr
   ·rw [if_neg ht0, if_neg ht0]
    obtain ⟨r, r', q1, q2, q3⟩ := split_spread k hk1 n hn f (rowOf s).2 f' (out ++ [S_line_Line.mk ((no + 1 : Nat) : Int) ((ind (rowOf s).1 : Nat) : Int) t]) (out' ++ [S_line_Line.mk ((no' + 2 + 1 : Nat) : Int) ((k * ind (rowOf s).1 : Nat) : Int) t]) (no + 1) (no' + 2 + 1) (by omega) (by omega) (by omega) (by simp; omega) (by omega) (by simp; omega) (by omega) hlr
    refine ⟨r, r', q1, q2, q3.more ⟨rfl, ?_⟩ (row_lone hn h3 hl t1)⟩
    simp only
    omega
theorem lone_l (n : Nat) (s : BS) (hs : s.length ≤ 10000) : ∀ (k i : Nat), i ≤ s.length → s.length - i < k → law10_lone_l1 n s k (i : Int) = some (if loneB (s.drop i) = true then .inl () else .inr false)
 | 0, i, _, h => by omega
 | k + 1, i, h1, h2 => by
  rw [law10_lone_l1]
  by_cases h : i < s.length
  ·rw [lt_i h, in_i h, at_i h, wrap_s i (by omega), b45, drop_at h]
   simp only [if_true, lett]
   unfold loneB
   have ih := lone_l n s hs k (i + 1) (by omega) (by omega)
   by_cases hx : i + 1 < s.length
   ·have e0 : (((i + 1 : Nat) : Int) == (s.length : Int)) = false := by rw [eq_i]; exact decide_eq_false (by omega)
    rw [e0, in_i hx, at_i hx, b32, b10]
    simp only [Bool.or_true, if_true, cond_false]
    rw [drop_at hx] at ih ⊢
    rw [ih]
    generalize s[i + 1] = d
    generalize s.drop (i + 1 + 1) = q
    generalize s[i] = c
    by_cases c1 : c = 45
    ·by_cases c2 : d = 32
     ·simp [c1, c2, nxL]
     ·by_cases c3 : d = 10
      ·simp [c1, c3, nxL]
      ·simp [c1, c2, c3, nxL]
    ·simp [c1]
   ·have e0 : (((i + 1 : Nat) : Int) == (s.length : Int)) = true := by rw [eq_i]; exact decide_eq_true (by omega)
    have hd : s.drop (i + 1) = [] := List.drop_eq_nil_of_le (by omega)
    rw [e0]
    rw [hd] at ih ⊢
    rw [ih]
    by_cases c1 : s[i] = 45
    ·simp [c1, nxL]
    ·simp [c1]
  ·have : i = s.length := by omega
   subst this
   rw [nlt_n, List.drop_eq_nil_of_le (Nat.le_refl _)]; rfl
theorem lone_eq (n : Nat) (s : BS) (hs : s.length ≤ 10000) (hn : 20000 ≤ n) : law10_lone n s = some (loneB s) := by
 unfold law10_lone
 have h := lone_l n s hs n 0 (Nat.zero_le _) (by omega)
 rw [List.drop_zero] at h
 have h : law10_lone_l1 n s n 0 = _ := h
 rw [h]
 cases loneB s <;> rfl
theorem pS_spread {k : Nat} (hk : 1 ≤ k) (n : Nat) {ls ls' : List Ln} (h : LRs k ls ls') (hr : NoRow ls) : (pS n ls).1 = (pS n ls').1 ∧ (pS n ls).2.2 = (pS n ls').2.2 := by
 have hb := blk_spread hk n ls ls' h hr
 unfold pS
 cases r1 : blkS n ls with
 | inl e =>
  cases r2 : blkS n ls' with
  | inl e' => rw [r1, r2] at hb; exact ⟨rfl, hb⟩
  | inr w' => rw [r1, r2] at hb; exact hb.elim
 | inr w =>
  cases r2 : blkS n ls' with
  | inl e' => rw [r1, r2] at hb; exact hb.elim
  | inr w' =>
   rw [r1, r2] at hb
   obtain ⟨v, r⟩ := w
   obtain ⟨v', r'⟩ := w'
   obtain ⟨g1, g2, _⟩ := hb
   simp only at g1 g2
   subst g1
   cases g2 with
   | nil => exact ⟨rfl, rfl⟩
   | cons _ _ => exact ⟨rfl, rfl⟩
theorem parse_spread (k : Nat) (hk1 : 1 ≤ k) (n : Nat) (s : BS) (hn : 500000 ≤ n) (hs : s.length ≤ 1500) (hg : (G10 k 1 s).length ≤ 8000) (hl : loneB s = true) : ∃ r r', block_Parse n s = some r ∧ block_Parse n (G10 k 1 s) = some r' ∧ r.1 = r'.1 ∧ r.2.2 = r'.2.2 ∧ Fit 12 r.1 := by
 obtain ⟨r, r', h1, h2, h3⟩ := split_spread k hk1 n (by omega) n s n [] [] 0 0 (by omega) (by omega) (by omega) (Nat.le_refl _) (by omega) (Nat.le_refl _) (by omega) hl
 have h1 : line_Split_l1 n n s [] 1 = some r := h1
 have h2 : line_Split_l1 n n (G10 k 1 s) [] 1 = some r' := h2
 have hsp : ∀ (t : BS) (q : Sum (List Ln) (Int × Int)), t.length ≤ 8192 → line_Split_l1 n n t [] 1 = some q → line_Split n t = some (Sum.elim (fun o => (o, 0, 0)) (fun o => ([], o.1, o.2)) q) := by
  intro t q ht hq
  unfold line_Split
  rw [if_neg (by rw [decide_eq_false (by omega)]; decide), hq]
  cases q <;> rfl
 have e1 := hsp s r (by omega) h1
 have e2 := hsp (G10 k 1 s) r' (by omega) h2
 cases r with
 | inr e =>
  cases r' with
  | inl o' => exact h3.elim
  | inr e' =>
   obtain ⟨x, y⟩ := e
   obtain ⟨x', y'⟩ := e'
   obtain ⟨g1, g2⟩ := h3
   simp only at g1 g2
   subst g1 g2
   refine ⟨(Z8, x, 3), (Z8, x', 3), ?_, ?_, rfl, rfl, fitZ⟩
   ·unfold block_Parse; rw [split_o, e1]; rfl
   ·unfold block_Parse; rw [split_o, e2]; rfl
 | inl o =>
  cases r' with
  | inr e => exact h3.elim
  | inl o' =>
   obtain ⟨ls, ls', g1, g2, g3, g4⟩ := h3
   rw [List.nil_append] at g1 g2
   subst g1 g2
   have e1 : line_Split n s = some (o, 0, 0) := e1
   have e2 : line_Split n (G10 k 1 s) = some (o', 0, 0) := e2
   by_cases hne : o = []
   ·subst hne
    cases g3
    refine ⟨(Z8, 0, 0), (Z8, 0, 0), ?_, ?_, rfl, rfl, fitZ⟩
    ·unfold block_Parse; rw [split_o, e1]; rfl
    ·unfold block_Parse; rw [split_o, e2]; rfl
   ·have hne' : o' ≠ [] := by
     intro h
     subst h
     cases g3
     exact hne rfl
    have hok : ∀ (t : BS) (q : List Ln), t.length ≤ 8192 → line_Split n t = some (q, 0, 0) → LsOk q ∧ mu q ≤ 10001 := by
     intro t q ht hq
     rcases split_cases n (by omega) t ht with ⟨l, s1, s2⟩ | ⟨no, e, s1, s2⟩
     ·rw [hq] at s2; cases s2
      exact LsOk.of (by omega) s1 (by omega)
     ·rw [hq] at s2; cases s2
      exact (s1 rfl).elim
    obtain ⟨a1, a2⟩ := hok s o (by omega) e1
    obtain ⟨b1, b2⟩ := hok _ o' (by omega) e2
    obtain ⟨p1, p2⟩ := pS_spread hk1 n g3 g4
    exact ⟨_, _, bparse valTot valRed n s o hn e1 hne a1 a2, bparse valTot valRed n _ o' hn e2 hne' b1 b2, p1, p2, (pS_right valRed n o hn a1 a2).1⟩
theorem law10_BlockSpread_true (a0 : BS) (_ : List.length a0 ≤ maxLen) (a1 : Bool) (_ : True) : ∃ n, law10_BlockSpread n a0 a1 = some true := by
 obtain ⟨n, hn⟩ : ∃ n, n = 600000 := ⟨_, rfl⟩
 refine ⟨n, ?_⟩
 have haw := awake10 n (by omega)
 unfold law10_BlockSpread
 by_cases c : (List.length a0 : Int) > 1500
 ·rw [decide_eq_true c]
  simp only [beq_iff_eq, Bool.true_eq_false, if_false, Option.bind_some, cond_true, if_true]
  rw [haw]; rfl
 ·rw [decide_eq_false c, if_pos (by rfl), lone_eq n a0 (by omega) (by omega)]
  simp only [Option.bind_some, cond_false]
  cases hl : loneB a0 with
  | false =>
   rw [if_pos (by rfl), haw]; rfl
  | true =>
   rw [if_neg (by decide)]
   obtain ⟨k, hk, hk2⟩ : ∃ k : Nat, (1 ≤ k ∧ k ≤ 3) ∧ law10_BlockSpread_j1 n a0 2 a1 = some (k : Int) := by
    unfold law10_BlockSpread_j1
    cases a1
    ·exact ⟨2, by omega, rfl⟩
    ·exact ⟨3, by omega, rfl⟩
   rw [hk2]
   simp only [Option.bind_some]
   rw [spread_eq n a0 k hk.2 (by omega) (by omega)]
   simp only [Option.bind_some]
   by_cases hg : (List.length (G10 k 1 a0) : Int) > 8000
   ·rw [if_pos (decide_eq_true hg), haw]; rfl
   ·obtain ⟨r, r', p1, p2, p3, p4, p5⟩ := parse_spread k hk.1 n a0 (by omega) (by omega) (by omega) hl
    rw [if_neg (by rw [decide_eq_false hg]; decide), p1, p2]
    simp only [Option.bind_some]
    rw [← p3, same_self 12 n r.1 p5 (by omega), p4]
    simp only [Option.bind_some, beq_self_eq_true, cond_true, if_true]
    rw [haw]; rfl
end Go.Proofs.YtefojkdckfidcaaDoor.M
