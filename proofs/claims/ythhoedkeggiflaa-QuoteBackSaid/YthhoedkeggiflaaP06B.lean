/-
  Chapter 6: a quoted text is scanned as it was. Over the printed models.
-/
import Derived.Test.YthhoedkeggiflaaP06S
namespace Go.Proofs.Ythhoedkeggiflaa.M
open Go Go.Proofs.Ythhoedkeggiflaa.RX Go.Proofs.Ythhoedkeggiflaa.PL

theorem drop_cons {S : List UInt8} {i : Nat} {x : UInt8} {r : List UInt8} (h : S.drop i = x :: r) : ∃ hi : i < S.length, S[i] = x ∧ S.drop (i + 1) = r := by
  have hi : i < S.length := by
    rcases Nat.lt_or_ge i S.length with h1 | h1
    · exact h1
    · rw [List.drop_eq_nil_of_le h1] at h; cases h
  rw [List.drop_eq_getElem_cons hi] at h
  exact ⟨hi, (List.cons.inj h).1, (List.cons.inj h).2⟩
theorem drop_more {S r : List UInt8} {i : Nat} {p : List UInt8} (h : S.drop i = p ++ r) : S.drop (i + p.length) = r := by
  rw [← List.drop_drop, h, List.drop_left]
theorem hexv_hexd : ∀ d, d < 16 → hexv (hexd d) = some d := by decide +kernel

theorem back34 (n : Nat) (S behind : List UInt8) (hS : S.length ≤ 100000) : ∀ (u : List UInt8) (k i : Nat) (acc : List UInt8), u.length < k → acc.length + u.length ≤ 100000 → S.drop i = u.flatMap esc ++ 34 :: behind →
    quote_Scan_l1 n S 34 k (i : Int) acc = some (.inr (acc ++ u, ((i + (u.flatMap esc).length + 1 : Nat) : Int), 0))
  | [], k, i, acc, hk, ha, hd => by
    obtain ⟨k, rfl⟩ : ∃ k', k = k' + 1 := ⟨k - 1, by omega⟩
    obtain ⟨hi, h1, h2⟩ := drop_cons (by simpa using hd : S.drop i = 34 :: behind)
    have hg : good S[i] ≠ false := by rw [h1]; decide
    rw [q34 n k S acc i hS (by simp at ha; omega) hi, if_neg hg, if_pos h1]
    simp
  | c :: u, k, i, acc, hk, ha, hd => by
    obtain ⟨k, rfl⟩ : ∃ k', k = k' + 1 := ⟨k - 1, by omega⟩
    simp only [List.length_cons] at hk ha
    rw [List.flatMap_cons, List.append_assoc] at hd
    have hmore := drop_more hd
    have hesc : ∀ (b : UInt8) (l : Nat) (t : List UInt8), esc c = 92 :: t → uesc (t ++ (u.flatMap esc ++ 34 :: behind)) = some (c, l) → (esc c).length = l →
        quote_Scan_l1 n S 34 (k + 1) (i : Int) acc = some (.inr (acc ++ c :: u, ((i + ((c :: u).flatMap esc).length + 1 : Nat) : Int), 0)) := by
      intro b l t he hu hl
      rw [he] at hd
      obtain ⟨hi, h1, h2⟩ := drop_cons (show S.drop i = 92 :: (t ++ (u.flatMap esc ++ 34 :: behind)) from hd)
      have hg : good S[i] ≠ false := by rw [h1]; decide
      have h34 : S[i] ≠ 34 := by rw [h1]; decide
      rw [q34 n k S acc i hS (by omega) hi, if_neg hg, if_neg h34, if_pos h1, h2, hu]
      simp only
      rw [hl] at hmore
      rw [back34 n S behind hS u k (i + l) (acc ++ [c]) (by omega) (by simp; omega) hmore]
      have hlen : ((c :: u).flatMap esc).length = l + (u.flatMap esc).length := by rw [List.flatMap_cons, List.length_append, hl]
      rw [hlen, List.append_assoc, show i + l + (u.flatMap esc).length + 1 = i + (l + (u.flatMap esc).length) + 1 by omega]
      rfl
    by_cases h1 : c = 34 ∨ c = 92
    · exact hesc c 2 [c] (by simp [esc, h1]) (by
        rcases h1 with rfl | rfl <;> rfl) (by simp [esc, h1])
    · by_cases h2 : c = 10
      · subst h2; exact hesc 10 2 [110] rfl rfl rfl
      · by_cases h3 : c = 9
        · subst h3; exact hesc 9 2 [116] rfl rfl rfl
        · by_cases h4 : good c = false
          · have he : esc c = [92, 120, hexd (c.toNat / 16), hexd (c.toNat % 16)] := by simp [esc, h1, h2, h3, h4]
            have hb := c.toNat_lt
            refine hesc c 4 [120, hexd (c.toNat / 16), hexd (c.toNat % 16)] he ?_ (by rw [he]; rfl)
            have e1 := hexv_hexd (c.toNat / 16) (by omega)
            have e2 := hexv_hexd (c.toNat % 16) (by omega)
            show (match hexv (hexd (c.toNat / 16)), hexv (hexd (c.toNat % 16)) with | some v, some w => some (UInt8.ofNat (v * 16 + w), 4) | _, _ => none) = some (c, 4)
            rw [e1, e2]
            simp only [Nat.div_add_mod', UInt8.ofNat_toNat]
          · have he : esc c = [c] := by simp [esc, h1, h2, h3, h4]
            rw [he] at hd
            obtain ⟨hi, g1, g2⟩ := drop_cons hd
            have h34 : S[i] ≠ 34 := by rw [g1]; exact fun e => h1 (.inl e)
            have h92 : S[i] ≠ 92 := by rw [g1]; exact fun e => h1 (.inr e)
            rw [q34 n k S acc i hS (by omega) hi, if_neg (by rw [g1]; exact h4), if_neg h34, if_neg h92, g1]
            rw [back34 n S behind hS u k (i + 1) (acc ++ [c]) (by omega) (by simp; omega) g2]
            have hlen : ((c :: u).flatMap esc).length = 1 + (u.flatMap esc).length := by rw [List.flatMap_cons, List.length_append, he]; rfl
            rw [hlen, List.append_assoc, show i + 1 + (u.flatMap esc).length + 1 = i + (1 + (u.flatMap esc).length) + 1 by omega]
            rfl

theorem back39 (n : Nat) (S behind : List UInt8) (hS : S.length ≤ 100000) (hbh : ∀ x r, behind = x :: r → x ≠ 39) : ∀ (u t : List UInt8) (k i : Nat) (acc : List UInt8), sgl u = some t → u.length < k → acc.length + u.length ≤ 100000 → S.drop i = t ++ 39 :: behind →
    quote_Scan_l1 n S 39 k (i : Int) acc = some (.inr (acc ++ u, ((i + t.length + 1 : Nat) : Int), 0))
  | [], t, k, i, acc, ht, hk, ha, hd => by
    cases ht
    obtain ⟨k, rfl⟩ : ∃ k', k = k' + 1 := ⟨k - 1, by omega⟩
    obtain ⟨hi, h1, h2⟩ := drop_cons (by simpa using hd : S.drop i = 39 :: behind)
    have hg : good S[i] ≠ false := by rw [h1]; decide
    rw [q39 n k S acc i hS (by simp at ha; omega) hi, if_neg hg, if_pos h1, if_neg]
    · simp
    · split
      · rename_i h'
        rw [List.drop_eq_getElem_cons h'] at h2
        have := hbh _ _ h2.symm
        simpa using this
      · exact Bool.false_ne_true
  | c :: u, t, k, i, acc, ht, hk, ha, hd => by
    obtain ⟨k, rfl⟩ : ∃ k', k = k' + 1 := ⟨k - 1, by omega⟩
    simp only [List.length_cons] at hk ha
    unfold sgl at ht
    split at ht
    · rename_i hgc
      cases hs : sgl u with
      | none => rw [hs] at ht; cases ht
      | some t' =>
        rw [hs] at ht
        cases ht
        rw [List.append_assoc] at hd
        have hmore := drop_more hd
        by_cases h39 : c = 39
        · subst h39
          have he : sq 39 = [39, 39] := rfl
          rw [he] at hd hmore
          obtain ⟨hi, h1, h2⟩ := drop_cons hd
          obtain ⟨hi', h3, h4⟩ := drop_cons h2
          have hg : good S[i] ≠ false := by rw [h1]; decide
          rw [q39 n k S acc i hS (by omega) hi, if_neg hg, if_pos h1, if_pos (by rw [dif_pos hi', h3]; rfl)]
          rw [back39 n S behind hS hbh u t' k (i + 2) (acc ++ [39]) hs (by omega) (by simp; omega) hmore]
          rw [List.append_assoc, List.length_append, he, show i + 2 + t'.length + 1 = i + ([(39 : UInt8), 39].length + t'.length) + 1 by simp; omega]
          rfl
        · have he : sq c = [c] := by simp [sq, h39]
          rw [he] at hd hmore
          obtain ⟨hi, h1, h2⟩ := drop_cons hd
          have hg : good S[i] ≠ false := by rw [h1, hgc]; decide
          rw [q39 n k S acc i hS (by omega) hi, if_neg hg, if_neg (by rw [h1]; exact h39), h1]
          rw [back39 n S behind hS hbh u t' k (i + 1) (acc ++ [c]) hs (by omega) (by simp; omega) hmore]
          rw [List.append_assoc, List.length_append, he, show i + 1 + t'.length + 1 = i + ([c].length + t'.length) + 1 by simp; omega]
          rfl
    · cases ht

theorem scan_open (n : Nat) (S : List UInt8) (i : Nat) (hS : S.length ≤ 100000) (h : i < S.length) (hc : S[i] = 34 ∨ S[i] = 39) : quote_Scan n S (i : Int) = (quote_Scan_l1 n S (S[i].toNat : Int) n ((i + 1 : Nat) : Int) []).bind fun o => some (finq o) := by
  unfold quote_Scan
  have d1 : decide ((i : Int) < 0) = false := decide_eq_false (by omega)
  have d2 : decide ((i : Int) ≥ (S.length : Int)) = false := decide_eq_false (by omega)
  have n34 : ((S[i].toNat : Int) != 34) = !(decide (S[i] = 34)) := by rw [← b34]; rfl
  have n39 : ((S[i].toNat : Int) != 39) = !(decide (S[i] = 39)) := by rw [← b39]; rfl
  simp only [d1, d2, in_i h, at_i h, n34, n39, lett, wrap_s i (by omega), Bool.or_true, if_true, cond_false]
  have hx : (bif !decide (S[i] = 34) then !decide (S[i] = 39) else false) = false := by
    rcases hc with hc | hc <;> rw [hc] <;> decide
  rw [hx, if_neg Bool.false_ne_true]
  congr 1
  funext o
  cases o <;> rfl

theorem get_mid (a b : List UInt8) (x : UInt8) (h : a.length < (a ++ x :: b).length) : (a ++ x :: b)[a.length] = x := by simp

theorem back_true (n : Nat) (hn : 4000 ≤ n) (haw : law06_awake n = some true) (a0 a1 a2 : List UInt8) : law06_QuoteBack n a0 a1 a2 = some true := by
  unfold law06_QuoteBack
  by_cases hs : a1.length ≤ 3000 ∧ a0.length ≤ 3000 ∧ a2.length ≤ 3000
  · obtain ⟨h1, h0, h2⟩ := hs
    have g1 : decide ((a1.length : Int) > 3000) = false := decide_eq_false (by omega)
    have g0 : decide ((a0.length : Int) > 3000) = false := decide_eq_false (by omega)
    have g2 : decide ((a2.length : Int) > 3000) = false := decide_eq_false (by omega)
    obtain ⟨d1, _⟩ := double_eq n a1 h1 (by omega)
    obtain ⟨s1, _⟩ := single_eq n a1 h1 (by omega)
    have hel := esc_all_len a1
    have hdl : (dblq a1).length = (a1.flatMap esc).length + 2 := by
      unfold dblq; rw [List.length_append, List.length_append]; simp only [List.length_cons, List.length_nil]; omega
    -- between double quotes
    have hS1 : (a0 ++ dblq a1) ++ a2 = a0 ++ 34 :: (a1.flatMap esc ++ 34 :: a2) := by simp [dblq, List.append_assoc]
    have hl1 : ((a0 ++ dblq a1) ++ a2).length ≤ 100000 := by rw [List.length_append, List.length_append, hdl]; omega
    have sc1 : quote_Scan n ((a0 ++ dblq a1) ++ a2) (a0.length : Int) = some (a1, ((a0.length + (dblq a1).length : Nat) : Int), 0) := by
      rw [hS1] at hl1 ⊢
      have hi : a0.length < (a0 ++ 34 :: (a1.flatMap esc ++ 34 :: a2)).length := by simp
      have hc := get_mid a0 (a1.flatMap esc ++ 34 :: a2) 34 hi
      rw [scan_open n _ a0.length hl1 hi (.inl hc), hc]
      have hd : (a0 ++ 34 :: (a1.flatMap esc ++ 34 :: a2)).drop (a0.length + 1) = a1.flatMap esc ++ 34 :: a2 := by
        rw [← List.drop_drop, List.drop_left]; rfl
      have := back34 n _ a2 hl1 a1 n (a0.length + 1) [] (by omega) (by simp; omega) hd
      have : quote_Scan_l1 n (a0 ++ 34 :: (a1.flatMap esc ++ 34 :: a2)) ((34 : UInt8).toNat : Int) n ((a0.length + 1 : Nat) : Int) [] = _ := this
      rw [this, hdl, show a0.length + 1 + (a1.flatMap esc).length + 1 = a0.length + ((a1.flatMap esc).length + 2) by omega]
      rfl
    have c1 : decide (((a0.length + (dblq a1).length : Nat) : Int) ≤ 9223372036854775807) = true := decide_eq_true (by omega)
    have c2 : decide ((((a0 ++ dblq a1).length + a2.length : Nat) : Int) ≤ 9223372036854775807) = true := decide_eq_true (by rw [List.length_append]; omega)
    have w1 : IntKind.wrap .i64 ((a0.length : Int) + ((dblq a1).length : Int)) = ((a0.length + (dblq a1).length : Nat) : Int) := wrap_add _ _ (by omega)
    have hx1 : ¬ ((bif (bif (decide ((List.length a1 : Int) > 3000)) then true else (decide ((List.length a0 : Int) > 3000))) then true else (decide ((List.length a2 : Int) > 3000))) = true) := by rw [g1, g0, g2]; decide
    -- between single quotes
    cases hq : sgl a1 with
    | none =>
      have hsg : sglq a1 = ([], false) := by unfold sglq; rw [hq]
      rw [hsg] at s1
      simp only [lett]
      rw [if_neg hx1, d1, Option.bind_some, if_pos c1, if_pos c2, sc1, Option.bind_some, if_neg (by simp only [w1]; simp), s1, Option.bind_some, if_pos (by simp), if_pos (by simp), haw]
      rfl
    | some t =>
      have htl := sgl_len hq
      obtain ⟨q, hqq⟩ : ∃ q : List UInt8, q = 39 :: (t ++ [39]) := ⟨_, rfl⟩
      have hsg : sglq a1 = (q, true) := by unfold sglq; rw [hq, hqq]; simp
      rw [hsg] at s1
      have hlt : q.length = t.length + 2 := by rw [hqq]; simp
      have sc2 : (∀ x r, a2 = x :: r → x ≠ 39) → quote_Scan n ((a0 ++ q) ++ a2) (a0.length : Int) = some (a1, ((a0.length + q.length : Nat) : Int), 0) := by
        intro hbh
        have hSt : (a0 ++ q) ++ a2 = a0 ++ 39 :: (t ++ 39 :: a2) := by rw [hqq]; simp [List.append_assoc]
        have hl2 : ((a0 ++ q) ++ a2).length ≤ 100000 := by rw [List.length_append, List.length_append, hlt]; omega
        rw [hSt] at hl2 ⊢
        have hi : a0.length < (a0 ++ 39 :: (t ++ 39 :: a2)).length := by simp
        have hc := get_mid a0 (t ++ 39 :: a2) 39 hi
        rw [scan_open n _ a0.length hl2 hi (.inr hc), hc]
        have hd : (a0 ++ 39 :: (t ++ 39 :: a2)).drop (a0.length + 1) = t ++ 39 :: a2 := by
          rw [← List.drop_drop, List.drop_left]; rfl
        have := back39 n _ a2 hl2 hbh a1 t n (a0.length + 1) [] hq (by omega) (by simp; omega) hd
        have : quote_Scan_l1 n (a0 ++ 39 :: (t ++ 39 :: a2)) ((39 : UInt8).toNat : Int) n ((a0.length + 1 : Nat) : Int) [] = _ := this
        rw [this, hlt, show a0.length + 1 + t.length + 1 = a0.length + (t.length + 2) by omega]
        rfl
      have c3 : decide (((a0.length + q.length : Nat) : Int) ≤ 9223372036854775807) = true := decide_eq_true (by rw [hlt]; omega)
      have c4 : decide ((((a0 ++ q).length + a2.length : Nat) : Int) ≤ 9223372036854775807) = true := decide_eq_true (by rw [List.length_append, hlt]; omega)
      have w2 : IntKind.wrap .i64 ((a0.length : Int) + (q.length : Int)) = ((a0.length + q.length : Nat) : Int) := wrap_add _ _ (by rw [hlt]; omega)
      simp only [lett]
      rw [if_neg hx1, d1, Option.bind_some, if_pos c1, if_pos c2, sc1, Option.bind_some, if_neg (by simp only [w1]; simp), s1, Option.bind_some]
      clear hqq hlt htl hq hsg s1 sc1 hS1 hl1 d1 hdl hel c1 c2 w1 hx1
      cases a2 with
      | nil =>
        have h9 := sc2 (by intro x r h; cases h)
        rw [if_pos (by simp), if_neg (by simp), if_pos c3, if_pos c4, h9, Option.bind_some, w2]
        simp [haw]
      | cons x r =>
        have g0 : ((x :: r)[Int.toNat 0]?.getD 0) = x := rfl
        have z0 : decide (0 ≤ (0 : Int) ∧ (0 : Int) < (List.length (x :: r) : Int)) = true := decide_eq_true (by simp only [List.length_cons]; omega)
        rw [if_pos (by rw [z0]; simp), g0, b39]
        by_cases hx : x = 39
        · rw [if_pos (by simp [hx]), haw]; rfl
        · have h9 := sc2 (by intro y r' h; cases h; exact hx)
          rw [if_neg (by simp [hx]), if_pos c3, if_pos c4, h9, Option.bind_some, w2]
          simp [haw]
  · have : (bif (bif (decide ((List.length a1 : Int) > 3000)) then true else (decide ((List.length a0 : Int) > 3000))) then true else (decide ((List.length a2 : Int) > 3000))) = true := by
      simp only [Bool.cond_true_left, Bool.or_eq_true, decide_eq_true_eq]
      omega
    simp only [lett, this, if_true, haw]
    rfl

theorem law06_QuoteBack_true (a0 : List UInt8) (_ : List.length a0 ≤ maxLen) (a1 : List UInt8) (_ : List.length a1 ≤ maxLen) (a2 : List UInt8) (_ : List.length a2 ≤ maxLen) : ∃ n, law06_QuoteBack n a0 a1 a2 = some true := ⟨5000, back_true 5000 (by omega) awake06 a0 a1 a2⟩
end Go.Proofs.Ythhoedkeggiflaa.M
