/-
  Chapter 15: there and back; the statements. Over the printed models.
-/
import Derived.Test.YtonjhkefnijlhaaDoorP15B
namespace Go.Proofs.YtonjhkefnijlhaaDoor.M
open Go Go.Proofs.YtonjhkefnijlhaaDoor.RX Go.Proofs.YtonjhkefnijlhaaDoor.PL

theorem res_len (o : Option (List BS)) : (res o).1.length ≤ 32 := by
  cases o with
  | none => simp [res]
  | some l =>
    show (if 32 < l.length then (([], 9) : List BS × Int) else (l, 0)).1.length ≤ 32
    by_cases h : 32 < l.length
    · rw [if_pos h]; simp
    · rw [if_neg h]; exact Nat.le_of_not_lt h
/-- Bare bytes go into the word. -/
theorem run_bare (out : List BS) (t : BS) : ∀ (x w : BS), x.all bareb = true → run 0 out w true (x ++ t) = run 0 out (w ++ x) true t
  | [], w, _ => by rw [List.append_nil]; rfl
  | c :: x, w, h => by
    rw [List.all_cons, Bool.and_eq_true] at h
    obtain ⟨h1, h2, h3, h4, h5⟩ := bare_not c h.1
    rw [List.cons_append, run0c, if_neg (by simp [h1, h2]), if_neg h3, if_neg h4, if_neg h5, run_bare out t x _ h.2, List.append_assoc]; rfl
theorem run_sq (out : List BS) (b : Bool) (t : BS) : ∀ (x w : BS), run 2 out w true (x.flatMap esc ++ 39 :: t) = run 0 out (w ++ x) true t
  | [], w => by
    show run 2 out w true (39 :: t) = _
    rw [run2c, if_pos rfl, List.append_nil]
  | c :: x, w => by
    rw [List.flatMap_cons, List.append_assoc]
    by_cases h : c = 39
    · subst h
      show run 2 out w true (39 :: 92 :: 39 :: 39 :: (x.flatMap esc ++ 39 :: t)) = _
      rw [run2c, if_pos rfl, run0c, if_neg (by decide), if_neg (by decide), if_neg (by decide), if_pos rfl, run1c, run0c, if_neg (by decide), if_pos rfl, run_sq out b t x, List.append_assoc]; rfl
    · have : esc c = [c] := by unfold esc sub; rw [if_neg h]
      rw [this, List.singleton_append, run2c, if_neg h, run_sq out b t x, List.append_assoc]; rfl
theorem run_qw (out : List BS) (w x t : BS) (b : Bool) : run 0 out w b (qw x ++ t) = run 0 out (w ++ x) true t := by
  unfold qw
  cases hb : bare x with
  | true =>
    rw [if_pos rfl]
    cases x with
    | nil => cases hb
    | cons c x =>
      have ha : (c :: x).all bareb = true := by
        unfold bare at hb
        rw [Bool.and_eq_true] at hb; exact hb.1
      rw [List.all_cons, Bool.and_eq_true] at ha
      obtain ⟨h1, h2, h3, h4, h5⟩ := bare_not c ha.1
      rw [List.cons_append, run0c, if_neg (by simp [h1, h2]), if_neg h3, if_neg h4, if_neg h5, run_bare out t x _ ha.2, List.append_assoc]; rfl
  | false =>
    rw [if_neg Bool.false_ne_true, List.append_assoc, List.append_assoc]
    show run 0 out w b (39 :: (x.flatMap esc ++ 39 :: t)) = _
    rw [run0c, if_neg (by decide), if_pos rfl, run_sq out b t x]
theorem run_join (t : BS) (ht : ∀ (out : List BS) (w : BS), run 0 out w true t = some (out ++ [w])) (ht0 : ∀ out : List BS, run 0 out [] false t = some out) : ∀ (l out : List BS), run 0 out [] false (Lib.join (l.map qw) [32] ++ t) = some (out ++ l)
  | [], out => by
    show run 0 out [] false t = _
    rw [ht0, List.append_nil]
  | [x], out => by
    rw [List.map_cons, List.map_nil, Lib.join_one, run_qw, ht]; rfl
  | x :: y :: r, out => by
    rw [List.map_cons, List.map_cons, join_cons2, List.append_assoc, List.append_assoc, run_qw, List.singleton_append, run0c, if_pos (.inl rfl), if_pos rfl]
    have := run_join t ht ht0 (y :: r) (out ++ [x])
    rw [List.map_cons] at this
    rw [List.nil_append, this, List.append_assoc]; rfl
/-- Words out of a text are not longer than it. -/
theorem run_words (B : Nat) : ∀ (s : BS) (m : Nat) (out : List BS) (w : BS) (b : Bool) (o : List BS), run m out w b s = some o → w.length + 2 * s.length ≤ B → (∀ x ∈ out, x.length ≤ B) → ∀ x ∈ o, x.length ≤ B
  | [], m, out, w, b, o, h, hw, ho => by
    rw [run] at h
    split at h
    · cases h
      intro x hx
      unfold fin at hx
      split at hx
      · rcases List.mem_append.1 hx with h | h
        · exact ho x h
        · rw [List.mem_singleton.1 h]; simp at hw; omega
      · exact ho x hx
    · cases h
  | c :: t, m, out, w, b, o, h, hw, ho => by
    rw [List.length_cons] at hw
    have hout : ∀ x ∈ out ++ [w], x.length ≤ B := fun x hx => by
      rcases List.mem_append.1 hx with h | h
      · exact ho x h
      · rw [List.mem_singleton.1 h]; omega
    have h1 : (w ++ [c]).length + 2 * t.length ≤ B := by rw [List.length_append, List.length_singleton]; omega
    have h2 : (w ++ [92, c]).length + 2 * t.length ≤ B := by rw [List.length_append]; show w.length + 2 + _ ≤ _; omega
    rw [run] at h
    split at h
    · split at h
      · split at h
        · exact run_words B t _ _ _ _ _ h (by simp; omega) hout
        · exact run_words B t _ _ _ _ _ h (by omega) ho
      · split at h
        · exact run_words B t _ _ _ _ _ h (by omega) ho
        · split at h
          · exact run_words B t _ _ _ _ _ h (by omega) ho
          · split at h
            · exact run_words B t _ _ _ _ _ h (by omega) ho
            · exact run_words B t _ _ _ _ _ h h1 ho
    · split at h
      · exact run_words B t _ _ _ _ _ h h1 ho
      · split at h
        · split at h
          · exact run_words B t _ _ _ _ _ h (by omega) ho
          · exact run_words B t _ _ _ _ _ h h1 ho
        · split at h
          · split at h
            · exact run_words B t _ _ _ _ _ h (by omega) ho
            · split at h
              · exact run_words B t _ _ _ _ _ h (by omega) ho
              · exact run_words B t _ _ _ _ _ h h1 ho
          · split at h
            · exact run_words B t _ _ _ _ _ h h1 ho
            · exact run_words B t _ _ _ _ _ h h2 ho
theorem join_qw_len (l : List BS) (m : Nat) (hx : ∀ x ∈ l, x.length ≤ m) : (Lib.join (l.map qw) [32]).length ≤ l.length * (4 * m + 3) := by
  have := join_len [32] (4 * m + 3) (l.map qw) (fun x hx' => by
    obtain ⟨y, hy, rfl⟩ := List.mem_map.1 hx'
    have := qw_len y; have := hx y hy
    show (qw y).length + 1 ≤ _
    omega)
  rwa [List.length_map] at this

theorem awake15 (n : Nat) (hn : 3000000 ≤ n) : law15_awake n = some true := by
  unfold law15_awake
  have h1 : res (run 0 [] [] false [97, 32, 34, 98, 32, 99, 34, 39, 100, 39, 32, 92, 101]) = ([[97], [98, 32, 99, 100], [101]], 0) := by decide +kernel
  have h2 : Lib.join ([[105, 116, 39, 115]].map qw) [32] = [39, 105, 116, 39, 92, 39, 39, 115, 39] := by decide +kernel
  rw [word_Split_eq n _ (by decide) hn, word_Join_eq n [[105, 116, 39, 115]] (by decide) (by decide) hn, h1, h2, Option.bind_some]
  have hs := ref02_Same_eq n [[97], [98, 32, 99, 100], [101]] [[97], [98, 32, 99, 100], [101]] (by decide) (by omega)
  simp only [hs, decide_true]
  decide +kernel
theorem WordSplits_n (n : Nat) (hn : 3000000 ≤ n) (a : BS) : law15_WordSplits n a = some true := by
  unfold law15_WordSplits
  rw [awake15 n hn]
  by_cases h : (a.length : Int) > 2000
  · rw [if_pos (decide_eq_true h)]; rfl
  · have ha : a.length ≤ 2000 := by omega
    have hr := res_len (run 0 [] [] false a)
    rw [if_neg (by simpa using h), word_Split_eq n a (by omega) hn, ref15_Split_eq n a (by omega) hn, word_Bare_eq n a (by omega) hn, ref15_Bare_eq n a (by omega) hn]
    simp only [Option.bind_some, ref02_Same_eq n (res (run 0 [] [] false a)).1 _ (show (res (run 0 [] [] false a)).1.length < 10000 by omega) (show 100000 ≤ n by omega), decide_true, beq_self_eq_true, cond_true, if_true]
theorem few2_eq (n : Nat) (l : List BS) (m : Nat) (hm : m ≤ 1000) (hn : 100000 ≤ n) : ∃ b, law02_Few n l (m : Int) = some b ∧ (b = true → l.length ≤ m ∧ ∀ x ∈ l, x.length ≤ 100) := by
  unfold law02_Few
  by_cases h : (l.length : Int) > (m : Int)
  · exact ⟨false, by rw [if_pos (decide_eq_true h)], fun h => by cases h⟩
  · rw [if_neg (by simpa using h)]
    have := scanL (L := law02_Few_l1 n l) l (fun x => if decide ((x.length : Int) > 100) = true then some false else none) 0 (by omega)
      (fun k i h _ => by
        rw [law02_Few_l1, if_pos (lt_i h), if_pos (in_i h), at_i h]
        cases decide ((l[i].length : Int) > 100) <;> rfl)
      (fun k => by rw [law02_Few_l1, nlt_n]; rfl) n 0 (by omega) (by omega) (by omega)
    have this : law02_Few_l1 n l n 0 = _ := this
    rw [this, List.drop_zero, findSome_anyF]
    cases ha : l.any fun x => decide ((x.length : Int) > 100) with
    | false =>
      refine ⟨true, rfl, fun _ => ⟨by omega, fun x hx => ?_⟩⟩
      have := (List.any_eq_false.1 ha) x hx
      simp at this; omega
    | true => exact ⟨false, rfl, fun h => by cases h⟩
theorem WordJoins_n (n : Nat) (hn : 3000000 ≤ n) (l : List BS) : law15_WordJoins n l = some true := by
  unfold law15_WordJoins
  obtain ⟨b, e, h⟩ := few2_eq n l 40 (by omega) (by omega)
  have e : law02_Few n l 40 = some b := e
  rw [e, awake15 n hn, Option.bind_some]
  cases b with
  | false => rfl
  | true =>
    obtain ⟨h1, h2⟩ := h rfl
    have h3 : ∀ x ∈ l, x.length ≤ 10000 := fun x hx => by have := h2 x hx; omega
    rw [word_Join_eq n l (by omega) h3 hn, ref15_Join_eq n l (by omega) h3 hn]
    simp only [Bool.not_true, Bool.false_eq_true, if_false, Option.bind_some, beq_self_eq_true, if_true, cond_true]
theorem sp_tail (out : List BS) (w : BS) : run 0 out w true [32] = some (out ++ [w]) := by rw [run0c, if_pos (.inl rfl), if_pos rfl]; rfl
theorem sp_tail0 (out : List BS) : run 0 out [] false [32] = some out := by rw [run0c, if_pos (.inl rfl), if_neg Bool.false_ne_true]; rfl
theorem WordBack_n (n : Nat) (hn : 3000000 ≤ n) (l : List BS) (s : BS) : law15_WordBack n l s = some true := by
  unfold law15_WordBack
  obtain ⟨b, e, h⟩ := few2_eq n l 40 (by omega) (by omega)
  have e : law02_Few n l 40 = some b := e
  rw [e, awake15 n hn, Option.bind_some]
  cases b with
  | false => rfl
  | true =>
    obtain ⟨h1, h2⟩ := h rfl
    have h3 : ∀ x ∈ l, x.length ≤ 10000 := fun x hx => by have := h2 x hx; omega
    by_cases hs : (s.length : Int) > 2000
    · rw [decide_eq_true hs]; rfl
    · have hs' : s.length ≤ 2000 := by omega
      have hjl := join_qw_len l 100 h2
      have hjl : (Lib.join (l.map qw) [32]).length ≤ 40 * 403 := Nat.le_trans hjl (Nat.mul_le_mul_right _ h1)
      have hrun : run 0 [] [] false (Lib.join (l.map qw) [32]) = some l := by
        have := run_join [] (fun _ _ => rfl) (fun _ => rfl) l []
        rwa [List.append_nil] at this
      rw [decide_eq_false hs, word_Join_eq n l (by omega) h3 hn]
      simp only [Bool.not_true, cond_false, Bool.false_eq_true, if_false, Option.bind_some]
      rw [word_Split_eq n (Lib.join (l.map qw) [32]) (by omega) hn, hrun, Option.bind_some]
      have first : ∃ r5, ((if (((((res (some l)).2 != 0) == false) && (((decide ((List.length l : Int) ≤ 32)) == true) && ((bif (decide ((List.length l : Int) > 32)) then (bif ((res (some l)).2 != 9) then true else (decide ((List.length (res (some l)).1 : Int) > 0))) else false) == false)))) = true then ref02_Same n l (res (some l)).1 else some false)) = some r5 ∧
          (bif (bif (decide ((List.length l : Int) > 32)) then (bif ((res (some l)).2 != 9) then true else (decide ((List.length (res (some l)).1 : Int) > 0))) else false) then true else (bif (decide ((List.length l : Int) ≤ 32)) then (bif ((res (some l)).2 != 0) then true else (!r5)) else false)) = false := by
        by_cases h32 : 32 < l.length
        · have e1 : res (some l) = ([], 9) := by show (if 32 < l.length then (([], 9) : List BS × Int) else (l, 0)) = _; rw [if_pos h32]
          have e2 : decide ((List.length l : Int) > 32) = true := decide_eq_true (by omega)
          have e3 : decide ((List.length l : Int) ≤ 32) = false := decide_eq_false (by omega)
          rw [e1, e2, e3]
          exact ⟨false, rfl, rfl⟩
        · have e1 : res (some l) = (l, 0) := by show (if 32 < l.length then (([], 9) : List BS × Int) else (l, 0)) = _; rw [if_neg h32]
          have e2 : decide ((List.length l : Int) > 32) = false := decide_eq_false (by omega)
          have e3 : decide ((List.length l : Int) ≤ 32) = true := decide_eq_true (by omega)
          rw [e1, e2, e3, ref02_Same_eq n l l (by omega) (by omega), decide_eq_true rfl]
          exact ⟨true, rfl, rfl⟩
      obtain ⟨r5, e5, e6⟩ := first
      rw [e5, Option.bind_some, e6]
      show (if false = true then some false else _) = _
      rw [if_neg Bool.false_ne_true, word_Split_eq n s (by omega) hn, Option.bind_some]
      cases hr : run 0 [] [] false s with
      | none => rfl
      | some o =>
        have hw := run_words 4000 s 0 [] [] false o hr (by show 0 + 2 * s.length ≤ 4000; omega) (by simp)
        by_cases h32 : 32 < o.length
        · have e1 : res (some o) = ([], 9) := by show (if 32 < o.length then (([], 9) : List BS × Int) else (o, 0)) = _; rw [if_pos h32]
          rw [e1]; rfl
        · have e1 : res (some o) = (o, 0) := by show (if 32 < o.length then (([], 9) : List BS × Int) else (o, 0)) = _; rw [if_neg h32]
          have hjo := join_qw_len o 4000 hw
          have hjo : (Lib.join (o.map qw) [32]).length ≤ 32 * 16003 := Nat.le_trans hjo (Nat.mul_le_mul_right _ (by omega))
          have hrun2 : run 0 [] [] false (([9, 32] ++ Lib.join (o.map qw) [32]) ++ [32]) = some o := by
            rw [List.append_assoc]
            show run 0 [] [] false (9 :: 32 :: (Lib.join (o.map qw) [32] ++ [32])) = _
            rw [run0c, if_pos (.inr rfl), if_neg Bool.false_ne_true, run0c, if_pos (.inl rfl), if_neg Bool.false_ne_true, run_join [32] sp_tail sp_tail0]; rfl
          have hl2 : ([9, 32] ++ Lib.join (o.map qw) [32]).length = 2 + (Lib.join (o.map qw) [32]).length := by rw [List.length_append]; rfl
          have hl3 : (([9, 32] ++ Lib.join (o.map qw) [32]) ++ [32]).length = 2 + (Lib.join (o.map qw) [32]).length + 1 := by rw [List.length_append, hl2]; rfl
          have c1 : decide (((List.length ([9, 32] : List UInt8) + List.length (Lib.join (o.map qw) [32]) : Nat) : Int) ≤ 9223372036854775807) = true := str_fits (by show 2 + _ ≤ _; omega)
          have c2 : decide (((List.length (([9, 32] : List UInt8) ++ Lib.join (o.map qw) [32]) + List.length ([32] : List UInt8) : Nat) : Int) ≤ 9223372036854775807) = true := str_fits (by rw [hl2]; show _ + 1 ≤ _; omega)
          rw [e1, if_neg (by decide : ¬ ((0 : Int) != 0) = true), word_Join_eq n o (by omega) (fun x hx => by have := hw x hx; omega) hn, Option.bind_some, if_pos c1, if_pos c2, word_Split_eq n _ (by rw [hl3]; omega) hn, hrun2, e1, Option.bind_some, ref02_Same_eq n o o (by omega) (by omega), decide_eq_true rfl]
          rfl
theorem law15_WordSplits_true (a0 : List UInt8) (_ : List.length a0 ≤ maxLen) : ∃ n, law15_WordSplits n a0 = some true := ⟨3000000, WordSplits_n _ (Nat.le_refl _) a0⟩
theorem law15_WordJoins_true (a0 : List (List UInt8)) (_ : W_Lstring a0) : ∃ n, law15_WordJoins n a0 = some true := ⟨3000000, WordJoins_n _ (Nat.le_refl _) a0⟩
theorem law15_WordBack_true (a0 : List (List UInt8)) (_ : W_Lstring a0) (a1 : List UInt8) (_ : List.length a1 ≤ maxLen) : ∃ n, law15_WordBack n a0 a1 = some true := ⟨3000000, WordBack_n _ (Nat.le_refl _) a0 a1⟩
end Go.Proofs.YtonjhkefnijlhaaDoor.M
