/-
  Part of the proof of NodePuts: P08E.
-/
import Derived.Test.YtjicbelggepaiaaQP08D
set_option linter.all false
namespace Go.Proofs.Ytjicbelggepaiaa.M
open Go Go.Proofs.Ytjicbelggepaiaa.RX Go.Proofs.Ytjicbelggepaiaa.PL
set_option maxRecDepth 100000
theorem cap73 {a b : Nat} (h : a + b ≤ 1000000000) : decide ((a + b) * (72 + 1) ≤ limit) = true := decide_eq_true (by show (a + b) * (72 + 1) ≤ 140737488355328; omega)
theorem cc_string (n : Nat) (a b : List BS) (h : a.length + b.length ≤ 10000) (hn : 100 ≤ n) : slices_Concat_string_string n [a, b] = some (a ++ b) := by
  obtain ⟨m, rfl⟩ : ∃ m, n = m + 3 := ⟨n - 3, by omega⟩
  have l1 : slices_Concat_string_string_l1 (m + 3) [a, b] [a, b] (List.length [a, b] : Int) (m + 3) 0 0 = some ((a.length + b.length : Nat) : Int) := by
    have s0 : slices_Concat_string_string_l1 (m + 3) [a, b] [a, b] 2 (m + 3) 0 0 = slices_Concat_string_string_l1 (m + 3) [a, b] [a, b] 2 (m + 2) (a.length : Int) 1 := by
      rw [slices_Concat_string_string_l1, if_pos (by rfl), slices_Concat_string_string_j2, if_pos (by rfl)]
      show Option.bind (if decide (IntKind.wrap .i64 (0 + (a.length : Int)) < 0) = true then none else some (IntKind.wrap .i64 (0 + (a.length : Int)))) _ = _
      rw [wrap_id _ (by omega) (by omega), if_neg (by rw [decide_eq_true_eq]; omega), Int.zero_add]; rfl
    have s1 : slices_Concat_string_string_l1 (m + 3) [a, b] [a, b] 2 (m + 2) (a.length : Int) 1 = slices_Concat_string_string_l1 (m + 3) [a, b] [a, b] 2 (m + 1) ((a.length + b.length : Nat) : Int) 2 := by
      rw [slices_Concat_string_string_l1, if_pos (by rfl), slices_Concat_string_string_j2, if_pos (by rfl)]
      show Option.bind (if decide (IntKind.wrap .i64 ((a.length : Int) + (b.length : Int)) < 0) = true then none else some (IntKind.wrap .i64 ((a.length : Int) + (b.length : Int)))) _ = _
      rw [wrap_id _ (by omega) (by omega), if_neg (by rw [decide_eq_true_eq]; omega), show (a.length : Int) + (b.length : Int) = ((a.length + b.length : Nat) : Int) from by omega]; rfl
    show slices_Concat_string_string_l1 (m + 3) [a, b] [a, b] 2 (m + 3) 0 0 = _
    rw [s0, s1, slices_Concat_string_string_l1, if_neg (by decide)]
  have l3 : slices_Concat_string_string_l3 (m + 3) [a, b] (List.length [a, b] : Int) (m + 3) ([] : List BS) 0 = some (a ++ b) := by
    have s0 : slices_Concat_string_string_l3 (m + 3) [a, b] 2 (m + 3) ([] : List BS) 0 = slices_Concat_string_string_l3 (m + 3) [a, b] 2 (m + 2) a 1 := by
      rw [slices_Concat_string_string_l3, if_pos (by rfl), if_pos (by rfl)]
      show (if decide ((([] : List BS).length + a.length) * (16 + 1) ≤ limit) = true then slices_Concat_string_string_l3 (m + 3) [a, b] 2 (m + 2) ([] ++ a) (IntKind.wrap .i64 (0 + 1)) else none) = _
      rw [if_pos (cap_add (by simp; omega))]; rfl
    have s1 : slices_Concat_string_string_l3 (m + 3) [a, b] 2 (m + 2) a 1 = slices_Concat_string_string_l3 (m + 3) [a, b] 2 (m + 1) (a ++ b) 2 := by
      rw [slices_Concat_string_string_l3, if_pos (by rfl), if_pos (by rfl)]
      show (if decide ((a.length + b.length) * (16 + 1) ≤ limit) = true then slices_Concat_string_string_l3 (m + 3) [a, b] 2 (m + 1) (a ++ b) (IntKind.wrap .i64 (1 + 1)) else none) = _
      rw [if_pos (cap_add (by omega))]; rfl
    show slices_Concat_string_string_l3 (m + 3) [a, b] 2 (m + 3) ([] : List BS) 0 = _
    rw [s0, s1, slices_Concat_string_string_l3, if_neg (by decide)]
  unfold slices_Concat_string_string
  rw [l1, Option.bind_some, if_pos (show decide (0 ≤ ((a.length + b.length : Nat) : Int) ∧ ((a.length + b.length : Nat) : Int) * 17 ≤ (limit : Int)) = true from decide_eq_true ⟨by omega, by show _ ≤ ((140737488355328 : Nat) : Int); omega⟩), l3]; rfl
theorem cc_api_Node (n : Nat) (a b : List Nd) (h : a.length + b.length ≤ 10000) (hn : 100 ≤ n) : slices_Concat_api_Node_api_Node n [a, b] = some (a ++ b) := by
  obtain ⟨m, rfl⟩ : ∃ m, n = m + 3 := ⟨n - 3, by omega⟩
  have l1 : slices_Concat_api_Node_api_Node_l1 (m + 3) [a, b] [a, b] (List.length [a, b] : Int) (m + 3) 0 0 = some ((a.length + b.length : Nat) : Int) := by
    have s0 : slices_Concat_api_Node_api_Node_l1 (m + 3) [a, b] [a, b] 2 (m + 3) 0 0 = slices_Concat_api_Node_api_Node_l1 (m + 3) [a, b] [a, b] 2 (m + 2) (a.length : Int) 1 := by
      rw [slices_Concat_api_Node_api_Node_l1, if_pos (by rfl), slices_Concat_api_Node_api_Node_j2, if_pos (by rfl)]
      show Option.bind (if decide (IntKind.wrap .i64 (0 + (a.length : Int)) < 0) = true then none else some (IntKind.wrap .i64 (0 + (a.length : Int)))) _ = _
      rw [wrap_id _ (by omega) (by omega), if_neg (by rw [decide_eq_true_eq]; omega), Int.zero_add]; rfl
    have s1 : slices_Concat_api_Node_api_Node_l1 (m + 3) [a, b] [a, b] 2 (m + 2) (a.length : Int) 1 = slices_Concat_api_Node_api_Node_l1 (m + 3) [a, b] [a, b] 2 (m + 1) ((a.length + b.length : Nat) : Int) 2 := by
      rw [slices_Concat_api_Node_api_Node_l1, if_pos (by rfl), slices_Concat_api_Node_api_Node_j2, if_pos (by rfl)]
      show Option.bind (if decide (IntKind.wrap .i64 ((a.length : Int) + (b.length : Int)) < 0) = true then none else some (IntKind.wrap .i64 ((a.length : Int) + (b.length : Int)))) _ = _
      rw [wrap_id _ (by omega) (by omega), if_neg (by rw [decide_eq_true_eq]; omega), show (a.length : Int) + (b.length : Int) = ((a.length + b.length : Nat) : Int) from by omega]; rfl
    show slices_Concat_api_Node_api_Node_l1 (m + 3) [a, b] [a, b] 2 (m + 3) 0 0 = _
    rw [s0, s1, slices_Concat_api_Node_api_Node_l1, if_neg (by decide)]
  have l3 : slices_Concat_api_Node_api_Node_l3 (m + 3) [a, b] (List.length [a, b] : Int) (m + 3) ([] : List Nd) 0 = some (a ++ b) := by
    have s0 : slices_Concat_api_Node_api_Node_l3 (m + 3) [a, b] 2 (m + 3) ([] : List Nd) 0 = slices_Concat_api_Node_api_Node_l3 (m + 3) [a, b] 2 (m + 2) a 1 := by
      rw [slices_Concat_api_Node_api_Node_l3, if_pos (by rfl), if_pos (by rfl)]
      show (if decide ((([] : List Nd).length + a.length) * (72 + 1) ≤ limit) = true then slices_Concat_api_Node_api_Node_l3 (m + 3) [a, b] 2 (m + 2) ([] ++ a) (IntKind.wrap .i64 (0 + 1)) else none) = _
      rw [if_pos (cap73 (by simp; omega))]; rfl
    have s1 : slices_Concat_api_Node_api_Node_l3 (m + 3) [a, b] 2 (m + 2) a 1 = slices_Concat_api_Node_api_Node_l3 (m + 3) [a, b] 2 (m + 1) (a ++ b) 2 := by
      rw [slices_Concat_api_Node_api_Node_l3, if_pos (by rfl), if_pos (by rfl)]
      show (if decide ((a.length + b.length) * (72 + 1) ≤ limit) = true then slices_Concat_api_Node_api_Node_l3 (m + 3) [a, b] 2 (m + 1) (a ++ b) (IntKind.wrap .i64 (1 + 1)) else none) = _
      rw [if_pos (cap73 (by omega))]; rfl
    show slices_Concat_api_Node_api_Node_l3 (m + 3) [a, b] 2 (m + 3) ([] : List Nd) 0 = _
    rw [s0, s1, slices_Concat_api_Node_api_Node_l3, if_neg (by decide)]
  unfold slices_Concat_api_Node_api_Node
  rw [l1, Option.bind_some, if_pos (show decide (0 ≤ ((a.length + b.length : Nat) : Int) ∧ ((a.length + b.length : Nat) : Int) * 73 ≤ (limit : Int)) = true from decide_eq_true ⟨by omega, by show _ ≤ ((140737488355328 : Nat) : Int); omega⟩), l3]; rfl
theorem mem_ne {s a : BS} (l : List BS) (h : ¬ s = a) : decide (s ∈ a :: l) = decide (s ∈ l) := by simp [h]
def with8 (t : Nd) (s : BS) (v : Nd) : Nd := if t.f_Kind = 3 ∨ t.f_Kind = 0 then S_api_Node.mk 3 [] (t.f_Keys ++ if s ∈ t.f_Keys then [] else [s]) (repl s v t.f_Keys t.f_Kids ++ if s ∈ t.f_Keys then [] else [v]) else t
theorem node_With_eq {d n : Nat} {t : Nd} (s : BS) (v : Nd) (hF : Fit d t) (hn : 100000 ≤ n) : node_With n t s v = some (with8 t s v) := by
  unfold node_With with8
  have l3 := fit_small hF
  by_cases hk : t.f_Kind = 3 ∨ t.f_Kind = 0
  · obtain ⟨l1, l2, _⟩ := fit_lens hF hk
    have e : (bif (t.f_Kind != 3) then (t.f_Kind != 0) else false) = false := by rcases hk with h | h <;> rw [h] <;> rfl
    have c1 : slices_Clone_string_string_o n t.f_Keys = some t.f_Keys := by
      unfold slices_Clone_string_string_o; rw [if_pos (cap_add (by simp; omega))]; rfl
    have c2 : slices_Clone_api_Node_api_Node_o n t.f_Kids = some t.f_Kids := by
      unfold slices_Clone_api_Node_api_Node_o; rw [if_pos (cap73 (by simp; omega))]; rfl
    rw [e, if_neg Bool.false_ne_true, if_pos hk, c1, Option.bind_some, c2, Option.bind_some, place_eq n [] t.f_Keys t.f_Kids s l1 (by omega) hn, Option.bind_some]
    cases ha : at1 s 0 t.f_Keys with
    | none =>
      have hs := at_none ha
      obtain ⟨g1, _⟩ := notin_repl (v := v) l1 hs
      rw [if_neg hs, if_neg hs, g1, Option.getD_none, if_neg (by decide), if_pos (cap_add (by simp; omega)), if_pos (cap73 (by simp; omega))]
    | some r =>
      obtain ⟨j, hj, e, _, g2, _, _, g5⟩ := at_some (v := v) l2 l1 ha
      rw [Nat.zero_add] at e
      subst e
      rw [if_pos g5, if_pos g5, g2, Option.getD_some, if_pos (show decide ((j : Int) ≥ 0) = true from decide_eq_true (by omega)), if_pos (in_i hj), List.append_nil, List.append_nil, Int.toNat_natCast]
  · have e : (bif (t.f_Kind != 3) then (t.f_Kind != 0) else false) = true := by
      rw [not_or] at hk
      rw [bif_and, Bool.and_eq_true, bne_iff_ne, bne_iff_ne]; exact hk
    rw [e, if_pos rfl, if_neg hk]
theorem with_l (n : Nat) (s : BS) (t v z : Nd) (hl : t.f_Keys.length = t.f_Kids.length) (hs : t.f_Keys.length ≤ 2000) : ∀ (k i : Nat) (fnd : Bool) (ks : List BS) (xs : List Nd), ks.length = i → xs.length = i → i ≤ t.f_Keys.length → t.f_Keys.length - i < k →
    ref08_With_l1 n s t v z k fnd (i : Int) (S_api_Node.mk 3 [] ks xs) = some (fnd || decide (s ∈ t.f_Keys.drop i), S_api_Node.mk 3 [] (ks ++ t.f_Keys.drop i) (xs ++ repl s v (t.f_Keys.drop i) (t.f_Kids.drop i)))
  | 0, i, _, _, _, _, _, _, h => by omega
  | k + 1, i, fnd, ks, xs, hks, hxs, hi, hk => by
    by_cases h : i < t.f_Keys.length
    · have h' : i < t.f_Kids.length := by omega
      rw [ref08_With_l1, if_pos (lt_i h), ref08_With_j2, if_pos (in_i h), at_i h, if_pos (cap_add (by show ks.length + 1 ≤ _; omega)), if_pos (in_i h), if_pos (in_i h'), kid8 h',
        if_pos (show decide ((List.length (S_api_Node.mk 3 [] ks xs).f_Kids + List.length [v]) * (72 + 1) ≤ limit) = true from cap73 (by show xs.length + 1 ≤ _; omega)),
        if_pos (show decide ((List.length (S_api_Node.mk 3 [] ks xs).f_Kids + List.length [t.f_Kids[i]]) * (72 + 1) ≤ limit) = true from cap73 (by show xs.length + 1 ≤ _; omega)), wrap_s i (by omega), drop_at h, drop_at h']
      conv => rhs; unfold repl
      by_cases hk : t.f_Keys[i] = s
      · rw [if_pos (by rw [hk]; exact beq_self_eq_true s), if_pos hk, Option.bind_some]
        show ref08_With_l1 n s t v z k true ((i + 1 : Nat) : Int) (S_api_Node.mk 3 [] (ks ++ [t.f_Keys[i]]) (xs ++ [v])) = _
        rw [with_l n s t v z hl hs k (i + 1) true _ _ (by simp [hks]) (by simp [hxs]) (by omega) (by omega)]
        simp [hk]
      · rw [if_neg (by rw [beq_iff_eq]; exact hk), if_neg hk]
        simp only [lett, Option.bind_some]
        rw [with_l n s t v z hl hs k (i + 1) fnd _ _ (by simp [hks]) (by simp [hxs]) (by omega) (by omega)]
        have hk' : ¬ s = t.f_Keys[i] := fun e => hk e.symm
        rw [mem_ne _ hk', List.append_assoc, List.append_assoc]; rfl
    · have : i = t.f_Keys.length := by omega
      subst this
      rw [ref08_With_l1, nlt_n, List.drop_eq_nil_of_le (Nat.le_refl _)]
      simp [repl]
theorem ref08_With_eq {d n : Nat} {t : Nd} (s : BS) (v : Nd) (hF : Fit d t) (hn : 100000 ≤ n) : ref08_With n t s v = some (with8 t s v) := by
  unfold ref08_With with8
  have l3 := fit_small hF
  by_cases hk : t.f_Kind = 3 ∨ t.f_Kind = 0
  · obtain ⟨l1, l2, _⟩ := fit_lens hF hk
    have e : (bif (t.f_Kind != 0) then (t.f_Kind != 3) else false) = false := by rcases hk with h | h <;> rw [h] <;> rfl
    have hr := repl_len (s := s) (v := v) l1
    have h := with_l n s t v (S_api_Node.mk 0 [] [] []) l1 l3.1 n 0 false [] [] rfl rfl (by omega) (by omega)
    rw [List.drop_zero, List.drop_zero] at h
    have h : ref08_With_l1 n s t v (S_api_Node.mk 0 [] [] []) n false 0 (S_api_Node.mk 3 [] [] []) = _ := h
    rw [e, if_neg Bool.false_ne_true, if_pos hk, h, Option.bind_some]
    unfold ref08_With_j3
    by_cases hs : s ∈ t.f_Keys
    · rw [if_pos hs, if_pos hs, decide_eq_true hs]
      simp
    · rw [if_neg hs, if_neg hs, decide_eq_false hs]
      simp only [Bool.false_or, Bool.not_false, if_true, List.nil_append]
      rw [if_pos (cap_add (by simp; omega)), if_pos (cap73 (by simp; omega))]
      rfl
  · have e : (bif (t.f_Kind != 0) then (t.f_Kind != 3) else false) = true := by
      rw [not_or] at hk
      rw [bif_and, Bool.and_eq_true, bne_iff_ne, bne_iff_ne]; exact ⟨hk.2, hk.1⟩
    rw [e, if_pos rfl, if_neg hk]
theorem with_fit {d : Nat} {t v : Nd} (s : BS) (hF : Fit d t) (hv : Fit d v) (hk : t.f_Kids.length ≤ 1000) : Fit (d + 1) (with8 t s v) := by
  unfold with8
  split
  · rename_i hk3
    obtain ⟨l1, l2, _⟩ := fit_lens hF hk3
    have hr := repl_len (s := s) (v := v) l1
    refine ⟨?_, ?_, fun _ => rfl, fun h => (h rfl).elim, fun _ => ⟨?_, ?_⟩, fun h => absurd (show (3 : Int) < 2 from h) (by decide), ⟨show (0 : Int) ≤ 3 by decide, show (3 : Int) ≤ 3 by decide⟩, ?_⟩
    · show (repl s v t.f_Keys t.f_Kids ++ _).length ≤ 2000
      rw [List.length_append, hr]; split <;> simp <;> omega
    · show (t.f_Keys ++ _).length ≤ 2000
      rw [List.length_append]; split <;> simp <;> omega
    · show (t.f_Keys ++ _).length = (repl s v t.f_Keys t.f_Kids ++ _).length
      rw [List.length_append, List.length_append, hr, l1]; split <;> rfl
    · show (t.f_Keys ++ _).Nodup
      split
      · rw [List.append_nil]; exact l2
      · rename_i hs
        refine List.nodup_append.2 ⟨l2, by simp, ?_⟩
        intro a ha b hb e
        rw [List.mem_singleton] at hb
        subst hb; subst e; exact hs ha
    · intro x hx
      have hx : x ∈ repl s v t.f_Keys t.f_Kids ++ if s ∈ t.f_Keys then [] else [v] := hx
      rcases List.mem_append.1 hx with hx | hx
      · rcases repl_mem hx with rfl | hx
        · exact hv
        · obtain ⟨e, rfl⟩ := fit_pos hF
          exact fit_up (fit_kid hF hx)
      · split at hx
        · cases hx
        · rw [List.mem_singleton] at hx; subst hx; exact hv
  · exact fit_up hF
def less8 (t : Nd) (s : BS) : Nd := if t.f_Kind = 3 then S_api_Node.mk 3 [] (filk s t.f_Keys) (fil s t.f_Keys t.f_Kids) else t
theorem node_Less_eq {d n : Nat} {t : Nd} (s : BS) (hF : Fit d t) (hn : 100000 ≤ n) : node_Less n t s = some (less8 t s) := by
  unfold node_Less less8
  have l3 := fit_small hF
  by_cases h3 : t.f_Kind = 3
  · obtain ⟨l1, l2, l4⟩ := fit_lens hF (.inl h3)
    have hp : node_place n t s = some ((at1 s 0 t.f_Keys).getD (-1)) := by
      have := place_eq n t.f_Text t.f_Keys t.f_Kids s l1 (by omega) hn
      rwa [← place3 h3] at this
    rw [hp, if_pos h3, Option.bind_some]
    cases ha : at1 s 0 t.f_Keys with
    | none =>
      obtain ⟨_, g2, g3, _⟩ := notin_repl (v := Z8) l1 (at_none ha)
      rw [Option.getD_none, if_pos (by decide), g2, g3]
      have := place3 h3
      rw [l4] at this
      exact congrArg some this
    | some r =>
      obtain ⟨j, hj, e, _, _, g3, g4, _⟩ := at_some (v := Z8) l2 l1 ha
      rw [Nat.zero_add] at e
      subst e
      rw [Option.getD_some, if_neg (by rw [decide_eq_true_eq]; omega), wrap_s j (by omega), Int.toNat_natCast, Int.toNat_natCast,
        if_pos (show decide (0 ≤ (j : Int) ∧ (j : Int) ≤ (List.length t.f_Keys : Int)) = true from decide_eq_true (by omega)),
        if_pos (show decide (0 ≤ ((j + 1 : Nat) : Int) ∧ ((j + 1 : Nat) : Int) ≤ (List.length t.f_Keys : Int)) = true from decide_eq_true (by omega)),
        cc_string n _ _ (by simp; omega) (by omega), Option.bind_some,
        if_pos (show decide (0 ≤ (j : Int) ∧ (j : Int) ≤ (List.length t.f_Kids : Int)) = true from decide_eq_true (by omega)),
        if_pos (show decide (0 ≤ ((j + 1 : Nat) : Int) ∧ ((j + 1 : Nat) : Int) ≤ (List.length t.f_Kids : Int)) = true from decide_eq_true (by omega)),
        cc_api_Node n _ _ (by simp; omega) (by omega), Option.bind_some, g3, g4]
  · rw [place_no n t s h3, if_neg h3]; rfl
theorem less_fit {d : Nat} {t : Nd} (s : BS) (hF : Fit d t) : Fit d (less8 t s) := by
  unfold less8
  split
  · rename_i h3
    obtain ⟨l1, l2, _⟩ := fit_lens hF (.inl h3)
    have l3 := fit_small hF
    have f1 := fil_len (s := s) l1
    have f2 := (filk_sub s t.f_Keys).length_le
    obtain ⟨e, rfl⟩ := fit_pos hF
    refine ⟨?_, ?_, fun _ => rfl, fun h => (h rfl).elim, fun _ => ⟨f1, (filk_sub s t.f_Keys).nodup l2⟩, fun h => absurd (show (3 : Int) < 2 from h) (by decide), ⟨show (0 : Int) ≤ 3 by decide, show (3 : Int) ≤ 3 by decide⟩, fun x hx => fit_kid hF (fil_mem hx)⟩
    · show (fil s t.f_Keys t.f_Kids).length ≤ 2000; omega
    · show (filk s t.f_Keys).length ≤ 2000; omega
  · exact hF
theorem awake8 (n : Nat) (hn : 200000 ≤ n) : law08_awake n = some true := by
  obtain ⟨m, rfl⟩ : ∃ m, n = m + 60 := ⟨n - 60, by omega⟩
  clear hn
  kernel_rfl
theorem out_fit {d : Nat} {o : Option Nd} (h : ∀ x, o = some x → ∃ e, e ≤ d ∧ Fit e x) : Fit (d + 1) (outG o).1 := by
  cases o with
  | none => exact fit_le fit_Z _ (by omega)
  | some x => obtain ⟨e, h1, h2⟩ := h x rfl; exact fit_le h2 _ (by omega)
theorem get_fit {d : Nat} {t x : Nd} {s : BS} (hF : Fit d t) (h : get8 t s = some x) : ∃ e, e ≤ d ∧ Fit e x := by
  obtain ⟨e, rfl⟩ := fit_pos hF
  unfold get8 at h
  split at h
  · exact ⟨e, by omega, fit_kid hF (look_mem h)⟩
  · cases h
theorem get_with {t v : Nd} {s : BS} {d : Nat} (hF : Fit d t) (hk : t.f_Kind = 3 ∨ t.f_Kind = 0) : get8 (with8 t s v) s = some v := by
  obtain ⟨l1, l2, _⟩ := fit_lens hF hk
  unfold get8 with8
  rw [if_pos hk]
  show (if (3 : Int) = 3 then look s (t.f_Keys ++ _) (repl s v t.f_Keys t.f_Kids ++ _) else none) = _
  rw [if_pos rfl]
  by_cases hs : s ∈ t.f_Keys
  · rw [if_pos hs, if_pos hs, List.append_nil, List.append_nil]; exact look_repl l1 hs
  · rw [if_neg hs, if_neg hs, look_app s v (by rw [repl_len l1, l1]), if_pos rfl, (notin_repl (v := v) l1 hs).1, (notin_repl (v := v) l1 hs).2.2.2]; rfl
theorem get_with_ne {t v : Nd} {s s' : BS} {d : Nat} (hs' : s' ≠ s) (hF : Fit d t) (hk : t.f_Kind = 3 ∨ t.f_Kind = 0) : get8 (with8 t s v) s' = get8 t s' := by
  obtain ⟨l1, l2, _⟩ := fit_lens hF hk
  have e1 : get8 (with8 t s v) s' = look s' t.f_Keys t.f_Kids := by
    unfold get8 with8
    rw [if_pos hk]
    show (if (3 : Int) = 3 then look s' (t.f_Keys ++ _) (repl s v t.f_Keys t.f_Kids ++ _) else none) = _
    rw [if_pos rfl]
    by_cases hs : s ∈ t.f_Keys
    · rw [if_pos hs, if_pos hs, List.append_nil, List.append_nil]; exact look_repl_ne hs'
    · rw [if_neg hs, if_neg hs, look_app s v (by rw [repl_len l1, l1]), if_neg (fun e => hs' e.symm), look_repl_ne hs', Option.or_none]
  rw [e1]
  unfold get8
  rcases hk with h | h
  · rw [if_pos h]
  · rw [if_neg (by omega)]
    obtain ⟨e, rfl⟩ := fit_pos hF
    rw [hF.2.2.2.1 (by omega)]; rfl
theorem with_kind {t v : Nd} {s : BS} (hk : t.f_Kind = 3 ∨ t.f_Kind = 0) : (with8 t s v).f_Kind = 3 := by unfold with8; rw [if_pos hk]
theorem with_has {t v : Nd} {s : BS} (hk : t.f_Kind = 3 ∨ t.f_Kind = 0) : s ∈ (with8 t s v).f_Keys := by
  unfold with8
  rw [if_pos hk]
  show s ∈ t.f_Keys ++ _
  by_cases hs : s ∈ t.f_Keys
  · exact List.mem_append_left _ hs
  · rw [if_neg hs]; simp
theorem less_none {t : Nd} {s : BS} {d : Nat} (hF : Fit d t) (h3 : t.f_Kind = 3) : get8 (less8 t s) s = none := by
  obtain ⟨l1, l2, _⟩ := fit_lens hF (.inl h3)
  unfold get8 less8
  rw [if_pos h3]
  show (if (3 : Int) = 3 then look s (filk s t.f_Keys) (fil s t.f_Keys t.f_Kids) else none) = _
  rw [if_pos rfl]
  exact (notin_repl (v := Z8) (fil_len l1) (filk_not s _)).2.2.2
theorem less_ne {t : Nd} {s s' : BS} {d : Nat} (hs : s' ≠ s) (hF : Fit d t) (h3 : t.f_Kind = 3) : get8 (less8 t s) s' = get8 t s' := by
  obtain ⟨l1, l2, _⟩ := fit_lens hF (.inl h3)
  unfold get8 less8
  rw [if_pos h3]
  show (if (3 : Int) = 3 then look s' (filk s t.f_Keys) (fil s t.f_Keys t.f_Kids) else none) = _
  rw [if_pos rfl, if_pos h3]
  exact look_fil_ne hs l1
theorem filk_one {s : BS} : ∀ {ks : List BS}, ks.Nodup → s ∈ ks → (filk s ks).length + 1 = ks.length
  | [], _, h => by cases h
  | k :: ks, hn, h => by
    obtain ⟨n1, n2⟩ := List.nodup_cons.1 hn
    unfold filk
    by_cases hk : k = s
    · subst hk
      have : filk k ks = ks := by
        have := notin_repl (v := Z8) (ks := ks) (xs := ks.map fun _ => Z8) (by simp) n1
        exact this.2.2.1
      rw [if_pos rfl, this, List.length_cons]
    · rw [if_neg hk, List.length_cons, List.length_cons, filk_one n2]
      rcases List.mem_cons.1 h with e | e
      · exact (hk e.symm).elim
      · exact e
theorem law08_NodePuts_true (a0 : Nd) (_ : W_api_Node a0) (a1 : Nd) (_ : W_api_Node a1) (a2 : BS) (_ : List.length a2 ≤ maxLen) (a3 : BS) (_ : List.length a3 ≤ maxLen) : ∃ n, law08_NodePuts n a0 a1 a2 a3 = some true := by
  obtain ⟨n, hn⟩ : ∃ n : Nat, n = 200000 := ⟨_, rfl⟩
  refine ⟨n, ?_⟩
  have haw := awake8 n (by omega)
  obtain ⟨b1, s1, p1⟩ := small_eq n a0 (by omega)
  obtain ⟨b2, s2, p2⟩ := small_eq n a1 (by omega)
  unfold law08_NodePuts
  rw [s1, Option.bind_some]
  cases b1 with
  | false => simp only [Bool.not_false, show ((true : Bool) == false) = false from rfl, Bool.false_eq_true, if_false, Option.bind_some, cond_true, if_true, haw]
  | true =>
    simp only [Bool.not_true, show ((false : Bool) == false) = true from rfl, if_true, s2, Option.bind_some]
    cases b2 with
    | false => simp only [Bool.not_false, cond_true, cond_false, if_true, haw, Option.bind_some]
    | true =>
      simp only [Bool.not_true, cond_false]
      by_cases hc : (bif a0.f_Kind == 1 then true else a0.f_Kind == 2) = true
      · rw [if_pos hc, haw]; rfl
      · rw [if_neg hc]
        obtain ⟨f0, z0, _⟩ := p1 rfl
        obtain ⟨f1, z1, _⟩ := p2 rfl
        have hk : a0.f_Kind = 3 ∨ a0.f_Kind = 0 := by
          rw [bif_or, Bool.or_eq_true, beq_iff_eq, beq_iff_eq, not_or] at hc
          have h7 := f0.2.2.2.2.2.2.1
          omega
        have k0 := kids_le f0 z0
        have v1 := node_With_eq a2 a1 f0 (show 100000 ≤ n by omega)
        have v2 := ref08_With_eq a2 a1 f0 (show 100000 ≤ n by omega)
        have fw := with_fit a2 f0 f1 (by omega)
        have kw := with_kind (v := a1) (s := a2) hk
        obtain ⟨lw1, lw2, _⟩ := fit_lens fw (.inl kw)
        have lw3 := fit_small fw
        obtain ⟨r, h1, h2⟩ := left_eq 12 n (with8 a0 a2 a1) 1 2000 rfl (by decide) (by decide) (by omega)
        have hR : ref08_Right n (with8 a0 a2 a1) = some (decide (r ≥ 0)) := by
          have h1 : ref08_Left n (with8 a0 a2 a1) 1 2000 = some r := h1
          unfold ref08_Right; rw [h1]; rfl
        rw [v1, Option.bind_some, v2, Option.bind_some, hR, Option.bind_some]
        cases hr : decide (r ≥ 0) with
        | false => simp only [Bool.not_false, if_true, haw, Option.bind_some]
        | true =>
          have u1 := node_Less_eq a2 fw (show 100000 ≤ n by omega)
          have fl := less_fit a2 fw
          have g1 := node_Get_eq a2 fw (show 100000 ≤ n by omega)
          have g2 := node_Get_eq a2 fl (show 100000 ≤ n by omega)
          rw [get_with f0 hk] at g1
          rw [less_none fw kw] at g2
          have m1 := node_Same_eq 12 n a1 a1 f1 f1 (by omega)
          rw [sm_refl] at m1
          have hlen : ((List.length (less8 (with8 a0 a2 a1) a2).f_Keys : Int) != (IntKind.wrap .i64 ((List.length (with8 a0 a2 a1).f_Keys : Int) - 1))) = false := by
            have := filk_one lw2 (with_has (v := a1) hk)
            have e : (less8 (with8 a0 a2 a1) a2).f_Keys = filk a2 (with8 a0 a2 a1).f_Keys := by
              conv => lhs; unfold less8
              rw [if_pos kw]
            rw [e, wrap_id _ (by omega) (by omega)]
            have : ((List.length (filk a2 (with8 a0 a2 a1).f_Keys) : Int)) = (List.length (with8 a0 a2 a1).f_Keys : Int) - 1 := by omega
            rw [this, bne_self_eq_false]
          simp only [Bool.not_true, Bool.false_eq_true, if_false, u1, Option.bind_some, g1, g2, outG, cond_false, beq_self_eq_true, if_true, m1, hlen, lett]
          by_cases he : a2 = a3
          · rw [if_pos (by rw [he]; exact beq_self_eq_true a3), haw]; rfl
          · have he' : a3 ≠ a2 := fun e => he e.symm
            rw [if_neg (by rw [beq_iff_eq]; exact he)]
            have q0 := node_Get_eq a3 f0 (show 100000 ≤ n by omega)
            have q1 := node_Get_eq a3 fw (show 100000 ≤ n by omega)
            have q2 := node_Get_eq a3 fl (show 100000 ≤ n by omega)
            rw [less_ne he' fw kw, get_with_ne he' f0 hk] at q2
            rw [get_with_ne he' f0 hk] at q1
            have fo := out_fit (d := 12) (o := get8 a0 a3) fun x hx => get_fit f0 hx
            have m2 := node_Same_eq 13 n _ _ fo fo (by omega)
            rw [sm_refl] at m2
            simp only [q0, q1, q2, Option.bind_some, beq_self_eq_true, cond_true, if_true, m2, haw]
end Go.Proofs.Ytjicbelggepaiaa.M
