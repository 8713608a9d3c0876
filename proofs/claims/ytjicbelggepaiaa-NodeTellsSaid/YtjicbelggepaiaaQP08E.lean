/-
  Part of the proof of NodeTells: P08E.
-/
import Derived.Test.YtjicbelggepaiaaQP08D
namespace Go.Proofs.Ytjicbelggepaiaa.M
open Go Go.Proofs.Ytjicbelggepaiaa.RX Go.Proofs.Ytjicbelggepaiaa.PL
set_option maxRecDepth 100000
theorem cap73 {a b : Nat} (h : a + b ≤ 1000000000) : decide ((a + b) * (72 + 1) ≤ limit) = true := decide_eq_true (by show (a + b) * (72 + 1) ≤ 140737488355328; omega)
theorem cc_string (n : Nat) (a b : List BS) (h : a.length + b.length ≤ 10000) (hn : 100 ≤ n) : slices_Concat_string_string n [a, b] = some (a ++ b) := by
  obtain ⟨m, rfl⟩ : ∃ m, n = m + 3 := ⟨n - 3, by omega⟩
  have l1 : slices_Concat_string_string_l1 (m + 3) [a, b] [a, b] (List.length [a, b] : Int) (m + 3) 0 0 = some ((a.length + b.length : Nat) : Int) := by
    have s0 : slices_Concat_string_string_l1 (m + 3) [a, b] [a, b] 2 (m + 3) 0 0 = slices_Concat_string_string_l1 (m + 3) [a, b] [a, b] 2 (m + 2) (a.length : Int) 1 := by
      rw [slices_Concat_string_string_l1, if_pos (by rfl), slices_Concat_string_string_j2, if_pos (by rfl)]
      show Option.bind (if decide (IntKind.wrap .i64 (0 + (a.length : Int)) < 0) = true then none else some (IntKind.wrap .i64 (0 + (a.length : Int)))) _ = _
      rw [wrap_id _ (by omega) (by omega), if_neg (by rw [decide_eq_true_eq]; omega), Int.zero_add]; rfl
    have s1 : slices_Concat_string_string_l1 (m + 3) [a, b] [a, b] 2 (m + 2) (a.length : Int) 1 = slices_Concat_string_string_l1 (m + 3) [a, b] [a, b] 2 (m + 1) ((a.length + b.length : Nat) : Int) 2 := by
      rw [slices_Concat_string_string_l1, if_pos (by rfl), slices_Concat_string_string_j2, if_pos (by rfl)]
      show Option.bind (if decide (IntKind.wrap .i64 ((a.length : Int) + (b.length : Int)) < 0) = true then none else some (IntKind.wrap .i64 ((a.length : Int) + (b.length : Int)))) _ = _
      rw [wrap_id _ (by omega) (by omega), if_neg (by rw [decide_eq_true_eq]; omega), show (a.length : Int) + (b.length : Int) = ((a.length + b.length : Nat) : Int) from by omega]; rfl
    show slices_Concat_string_string_l1 (m + 3) [a, b] [a, b] 2 (m + 3) 0 0 = _
    rw [s0, s1, slices_Concat_string_string_l1, if_neg (by decide)]
  have l3 : slices_Concat_string_string_l3 (m + 3) [a, b] (List.length [a, b] : Int) (m + 3) ([] : List BS) 0 = some (a ++ b) := by
    have s0 : slices_Concat_string_string_l3 (m + 3) [a, b] 2 (m + 3) ([] : List BS) 0 = slices_Concat_string_string_l3 (m + 3) [a, b] 2 (m + 2) a 1 := by
      rw [slices_Concat_string_string_l3, if_pos (by rfl), if_pos (by rfl)]
      show (if decide ((([] : List BS).length + a.length) * (16 + 1) ≤ limit) = true then slices_Concat_string_string_l3 (m + 3) [a, b] 2 (m + 2) ([] ++ a) (IntKind.wrap .i64 (0 + 1)) else none) = _
      rw [if_pos (cap_add (by simp; omega))]; rfl
    have s1 : slices_Concat_string_string_l3 (m + 3) [a, b] 2 (m + 2) a 1 = slices_Concat_string_string_l3 (m + 3) [a, b] 2 (m + 1) (a ++ b) 2 := by
      rw [slices_Concat_string_string_l3, if_pos (by rfl), if_pos (by rfl)]
      show (if decide ((a.length + b.length) * (16 + 1) ≤ limit) = true then slices_Concat_string_string_l3 (m + 3) [a, b] 2 (m + 1) (a ++ b) (IntKind.wrap .i64 (1 + 1)) else none) = _
      rw [if_pos (cap_add (by omega))]; rfl
    show slices_Concat_string_string_l3 (m + 3) [a, b] 2 (m + 3) ([] : List BS) 0 = _
    rw [s0, s1, slices_Concat_string_string_l3, if_neg (by decide)]
  unfold slices_Concat_string_string
  rw [l1, Option.bind_some, if_pos (show decide (0 ≤ ((a.length + b.length : Nat) : Int) ∧ ((a.length + b.length : Nat) : Int) * 17 ≤ (limit : Int)) = true from decide_eq_true ⟨by omega, by show _ ≤ ((140737488355328 : Nat) : Int); omega⟩), l3]; rfl
theorem cc_api_Node (n : Nat) (a b : List Nd) (h : a.length + b.length ≤ 10000) (hn : 100 ≤ n) : slices_Concat_api_Node_api_Node n [a, b] = some (a ++ b) := by
  obtain ⟨m, rfl⟩ : ∃ m, n = m + 3 := ⟨n - 3, by omega⟩
  have l1 : slices_Concat_api_Node_api_Node_l1 (m + 3) [a, b] [a, b] (List.length [a, b] : Int) (m + 3) 0 0 = some ((a.length + b.length : Nat) : Int) := by
    have s0 : slices_Concat_api_Node_api_Node_l1 (m + 3) [a, b] [a, b] 2 (m + 3) 0 0 = slices_Concat_api_Node_api_Node_l1 (m + 3) [a, b] [a, b] 2 (m + 2) (a.length : Int) 1 := by
      rw [slices_Concat_api_Node_api_Node_l1, if_pos (by rfl), slices_Concat_api_Node_api_Node_j2, if_pos (by rfl)]
      show Option.bind (if decide (IntKind.wrap .i64 (0 + (a.length : Int)) < 0) = true then none else some (IntKind.wrap .i64 (0 + (a.length : Int)))) _ = _
      rw [wrap_id _ (by omega) (by omega), if_neg (by rw [decide_eq_true_eq]; omega), Int.zero_add]; rfl
    have s1 : slices_Concat_api_Node_api_Node_l1 (m + 3) [a, b] [a, b] 2 (m + 2) (a.length : Int) 1 = slices_Concat_api_Node_api_Node_l1 (m + 3) [a, b] [a, b] 2 (m + 1) ((a.length + b.length : Nat) : Int) 2 := by
      rw [slices_Concat_api_Node_api_Node_l1, if_pos (by rfl), slices_Concat_api_Node_api_Node_j2, if_pos (by rfl)]
      show Option.bind (if decide (IntKind.wrap .i64 ((a.length : Int) + (b.length : Int)) < 0) = true then none else some (IntKind.wrap .i64 ((a.length : Int) + (b.length : Int)))) _ = _
      rw [wrap_id _ (by omega) (by omega), if_neg (by rw [decide_eq_true_eq]; omega), show (a.length : Int) + (b.length : Int) = ((a.length + b.length : Nat) : Int) from by omega]; rfl
    show slices_Concat_api_Node_api_Node_l1 (m + 3) [a, b] [a, b] 2 (m + 3) 0 0 = _
    rw [s0, s1, slices_Concat_api_Node_api_Node_l1, if_neg (by decide)]
  have l3 : slices_Concat_api_Node_api_Node_l3 (m + 3) [a, b] (List.length [a, b] : Int) (m + 3) ([] : List Nd) 0 = some (a ++ b) := by
    have s0 : slices_Concat_api_Node_api_Node_l3 (m + 3) [a, b] 2 (m + 3) ([] : List Nd) 0 = slices_Concat_api_Node_api_Node_l3 (m + 3) [a, b] 2 (m + 2) a 1 := by
      rw [slices_Concat_api_Node_api_Node_l3, if_pos (by rfl), if_pos (by rfl)]
      show (if decide ((([] : List Nd).length + a.length) * (72 + 1) ≤ limit) = true then slices_Concat_api_Node_api_Node_l3 (m + 3) [a, b] 2 (m + 2) ([] ++ a) (IntKind.wrap .i64 (0 + 1)) else none) = _
      rw [if_pos (cap73 (by simp; omega))]; rfl
    have s1 : slices_Concat_api_Node_api_Node_l3 (m + 3) [a, b] 2 (m + 2) a 1 = slices_Concat_api_Node_api_Node_l3 (m + 3) [a, b] 2 (m + 1) (a ++ b) 2 := by
      rw [slices_Concat_api_Node_api_Node_l3, if_pos (by rfl), if_pos (by rfl)]
      show (if decide ((a.length + b.length) * (72 + 1) ≤ limit) = true then slices_Concat_api_Node_api_Node_l3 (m + 3) [a, b] 2 (m + 1) (a ++ b) (IntKind.wrap .i64 (1 + 1)) else none) = _
      rw [if_pos (cap73 (by omega))]; rfl
    show slices_Concat_api_Node_api_Node_l3 (m + 3) [a, b] 2 (m + 3) ([] : List Nd) 0 = _
    rw [s0, s1, slices_Concat_api_Node_api_Node_l3, if_neg (by decide)]
  unfold slices_Concat_api_Node_api_Node
  rw [l1, Option.bind_some, if_pos (show decide (0 ≤ ((a.length + b.length : Nat) : Int) ∧ ((a.length + b.length : Nat) : Int) * 73 ≤ (limit : Int)) = true from decide_eq_true ⟨by omega, by show _ ≤ ((140737488355328 : Nat) : Int); omega⟩), l3]; rfl
theorem mem_ne {s a : BS} (l : List BS) (h : ¬ s = a) : decide (s ∈ a :: l) = decide (s ∈ l) := by simp [h]
def with8 (t : Nd) (s : BS) (v : Nd) : Nd := if t.f_Kind = 3 ∨ t.f_Kind = 0 then S_api_Node.mk 3 [] (t.f_Keys ++ if s ∈ t.f_Keys then [] else [s]) (repl s v t.f_Keys t.f_Kids ++ if s ∈ t.f_Keys then [] else [v]) else t
theorem node_With_eq {d n : Nat} {t : Nd} (s : BS) (v : Nd) (hF : Fit d t) (hn : 100000 ≤ n) : node_With n t s v = some (with8 t s v) := by
  unfold node_With with8
  have l3 := fit_small hF
  by_cases hk : t.f_Kind = 3 ∨ t.f_Kind = 0
  · obtain ⟨l1, l2, _⟩ := fit_lens hF hk
    have e : (bif (t.f_Kind != 3) then (t.f_Kind != 0) else false) = false := by rcases hk with h | h <;> rw [h] <;> rfl
    have c1 : slices_Clone_string_string_o n t.f_Keys = some t.f_Keys := by
      unfold slices_Clone_string_string_o; rw [if_pos (cap_add (by simp; omega))]; rfl
    have c2 : slices_Clone_api_Node_api_Node_o n t.f_Kids = some t.f_Kids := by
      unfold slices_Clone_api_Node_api_Node_o; rw [if_pos (cap73 (by simp; omega))]; rfl
    rw [e, if_neg Bool.false_ne_true, if_pos hk, c1, Option.bind_some, c2, Option.bind_some, place_eq n [] t.f_Keys t.f_Kids s l1 (by omega) hn, Option.bind_some]
    cases ha : at1 s 0 t.f_Keys with
    | none =>
      have hs := at_none ha
      obtain ⟨g1, _⟩ := notin_repl (v := v) l1 hs
      rw [if_neg hs, if_neg hs, g1, Option.getD_none, if_neg (by decide), if_pos (cap_add (by simp; omega)), if_pos (cap73 (by simp; omega))]
    | some r =>
      obtain ⟨j, hj, e, _, g2, _, _, g5⟩ := at_some (v := v) l2 l1 ha
      rw [Nat.zero_add] at e
      subst e
      rw [if_pos g5, if_pos g5, g2, Option.getD_some, if_pos (show decide ((j : Int) ≥ 0) = true from decide_eq_true (by omega)), if_pos (in_i hj), List.append_nil, List.append_nil, Int.toNat_natCast]
  · have e : (bif (t.f_Kind != 3) then (t.f_Kind != 0) else false) = true := by
      rw [not_or] at hk
      rw [bif_and, Bool.and_eq_true, bne_iff_ne, bne_iff_ne]; exact hk
    rw [e, if_pos rfl, if_neg hk]
theorem with_l (n : Nat) (s : BS) (t v z : Nd) (hl : t.f_Keys.length = t.f_Kids.length) (hs : t.f_Keys.length ≤ 2000) : ∀ (k i : Nat) (fnd : Bool) (ks : List BS) (xs : List Nd), ks.length = i → xs.length = i → i ≤ t.f_Keys.length → t.f_Keys.length - i < k →
    ref08_With_l1 n s t v z k fnd (i : Int) (S_api_Node.mk 3 [] ks xs) = some (fnd || decide (s ∈ t.f_Keys.drop i), S_api_Node.mk 3 [] (ks ++ t.f_Keys.drop i) (xs ++ repl s v (t.f_Keys.drop i) (t.f_Kids.drop i)))
  | 0, i, _, _, _, _, _, _, h => by omega
  | k + 1, i, fnd, ks, xs, hks, hxs, hi, hk => by
    by_cases h : i < t.f_Keys.length
    · have h' : i < t.f_Kids.length := by omega
      rw [ref08_With_l1, if_pos (lt_i h), ref08_With_j2, if_pos (in_i h), at_i h, if_pos (cap_add (by show ks.length + 1 ≤ _; omega)), if_pos (in_i h), if_pos (in_i h'), kid8 h',
        if_pos (show decide ((List.length (S_api_Node.mk 3 [] ks xs).f_Kids + List.length [v]) * (72 + 1) ≤ limit) = true from cap73 (by show xs.length + 1 ≤ _; omega)),
        if_pos (show decide ((List.length (S_api_Node.mk 3 [] ks xs).f_Kids + List.length [t.f_Kids[i]]) * (72 + 1) ≤ limit) = true from cap73 (by show xs.length + 1 ≤ _; omega)), wrap_s i (by omega), drop_at h, drop_at h']
      conv => rhs; unfold repl
      by_cases hk : t.f_Keys[i] = s
      · rw [if_pos (by rw [hk]; exact beq_self_eq_true s), if_pos hk, Option.bind_some]
        show ref08_With_l1 n s t v z k true ((i + 1 : Nat) : Int) (S_api_Node.mk 3 [] (ks ++ [t.f_Keys[i]]) (xs ++ [v])) = _
        rw [with_l n s t v z hl hs k (i + 1) true _ _ (by simp [hks]) (by simp [hxs]) (by omega) (by omega)]
        simp [hk]
      · rw [if_neg (by rw [beq_iff_eq]; exact hk), if_neg hk]
        simp only [lett, Option.bind_some]
        rw [with_l n s t v z hl hs k (i + 1) fnd _ _ (by simp [hks]) (by simp [hxs]) (by omega) (by omega)]
        have hk' : ¬ s = t.f_Keys[i] := fun e => hk e.symm
        rw [mem_ne _ hk', List.append_assoc, List.append_assoc]; rfl
    · have : i = t.f_Keys.length := by omega
      subst this
      rw [ref08_With_l1, nlt_n, List.drop_eq_nil_of_le (Nat.le_refl _)]
      simp [repl]
theorem ref08_With_eq {d n : Nat} {t : Nd} (s : BS) (v : Nd) (hF : Fit d t) (hn : 100000 ≤ n) : ref08_With n t s v = some (with8 t s v) := by
  unfold ref08_With with8
  have l3 := fit_small hF
  by_cases hk : t.f_Kind = 3 ∨ t.f_Kind = 0
  · obtain ⟨l1, l2, _⟩ := fit_lens hF hk
    have e : (bif (t.f_Kind != 0) then (t.f_Kind != 3) else false) = false := by rcases hk with h | h <;> rw [h] <;> rfl
    have hr := repl_len (s := s) (v := v) l1
    have h := with_l n s t v (S_api_Node.mk 0 [] [] []) l1 l3.1 n 0 false [] [] rfl rfl (by omega) (by omega)
    rw [List.drop_zero, List.drop_zero] at h
    have h : ref08_With_l1 n s t v (S_api_Node.mk 0 [] [] []) n false 0 (S_api_Node.mk 3 [] [] []) = _ := h
    rw [e, if_neg Bool.false_ne_true, if_pos hk, h, Option.bind_some]
    unfold ref08_With_j3
    by_cases hs : s ∈ t.f_Keys
    · rw [if_pos hs, if_pos hs, decide_eq_true hs]
      simp
    · rw [if_neg hs, if_neg hs, decide_eq_false hs]
      simp only [Bool.false_or, Bool.not_false, if_true, List.nil_append]
      rw [if_pos (cap_add (by simp; omega)), if_pos (cap73 (by simp; omega))]
      rfl
  · have e : (bif (t.f_Kind != 0) then (t.f_Kind != 3) else false) = true := by
      rw [not_or] at hk
      rw [bif_and, Bool.and_eq_true, bne_iff_ne, bne_iff_ne]; exact ⟨hk.2, hk.1⟩
    rw [e, if_pos rfl, if_neg hk]
theorem with_fit {d : Nat} {t v : Nd} (s : BS) (hF : Fit d t) (hv : Fit d v) (hk : t.f_Kids.length ≤ 1000) : Fit (d + 1) (with8 t s v) := by
  unfold with8
  split
  · rename_i hk3
    obtain ⟨l1, l2, _⟩ := fit_lens hF hk3
    have hr := repl_len (s := s) (v := v) l1
    refine ⟨?_, ?_, fun _ => rfl, fun h => (h rfl).elim, fun _ => ⟨?_, ?_⟩, fun h => absurd (show (3 : Int) < 2 from h) (by decide), ⟨show (0 : Int) ≤ 3 by decide, show (3 : Int) ≤ 3 by decide⟩, ?_⟩
    · show (repl s v t.f_Keys t.f_Kids ++ _).length ≤ 2000
      rw [List.length_append, hr]; split <;> simp <;> omega
    · show (t.f_Keys ++ _).length ≤ 2000
      rw [List.length_append]; split <;> simp <;> omega
    · show (t.f_Keys ++ _).length = (repl s v t.f_Keys t.f_Kids ++ _).length
      rw [List.length_append, List.length_append, hr, l1]; split <;> rfl
    · show (t.f_Keys ++ _).Nodup
      split
      · rw [List.append_nil]; exact l2
      · rename_i hs
        refine List.nodup_append.2 ⟨l2, by simp, ?_⟩
        intro a ha b hb e
        rw [List.mem_singleton] at hb
        subst hb; subst e; exact hs ha
    · intro x hx
      have hx : x ∈ repl s v t.f_Keys t.f_Kids ++ if s ∈ t.f_Keys then [] else [v] := hx
      rcases List.mem_append.1 hx with hx | hx
      · rcases repl_mem hx with rfl | hx
        · exact hv
        · obtain ⟨e, rfl⟩ := fit_pos hF
          exact fit_up (fit_kid hF hx)
      · split at hx
        · cases hx
        · rw [List.mem_singleton] at hx; subst hx; exact hv
  · exact fit_up hF
def less8 (t : Nd) (s : BS) : Nd := if t.f_Kind = 3 then S_api_Node.mk 3 [] (filk s t.f_Keys) (fil s t.f_Keys t.f_Kids) else t
theorem node_Less_eq {d n : Nat} {t : Nd} (s : BS) (hF : Fit d t) (hn : 100000 ≤ n) : node_Less n t s = some (less8 t s) := by
  unfold node_Less less8
  have l3 := fit_small hF
  by_cases h3 : t.f_Kind = 3
  · obtain ⟨l1, l2, l4⟩ := fit_lens hF (.inl h3)
    have hp : node_place n t s = some ((at1 s 0 t.f_Keys).getD (-1)) := by
      have := place_eq n t.f_Text t.f_Keys t.f_Kids s l1 (by omega) hn
      rwa [← place3 h3] at this
    rw [hp, if_pos h3, Option.bind_some]
    cases ha : at1 s 0 t.f_Keys with
    | none =>
      obtain ⟨_, g2, g3, _⟩ := notin_repl (v := Z8) l1 (at_none ha)
      rw [Option.getD_none, if_pos (by decide), g2, g3]
      have := place3 h3
      rw [l4] at this
      exact congrArg some this
    | some r =>
      obtain ⟨j, hj, e, _, _, g3, g4, _⟩ := at_some (v := Z8) l2 l1 ha
      rw [Nat.zero_add] at e
      subst e
      rw [Option.getD_some, if_neg (by rw [decide_eq_true_eq]; omega), wrap_s j (by omega), Int.toNat_natCast, Int.toNat_natCast,
        if_pos (show decide (0 ≤ (j : Int) ∧ (j : Int) ≤ (List.length t.f_Keys : Int)) = true from decide_eq_true (by omega)),
        if_pos (show decide (0 ≤ ((j + 1 : Nat) : Int) ∧ ((j + 1 : Nat) : Int) ≤ (List.length t.f_Keys : Int)) = true from decide_eq_true (by omega)),
        cc_string n _ _ (by simp; omega) (by omega), Option.bind_some,
        if_pos (show decide (0 ≤ (j : Int) ∧ (j : Int) ≤ (List.length t.f_Kids : Int)) = true from decide_eq_true (by omega)),
        if_pos (show decide (0 ≤ ((j + 1 : Nat) : Int) ∧ ((j + 1 : Nat) : Int) ≤ (List.length t.f_Kids : Int)) = true from decide_eq_true (by omega)),
        cc_api_Node n _ _ (by simp; omega) (by omega), Option.bind_some, g3, g4]
  · rw [place_no n t s h3, if_neg h3]; rfl
theorem less_l (n : Nat) (s : BS) (t z : Nd) (hl : t.f_Keys.length = t.f_Kids.length) (hs : t.f_Keys.length ≤ 2000) : ∀ (k i : Nat) (ks : List BS) (xs : List Nd), ks.length ≤ i → xs.length ≤ i → i ≤ t.f_Keys.length → t.f_Keys.length - i < k →
    ref08_Less_l1 n s t z k (i : Int) (S_api_Node.mk 3 [] ks xs) = some (S_api_Node.mk 3 [] (ks ++ filk s (t.f_Keys.drop i)) (xs ++ fil s (t.f_Keys.drop i) (t.f_Kids.drop i)))
  | 0, i, _, _, _, _, _, h => by omega
  | k + 1, i, ks, xs, hks, hxs, hi, hk => by
    by_cases h : i < t.f_Keys.length
    · have h' : i < t.f_Kids.length := by omega
      rw [ref08_Less_l1, if_pos (lt_i h), ref08_Less_j2, if_pos (in_i h), at_i h, if_pos (in_i h), if_pos (cap_add (by show ks.length + 1 ≤ _; omega)), if_pos (in_i h'), kid8 h',
        if_pos (show decide ((List.length (S_api_Node.mk 3 [] ks xs).f_Kids + List.length [t.f_Kids[i]]) * (72 + 1) ≤ limit) = true from cap73 (by show xs.length + 1 ≤ _; omega)), wrap_s i (by omega), drop_at h, drop_at h']
      conv => rhs; unfold filk fil
      by_cases hk : t.f_Keys[i] = s
      · have hb : (!(t.f_Keys[i] == s)) = false := by rw [hk, beq_self_eq_true]; rfl
        rw [hb, if_neg Bool.false_ne_true, if_pos hk, if_pos hk, Option.bind_some]
        exact less_l n s t z hl hs k (i + 1) ks xs (by omega) (by omega) (by omega) (by omega)
      · have hb : (!(t.f_Keys[i] == s)) = true := by rw [beq_eq_false_iff_ne.2 hk]; rfl
        rw [hb, if_pos rfl, if_neg hk, if_neg hk]
        simp only [lett, Option.bind_some]
        rw [less_l n s t z hl hs k (i + 1) _ _ (by simp; omega) (by simp; omega) (by omega) (by omega)]
        simp
    · have : i = t.f_Keys.length := by omega
      subst this
      rw [ref08_Less_l1, nlt_n, List.drop_eq_nil_of_le (Nat.le_refl _)]
      simp [filk, fil]
theorem ref08_Less_eq {d n : Nat} {t : Nd} (s : BS) (hF : Fit d t) (hn : 100000 ≤ n) : ref08_Less n t s = some (less8 t s) := by
  unfold ref08_Less less8
  have l3 := fit_small hF
  by_cases h3 : t.f_Kind = 3
  · obtain ⟨l1, l2, l4⟩ := fit_lens hF (.inl h3)
    have h := less_l n s t (S_api_Node.mk 0 [] [] []) l1 l3.1 n 0 [] [] (by simp) (by simp) (by omega) (by omega)
    rw [List.drop_zero, List.drop_zero] at h
    have h : ref08_Less_l1 n s t (S_api_Node.mk 0 [] [] []) n 0 (S_api_Node.mk 3 [] [] []) = _ := h
    rw [if_neg (show ¬ (t.f_Kind != 3) = true by rw [h3]; decide), if_pos h3, h]; rfl
  · rw [if_pos (by rw [bne_iff_ne]; exact h3), if_neg h3]
theorem less_fit {d : Nat} {t : Nd} (s : BS) (hF : Fit d t) : Fit d (less8 t s) := by
  unfold less8
  split
  · rename_i h3
    obtain ⟨l1, l2, _⟩ := fit_lens hF (.inl h3)
    have l3 := fit_small hF
    have f1 := fil_len (s := s) l1
    have f2 := (filk_sub s t.f_Keys).length_le
    obtain ⟨e, rfl⟩ := fit_pos hF
    refine ⟨?_, ?_, fun _ => rfl, fun h => (h rfl).elim, fun _ => ⟨f1, (filk_sub s t.f_Keys).nodup l2⟩, fun h => absurd (show (3 : Int) < 2 from h) (by decide), ⟨show (0 : Int) ≤ 3 by decide, show (3 : Int) ≤ 3 by decide⟩, fun x hx => fit_kid hF (fil_mem hx)⟩
    · show (fil s t.f_Keys t.f_Kids).length ≤ 2000; omega
    · show (filk s t.f_Keys).length ≤ 2000; omega
  · exact hF
theorem awake8 (n : Nat) (hn : 200000 ≤ n) : law08_awake n = some true := by
  obtain ⟨m, rfl⟩ : ∃ m, n = m + 60 := ⟨n - 60, by omega⟩
  clear hn
  kernel_rfl
theorem seq_eq (n : Nat) (a b : Nd) : node_Seq n [a, b] = some (S_api_Node.mk 2 [] [] [a, b]) := by
  unfold node_Seq slices_Clone_api_Node_api_Node
  rw [if_pos (cap73 (by simp))]; rfl
theorem seq_fit {d : Nat} {a b : Nd} (ha : Fit d a) (hb : Fit d b) : Fit (d + 1) (S_api_Node.mk 2 [] [] [a, b]) := by
  refine ⟨by simp, by simp, fun _ => rfl, fun _ => rfl, fun h => absurd (show (2 : Int) = 3 from h) (by decide), fun h => absurd (show (2 : Int) < 2 from h) (by decide), ⟨show (0 : Int) ≤ 2 by decide, show (2 : Int) ≤ 3 by decide⟩, fun x hx => ?_⟩
  rcases List.mem_cons.1 hx with rfl | hx
  · exact ha
  · rw [List.mem_singleton] at hx; subst hx; exact hb
theorem out_fit {d : Nat} {o : Option Nd} (h : ∀ x, o = some x → ∃ e, e ≤ d ∧ Fit e x) : Fit (d + 1) (outG o).1 := by
  cases o with
  | none => exact fit_le fit_Z _ (by omega)
  | some x => obtain ⟨e, h1, h2⟩ := h x rfl; exact fit_le h2 _ (by omega)
theorem get_fit {d : Nat} {t x : Nd} {s : BS} (hF : Fit d t) (h : get8 t s = some x) : ∃ e, e ≤ d ∧ Fit e x := by
  obtain ⟨e, rfl⟩ := fit_pos hF
  unfold get8 at h
  split at h
  · exact ⟨e, by omega, fit_kid hF (look_mem h)⟩
  · cases h
def long (l : List BS) : Nat := l.foldr (fun x m => x.length + 1 + m) 0
theorem long_le : ∀ {l : List BS} {p : BS}, p ∈ l → p.length < long l
  | [], _, h => by cases h
  | x :: l, p, h => by
    show p.length < x.length + 1 + long l
    rcases List.mem_cons.1 h with rfl | h
    · omega
    · have := long_le h; omega
theorem same_self {d n : Nat} {x : Nd} (hF : Fit d x) (hd : d ≤ 20) (hn : 200000 ≤ n) : ref08_Same n x x = some true := by rw [ref08_Same_eq d n x x hF hF (by omega), sm_refl]
theorem law08_NodeTells_true (a0 : Nd) (_ : W_api_Node a0) (a1 : Nd) (_ : W_api_Node a1) (a2 : BS) (_ : List.length a2 ≤ maxLen) (a3 : List BS) (w3 : W_Lstring a3) : ∃ n, law08_NodeTells n a0 a1 a2 a3 = some true := by
  obtain ⟨n, hn⟩ : ∃ n : Nat, n = 200000 + long a3 := ⟨_, rfl⟩
  refine ⟨n, ?_⟩
  have haw := awake8 n (by omega)
  obtain ⟨b1, s1, p1⟩ := small_eq n a0 (by omega)
  obtain ⟨b2, s2, p2⟩ := small_eq n a1 (by omega)
  unfold law08_NodeTells
  rw [s1, Option.bind_some]
  cases b1 with
  | false => simp only [Bool.not_false, show ((true : Bool) == false) = false from rfl, Bool.false_eq_true, if_false, Option.bind_some, cond_true, if_true, haw]
  | true =>
    simp only [Bool.not_true, show ((false : Bool) == false) = true from rfl, if_true, s2, Option.bind_some]
    cases b2 with
    | false => simp only [Bool.not_false, cond_true, cond_false, if_true, haw, Option.bind_some]
    | true =>
      by_cases hl : (List.length a3 : Int) > 20
      · simp only [Bool.not_true, cond_false, decide_eq_true hl, if_true, haw, Option.bind_some]
      · obtain ⟨f0, z0, _⟩ := p1 rfl
        obtain ⟨f1, z1, _⟩ := p2 rfl
        have hp : ∀ p ∈ a3, p.length ≤ 9223372036854775807 ∧ p.length < n := fun p hp => ⟨by have := w3.2 p hp; have e : maxLen = 9223372036854775807 := rfl; omega, by have := long_le hp; omega⟩
        have k0 := kids_le f0 z0
        have g1 := node_Get_eq a2 f0 (show 100000 ≤ n by omega)
        have g2 := ref08_Get_eq a2 f0 (show 100000 ≤ n by omega)
        have t1 := node_At_eq a3 f0 (by omega) hp (show 100000 ≤ n by omega)
        have t2 := ref08_At_eq a3 f0 (by omega) hp (show 100000 ≤ n by omega)
        have q1 := same_self (n := n) (out_fit (d := 12) (o := get8 a0 a2) fun x hx => get_fit f0 hx) (by omega) (by omega)
        have q2 := same_self (n := n) (out_fit (d := 12) (o := atp8 a0 a3) fun x hx => atp_fit f0 hx) (by omega) (by omega)
        have c1 := node_Count_eq 12 n a0 f0 (by omega)
        have c2 := ref08_Count_eq 12 n a0 f0 (by omega)
        have d1 := node_Deep_eq 12 n a0 (by omega) f0 (by omega)
        have d2 := ref08_Deep_eq 12 n a0 (by omega) f0 (by omega)
        have m1 := node_Same_eq 12 n a0 a1 f0 f1 (by omega)
        have m2 := ref08_Same_eq 12 n a0 a1 f0 f1 (by omega)
        have m3 := node_Same_eq 12 n a0 a0 f0 f0 (by omega)
        rw [sm_refl] at m3
        have v1 := node_With_eq a2 a1 f0 (show 100000 ≤ n by omega)
        have v2 := ref08_With_eq a2 a1 f0 (show 100000 ≤ n by omega)
        have v3 := same_self (n := n) (with_fit a2 f0 f1 (by omega)) (by omega) (by omega)
        have u1 := node_Less_eq a2 f0 (show 100000 ≤ n by omega)
        have u2 := ref08_Less_eq a2 f0 (show 100000 ≤ n by omega)
        have u3 := same_self (n := n) (less_fit a2 f0) (by omega) (by omega)
        have y1 := seq_eq n a0 a1
        have y2 := same_self (n := n) (seq_fit f0 f1) (by omega) (by omega)
        simp only [Bool.not_true, cond_false, decide_eq_false hl, Bool.false_eq_true, if_false, g1, g2, t1, t2, Option.bind_some, beq_self_eq_true, if_true, q1, q2, c1, c2, d1, d2, bne_self_eq_false, m1, m2, m3, lett, v1, v2, v3, u1, u2, u3, y1, y2, cond_true, haw]
end Go.Proofs.Ytjicbelggepaiaa.M
