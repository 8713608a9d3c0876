/-
  Part of the proof of NodeEach: P08F.
-/
import Derived.Test.YtjicbelggepaiaaQP08E
set_option linter.all false
namespace Go.Proofs.Ytjicbelggepaiaa.M
open Go Go.Proofs.Ytjicbelggepaiaa.RX Go.Proofs.Ytjicbelggepaiaa.PL
set_option maxRecDepth 100000
def tx8 : Nat → Nd → List BS
  | 0, _ => []
  | d + 1, t => (if t.f_Kind = 1 then [t.f_Text] else []) ++ t.f_Kids.flatMap (tx8 d)
theorem tx_le : ∀ (d : Nat) (t : Nd), (tx8 d t).length ≤ sz8 d t
  | 0, _ => by unfold tx8 sz8; simp
  | d + 1, t => by
    unfold tx8 sz8
    have : ∀ l : List Nd, (l.flatMap (tx8 d)).length ≤ (l.map (sz8 d)).sum := by
      intro l
      induction l with
      | nil => exact Nat.le_refl 0
      | cons x l ih => rw [List.flatMap_cons, List.length_append, List.map_cons, List.sum_cons]; have := tx_le d x; omega
    have := this t.f_Kids
    have h1 : (if t.f_Kind = 1 then [t.f_Text] else []).length ≤ 1 := by split <;> simp
    rw [List.length_append]
    omega
theorem sz_kid : ∀ {l : List Nd} {d : Nat} {x : Nd}, x ∈ l → sz8 d x ≤ (l.map (sz8 d)).sum
  | [], _, _, h => by cases h
  | y :: l, d, x, h => by
    rw [List.map_cons, List.sum_cons]
    rcases List.mem_cons.1 h with rfl | h
    · omega
    · have := sz_kid (d := d) h; omega
theorem texts_eq : ∀ (d n : Nat) (t : Nd), Fit d t → sz8 d t ≤ 1000 → 100000 + d < n → ref08_Texts n t = some (tx8 d t)
  | _, 0, _, _, _, h => by omega
  | 0, n + 1, _, h, _, _ => h.elim
  | d + 1, n + 1, t, hF, hz, hn => by
    have a8 := fun x hx => fit_kid hF (x := x) hx
    have l3 := fit_small hF
    have hk : ∀ x ∈ t.f_Kids, sz8 d x ≤ 1000 := fun x hx => by have := sz_kid (d := d) hx; unfold sz8 at hz; omega
    show ref08_Texts_b (ref08_Texts n) n t = _
    unfold ref08_Texts_b tx8
    have j1 : ref08_Texts_j1 (ref08_Texts n) n ([] : List BS) (t.f_Kind == 1) t = some (if t.f_Kind = 1 then [t.f_Text] else []) := by
      unfold ref08_Texts_j1
      by_cases h : t.f_Kind = 1
      · rw [if_pos (by rw [h]; rfl), if_pos h, if_pos (cap_add (by simp))]; rfl
      · rw [if_neg (by rw [beq_iff_eq]; exact h), if_neg h]
    have in3 : ∀ (v4 : Int) (l acc : List BS), l.length ≤ 1000 → acc.length ≤ 10000000 → ref08_Texts_l3 (ref08_Texts n) n v4 l t n acc 0 = some (acc ++ l) := by
      intro v4 l acc hl ha
      have := gather (L := fun k s i => ref08_Texts_l3 (ref08_Texts n) n v4 l t k s i) l (fun acc x => acc ++ [x]) (fun s => s) (fun i s => s.length ≤ 10000000 + i) (by omega)
        (fun k s i h hi => by
          show ref08_Texts_l3 _ _ _ _ _ _ _ _ = _
          rw [ref08_Texts_l3, if_pos (lt_i h), if_pos (in_i h), at_i h, if_pos (cap_add (by simp; omega))])
        (fun s i h hi => by simp; omega) (fun k s _ => by show ref08_Texts_l3 _ _ _ _ _ _ _ _ = _; rw [ref08_Texts_l3, nlt_n]; rfl) n 0 acc (by omega) (by omega) (by omega)
      have h0 : ref08_Texts_l3 (ref08_Texts n) n v4 l t n acc 0 = _ := this.1
      rw [h0, List.drop_zero]
      have := foldl_app (fun x : BS => [x]) l acc
      rw [this]
      simp
    have l2 := gather (L := fun k s i => ref08_Texts_l2 (ref08_Texts n) n t k s i) t.f_Kids (fun acc x => acc ++ tx8 d x) (fun s => s) (fun i s => s.length ≤ 1 + 1000 * i) (by omega)
      (fun k s i h hi => by
        show ref08_Texts_l2 _ _ _ _ _ _ = _
        have hm := List.getElem_mem h
        have hl := tx_le d t.f_Kids[i]
        have hzk := hk _ hm
        rw [ref08_Texts_l2, if_pos (lt_i h), if_pos (in_i h), kid8 h, texts_eq d n _ (a8 _ hm) hzk (by omega), Option.bind_some, in3 _ _ _ (by omega) (by omega)]; rfl)
      (fun s i h hi => by
        have hl := tx_le d t.f_Kids[i]
        have hzk := hk _ (List.getElem_mem h)
        rw [List.length_append]; omega)
      (fun k s _ => by show ref08_Texts_l2 _ _ _ _ _ _ = _; rw [ref08_Texts_l2, nlt_n]; rfl) n 0 (if t.f_Kind = 1 then [t.f_Text] else []) (by omega) (by omega) (by split <;> simp)
    have h0 : ref08_Texts_l2 (ref08_Texts n) n t n (if t.f_Kind = 1 then [t.f_Text] else []) 0 = _ := l2.1
    rw [j1, Option.bind_some, h0, List.drop_zero, foldl_app]; rfl
def ix8 (c : BS) : List BS → Nat
  | [] => 0
  | x :: l => if x = c then 0 else ix8 c l + 1
theorem ix_app {c : BS} : ∀ {a b : List BS}, ix8 c (a ++ b) = if c ∈ a then ix8 c a else a.length + ix8 c b
  | [], b => by simp
  | x :: a, b => by
    show (if x = c then 0 else ix8 c (a ++ b) + 1) = _
    rw [ix_app]
    by_cases hx : x = c
    · subst hx; simp [ix8]
    · have hx' : ¬ c = x := fun e => hx e.symm
      rw [if_neg hx]
      simp only [List.mem_cons, hx', false_or, ix8, hx, if_false, List.length_cons]
      split <;> omega
theorem ix_lt {c : BS} : ∀ {a : List BS}, (ix8 c a < a.length ↔ c ∈ a) ∧ ix8 c a ≤ a.length
  | [] => by simp [ix8]
  | x :: a => by
    obtain ⟨h1, h2⟩ := ix_lt (c := c) (a := a)
    unfold ix8
    by_cases hx : x = c
    · subst hx; simp
    · have hx' : ¬ c = x := fun e => hx e.symm
      simp only [List.mem_cons, hx', false_or, hx, if_false, List.length_cons, ← h1]
      omega
def mp8 (c2 : BS) : Nat → Nd → Nd
  | 0, t => t
  | d + 1, t => if t.f_Kind = 1 then S_api_Node.mk 1 (t.f_Text ++ c2) [] [] else S_api_Node.mk t.f_Kind t.f_Text t.f_Keys (t.f_Kids.map (mp8 c2 d))
def eo8 (c1 : BS) (l : List BS) (t : Nd) (h : Nat) : Nd × Int × Int := if c1 ∈ l then (Z8, 4, ((h + ix8 c1 l + 1 : Nat) : Int)) else (t, 0, ((h + l.length : Nat) : Int))
theorem each_kids (R : Nd → List BS → BS → BS → Int → Option (Nd × Int × Int)) (n d : Nat) (c0 : List BS) (c1 c2 : BS) (t : Nd) (hk : t.f_Kids.length ≤ 2000)
    (hR : ∀ x ∈ t.f_Kids, ∀ (h : Nat) (rest : List BS), c0.drop h = tx8 d x ++ rest → h ≤ c0.length → R x c0 c1 c2 (h : Int) = some (eo8 c1 (tx8 d x) (mp8 c2 d x) h)) :
    ∀ (k i h : Nat) (acc : List Nd) (rest : List BS), acc.length = i → i ≤ t.f_Kids.length → t.f_Kids.length - i < k → c0.drop h = (t.f_Kids.drop i).flatMap (tx8 d) ++ rest → h ≤ c0.length →
      node_Each__law08_NodeEach_1_o0_e_e_e_l1 R n c0 c1 c2 t.f_Kids (List.length t.f_Kids : Int) k (i : Int) Z8 (S_api_Node.mk t.f_Kind t.f_Text t.f_Keys acc) (h : Int) =
        some (if c1 ∈ (t.f_Kids.drop i).flatMap (tx8 d) then .inr (4, Z8, ((h + ix8 c1 ((t.f_Kids.drop i).flatMap (tx8 d)) + 1 : Nat) : Int)) else .inl (Z8, S_api_Node.mk t.f_Kind t.f_Text t.f_Keys (acc ++ (t.f_Kids.drop i).map (mp8 c2 d)), ((h + ((t.f_Kids.drop i).flatMap (tx8 d)).length : Nat) : Int)))
  | 0, i, _, _, _, _, _, h, _, _ => by omega
  | k + 1, i, h, acc, rest, hacc, hi, hkk, hd, hh => by
    by_cases hik : i < t.f_Kids.length
    · rw [drop_at hik, List.flatMap_cons, List.append_assoc] at hd
      have hr := hR t.f_Kids[i] (List.getElem_mem hik) h _ hd hh
      have hlen : (c0.drop h).length = c0.length - h := List.length_drop
      rw [hd, List.length_append] at hlen
      have hd2 : c0.drop (h + (tx8 d t.f_Kids[i]).length) = (t.f_Kids.drop (i + 1)).flatMap (tx8 d) ++ rest := by
        rw [← List.drop_drop, hd, List.drop_left]
      rw [node_Each__law08_NodeEach_1_o0_e_e_e_l1, if_pos (lt_i hik), if_pos (in_i hik), kid8 hik, hr, Option.bind_some, drop_at hik, List.flatMap_cons]
      unfold eo8
      by_cases hc : c1 ∈ tx8 d t.f_Kids[i]
      · rw [if_pos hc, if_pos (show ((4 : Int) != 0) = true from rfl), if_pos (List.mem_append_left _ hc), ix_app, if_pos hc]
      · rw [if_neg hc, if_neg (show ¬ ((0 : Int) != 0) = true by decide), if_pos (show decide ((List.length (S_api_Node.mk t.f_Kind t.f_Text t.f_Keys acc).f_Kids + List.length [mp8 c2 d t.f_Kids[i]]) * (72 + 1) ≤ limit) = true from cap73 (by show acc.length + 1 ≤ _; omega)), wrap_s i (by omega)]
        have := each_kids R n d c0 c1 c2 t hk hR k (i + 1) (h + (tx8 d t.f_Kids[i]).length) (acc ++ [mp8 c2 d t.f_Kids[i]]) rest (by simp [hacc]) (by omega) (by omega) hd2 (by omega)
        refine Eq.trans this ?_
        have hm : (c1 ∈ tx8 d t.f_Kids[i] ++ (t.f_Kids.drop (i + 1)).flatMap (tx8 d)) ↔ c1 ∈ (t.f_Kids.drop (i + 1)).flatMap (tx8 d) := by rw [List.mem_append]; simp [hc]
        by_cases hc2 : c1 ∈ (t.f_Kids.drop (i + 1)).flatMap (tx8 d)
        · rw [if_pos hc2, if_pos (hm.2 hc2), ix_app, if_neg hc, Nat.add_assoc h]
        · rw [if_neg hc2, if_neg (fun e => hc2 (hm.1 e)), List.length_append, List.append_assoc, Nat.add_assoc h]; rfl
    · have : i = t.f_Kids.length := by omega
      subst this
      rw [node_Each__law08_NodeEach_1_o0_e_e_e_l1, nlt_n, List.drop_eq_nil_of_le (Nat.le_refl _)]
      simp
theorem each_call (n : Nat) (c0 : List BS) (c1 c2 a : BS) (h : Nat) (rest : List BS) (hl : c0.length ≤ 100000) (hd : c0.drop h = a :: rest) (ha : a.length ≤ 200) (hc : c2.length ≤ 200) :
    law08_NodeEach_1__o0__e__e__e n a c0 c1 c2 (h : Int) = some (if a = c1 then (a, 4, ((h + 1 : Nat) : Int)) else (a ++ c2, 0, ((h + 1 : Nat) : Int))) := by
  have hlen : (c0.drop h).length = c0.length - h := List.length_drop
  rw [hd, List.length_cons] at hlen
  have hlt : h < c0.length := by omega
  have hat : c0[h] = a := by
    have := drop_at hlt
    rw [hd] at this
    exact (List.cons.inj this).1.symm
  unfold law08_NodeEach_1__o0__e__e__e
  have e1 : IntKind.wrap .i64 (((h + 1 : Nat) : Int) - 1) = (h : Int) := by rw [wrap_id _ (by omega) (by omega)]; omega
  rw [wrap_s h (by omega), e1, in_i hlt, at_i hlt, hat, if_pos (by simp)]
  have e2 : decide (((h + 1 : Nat) : Int) > (c0.length : Int)) = false := decide_eq_false (by omega)
  simp only [e2, beq_self_eq_true, Bool.not_true, cond_false, lett]
  by_cases hac : a = c1
  · rw [if_pos (by rw [hac]; exact beq_self_eq_true c1), if_pos hac]
  · rw [if_neg (by rw [beq_iff_eq]; exact hac), if_neg hac, if_pos (decide_eq_true (by omega))]
theorem each_eq (c0 : List BS) (c1 c2 : BS) (hl : c0.length ≤ 100000) (hc : c2.length ≤ 200) : ∀ (d n : Nat) (t : Nd) (h : Nat) (rest : List BS), Fit d t → Shrt d t → 100000 + d < n → c0.drop h = tx8 d t ++ rest → h ≤ c0.length →
    node_Each__law08_NodeEach_1_o0_e_e_e n t c0 c1 c2 (h : Int) = some (eo8 c1 (tx8 d t) (mp8 c2 d t) h)
  | _, 0, _, _, _, _, _, h, _, _ => by omega
  | 0, n + 1, _, _, _, h, _, _, _, _ => h.elim
  | d + 1, n + 1, t, h, rest, hF, hS, hn, hd, hh => by
    have a8 := fun x hx => fit_kid hF (x := x) hx
    have l3 := fit_small hF
    obtain ⟨s1, s2⟩ := hS
    show node_Each__law08_NodeEach_1_o0_e_e_e_b (node_Each__law08_NodeEach_1_o0_e_e_e n) n t c0 c1 c2 (h : Int) = _
    unfold node_Each__law08_NodeEach_1_o0_e_e_e_b
    by_cases h1 : t.f_Kind = 1
    · have hkn : t.f_Kids = [] := hF.2.2.2.2.2.1 (by omega)
      have htx : tx8 (d + 1) t = [t.f_Text] := by unfold tx8; rw [if_pos h1, hkn]; rfl
      rw [htx] at hd ⊢
      have hcall := each_call n c0 c1 c2 t.f_Text h rest hl hd s1 hc
      rw [if_pos (by rw [h1]; rfl), hcall, Option.bind_some]
      unfold eo8 mp8
      rw [if_pos h1]
      by_cases hac : t.f_Text = c1
      · subst hac
        rw [if_pos rfl, if_pos (show ((4 : Int) != 0) = true from rfl), if_pos (by simp)]
        simp [ix8]
      · have hn : ¬ c1 ∈ [t.f_Text] := by rw [List.mem_singleton]; exact fun e => hac e.symm
        rw [if_neg hac, if_neg (show ¬ ((0 : Int) != 0) = true by decide), if_neg hn]; rfl
    · have htx : tx8 (d + 1) t = t.f_Kids.flatMap (tx8 d) := by
        show (if t.f_Kind = 1 then [t.f_Text] else []) ++ _ = _
        rw [if_neg h1]; rfl
      rw [htx] at hd ⊢
      have hloop := each_kids (node_Each__law08_NodeEach_1_o0_e_e_e n) n d c0 c1 c2 t l3.2 (fun x hx h' rest' hd' hh' => each_eq c0 c1 c2 hl hc d n x h' rest' (a8 x hx) (s2 x hx) (by omega) hd' hh')
        n 0 h [] rest rfl (by omega) (by omega) (by rw [List.drop_zero]; exact hd) hh
      rw [List.drop_zero] at hloop
      have hloop : node_Each__law08_NodeEach_1_o0_e_e_e_l1 (node_Each__law08_NodeEach_1_o0_e_e_e n) n c0 c1 c2 t.f_Kids (List.length t.f_Kids : Int) n 0 (S_api_Node.mk 0 [] [] []) (S_api_Node.mk t.f_Kind t.f_Text t.f_Keys []) (h : Int) = _ := hloop
      rw [if_neg (by rw [beq_iff_eq]; exact h1), hloop, Option.bind_some]
      unfold eo8 mp8
      rw [if_neg h1]
      by_cases hcm : c1 ∈ t.f_Kids.flatMap (tx8 d)
      · rw [if_pos hcm, if_pos hcm]; rfl
      · rw [if_neg hcm, if_neg hcm]; rfl
theorem mp_fit {c2 : BS} : ∀ {d : Nat} {t : Nd}, Fit d t → Fit d (mp8 c2 d t)
  | 0, _, h => h.elim
  | d + 1, t, h => by
    obtain ⟨a1, a2, a3, a4, a5, a6, a7, a8⟩ := h
    unfold mp8
    split
    · exact ⟨by simp, by simp, fun h => (h rfl).elim, fun _ => rfl, fun h => absurd (show (1 : Int) = 3 from h) (by decide), fun _ => rfl, ⟨show (0 : Int) ≤ 1 by decide, show (1 : Int) ≤ 3 by decide⟩, fun x hx => by cases hx⟩
    · refine ⟨?_, a2, a3, a4, fun h => ⟨?_, (a5 h).2⟩, fun h => ?_, a7, fun x hx => ?_⟩
      · show (t.f_Kids.map _).length ≤ 2000; rw [List.length_map]; exact a1
      · show t.f_Keys.length = (t.f_Kids.map _).length; rw [List.length_map]; exact (a5 h).1
      · show t.f_Kids.map _ = []; rw [a6 h]; rfl
      · obtain ⟨y, hy, rfl⟩ := List.mem_map.1 hx
        exact mp_fit (a8 y hy)
theorem mp_sz {c2 : BS} : ∀ {d : Nat} {t : Nd}, Fit d t → sz8 d (mp8 c2 d t) = sz8 d t ∧ cn8 d (mp8 c2 d t) = cn8 d t ∧ tx8 d (mp8 c2 d t) = (tx8 d t).map (fun x => x ++ c2)
  | 0, _, h => h.elim
  | d + 1, t, h => by
    obtain ⟨a1, a2, a3, a4, a5, a6, a7, a8⟩ := h
    unfold mp8
    by_cases h1 : t.f_Kind = 1
    · rw [if_pos h1]
      have hkn := a6 (by omega)
      unfold sz8 cn8 tx8
      rw [hkn, if_pos h1]
      exact ⟨rfl, rfl, rfl⟩
    · rw [if_neg h1]
      unfold sz8 cn8 tx8
      have key : ∀ l : List Nd, (∀ x ∈ l, Fit d x) → ((l.map (mp8 c2 d)).map (sz8 d)).sum = (l.map (sz8 d)).sum ∧ (∀ z : Int, (l.map (mp8 c2 d)).foldl (fun acc x => IntKind.wrap .i64 (acc + cn8 d x)) z = l.foldl (fun acc x => IntKind.wrap .i64 (acc + cn8 d x)) z) ∧ (l.map (mp8 c2 d)).flatMap (tx8 d) = (l.flatMap (tx8 d)).map (fun x => x ++ c2) := by
        intro l
        induction l with
        | nil => intro _; exact ⟨rfl, fun _ => rfl, rfl⟩
        | cons x l ih =>
          intro hl
          obtain ⟨i1, i2, i3⟩ := ih fun y hy => hl y (List.mem_cons_of_mem _ hy)
          obtain ⟨m1, m2, m3⟩ := mp_sz (c2 := c2) (hl x (by simp))
          refine ⟨?_, fun z => ?_, ?_⟩
          · rw [List.map_cons, List.map_cons, List.sum_cons, i1, m1, List.map_cons, List.sum_cons]
          · rw [List.map_cons, List.foldl_cons, m2, i2, List.foldl_cons]
          · rw [List.map_cons, List.flatMap_cons, m3, i3, List.flatMap_cons, List.map_append]
      obtain ⟨k1, k2, k3⟩ := key t.f_Kids a8
      refine ⟨?_, k2 1, ?_⟩
      · show 1 + ((t.f_Kids.map (mp8 c2 d)).map (sz8 d)).sum = _; rw [k1]
      · show (if t.f_Kind = 1 then [t.f_Text] else []) ++ (t.f_Kids.map (mp8 c2 d)).flatMap (tx8 d) = _
        rw [k3, if_neg h1]; rfl
def so8 : Nat → Nd → Nd
  | 0, t => t
  | d + 1, t => if t.f_Kind = 3 then S_api_Node.mk 3 t.f_Text (srt t.f_Keys) ((srt t.f_Keys).map fun k => so8 d ((look k t.f_Keys t.f_Kids).getD Z8)) else S_api_Node.mk t.f_Kind t.f_Text t.f_Keys (t.f_Kids.map (so8 d))
theorem look_has {s : BS} : ∀ {ks : List BS} {xs : List Nd}, ks.length = xs.length → s ∈ ks → ∃ x, look s ks xs = some x ∧ x ∈ xs
  | [], _, _, h => by cases h
  | _ :: _, [], h, _ => by simp at h
  | k :: ks, x :: xs, h, hm => by
    unfold look
    by_cases hk : k = s
    · rw [if_pos hk]; exact ⟨x, rfl, by simp⟩
    · rw [if_neg hk]
      rcases List.mem_cons.1 hm with e | e
      · exact (hk e.symm).elim
      · obtain ⟨y, h1, h2⟩ := look_has (xs := xs) (by simpa using h) e
        exact ⟨y, h1, List.mem_cons_of_mem _ h2⟩
theorem node_Sorted_eq : ∀ (d n : Nat) (t : Nd), Fit d t → 100000 + d < n → node_Sorted n t = some (so8 d t)
  | _, 0, _, _, h => by omega
  | 0, n + 1, _, h, _ => h.elim
  | d + 1, n + 1, t, hF, hn => by
    have a8 := fun x hx => fit_kid hF (x := x) hx
    have l3 := fit_small hF
    have hF' := hF
    obtain ⟨a1, a2, a3, a4, a5, a6, a7, _⟩ := hF'
    show node_Sorted_b (node_Sorted n) n t = _
    unfold node_Sorted_b so8
    by_cases h0 : t.f_Kids = []
    · rw [if_pos (by rw [h0]; rfl)]
      have hkn : t.f_Keys = [] := by
        by_cases h3 : t.f_Kind = 3
        · exact List.eq_nil_of_length_eq_zero (by rw [(a5 h3).1, h0]; rfl)
        · exact a4 h3
      obtain ⟨kk, tt, ks, xs⟩ := t
      simp only at h0 hkn
      subst h0; subst hkn
      by_cases h3 : kk = 3
      · subst h3; rfl
      · show some _ = some (if kk = 3 then _ else _); rw [if_neg h3]; rfl
    · rw [if_neg (show ¬ ((List.length t.f_Kids : Int) == 0) = true by rw [beq_iff_eq]; intro e; exact h0 (List.eq_nil_of_length_eq_zero (by omega)))]
      by_cases h3 : t.f_Kind = 3
      · rw [if_neg (show ¬ (t.f_Kind != 3) = true by rw [h3]; decide), if_pos h3, name_Sorted_eq n _ (by omega), Option.bind_some]
        obtain ⟨l1, l2⟩ := a5 h3
        have hsl := srt_length_le t.f_Keys
        have := gather (L := fun k s i => node_Sorted_l2 (node_Sorted n) n (srt t.f_Keys) (List.length (srt t.f_Keys) : Int) t Z8 k i (S_api_Node.mk t.f_Kind t.f_Text (srt t.f_Keys) s)) (srt t.f_Keys) (fun acc k => acc ++ [so8 d ((look k t.f_Keys t.f_Kids).getD Z8)]) (fun s => S_api_Node.mk t.f_Kind t.f_Text (srt t.f_Keys) s) (fun i s => s.length = i) (by omega)
          (fun k s i h hi => by
            show node_Sorted_l2 _ _ _ _ _ _ _ _ _ = _
            have hm : (srt t.f_Keys)[i] ∈ t.f_Keys := mem_srt.1 (List.getElem_mem h)
            obtain ⟨x, x1, x2⟩ := look_has l1 hm
            have hg : get8 t (srt t.f_Keys)[i] = some x := by unfold get8; rw [if_pos h3, x1]
            rw [node_Sorted_l2, if_pos (lt_i h), if_pos (in_i h), at_i h, node_Get_eq _ hF (by omega), Option.bind_some, hg, x1]
            show ((node_Sorted n x).bind fun r4 => _) = _
            rw [node_Sorted_eq d n x (a8 x x2) (by omega), Option.bind_some, if_pos (show decide ((List.length (S_api_Node.mk t.f_Kind t.f_Text (srt t.f_Keys) s).f_Kids + List.length [so8 d x]) * (72 + 1) ≤ limit) = true from cap73 (by show s.length + 1 ≤ _; omega))]; rfl)
          (fun s i h hi => by simp [hi]) (fun k s _ => by show node_Sorted_l2 _ _ _ _ _ _ _ _ _ = _; rw [node_Sorted_l2, nlt_n]; rfl) n 0 [] (by omega) (by omega) rfl
        have hz : node_Sorted_l2 (node_Sorted n) n (srt t.f_Keys) (List.length (srt t.f_Keys) : Int) t (S_api_Node.mk 0 [] [] []) n 0 (S_api_Node.mk t.f_Kind t.f_Text (srt t.f_Keys) []) = _ := this.1
        have fa := foldl_app (fun k : BS => [so8 d ((look k t.f_Keys t.f_Kids).getD Z8)]) (srt t.f_Keys) []
        rw [List.drop_zero, fa, List.nil_append] at hz
        rw [hz, h3, Option.bind_some, List.map_eq_flatMap]
      · rw [if_pos (show (t.f_Kind != 3) = true by rw [bne_iff_ne]; exact h3), if_neg h3]
        have := gather (L := fun k s i => node_Sorted_l1 (node_Sorted n) n t.f_Kids (List.length t.f_Kids : Int) Z8 k i (S_api_Node.mk t.f_Kind t.f_Text [] s)) t.f_Kids (fun acc x => acc ++ [so8 d x]) (fun s => S_api_Node.mk t.f_Kind t.f_Text [] s) (fun i s => s.length = i) (by omega)
          (fun k s i h hi => by
            show node_Sorted_l1 _ _ _ _ _ _ _ _ = _
            rw [node_Sorted_l1, if_pos (lt_i h), if_pos (in_i h), kid8 h, node_Sorted_eq d n _ (a8 _ (List.getElem_mem h)) (by omega), Option.bind_some, if_pos (show decide ((List.length (S_api_Node.mk t.f_Kind t.f_Text [] s).f_Kids + List.length [so8 d t.f_Kids[i]]) * (72 + 1) ≤ limit) = true from cap73 (by show s.length + 1 ≤ _; omega))])
          (fun s i h hi => by simp [hi]) (fun k s _ => by show node_Sorted_l1 _ _ _ _ _ _ _ _ = _; rw [node_Sorted_l1, nlt_n]; rfl) n 0 [] (by omega) (by omega) rfl
        have hz : node_Sorted_l1 (node_Sorted n) n t.f_Kids (List.length t.f_Kids : Int) (S_api_Node.mk 0 [] [] []) n 0 (S_api_Node.mk t.f_Kind t.f_Text [] []) = _ := this.1
        have fa := foldl_app (fun x : Nd => [so8 d x]) t.f_Kids []
        rw [List.drop_zero, fa, List.nil_append] at hz
        rw [hz, Option.bind_some, a4 h3, List.map_eq_flatMap]
theorem ref08_Sorted_eq : ∀ (d n : Nat) (t : Nd), Fit d t → 100000 + d < n → ref08_Sorted n t = some (so8 d t)
  | _, 0, _, _, h => by omega
  | 0, n + 1, _, h, _ => h.elim
  | d + 1, n + 1, t, hF, hn => by
    have a8 := fun x hx => fit_kid hF (x := x) hx
    have l3 := fit_small hF
    have hF' := hF
    obtain ⟨a1, a2, a3, a4, a5, a6, a7, _⟩ := hF'
    show ref08_Sorted_b (ref08_Sorted n) n t = _
    unfold ref08_Sorted_b so8
    by_cases h3 : t.f_Kind = 3
    · rw [if_pos (show (t.f_Kind == 3) = true by rw [h3]; rfl), if_pos h3, ref02_Sorted_eq n _ (by omega) (by omega), Option.bind_some]
      obtain ⟨l1, l2⟩ := a5 h3
      have hsl := srt_length_le t.f_Keys
      have := gather (L := fun k (s : List BS × List Nd) i => ref08_Sorted_l1 (ref08_Sorted n) n (srt t.f_Keys) t Z8 k i (S_api_Node.mk t.f_Kind t.f_Text s.1 s.2)) (srt t.f_Keys) (fun acc k => (acc.1 ++ [k], acc.2 ++ [so8 d ((look k t.f_Keys t.f_Kids).getD Z8)])) (fun s => S_api_Node.mk t.f_Kind t.f_Text s.1 s.2) (fun i s => s.1.length = i ∧ s.2.length = i) (by omega)
        (fun k s i h hi => by
          show ref08_Sorted_l1 _ _ _ _ _ _ _ _ = _
          obtain ⟨i1, i2⟩ := hi
          have hm : (srt t.f_Keys)[i] ∈ t.f_Keys := mem_srt.1 (List.getElem_mem h)
          obtain ⟨x, x1, x2⟩ := look_has l1 hm
          have hg : get8 t (srt t.f_Keys)[i] = some x := by unfold get8; rw [if_pos h3, x1]
          rw [ref08_Sorted_l1, if_pos (lt_i h), if_pos (in_i h), at_i h, ref08_Get_eq _ hF (by omega), Option.bind_some, hg, x1, if_pos (in_i h), if_pos (show decide ((List.length (S_api_Node.mk t.f_Kind t.f_Text s.1 s.2).f_Keys + List.length [(srt t.f_Keys)[i]]) * (16 + 1) ≤ limit) = true from cap_add (by show s.1.length + 1 ≤ _; omega))]
          show ((ref08_Sorted n x).bind fun r4 => _) = _
          rw [ref08_Sorted_eq d n x (a8 x x2) (by omega), Option.bind_some, if_pos (show decide ((List.length (S_api_Node.mk t.f_Kind t.f_Text s.1 s.2).f_Kids + List.length [so8 d x]) * (72 + 1) ≤ limit) = true from cap73 (by show s.2.length + 1 ≤ _; omega))]; rfl)
        (fun s i h hi => by simp [hi.1, hi.2]) (fun k s _ => by show ref08_Sorted_l1 _ _ _ _ _ _ _ _ = _; rw [ref08_Sorted_l1, nlt_n]; rfl) n 0 ([], []) (by omega) (by omega) ⟨rfl, rfl⟩
      have hz : ref08_Sorted_l1 (ref08_Sorted n) n (srt t.f_Keys) t (S_api_Node.mk 0 [] [] []) n 0 (S_api_Node.mk t.f_Kind t.f_Text [] []) = _ := this.1
      have fa : ∀ (l : List BS) (p : List BS × List Nd), l.foldl (fun acc k => (acc.1 ++ [k], acc.2 ++ [so8 d ((look k t.f_Keys t.f_Kids).getD Z8)])) p = (p.1 ++ l, p.2 ++ l.map fun k => so8 d ((look k t.f_Keys t.f_Kids).getD Z8)) := by
        intro l
        induction l with
        | nil => intro p; simp
        | cons x l ih => intro p; rw [List.foldl_cons, ih]; simp
      rw [List.drop_zero, fa, List.nil_append, List.nil_append] at hz
      rw [hz, h3, Option.bind_some]
    · rw [if_neg (show ¬ (t.f_Kind == 3) = true by rw [beq_iff_eq]; exact h3), if_neg h3]
      have := gather (L := fun k s i => ref08_Sorted_l2 (ref08_Sorted n) n t Z8 k i (S_api_Node.mk t.f_Kind t.f_Text [] s)) t.f_Kids (fun acc x => acc ++ [so8 d x]) (fun s => S_api_Node.mk t.f_Kind t.f_Text [] s) (fun i s => s.length = i) (by omega)
        (fun k s i h hi => by
          show ref08_Sorted_l2 _ _ _ _ _ _ _ = _
          rw [ref08_Sorted_l2, if_pos (lt_i h), if_pos (in_i h), kid8 h, ref08_Sorted_eq d n _ (a8 _ (List.getElem_mem h)) (by omega), Option.bind_some, if_pos (show decide ((List.length (S_api_Node.mk t.f_Kind t.f_Text [] s).f_Kids + List.length [so8 d t.f_Kids[i]]) * (72 + 1) ≤ limit) = true from cap73 (by show s.length + 1 ≤ _; omega))])
        (fun s i h hi => by simp [hi]) (fun k s _ => by show ref08_Sorted_l2 _ _ _ _ _ _ _ = _; rw [ref08_Sorted_l2, nlt_n]; rfl) n 0 [] (by omega) (by omega) rfl
      have hz : ref08_Sorted_l2 (ref08_Sorted n) n t (S_api_Node.mk 0 [] [] []) n 0 (S_api_Node.mk t.f_Kind t.f_Text [] []) = _ := this.1
      have fa := foldl_app (fun x : Nd => [so8 d x]) t.f_Kids []
      rw [List.drop_zero, fa, List.nil_append] at hz
      rw [hz, Option.bind_some, a4 h3, List.map_eq_flatMap]
theorem so_up : ∀ {d : Nat} {t : Nd}, Fit d t → so8 (d + 1) t = so8 d t
  | 0, _, h => h.elim
  | d + 1, t, hF => by
    have a8 := fun x hx => fit_kid hF (x := x) hx
    obtain ⟨a1, a2, a3, a4, a5, a6, a7, _⟩ := hF
    conv => lhs; unfold so8
    conv => rhs; unfold so8
    by_cases h3 : t.f_Kind = 3
    · rw [if_pos h3, if_pos h3]
      congr 1
      refine List.map_congr_left fun k hk => ?_
      obtain ⟨x, x1, x2⟩ := look_has (a5 h3).1 (mem_srt.1 hk)
      rw [x1]; exact so_up (a8 x x2)
    · rw [if_neg h3, if_neg h3]
      congr 1
      exact List.map_congr_left fun x hx => so_up (a8 x hx)
theorem so_le {t : Nd} {d : Nat} (h : Fit d t) : ∀ e, d ≤ e → so8 e t = so8 d t
  | 0, he => by have : d = 0 := by omega
                subst this; rfl
  | e + 1, he => by
    by_cases hd : d = e + 1
    · subst hd; rfl
    · rw [so_up (fit_le h e (by omega)), so_le h e (by omega)]
theorem so_fit : ∀ {d : Nat} {t : Nd}, Fit d t → Fit d (so8 d t)
  | 0, _, h => h.elim
  | d + 1, t, hF => by
    have a8 := fun x hx => fit_kid hF (x := x) hx
    obtain ⟨a1, a2, a3, a4, a5, a6, a7, _⟩ := hF
    unfold so8
    by_cases h3 : t.f_Kind = 3
    · rw [if_pos h3]
      have hsl := srt_length_le t.f_Keys
      refine ⟨?_, ?_, fun _ => a3 (by omega), fun h => (h rfl).elim, fun _ => ⟨?_, (asc_srt _).nodup⟩, fun h => absurd (show (3 : Int) < 2 from h) (by decide), ⟨show (0 : Int) ≤ 3 by decide, show (3 : Int) ≤ 3 by decide⟩, fun x hx => ?_⟩
      · show ((srt t.f_Keys).map _).length ≤ 2000; rw [List.length_map]; omega
      · show (srt t.f_Keys).length ≤ 2000; omega
      · show (srt t.f_Keys).length = ((srt t.f_Keys).map _).length; rw [List.length_map]
      · obtain ⟨k, hk, rfl⟩ := List.mem_map.1 hx
        obtain ⟨y, y1, y2⟩ := look_has (a5 h3).1 (mem_srt.1 hk)
        rw [y1]; exact so_fit (a8 y y2)
    · rw [if_neg h3]
      refine ⟨?_, a2, a3, a4, fun h => (h3 h).elim, fun h => ?_, a7, fun x hx => ?_⟩
      · show (t.f_Kids.map _).length ≤ 2000; rw [List.length_map]; exact a1
      · show t.f_Kids.map _ = []; rw [a6 h]; rfl
      · obtain ⟨y, hy, rfl⟩ := List.mem_map.1 hx
        exact so_fit (a8 y hy)
theorem look_map {s : BS} (f : BS → Nd) : ∀ {ks : List BS}, look s ks (ks.map f) = if s ∈ ks then some (f s) else none
  | [] => rfl
  | k :: ks => by
    rw [List.map_cons]
    unfold look
    rw [look_map f]
    by_cases hk : k = s
    · subst hk; simp
    · have hk' : ¬ s = k := fun e => hk e.symm
      rw [if_neg hk]; simp [hk']
theorem look_not {s : BS} {ks : List BS} {xs : List Nd} (hl : ks.length = xs.length) (h : s ∉ ks) : look s ks xs = none := (notin_repl (v := Z8) hl h).2.2.2
theorem so_idem : ∀ {d : Nat} {t : Nd}, Fit d t → so8 d (so8 d t) = so8 d t
  | 0, _, h => h.elim
  | d + 1, t, hF => by
    have a8 := fun x hx => fit_kid hF (x := x) hx
    obtain ⟨a1, a2, a3, a4, a5, a6, a7, _⟩ := hF
    by_cases h3 : t.f_Kind = 3
    · have e : so8 (d + 1) t = S_api_Node.mk 3 t.f_Text (srt t.f_Keys) ((srt t.f_Keys).map fun k => so8 d ((look k t.f_Keys t.f_Kids).getD Z8)) := by
        conv => lhs; unfold so8
        rw [if_pos h3]
      rw [e]
      conv => lhs; unfold so8
      rw [if_pos rfl]
      show S_api_Node.mk 3 t.f_Text (srt (srt t.f_Keys)) ((srt (srt t.f_Keys)).map fun k => so8 d ((look k (srt t.f_Keys) ((srt t.f_Keys).map fun k => so8 d ((look k t.f_Keys t.f_Kids).getD Z8))).getD Z8)) = _
      rw [srt_of_asc (asc_srt _)]
      congr 1
      refine List.map_congr_left fun k hk => ?_
      rw [look_map, if_pos hk, Option.getD_some]
      obtain ⟨y, y1, y2⟩ := look_has (a5 h3).1 (mem_srt.1 hk)
      rw [y1]; exact so_idem (a8 y y2)
    · have e : so8 (d + 1) t = S_api_Node.mk t.f_Kind t.f_Text t.f_Keys (t.f_Kids.map (so8 d)) := by
        conv => lhs; unfold so8
        rw [if_neg h3]
      rw [e]
      conv => lhs; unfold so8
      rw [if_neg h3]
      show S_api_Node.mk t.f_Kind t.f_Text t.f_Keys ((t.f_Kids.map (so8 d)).map (so8 d)) = _
      rw [List.map_map]
      congr 1
      exact List.map_congr_left fun x hx => so_idem (a8 x hx)
theorem so_stp {d : Nat} {t : Nd} (p : BS) (hF : Fit (d + 1) t) : stp8 (so8 (d + 1) t) p = (stp8 t p).map (so8 d) := by
  have a8 := fun x hx => fit_kid hF (x := x) hx
  obtain ⟨a1, a2, a3, a4, a5, a6, a7, _⟩ := hF
  unfold stp8 get8
  conv => lhs; unfold so8
  by_cases h3 : t.f_Kind = 3
  · rw [if_pos h3, if_neg (show ¬ t.f_Kind = 2 by omega), if_pos h3]
    show (if (3 : Int) = 2 then _ else if (3 : Int) = 3 then look p (srt t.f_Keys) _ else none) = _
    rw [if_neg (by decide), if_pos rfl]
    show look p (srt t.f_Keys) ((srt t.f_Keys).map fun k => so8 d ((look k t.f_Keys t.f_Kids).getD Z8)) = _
    rw [look_map]
    by_cases hp : p ∈ t.f_Keys
    · obtain ⟨y, y1, y2⟩ := look_has (a5 h3).1 hp
      rw [if_pos (mem_srt.2 hp), y1]; rfl
    · rw [if_neg (fun e => hp (mem_srt.1 e)), look_not (a5 h3).1 hp]; rfl
  · rw [if_neg h3]
    show (if t.f_Kind = 2 then (if isNum p = true ∧ vl 0 p < (t.f_Kids.map (so8 d)).length then (t.f_Kids.map (so8 d))[vl 0 p]? else none) else if t.f_Kind = 3 then _ else none) = _
    rw [List.length_map, List.getElem?_map]
    by_cases h2 : t.f_Kind = 2
    · rw [if_pos h2, if_pos h2]
      split <;> rfl
    · rw [if_neg h2, if_neg h3, if_neg h2, if_neg h3]; rfl
theorem so_atp : ∀ {ps : List BS} {d : Nat} {t : Nd}, Fit d t → d ≤ 12 → atp8 (so8 12 t) ps = (atp8 t ps).map (so8 12)
  | [], _, _, _, _ => rfl
  | p :: ps, d, t, hF, hd => by
    obtain ⟨e, rfl⟩ := fit_pos hF
    show (stp8 (so8 12 t) p).bind (fun x => atp8 x ps) = ((stp8 t p).bind fun x => atp8 x ps).map (so8 12)
    rw [so_le hF 12 hd, so_stp p hF]
    cases hs : stp8 t p with
    | none => rfl
    | some x =>
      have hx := stp_fit hF hs
      show atp8 (so8 e x) ps = (atp8 x ps).map (so8 12)
      rw [← so_le hx 12 (by omega)]
      exact so_atp hx (by omega)
theorem want_eq (n : Nat) (a3 : List BS) (c a2 : BS) (l : List BS) (v12 : Int) (b4 : Nd) (b10 : Int) (b11 : Nd) (hl : l.length ≤ 100000) : ∀ (i k : Nat), i ≤ l.length → i < k →
    law08_NodeEach_l1 n a3 c a2 l v12 b4 b10 b11 k ((i + ix8 c (l.drop i) : Nat) : Int) ((i : Int) - 1) = some ((ix8 c l : Nat) : Int)
  | _, 0, _, h => by omega
  | 0, k + 1, _, _ => by
    rw [law08_NodeEach_l1, if_neg (by decide), Nat.zero_add, List.drop_zero]
  | i + 1, k + 1, hi, hk => by
    have h : i < l.length := by omega
    have e0 : ((i + 1 : Nat) : Int) - 1 = (i : Int) := by omega
    rw [law08_NodeEach_l1, e0, if_pos (decide_eq_true (by omega)), law08_NodeEach_j2, if_pos (in_i h), at_i h, wrap_id ((i : Int) - 1) (by omega) (by omega)]
    have hd := drop_at h
    have hx : ix8 c (l.drop i) = if l[i] = c then 0 else ix8 c (l.drop (i + 1)) + 1 := by rw [hd]; rfl
    by_cases hc : l[i] = c
    · rw [if_pos (by rw [hc]; exact beq_self_eq_true c), Option.bind_some]
      have := want_eq n a3 c a2 l v12 b4 b10 b11 hl i k (by omega) (by omega)
      rw [hx, if_pos hc, Nat.add_zero] at this
      exact this
    · rw [if_neg (by rw [beq_iff_eq]; exact hc), Option.bind_some]
      have := want_eq n a3 c a2 l v12 b4 b10 b11 hl i k (by omega) (by omega)
      rw [hx, if_neg hc, show i + (ix8 c (l.drop (i + 1)) + 1) = i + 1 + ix8 c (l.drop (i + 1)) by omega] at this
      exact this
theorem tx_short : ∀ {d : Nat} {t : Nd} {x : BS}, Shrt d t → x ∈ tx8 d t → x.length ≤ 200
  | 0, _, _, _, h => by cases h
  | d + 1, t, x, ⟨s1, s2⟩, h => by
    unfold tx8 at h
    rcases List.mem_append.1 h with h | h
    · split at h
      · rw [List.mem_singleton] at h; subst h; exact s1
      · cases h
    · obtain ⟨y, y1, y2⟩ := List.mem_flatMap.1 h
      exact tx_short (s2 y y1) y2
theorem law08_NodeEach_true (a0 : Nd) (_ : W_api_Node a0) (a1 : BS) (_ : List.length a1 ≤ maxLen) (a2 : BS) (_ : List.length a2 ≤ maxLen) (a3 : List BS) (w3 : W_Lstring a3) : ∃ n, law08_NodeEach n a0 a1 a2 a3 = some true := by
  obtain ⟨n, hn⟩ : ∃ n : Nat, n = 200000 + long a3 := ⟨_, rfl⟩
  refine ⟨n, ?_⟩
  have haw := awake8 n (by omega)
  obtain ⟨b1, s1, p1⟩ := small_eq n a0 (by omega)
  unfold law08_NodeEach
  rw [s1, Option.bind_some]
  cases b1 with
  | false => simp only [Bool.not_false, cond_true, lett, if_true, haw, Option.bind_some]
  | true =>
    by_cases hl : (List.length a3 : Int) > 20
    · simp only [Bool.not_true, cond_false, decide_eq_true hl, cond_true, lett, if_true, haw, Option.bind_some]
    by_cases hl2 : (List.length a2 : Int) > 200
    · simp only [Bool.not_true, cond_false, decide_eq_false hl, decide_eq_true hl2, lett, if_true, haw, Option.bind_some]
    obtain ⟨f0, z0, sh0⟩ := p1 rfl
    have hp : ∀ p ∈ a3, p.length ≤ 9223372036854775807 ∧ p.length < n := fun p hp => ⟨by have := w3.2 p hp; have e : maxLen = 9223372036854775807 := rfl; omega, by have := long_le hp; omega⟩
    have ht := texts_eq 12 n a0 f0 (by omega) (by omega)
    have htl := tx_le 12 a0
    have he := each_eq (tx8 12 a0) a1 a2 (by omega) (by omega) 12 n a0 0 [] f0 sh0 (by omega) (by rw [List.drop_zero, List.append_nil]) (Nat.zero_le _)
    have he : node_Each__law08_NodeEach_1_o0_e_e_e n a0 (tx8 12 a0) a1 a2 0 = _ := he
    simp only [Bool.not_true, cond_false, decide_eq_false hl, decide_eq_false hl2, lett, Bool.false_eq_true, if_false, ht, he, Option.bind_some]
    have hw : IntKind.wrap .i64 ((List.length (tx8 12 a0) : Int) - 1) = (List.length (tx8 12 a0) : Int) - 1 := wrap_id _ (by omega) (by omega)
    have hwant : ∀ (v12 : Int) (b10 : Int) (b11 : Nd), law08_NodeEach_l1 n a3 a1 a2 (tx8 12 a0) v12 a0 b10 b11 n (List.length (tx8 12 a0) : Int) ((List.length (tx8 12 a0) : Int) - 1) = some ((ix8 a1 (tx8 12 a0) : Nat) : Int) := by
      intro v12 b10 b11
      have := want_eq n a3 a1 a2 (tx8 12 a0) v12 a0 b10 b11 (by omega) (tx8 12 a0).length n (Nat.le_refl _) (by omega)
      rw [List.drop_eq_nil_of_le (Nat.le_refl _)] at this
      exact this
    rw [hw, hwant, Option.bind_some]
    obtain ⟨x1, x2⟩ := ix_lt (c := a1) (a := tx8 12 a0)
    unfold eo8
    by_cases hm : a1 ∈ tx8 12 a0
    · have hz := same_self (n := n) (x := Z8) (fit_le fit_Z 12 (by omega)) (by omega) (by omega)
      rw [if_pos (lt_i (x1.2 hm)), wrap_s _ (by omega)]
      simp only [if_pos hm, Nat.zero_add, beq_self_eq_true, cond_true, if_true, hz, Option.bind_some, haw]
    · have hx : ¬ ix8 a1 (tx8 12 a0) < (tx8 12 a0).length := fun e => hm (x1.1 e)
      obtain ⟨m1, m2, m3⟩ := mp_sz (c2 := a2) f0
      have ht2 := texts_eq 12 n (mp8 a2 12 a0) (mp_fit f0) (by omega) (by omega)
      have c1 := ref08_Count_eq 12 n a0 f0 (by omega)
      have c2 := ref08_Count_eq 12 n (mp8 a2 12 a0) (mp_fit f0) (by omega)
      have hl3 : law08_NodeEach_l3 n a3 a2 (tx8 12 a0) ((tx8 12 a0).map (fun x => x ++ a2)) a0 n 0 = some (.inl ()) := by
        have := scanN (L := law08_NodeEach_l3 n a3 a2 (tx8 12 a0) ((tx8 12 a0).map (fun x => x ++ a2)) a0) (tx8 12 a0).length (fun _ => none) 0 (by omega)
          (fun k i h _ => by
            have h' : i < ((tx8 12 a0).map (fun x => x ++ a2)).length := by rw [List.length_map]; exact h
            have hs := tx_short sh0 (List.getElem_mem h)
            have hb : (!(((tx8 12 a0).map (fun x => x ++ a2))[i] == ((tx8 12 a0)[i] ++ a2))) = false := by rw [List.getElem_map, beq_self_eq_true]; rfl
            rw [law08_NodeEach_l3, if_pos (lt_i h), if_pos (in_i h'), if_pos (in_i h), at_i h, at_i h', if_pos (decide_eq_true (by omega)), hb, if_neg Bool.false_ne_true])
          (fun k => by rw [law08_NodeEach_l3, nlt_n]; rfl) n 0 (by omega) (by omega) (by omega)
        have this : law08_NodeEach_l3 n a3 a2 (tx8 12 a0) ((tx8 12 a0).map (fun x => x ++ a2)) a0 n 0 = _ := this
        rw [this]
        have : ∀ l : List Nat, l.findSome? (fun _ => (none : Option Bool)) = none := fun l => by induction l <;> simp_all
        rw [this]; rfl
      have n1 := node_Sorted_eq 12 n a0 f0 (by omega)
      have n2 := ref08_Sorted_eq 12 n a0 f0 (by omega)
      have fs := so_fit f0
      have n3 := node_Sorted_eq 12 n _ fs (by omega)
      rw [so_idem f0] at n3
      have t1 := node_At_eq a3 f0 (by omega) hp (show 100000 ≤ n by omega)
      have t2 := node_At_eq a3 fs (by omega) hp (show 100000 ≤ n by omega)
      rw [so_atp f0 (by omega)] at t2
      have q1 := same_self (n := n) fs (by omega) (by omega)
      have q2 := node_Same_eq 12 n _ _ fs fs (by omega)
      rw [sm_refl] at q2
      have r1 : ∃ y, ref08_Sorted n (outG (atp8 a0 a3)).1 = some y ∧ (outG ((atp8 a0 a3).map (so8 12))).1 = y ∧ Fit 13 y := by
        cases ha : atp8 a0 a3 with
        | none => exact ⟨Z8, by have := ref08_Sorted_eq 12 n Z8 (fit_le fit_Z 12 (by omega)) (by omega); exact this, rfl, fit_le fit_Z 13 (by omega)⟩
        | some x =>
          obtain ⟨e, e1, e2⟩ := atp_fit f0 ha
          have hx := fit_le e2 12 e1
          exact ⟨so8 12 x, ref08_Sorted_eq 12 n x hx (by omega), rfl, fit_up (so_fit hx)⟩
      obtain ⟨y, y1, y2, y3⟩ := r1
      have q3 := same_self (n := n) y3 (by omega) (by omega)
      have hsnd : ((outG ((atp8 a0 a3).map (so8 12))).2 == (outG (atp8 a0 a3)).2) = true := by cases atp8 a0 a3 <;> rfl
      rw [if_neg (show ¬ decide (((ix8 a1 (tx8 12 a0) : Nat) : Int) < (List.length (tx8 12 a0) : Int)) = true by rw [decide_eq_true_eq]; omega)]
      simp only [if_neg hm, ht2, m3, Option.bind_some, Nat.zero_add, List.length_map, bne_self_eq_false, cond_false, beq_self_eq_true, if_true, c1, c2, m2, Bool.false_eq_true, if_false, hl3, Sum.elim_inl, n1, t2, t1, n2, q1, hsnd, cond_true, y1, y2, q3, n3, q2, haw]
end Go.Proofs.Ytjicbelggepaiaa.M
