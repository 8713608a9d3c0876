/-
  Part of the proof of NodePuts: P08D.
-/
import Derived.Test.YtjicbelggepaiaaQP08C
set_option linter.all false
namespace Go.Proofs.Ytjicbelggepaiaa.M
open Go Go.Proofs.Ytjicbelggepaiaa.RX Go.Proofs.Ytjicbelggepaiaa.PL
set_option maxRecDepth 100000
def look (s : BS) : List BS → List Nd → Option Nd
  | k :: ks, x :: xs => if k = s then some x else look s ks xs
  | _, _ => none
def repl (s : BS) (v : Nd) : List BS → List Nd → List Nd
  | k :: ks, x :: xs => (if k = s then v else x) :: repl s v ks xs
  | _, _ => []
def fil (s : BS) : List BS → List Nd → List Nd
  | k :: ks, x :: xs => if k = s then fil s ks xs else x :: fil s ks xs
  | _, _ => []
def filk (s : BS) : List BS → List BS
  | k :: ks => if k = s then filk s ks else k :: filk s ks
  | [] => []
theorem at1_cons (s x : BS) (i : Nat) (l : List BS) : at1 s i (x :: l) = if x = s then some (i : Int) else at1 s (i + 1) l := by
  by_cases h : x = s
  · subst h; simp [at1, findI]
  · have : (s == x) = false := by rw [beq_eq_false_iff_ne]; exact fun e => h e.symm
    rw [if_neg h]; simp [at1, findI, this]
theorem notin_repl {s : BS} {v : Nd} : ∀ {ks : List BS} {xs : List Nd}, ks.length = xs.length → s ∉ ks → repl s v ks xs = xs ∧ fil s ks xs = xs ∧ filk s ks = ks ∧ look s ks xs = none
  | [], [], _, _ => ⟨rfl, rfl, rfl, rfl⟩
  | [], _ :: _, h, _ => by simp at h
  | _ :: _, [], h, _ => by simp at h
  | k :: ks, x :: xs, h, hm => by
    rw [List.mem_cons, not_or] at hm
    obtain ⟨h1, h2, h3, h4⟩ := notin_repl (v := v) (ks := ks) (xs := xs) (by simpa using h) hm.2
    have hk : ¬ k = s := fun e => hm.1 e.symm
    unfold repl fil filk look
    rw [if_neg hk, if_neg hk, if_neg hk, if_neg hk, h1, h2, h3, h4]
    exact ⟨rfl, rfl, rfl, rfl⟩
theorem at_none {s : BS} : ∀ {ks : List BS} {i : Nat}, at1 s i ks = none → s ∉ ks
  | [], _, _ => by simp
  | k :: ks, i, h => by
    rw [at1_cons] at h
    by_cases hk : k = s
    · rw [if_pos hk] at h; cases h
    · rw [if_neg hk] at h
      rw [List.mem_cons, not_or]
      exact ⟨fun e => hk e.symm, at_none h⟩
theorem at_some {s : BS} {v : Nd} : ∀ {ks : List BS} {xs : List Nd} {i : Nat} {r : Int}, ks.Nodup → ks.length = xs.length → at1 s i ks = some r →
    ∃ (j : Nat) (h : j < xs.length), r = ((i + j : Nat) : Int) ∧ look s ks xs = some xs[j] ∧ repl s v ks xs = xs.set j v ∧ fil s ks xs = xs.take j ++ xs.drop (j + 1) ∧ filk s ks = ks.take j ++ ks.drop (j + 1) ∧ s ∈ ks
  | [], _, _, _, _, _, h => by cases h
  | _ :: _, [], _, _, _, h, _ => by simp at h
  | k :: ks, x :: xs, i, r, hn, hl, h => by
    obtain ⟨n1, n2⟩ := List.nodup_cons.1 hn
    have hl' : ks.length = xs.length := by simpa using hl
    rw [at1_cons] at h
    by_cases hk : k = s
    · subst hk
      rw [if_pos rfl] at h
      cases h
      obtain ⟨h1, h2, h3, _⟩ := notin_repl (v := v) hl' n1
      refine ⟨0, by simp, rfl, ?_, ?_, ?_, ?_, by simp⟩
      · unfold look; rw [if_pos rfl]; rfl
      · unfold repl; rw [if_pos rfl, h1]; rfl
      · unfold fil; rw [if_pos rfl, h2]; rfl
      · unfold filk; rw [if_pos rfl, h3]; rfl
    · rw [if_neg hk] at h
      obtain ⟨j, hj, e, g1, g2, g3, g4, g5⟩ := at_some (v := v) n2 hl' h
      refine ⟨j + 1, by simp; omega, by rw [e]; congr 1; omega, ?_, ?_, ?_, ?_, by simp [g5]⟩
      · unfold look; rw [if_neg hk, g1]; rfl
      · unfold repl; rw [if_neg hk, g2]; rfl
      · unfold fil; rw [if_neg hk, g3]; rfl
      · unfold filk; rw [if_neg hk, g4]; rfl
theorem repl_len {s : BS} {v : Nd} : ∀ {ks : List BS} {xs : List Nd}, ks.length = xs.length → (repl s v ks xs).length = xs.length
  | [], [], _ => rfl
  | [], _ :: _, h => by simp at h
  | _ :: _, [], h => by simp at h
  | k :: ks, x :: xs, h => by unfold repl; rw [List.length_cons, repl_len (by simpa using h), List.length_cons]
theorem repl_mem {s : BS} {v y : Nd} : ∀ {ks : List BS} {xs : List Nd}, y ∈ repl s v ks xs → y = v ∨ y ∈ xs
  | [], _, h => by unfold repl at h; cases h
  | _ :: _, [], h => by unfold repl at h; cases h
  | k :: ks, x :: xs, h => by
    unfold repl at h
    rcases List.mem_cons.1 h with h | h
    · split at h
      · exact .inl h
      · exact .inr (by simp [h])
    · rcases repl_mem h with h | h
      · exact .inl h
      · exact .inr (by simp [h])
theorem fil_len {s : BS} : ∀ {ks : List BS} {xs : List Nd}, ks.length = xs.length → (filk s ks).length = (fil s ks xs).length
  | [], [], _ => rfl
  | [], _ :: _, h => by simp at h
  | _ :: _, [], h => by simp at h
  | k :: ks, x :: xs, h => by
    have := fil_len (s := s) (ks := ks) (xs := xs) (by simpa using h)
    unfold fil filk
    split
    · exact this
    · rw [List.length_cons, List.length_cons, this]
theorem fil_mem {s : BS} {y : Nd} : ∀ {ks : List BS} {xs : List Nd}, y ∈ fil s ks xs → y ∈ xs
  | [], _, h => by unfold fil at h; cases h
  | _ :: _, [], h => by unfold fil at h; cases h
  | k :: ks, x :: xs, h => by
    unfold fil at h
    split at h
    · exact List.mem_cons_of_mem _ (fil_mem h)
    · rcases List.mem_cons.1 h with h | h
      · simp [h]
      · exact List.mem_cons_of_mem _ (fil_mem h)
theorem filk_sub (s : BS) : ∀ ks : List BS, (filk s ks).Sublist ks
  | [] => .slnil
  | k :: ks => by
    unfold filk
    split
    · exact .cons _ (filk_sub s ks)
    · exact .cons_cons _ (filk_sub s ks)
theorem filk_not (s : BS) : ∀ ks : List BS, s ∉ filk s ks
  | [] => by simp [filk]
  | k :: ks => by
    unfold filk
    split
    · exact filk_not s ks
    · rename_i h
      rw [List.mem_cons, not_or]
      exact ⟨fun e => h e.symm, filk_not s ks⟩
theorem look_repl {s : BS} {v : Nd} : ∀ {ks : List BS} {xs : List Nd}, ks.length = xs.length → s ∈ ks → look s ks (repl s v ks xs) = some v
  | [], _, _, h => by cases h
  | _ :: _, [], h, _ => by simp at h
  | k :: ks, x :: xs, h, hm => by
    unfold repl look
    by_cases hk : k = s
    · rw [if_pos hk, if_pos hk]
    · rw [if_neg hk, look_repl (by simpa using h)]
      rcases List.mem_cons.1 hm with e | e
      · exact (hk e.symm).elim
      · exact e
theorem look_repl_ne {s s' : BS} {v : Nd} (hs : s' ≠ s) : ∀ {ks : List BS} {xs : List Nd}, look s' ks (repl s v ks xs) = look s' ks xs
  | [], _ => rfl
  | _ :: _, [] => rfl
  | k :: ks, x :: xs => by
    unfold repl look
    by_cases hk : k = s'
    · rw [if_pos hk, if_pos hk, if_neg (fun e => hs (hk.symm.trans e))]
    · rw [if_neg hk, if_neg hk, look_repl_ne hs]
theorem look_fil_ne {s s' : BS} (hs : s' ≠ s) : ∀ {ks : List BS} {xs : List Nd}, ks.length = xs.length → look s' (filk s ks) (fil s ks xs) = look s' ks xs
  | [], [], _ => rfl
  | [], _ :: _, h => by simp at h
  | _ :: _, [], h => by simp at h
  | k :: ks, x :: xs, h => by
    have ih := look_fil_ne hs (ks := ks) (xs := xs) (by simpa using h)
    unfold filk fil
    by_cases hk : k = s
    · rw [if_pos hk, if_pos hk, ih]
      conv => rhs; unfold look
      rw [if_neg (fun e => hs (e.symm.trans hk))]
    · rw [if_neg hk, if_neg hk]
      unfold look
      rw [ih]
theorem look_app {s : BS} (s' : BS) (v : Nd) : ∀ {ks : List BS} {xs : List Nd}, ks.length = xs.length → look s (ks ++ [s']) (xs ++ [v]) = (look s ks xs).or (if s' = s then some v else none)
  | [], [], _ => by
    show look s [s'] [v] = _
    unfold look look
    simp [look]
  | [], _ :: _, h => by simp at h
  | _ :: _, [], h => by simp at h
  | k :: ks, x :: xs, h => by
    have ih := look_app (s := s) s' v (ks := ks) (xs := xs) (by simpa using h)
    show look s (k :: (ks ++ [s'])) (x :: (xs ++ [v])) = _
    unfold look
    rw [ih]
    by_cases hk : k = s
    · rw [if_pos hk, if_pos hk]; rfl
    · rw [if_neg hk, if_neg hk]
theorem look_mem {s : BS} {x : Nd} : ∀ {ks : List BS} {xs : List Nd}, look s ks xs = some x → x ∈ xs
  | [], _, h => by cases h
  | _ :: _, [], h => by cases h
  | k :: ks, y :: xs, h => by
    unfold look at h
    split at h
    · cases h; simp
    · exact List.mem_cons_of_mem _ (look_mem h)
theorem fit_up : ∀ {d : Nat} {t : Nd}, Fit d t → Fit (d + 1) t
  | 0, _, h => h.elim
  | d + 1, t, ⟨a1, a2, a3, a4, a5, a6, a7, a8⟩ => ⟨a1, a2, a3, a4, a5, a6, a7, fun x hx => fit_up (a8 x hx)⟩
theorem fit_le {t : Nd} {d : Nat} (h : Fit d t) : ∀ e, d ≤ e → Fit e t
  | 0, he => by have : d = 0 := by omega
                subst this; exact h
  | e + 1, he => by
    by_cases hd : d = e + 1
    · subst hd; exact h
    · exact fit_up (fit_le h e (by omega))
theorem fit_Z : Fit 1 Z8 := ⟨by decide, by decide, fun _ => rfl, fun _ => rfl, fun h => absurd h (by decide), fun _ => rfl, ⟨by decide, by decide⟩, fun x h => absurd h (by simp)⟩
theorem fit_lens {d : Nat} {t : Nd} (h : Fit d t) (hk : t.f_Kind = 3 ∨ t.f_Kind = 0) : t.f_Keys.length = t.f_Kids.length ∧ t.f_Keys.Nodup ∧ t.f_Text = [] := by
  cases d with
  | zero => exact h.elim
  | succ d =>
    obtain ⟨a1, a2, a3, a4, a5, a6, a7, a8⟩ := h
    rcases hk with hk | hk
    · exact ⟨(a5 hk).1, (a5 hk).2, a3 (by omega)⟩
    · rw [a4 (by omega), a6 (by omega)]
      exact ⟨rfl, .nil, a3 (by omega)⟩
theorem fit_small {d : Nat} {t : Nd} (h : Fit d t) : t.f_Keys.length ≤ 2000 ∧ t.f_Kids.length ≤ 2000 := by
  cases d with
  | zero => exact h.elim
  | succ d => exact ⟨h.2.1, h.1⟩
theorem fit_kid {d : Nat} {t x : Nd} (h : Fit (d + 1) t) (hx : x ∈ t.f_Kids) : Fit d x := h.2.2.2.2.2.2.2 x hx
theorem fit_pos {d : Nat} {t : Nd} (h : Fit d t) : ∃ e, d = e + 1 := by cases d with | zero => exact h.elim | succ d => exact ⟨d, rfl⟩
theorem kids_le : ∀ {d : Nat} {t : Nd} {m : Nat}, Fit d t → sz8 d t ≤ m → t.f_Kids.length < m
  | 0, _, _, h, _ => h.elim
  | d + 1, t, m, _, h => by
    have hs : ∀ l : List Nd, l.length ≤ (l.map (sz8 d)).sum := by
      intro l
      induction l with
      | nil => exact Nat.le_refl 0
      | cons x l ih => rw [List.map_cons, List.sum_cons, List.length_cons]; have := sz8_pos d x; omega
    have := hs t.f_Kids
    unfold sz8 at h; omega
def get8 (t : Nd) (s : BS) : Option Nd := if t.f_Kind = 3 then look s t.f_Keys t.f_Kids else none
def outG : Option Nd → Nd × Bool | some x => (x, true) | none => (Z8, false)
theorem place_eq (n : Nat) (tx : BS) (ks : List BS) (xs : List Nd) (s : BS) (hl : ks.length = xs.length) (h : ks.length < 10000) (hn : 100000 ≤ n) : node_place n (S_api_Node.mk 3 tx ks xs) s = some ((at1 s 0 ks).getD (-1)) := by
  unfold node_place
  have e : (bif ((3 : Int) != 3) then true else ((List.length ks : Int) != (List.length xs : Int))) = false := by rw [lne, decide_eq_true hl]; rfl
  show (if (bif ((3 : Int) != 3) then true else ((List.length ks : Int) != (List.length xs : Int))) = true then some (-1) else (name_At n ks s).bind fun r1 => some r1) = _
  rw [e, if_neg Bool.false_ne_true, name_At_eq n ks s h hn]; rfl
theorem place3 {t : Nd} (h : t.f_Kind = 3) : t = S_api_Node.mk 3 t.f_Text t.f_Keys t.f_Kids := by cases t; simp_all
theorem place_no (n : Nat) (t : Nd) (s : BS) (h : ¬ t.f_Kind = 3) : node_place n t s = some (-1) := by
  unfold node_place
  have e : (t.f_Kind != 3) = true := by rw [bne_iff_ne]; exact h
  rw [e]; rfl
theorem node_Get_eq {d n : Nat} {t : Nd} (s : BS) (hF : Fit d t) (hn : 100000 ≤ n) : node_Get n t s = some (outG (get8 t s)) := by
  unfold node_Get get8
  by_cases h3 : t.f_Kind = 3
  · obtain ⟨l1, l2, _⟩ := fit_lens hF (.inl h3)
    have l3 := fit_small hF
    have hp : node_place n t s = some ((at1 s 0 t.f_Keys).getD (-1)) := by rw [place3 h3]; exact place_eq n _ _ _ s l1 (by show t.f_Keys.length < _; omega) hn
    rw [hp, if_pos h3, Option.bind_some]
    cases ha : at1 s 0 t.f_Keys with
    | none => rw [(notin_repl (v := Z8) l1 (at_none ha)).2.2.2]; rfl
    | some r =>
      obtain ⟨j, hj, e, g1, _⟩ := at_some (v := Z8) l2 l1 ha
      rw [Nat.zero_add] at e
      subst e
      rw [g1, Option.getD_some, if_neg (by rw [decide_eq_true_eq]; omega), if_pos (in_i hj), kid8 hj]; rfl
  · rw [place_no n t s h3, if_neg h3]; rfl
end Go.Proofs.Ytjicbelggepaiaa.M
