/-
  Part of the proof of NodeEach: P08D.
-/
import Derived.Test.YtjicbelggepaiaaQP08C
set_option linter.all false
namespace Go.Proofs.Ytjicbelggepaiaa.M
open Go Go.Proofs.Ytjicbelggepaiaa.RX Go.Proofs.Ytjicbelggepaiaa.PL
set_option maxRecDepth 100000
def look (s : BS) : List BS → List Nd → Option Nd
  | k :: ks, x :: xs => if k = s then some x else look s ks xs
  | _, _ => none
def repl (s : BS) (v : Nd) : List BS → List Nd → List Nd
  | k :: ks, x :: xs => (if k = s then v else x) :: repl s v ks xs
  | _, _ => []
def fil (s : BS) : List BS → List Nd → List Nd
  | k :: ks, x :: xs => if k = s then fil s ks xs else x :: fil s ks xs
  | _, _ => []
def filk (s : BS) : List BS → List BS
  | k :: ks => if k = s then filk s ks else k :: filk s ks
  | [] => []
theorem at1_cons (s x : BS) (i : Nat) (l : List BS) : at1 s i (x :: l) = if x = s then some (i : Int) else at1 s (i + 1) l := by
  by_cases h : x = s
  · subst h; simp [at1, findI]
  · have : (s == x) = false := by rw [beq_eq_false_iff_ne]; exact fun e => h e.symm
    rw [if_neg h]; simp [at1, findI, this]
theorem notin_repl {s : BS} {v : Nd} : ∀ {ks : List BS} {xs : List Nd}, ks.length = xs.length → s ∉ ks → repl s v ks xs = xs ∧ fil s ks xs = xs ∧ filk s ks = ks ∧ look s ks xs = none
  | [], [], _, _ => ⟨rfl, rfl, rfl, rfl⟩
  | [], _ :: _, h, _ => by simp at h
  | _ :: _, [], h, _ => by simp at h
  | k :: ks, x :: xs, h, hm => by
    rw [List.mem_cons, not_or] at hm
    obtain ⟨h1, h2, h3, h4⟩ := notin_repl (v := v) (ks := ks) (xs := xs) (by simpa using h) hm.2
    have hk : ¬ k = s := fun e => hm.1 e.symm
    unfold repl fil filk look
    rw [if_neg hk, if_neg hk, if_neg hk, if_neg hk, h1, h2, h3, h4]
    exact ⟨rfl, rfl, rfl, rfl⟩
theorem at_none {s : BS} : ∀ {ks : List BS} {i : Nat}, at1 s i ks = none → s ∉ ks
  | [], _, _ => by simp
  | k :: ks, i, h => by
    rw [at1_cons] at h
    by_cases hk : k = s
    · rw [if_pos hk] at h; cases h
    · rw [if_neg hk] at h
      rw [List.mem_cons, not_or]
      exact ⟨fun e => hk e.symm, at_none h⟩
theorem at_some {s : BS} {v : Nd} : ∀ {ks : List BS} {xs : List Nd} {i : Nat} {r : Int}, ks.Nodup → ks.length = xs.length → at1 s i ks = some r →
    ∃ (j : Nat) (h : j < xs.length), r = ((i + j : Nat) : Int) ∧ look s ks xs = some xs[j] ∧ repl s v ks xs = xs.set j v ∧ fil s ks xs = xs.take j ++ xs.drop (j + 1) ∧ filk s ks = ks.take j ++ ks.drop (j + 1) ∧ s ∈ ks
  | [], _, _, _, _, _, h => by cases h
  | _ :: _, [], _, _, _, h, _ => by simp at h
  | k :: ks, x :: xs, i, r, hn, hl, h => by
    obtain ⟨n1, n2⟩ := List.nodup_cons.1 hn
    have hl' : ks.length = xs.length := by simpa using hl
    rw [at1_cons] at h
    by_cases hk : k = s
    · subst hk
      rw [if_pos rfl] at h
      cases h
      obtain ⟨h1, h2, h3, _⟩ := notin_repl (v := v) hl' n1
      refine ⟨0, by simp, rfl, ?_, ?_, ?_, ?_, by simp⟩
      · unfold look; rw [if_pos rfl]; rfl
      · unfold repl; rw [if_pos rfl, h1]; rfl
      · unfold fil; rw [if_pos rfl, h2]; rfl
      · unfold filk; rw [if_pos rfl, h3]; rfl
    · rw [if_neg hk] at h
      obtain ⟨j, hj, e, g1, g2, g3, g4, g5⟩ := at_some (v := v) n2 hl' h
      refine ⟨j + 1, by simp; omega, by rw [e]; congr 1; omega, ?_, ?_, ?_, ?_, by simp [g5]⟩
      · unfold look; rw [if_neg hk, g1]; rfl
      · unfold repl; rw [if_neg hk, g2]; rfl
      · unfold fil; rw [if_neg hk, g3]; rfl
      · unfold filk; rw [if_neg hk, g4]; rfl
theorem look_mem {s : BS} {x : Nd} : ∀ {ks : List BS} {xs : List Nd}, look s ks xs = some x → x ∈ xs
  | [], _, h => by cases h
  | _ :: _, [], h => by cases h
  | k :: ks, y :: xs, h => by
    unfold look at h
    split at h
    · cases h; simp
    · exact List.mem_cons_of_mem _ (look_mem h)
theorem fit_up : ∀ {d : Nat} {t : Nd}, Fit d t → Fit (d + 1) t
  | 0, _, h => h.elim
  | d + 1, t, ⟨a1, a2, a3, a4, a5, a6, a7, a8⟩ => ⟨a1, a2, a3, a4, a5, a6, a7, fun x hx => fit_up (a8 x hx)⟩
theorem fit_le {t : Nd} {d : Nat} (h : Fit d t) : ∀ e, d ≤ e → Fit e t
  | 0, he => by have : d = 0 := by omega
                subst this; exact h
  | e + 1, he => by
    by_cases hd : d = e + 1
    · subst hd; exact h
    · exact fit_up (fit_le h e (by omega))
theorem fit_Z : Fit 1 Z8 := ⟨by decide, by decide, fun _ => rfl, fun _ => rfl, fun h => absurd h (by decide), fun _ => rfl, ⟨by decide, by decide⟩, fun x h => absurd h (by simp)⟩
theorem fit_lens {d : Nat} {t : Nd} (h : Fit d t) (hk : t.f_Kind = 3 ∨ t.f_Kind = 0) : t.f_Keys.length = t.f_Kids.length ∧ t.f_Keys.Nodup ∧ t.f_Text = [] := by
  cases d with
  | zero => exact h.elim
  | succ d =>
    obtain ⟨a1, a2, a3, a4, a5, a6, a7, a8⟩ := h
    rcases hk with hk | hk
    · exact ⟨(a5 hk).1, (a5 hk).2, a3 (by omega)⟩
    · rw [a4 (by omega), a6 (by omega)]
      exact ⟨rfl, .nil, a3 (by omega)⟩
theorem fit_small {d : Nat} {t : Nd} (h : Fit d t) : t.f_Keys.length ≤ 2000 ∧ t.f_Kids.length ≤ 2000 := by
  cases d with
  | zero => exact h.elim
  | succ d => exact ⟨h.2.1, h.1⟩
theorem fit_kid {d : Nat} {t x : Nd} (h : Fit (d + 1) t) (hx : x ∈ t.f_Kids) : Fit d x := h.2.2.2.2.2.2.2 x hx
theorem fit_pos {d : Nat} {t : Nd} (h : Fit d t) : ∃ e, d = e + 1 := by cases d with | zero => exact h.elim | succ d => exact ⟨d, rfl⟩
def get8 (t : Nd) (s : BS) : Option Nd := if t.f_Kind = 3 then look s t.f_Keys t.f_Kids else none
def outG : Option Nd → Nd × Bool | some x => (x, true) | none => (Z8, false)
theorem place_eq (n : Nat) (tx : BS) (ks : List BS) (xs : List Nd) (s : BS) (hl : ks.length = xs.length) (h : ks.length < 10000) (hn : 100000 ≤ n) : node_place n (S_api_Node.mk 3 tx ks xs) s = some ((at1 s 0 ks).getD (-1)) := by
  unfold node_place
  have e : (bif ((3 : Int) != 3) then true else ((List.length ks : Int) != (List.length xs : Int))) = false := by rw [lne, decide_eq_true hl]; rfl
  show (if (bif ((3 : Int) != 3) then true else ((List.length ks : Int) != (List.length xs : Int))) = true then some (-1) else (name_At n ks s).bind fun r1 => some r1) = _
  rw [e, if_neg Bool.false_ne_true, name_At_eq n ks s h hn]; rfl
theorem place3 {t : Nd} (h : t.f_Kind = 3) : t = S_api_Node.mk 3 t.f_Text t.f_Keys t.f_Kids := by cases t; simp_all
theorem place_no (n : Nat) (t : Nd) (s : BS) (h : ¬ t.f_Kind = 3) : node_place n t s = some (-1) := by
  unfold node_place
  have e : (t.f_Kind != 3) = true := by rw [bne_iff_ne]; exact h
  rw [e]; rfl
theorem node_Get_eq {d n : Nat} {t : Nd} (s : BS) (hF : Fit d t) (hn : 100000 ≤ n) : node_Get n t s = some (outG (get8 t s)) := by
  unfold node_Get get8
  by_cases h3 : t.f_Kind = 3
  · obtain ⟨l1, l2, _⟩ := fit_lens hF (.inl h3)
    have l3 := fit_small hF
    have hp : node_place n t s = some ((at1 s 0 t.f_Keys).getD (-1)) := by rw [place3 h3]; exact place_eq n _ _ _ s l1 (by show t.f_Keys.length < _; omega) hn
    rw [hp, if_pos h3, Option.bind_some]
    cases ha : at1 s 0 t.f_Keys with
    | none => rw [(notin_repl (v := Z8) l1 (at_none ha)).2.2.2]; rfl
    | some r =>
      obtain ⟨j, hj, e, g1, _⟩ := at_some (v := Z8) l2 l1 ha
      rw [Nat.zero_add] at e
      subst e
      rw [g1, Option.getD_some, if_neg (by rw [decide_eq_true_eq]; omega), if_pos (in_i hj), kid8 hj]; rfl
  · rw [place_no n t s h3, if_neg h3]; rfl
theorem ref_get_l2 (n : Nat) (s : BS) (t : Nd) (hl : t.f_Keys.length = t.f_Kids.length) (hs : t.f_Keys.length ≤ 2000) : ∀ (k i : Nat), i ≤ t.f_Keys.length → t.f_Keys.length - i < k →
    ref08_Get_l2 n s t k (i : Int) Z8 = some (match look s (t.f_Keys.drop i) (t.f_Kids.drop i) with | some x => .inr (true, x) | none => .inl Z8)
  | 0, i, _, h => by omega
  | k + 1, i, hi, hk => by
    by_cases h : i < t.f_Keys.length
    · have h' : i < t.f_Kids.length := by omega
      rw [ref08_Get_l2, if_pos (lt_i h), if_pos (in_i h), at_i h, drop_at h, drop_at h', if_pos (in_i h'), kid8 h', wrap_s i (by omega)]
      unfold look
      by_cases hk : t.f_Keys[i] = s
      · rw [if_pos hk, if_pos (by rw [hk]; exact beq_self_eq_true s)]
      · rw [if_neg hk, if_neg (by rw [beq_iff_eq]; exact hk)]
        exact ref_get_l2 n s t hl hs k (i + 1) (by omega) (by omega)
    · have : i = t.f_Keys.length := by omega
      subst this
      rw [ref08_Get_l2, nlt_n, List.drop_eq_nil_of_le (Nat.le_refl _)]; rfl
theorem ref08_Get_eq {d n : Nat} {t : Nd} (s : BS) (hF : Fit d t) (hn : 100000 ≤ n) : ref08_Get n t s = some (outG (get8 t s)) := by
  unfold ref08_Get ref08_Get_j1 get8
  by_cases h3 : t.f_Kind = 3
  · obtain ⟨l1, l2, _⟩ := fit_lens hF (.inl h3)
    have l3 := fit_small hF
    have h := ref_get_l2 n s t l1 l3.1 n 0 (by omega) (by omega)
    have h : ref08_Get_l2 n s t n 0 Z8 = _ := h
    rw [if_pos (by rw [h3]; rfl), if_pos h3, h, List.drop_zero, List.drop_zero]
    cases look s t.f_Keys t.f_Kids <;> rfl
  · rw [if_neg (by rw [beq_iff_eq]; exact h3), if_neg h3]; rfl
def stp8 (t : Nd) (p : BS) : Option Nd := if t.f_Kind = 2 then (if isNum p = true ∧ vl 0 p < t.f_Kids.length then t.f_Kids[vl 0 p]? else none) else get8 t p
def sumA : Option Nd → Sum (Nd × Nd) (Bool × Nd) | some x => .inl (x, Z8) | none => .inr (false, Z8)
theorem node_j2 {d n : Nat} {t : Nd} (path : List BS) (L : Int) (i : Nat) (h : i < path.length) (hF : Fit d t) (hp : path[i].length ≤ 9223372036854775807) (hn : 100000 ≤ n ∧ path[i].length < n) :
    node_At_j2 n path L (i : Int) t Z8 = some (sumA (stp8 t path[i])) := by
  have l3 := fit_small hF
  unfold node_At_j2 stp8
  rw [if_pos (in_i h), at_i h]
  by_cases h2 : t.f_Kind = 2
  · rw [if_pos (by rw [h2]; rfl), if_pos h2, dcount_eq n path[i] t.f_Kids.length hp (by omega) ⟨hn.2, by omega⟩, Option.bind_some]
    unfold ncount
    cases hN : isNum path[i] with
    | false => rfl
    | true =>
      rw [if_pos rfl]
      by_cases hv : vl 0 path[i] ≤ t.f_Kids.length
      · rw [if_pos hv]
        by_cases hv2 : vl 0 path[i] < t.f_Kids.length
        · have e1 : (bif ((0 : Int) != 0) then true else (((vl 0 path[i] : Nat) : Int) == (t.f_Kids.length : Int))) = false := by
            show (((vl 0 path[i] : Nat) : Int) == (t.f_Kids.length : Int)) = false
            rw [beq_eq_false_iff_ne]; omega
          simp only [e1, Bool.false_eq_true, if_false, if_pos (in_i hv2), kid8 hv2]
          rw [if_pos (by simp [hv2]), List.getElem?_eq_getElem hv2]; rfl
        · have e1 : (bif ((0 : Int) != 0) then true else (((vl 0 path[i] : Nat) : Int) == (t.f_Kids.length : Int))) = true := by
            show (((vl 0 path[i] : Nat) : Int) == (t.f_Kids.length : Int)) = true
            rw [beq_iff_eq]; omega
          simp only [e1, if_true]
          rw [if_neg (fun e => hv2 e.2)]; rfl
      · have e2 : ¬ (True ∧ vl 0 path[i] < t.f_Kids.length) := fun e => hv (Nat.le_of_lt e.2)
        rw [if_neg hv]
        simp only [true_and] at e2 ⊢
        rw [if_neg e2]; rfl
  · rw [if_neg (by rw [beq_iff_eq]; exact h2), if_neg h2, node_Get_eq path[i] hF hn.1, Option.bind_some]
    cases get8 t path[i] <;> rfl
theorem stp_fit {d : Nat} {t x : Nd} {p : BS} (hF : Fit (d + 1) t) (h : stp8 t p = some x) : Fit d x := by
  unfold stp8 get8 at h
  split at h
  · split at h
    · exact fit_kid hF (List.mem_of_getElem? h)
    · cases h
  · split at h
    · exact fit_kid hF (look_mem h)
    · cases h
def atp8 : Nd → List BS → Option Nd
  | t, [] => some t
  | t, p :: ps => (stp8 t p).bind fun x => atp8 x ps
theorem atp_fit : ∀ {ps : List BS} {d : Nat} {t x : Nd}, Fit d t → atp8 t ps = some x → ∃ e, e ≤ d ∧ Fit e x
  | [], d, t, x, hF, h => by cases h; exact ⟨d, Nat.le_refl _, hF⟩
  | p :: ps, d, t, x, hF, h => by
    obtain ⟨e, rfl⟩ := fit_pos hF
    obtain ⟨y, h1, h2⟩ := Option.bind_eq_some_iff.1 h
    obtain ⟨e', h3, h4⟩ := atp_fit (stp_fit hF h1) h2
    exact ⟨e', by omega, h4⟩
theorem node_At_l (n : Nat) (path : List BS) (hl : path.length ≤ 1000) (hp : ∀ p ∈ path, p.length ≤ 9223372036854775807 ∧ p.length < n) (hn : 100000 ≤ n) : ∀ (k i d : Nat) (t : Nd), Fit d t → i ≤ path.length → path.length - i < k →
    node_At_l1 n path (path.length : Int) k (i : Int) t Z8 = some (sumA (atp8 t (path.drop i)))
  | 0, i, _, _, _, _, h => by omega
  | k + 1, i, d, t, hF, hi, hk => by
    by_cases h : i < path.length
    · obtain ⟨e, rfl⟩ := fit_pos hF
      have hpi := hp path[i] (List.getElem_mem h)
      rw [node_At_l1, if_pos (lt_i h), node_j2 path _ i h hF hpi.1 ⟨hn, hpi.2⟩, Option.bind_some, drop_at h]
      show _ = some (sumA ((stp8 t path[i]).bind fun x => atp8 x (path.drop (i + 1))))
      cases hs : stp8 t path[i] with
      | none => rfl
      | some x =>
        show node_At_l1 n path (path.length : Int) k (IntKind.wrap .i64 ((i : Int) + 1)) x Z8 = some (sumA (atp8 x (path.drop (i + 1))))
        rw [wrap_s i (by omega)]
        exact node_At_l n path hl hp hn k (i + 1) e x (stp_fit hF hs) (by omega) (by omega)
    · have : i = path.length := by omega
      subst this
      rw [node_At_l1, nlt_n, List.drop_eq_nil_of_le (Nat.le_refl _)]; rfl
theorem node_At_eq {n d : Nat} {t : Nd} (path : List BS) (hF : Fit d t) (hl : path.length ≤ 1000) (hp : ∀ p ∈ path, p.length ≤ 9223372036854775807 ∧ p.length < n) (hn : 100000 ≤ n) : node_At n t path = some (outG (atp8 t path)) := by
  have h := node_At_l n path hl hp hn n 0 d t hF (by omega) (by omega)
  rw [List.drop_zero] at h
  have h : node_At_l1 n path (path.length : Int) n 0 t Z8 = _ := h
  unfold node_At
  rw [h]
  cases atp8 t path <;> rfl
end Go.Proofs.Ytjicbelggepaiaa.M
