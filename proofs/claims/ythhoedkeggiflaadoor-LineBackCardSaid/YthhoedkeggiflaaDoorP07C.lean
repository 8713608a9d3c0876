/-
  Chapter 7: LineBack, the statement.
-/
import Derived.Test.YthhoedkeggiflaaDoorP07B
namespace Go.Proofs.YthhoedkeggiflaaDoor.M
open Go Go.Proofs.YthhoedkeggiflaaDoor.RX Go.Proofs.YthhoedkeggiflaaDoor.PL

/-! ### line by line -/
theorem split_at (n : Nat) (hn : 20000 ≤ n) (k : Nat) (s : BS) (out : List S_line_Line) (no : Nat) (t : BS × Bool) (hs : s ≠ []) (h2 : s.length ≤ 10000) (h3 : out.length ≤ no) (h4 : no + s.length ≤ 10000) (ht : line_say n ((rowOf s).1.drop (ind (rowOf s).1)) = some t) :
    line_Split_l1 n (k + 1) s out ((no + 1 : Nat) : Int) = (if (bif (!t.2) then true else (bif (((ind (rowOf s).1 : Nat) : Int) == 0) then (bif (t.1 == [45, 45, 45]) then true else (t.1 == [46, 46, 46])) else false)) = true then some (.inr (((no + 1 : Nat) : Int), 3))
      else if t.1 = [] then line_Split_l1 n k (rowOf s).2 out ((no + 1 + 1 : Nat) : Int) else line_Split_l1 n k (rowOf s).2 (out ++ [S_line_Line.mk ((no + 1 : Nat) : Int) ((ind (rowOf s).1 : Nat) : Int) t.1]) ((no + 1 + 1 : Nat) : Int)) := by
  have hpos := List.length_pos_iff.2 hs
  obtain ⟨g1, g2, g3⟩ := rowOf_len s
  have e1 : (s == []) = false := by simpa using hs
  have hw := wrap_s no (by omega)
  have hcut : (Lib.cut s [10]).1 = (rowOf s).1 ∧ (Lib.cut s [10]).2.1 = (rowOf s).2 := by
    rw [cut_eq]; unfold rowOf
    cases upto 10 s <;> exact ⟨rfl, rfl⟩
  have hil := ind_le (rowOf s).1
  have hx : IntKind.wrap .i64 (((rowOf s).1.length : Int) - ((Lib.trimLeftB (rowOf s).1 32).length : Int)) = ((ind (rowOf s).1 : Nat) : Int) := by rw [len_trim, wrap_id _ (by omega) (by omega)]; omega
  have hcap : decide ((List.length out + List.length ([S_line_Line.mk ((no + 1 : Nat) : Int) ((ind (rowOf s).1 : Nat) : Int) t.1] : List S_line_Line)) * (32 + 1) ≤ limit) = true := cap33 (by omega)
  have j2 : line_Split_j2 n s out ((no + 1 : Nat) : Int) = some (if (bif (!t.2) then true else (bif (((ind (rowOf s).1 : Nat) : Int) == 0) then (bif (t.1 == [45, 45, 45]) then true else (t.1 == [46, 46, 46])) else false)) = true then .inr (((no + 1 : Nat) : Int), 3)
      else if (!(t.1 == [])) = true then .inl ((rowOf s).2, out ++ [S_line_Line.mk ((no + 1 : Nat) : Int) ((ind (rowOf s).1 : Nat) : Int) t.1]) else .inl ((rowOf s).2, out)) := by
    rw [line_Split_j2, if_pos (decide_eq_true (by omega)), hcut.1, hcut.2, hx]
    simp only [lett]
    rw [if_pos (le_i hil), tn, ht, Option.bind_some, if_pos hcap]
    split
    · rfl
    · split <;> rfl
  rw [line_Split_l1, e1, if_pos (by decide : (!false) = true), j2, Option.bind_some]
  by_cases hbad : (bif (!t.2) then true else (bif (((ind (rowOf s).1 : Nat) : Int) == 0) then (bif (t.1 == [45, 45, 45]) then true else (t.1 == [46, 46, 46])) else false)) = true
  · rw [if_pos hbad, if_pos hbad]; rfl
  · rw [if_neg hbad, if_neg hbad]
    by_cases ht0 : t.1 = []
    · have ht1 : (t.1 == []) = true := by simpa using ht0
      rw [ht1, if_neg (by decide), if_pos ht0, Sum.elim_inl]
      simp only
      rw [wrap_s (no + 1) (by omega)]
    · have ht1 : (t.1 == []) = false := by simpa using ht0
      rw [ht1, if_pos (by decide), if_neg ht0, Sum.elim_inl]
      simp only
      rw [wrap_s (no + 1) (by omega)]
theorem bad_of (i : Nat) (t : BS) : (bif (!true) then true else (bif (((i : Nat) : Int) == 0) then (bif (t == [45, 45, 45]) then true else (t == [46, 46, 46])) else false)) = decide (i = 0 ∧ (t = [45, 45, 45] ∨ t = [46, 46, 46])) := by
  have h1 : (((i : Nat) : Int) == ((0 : Nat) : Int)) = decide (i = 0) := eq_i
  have h1 : (((i : Nat) : Int) == 0) = decide (i = 0) := h1
  rw [h1]
  by_cases a : i = 0
  · by_cases b : t = [45, 45, 45]
    · simp [a, b]
    · by_cases c : t = [46, 46, 46]
      · simp [a, c]
      · simp [a, b, c]
  · simp [a]
inductive Sp (n : Nat) : BS → Nat → List S_line_Line → Prop
  | nil (no : Nat) : Sp n [] no []
  | skip (s : BS) (no : Nat) (ls : List S_line_Line) (hs : s ≠ []) (h : line_say n ((rowOf s).1.drop (ind (rowOf s).1)) = some ([], true)) (hr : Sp n (rowOf s).2 (no + 1) ls) : Sp n s no ls
  | line (s : BS) (no : Nat) (t : BS) (ls : List S_line_Line) (hs : s ≠ []) (ht : t ≠ []) (h : line_say n ((rowOf s).1.drop (ind (rowOf s).1)) = some (t, true)) (hb : ¬ (ind (rowOf s).1 = 0 ∧ (t = [45, 45, 45] ∨ t = [46, 46, 46]))) (hr : Sp n (rowOf s).2 (no + 1) ls) :
      Sp n s no (S_line_Line.mk ((no + 1 : Nat) : Int) ((ind (rowOf s).1 : Nat) : Int) t :: ls)
theorem sp_of (n : Nat) (hn : 20000 ≤ n) : ∀ (k : Nat) (s : BS) (out o : List S_line_Line) (no : Nat), s.length < k → s.length ≤ 10000 → out.length ≤ no → no + s.length ≤ 10000 → line_Split_l1 n k s out ((no + 1 : Nat) : Int) = some (.inl o) → ∃ ls, o = out ++ ls ∧ Sp n s no ls
  | 0, s, _, _, _, h, _, _, _, _ => by omega
  | k + 1, s, out, o, no, h1, h2, h3, h4, h => by
    by_cases hs : s = []
    · subst hs
      have h : some (Sum.inl out) = some (Sum.inl o : Sum (List S_line_Line) (Int × Int)) := h
      cases h
      exact ⟨[], by simp, .nil no⟩
    · obtain ⟨g1, g2, g3⟩ := rowOf_len s
      have g2 := g2 hs
      obtain ⟨t, t1, t2, t3⟩ := say_eq n ((rowOf s).1.drop (ind (rowOf s).1)) hn (by rw [List.length_drop]; omega)
      rw [split_at n hn k s out no t hs h2 h3 h4 t1] at h
      obtain ⟨t, b⟩ := t
      cases b with
      | false => simp only [Bool.not_false, cond_true, if_true] at h; cases h
      | true =>
        rw [bad_of] at h
        by_cases hb : ind (rowOf s).1 = 0 ∧ (t = [45, 45, 45] ∨ t = [46, 46, 46])
        · rw [if_pos (decide_eq_true hb)] at h; cases h
        · rw [if_neg (by simpa using hb)] at h
          simp only at h
          by_cases ht : t = []
          · rw [if_pos ht] at h
            subst ht
            obtain ⟨ls, e1, e2⟩ := sp_of n hn k (rowOf s).2 out o (no + 1) (by omega) (by omega) (by omega) (by omega) h
            exact ⟨ls, e1, .skip s no ls hs t1 e2⟩
          · rw [if_neg ht] at h
            obtain ⟨ls, e1, e2⟩ := sp_of n hn k (rowOf s).2 _ o (no + 1) (by omega) (by omega) (by simp; omega) (by omega) h
            exact ⟨_ :: ls, by rw [e1]; simp, .line s no t ls hs ht t1 hb e2⟩
theorem sp_run (n : Nat) (hn : 20000 ≤ n) {s : BS} {no : Nat} {ls : List S_line_Line} (h : Sp n s no ls) : ∀ (k : Nat) (out : List S_line_Line), s.length < k → s.length ≤ 10000 → out.length ≤ no → no + s.length ≤ 10000 → line_Split_l1 n k s out ((no + 1 : Nat) : Int) = some (.inl (out ++ ls)) := by
  induction h with
  | nil no =>
    intro k out h1 _ _ _
    obtain ⟨k, rfl⟩ : ∃ k', k = k' + 1 := ⟨k - 1, by simp at h1; omega⟩
    rw [List.append_nil]; rfl
  | skip s no ls hs h hr ih =>
    intro k out h1 h2 h3 h4
    obtain ⟨k, rfl⟩ : ∃ k', k = k' + 1 := ⟨k - 1, by omega⟩
    obtain ⟨g1, g2, g3⟩ := rowOf_len s
    have g2 := g2 hs
    rw [split_at n hn k s out no _ hs h2 h3 h4 h, bad_of, if_neg (by simp), if_pos rfl]
    exact ih k out (by omega) (by omega) (by omega) (by omega)
  | line s no t ls hs ht h hb hr ih =>
    intro k out h1 h2 h3 h4
    obtain ⟨k, rfl⟩ : ∃ k', k = k' + 1 := ⟨k - 1, by omega⟩
    obtain ⟨g1, g2, g3⟩ := rowOf_len s
    have g2 := g2 hs
    rw [split_at n hn k s out no _ hs h2 h3 h4 h, bad_of, if_neg (by simpa using hb)]
    simp only
    rw [if_neg ht, ih k _ (by omega) (by omega) (by simp; omega) (by omega)]
    simp
theorem split_cases (n : Nat) (hn : 20000 ≤ n) (s : BS) (hs : s.length ≤ 8192) : (∃ ls, Sp n s 0 ls ∧ line_Split n s = some (ls, 0, 0)) ∨ ∃ no e, e ≠ 0 ∧ line_Split n s = some ([], no, e) := by
  obtain ⟨r, h1, h2, h3⟩ := split_l n hn n s [] 0 (by omega) (by omega) (by simp) (by omega)
  have hu : line_Split n s = (some r).bind fun o1 => (Sum.elim (fun o1 => some (o1, 0, 0)) (fun o1 => some ([], o1.1, o1.2))) o1 := by
    unfold line_Split
    rw [if_neg (by simp; omega)]
    have h1 : line_Split_l1 n n s [] 1 = some r := h1
    rw [h1]
  cases r with
  | inl o =>
    obtain ⟨ls, e1, e2⟩ := sp_of n hn n s [] o 0 (by omega) (by omega) (by simp) (by omega) h1
    rw [List.nil_append] at e1
    subst e1
    exact .inl ⟨_, e2, hu⟩
  | inr o =>
    refine .inr ⟨o.1, o.2, ?_, hu⟩
    have : ∀ (k : Nat) (s : BS) (out : List S_line_Line) (no : Nat), s.length < k → s.length ≤ 10000 → out.length ≤ no → no + s.length ≤ 10000 → line_Split_l1 n k s out ((no + 1 : Nat) : Int) = some (.inr o) → o.2 ≠ 0 := by
      intro k
      induction k with
      | zero => intro s _ _ h; omega
      | succ k ih =>
        intro s out no h1 h2 h3 h4 h
        by_cases hs : s = []
        · subst hs
          have h : some (Sum.inl out) = some (Sum.inr o : Sum (List S_line_Line) (Int × Int)) := h
          cases h
        · obtain ⟨g1, g2, g3⟩ := rowOf_len s
          have g2 := g2 hs
          obtain ⟨t, t1, t2, t3⟩ := say_eq n ((rowOf s).1.drop (ind (rowOf s).1)) hn (by rw [List.length_drop]; omega)
          rw [split_at n hn k s out no t hs h2 h3 h4 t1] at h
          split at h
          · cases h; show (3 : Int) ≠ 0; decide
          · split at h
            · exact ih _ _ (no + 1) (by omega) (by omega) (by omega) (by omega) h
            · exact ih _ _ (no + 1) (by omega) (by omega) (by simp; omega) (by omega) h
    exact this n s [] 0 (by omega) (by omega) (by simp) (by omega) h1
theorem split_run (n : Nat) (hn : 20000 ≤ n) (s : BS) (hs : s.length ≤ 8192) {ls : List S_line_Line} (h : Sp n s 0 ls) : line_Split n s = some (ls, 0, 0) := by
  have h1 := sp_run n hn h n [] (by omega) (by omega) (by simp) (by omega)
  unfold line_Split
  rw [if_neg (by simp; omega)]
  have h1 : line_Split_l1 n n s [] 1 = some (.inl ([] ++ ls)) := h1
  rw [h1]; rfl

/-! ### lines as text -/
def rowS (x : S_line_Line) : BS := List.replicate x.f_Indent.toNat 32 ++ x.f_Text ++ [10]
def joinF (l : List S_line_Line) : BS := l.flatMap rowS
theorem repeat1 : ∀ c : Nat, Lib.repeatL ([32] : BS) c = List.replicate c 32
  | 0 => rfl
  | c + 1 => by rw [Lib.repeatL, repeat1 c]; rfl
theorem join_l (n : Nat) (l : List S_line_Line) (hl : l.length ≤ 100000) (h0 : ∀ x ∈ l, 0 ≤ x.f_Indent) : ∀ (k i : Nat) (acc : BS), i ≤ l.length → l.length - i < k → acc.length + (joinF (l.drop i)).length ≤ 100000 → line_Join_l1 n l (l.length : Int) k (i : Int) acc = some (acc ++ joinF (l.drop i))
  | 0, i, _, _, h, _ => by omega
  | k + 1, i, acc, h1, h2, h3 => by
    by_cases h : i < l.length
    · rw [drop_at h] at h3 ⊢
      have hd : joinF (l[i] :: l.drop (i + 1)) = rowS l[i] ++ joinF (l.drop (i + 1)) := List.flatMap_cons
      rw [hd] at h3 ⊢
      have hx := h0 l[i] (List.getElem_mem h)
      obtain ⟨m, hm⟩ : ∃ m : Nat, l[i].f_Indent = (m : Int) := ⟨l[i].f_Indent.toNat, by omega⟩
      have hr : rowS l[i] = List.replicate m 32 ++ l[i].f_Text ++ [10] := by unfold rowS; rw [hm]; rfl
      rw [hr] at h3 ⊢
      simp only [List.length_append, List.length_replicate, List.length_cons, List.length_nil] at h3
      have hmax : (if (0 : Int) > l[i].f_Indent then 0 else l[i].f_Indent) = (m : Int) := by rw [hm]; exact if_neg (by omega)
      have c1 : decide (0 ≤ (m : Int) ∧ (m : Int) ≤ 1000000000000 ∧ (List.length ([32] : List UInt8) : Int) * (m : Int) ≤ (limit : Int)) = true := decide_eq_true ⟨by omega, by omega, by show (1 : Int) * (m : Int) ≤ 140737488355328; omega⟩
      have c2 : decide ((List.length acc + List.length (List.replicate m (32 : UInt8))) * (1 + 1) ≤ limit) = true := decide_eq_true (by rw [List.length_replicate]; show _ ≤ 140737488355328; omega)
      have c3 : decide ((List.length (acc ++ List.replicate m (32 : UInt8)) + List.length l[i].f_Text) * (1 + 1) ≤ limit) = true := decide_eq_true (by rw [List.length_append, List.length_replicate]; show _ ≤ 140737488355328; omega)
      have c4 : decide ((List.length (acc ++ List.replicate m (32 : UInt8) ++ l[i].f_Text) + 1) * (1 + 1) ≤ limit) = true := decide_eq_true (by rw [List.length_append, List.length_append, List.length_replicate]; show _ ≤ 140737488355328; omega)
      rw [line_Join_l1, if_pos (lt_i h), if_pos (in_i h), at_i h, hmax, if_pos c1, tn, repeat1, if_pos c2]
      simp only [lett]
      rw [if_pos c3, if_pos c4, wrap_s i (by omega), join_l n l hl h0 k (i + 1) _ (by omega) (by omega) (by simp only [List.length_append, List.length_replicate, List.length_cons, List.length_nil]; omega)]
      simp only [List.append_assoc]
    · rw [line_Join_l1, nlt_i (Nat.not_lt.1 h), if_neg Bool.false_ne_true, List.drop_eq_nil_of_le (by omega)]
      simp [joinF]
theorem join_eq (n : Nat) (l : List S_line_Line) (hn : 20000 ≤ n) (hl : l.length ≤ 10000) (h0 : ∀ x ∈ l, 0 ≤ x.f_Indent) (hj : (joinF l).length ≤ 100000) : line_Join n l = some (joinF l) := by
  have := join_l n l (by omega) h0 n 0 [] (by omega) (by omega) (by simpa using hj)
  rw [List.drop_zero, List.nil_append] at this
  unfold line_Join
  have this : line_Join_l1 n l (l.length : Int) n 0 [] = some (joinF l) := this
  rw [this]; rfl

/-! ### what was split, joined, is split again -/
structure Gl (n : Nat) (x : S_line_Line) : Prop where
  ind : 0 ≤ x.f_Indent
  ne : x.f_Text ≠ []
  h32 : x.f_Text.head? ≠ some 32
  h35 : x.f_Text.head? ≠ some 35
  last : ∀ hne : x.f_Text ≠ [], x.f_Text.getLast hne ≠ 32
  say : line_say n x.f_Text = some (x.f_Text, true)
  nl : (10 : UInt8) ∉ x.f_Text
  dash : ¬ (x.f_Indent = 0 ∧ (x.f_Text = [45, 45, 45] ∨ x.f_Text = [46, 46, 46]))
  len : x.f_Text.length ≤ 10000
theorem rowOf_nl : ∀ s : BS, (10 : UInt8) ∉ (rowOf s).1 ∧ (s = (rowOf s).1 ++ 10 :: (rowOf s).2 ∨ (s = (rowOf s).1 ∧ (rowOf s).2 = []))
  | [] => ⟨by simp [rowOf, upto], .inr ⟨rfl, rfl⟩⟩
  | c :: s => by
    obtain ⟨h1, h2⟩ := rowOf_nl s
    rw [rowOf_cons]
    by_cases hc : c = 10
    · rw [if_pos hc]; subst hc; exact ⟨by simp, .inl rfl⟩
    · rw [if_neg hc]
      refine ⟨by simp only [List.mem_cons, not_or]; exact ⟨fun e => hc e.symm, h1⟩, ?_⟩
      rcases h2 with h2 | ⟨h2, h3⟩
      · left; simp only [List.cons_append]; rw [← h2]
      · right; simp only; rw [← h2]; exact ⟨rfl, h3⟩
theorem rowOf_app : ∀ (a b : BS), (10 : UInt8) ∉ a → rowOf (a ++ 10 :: b) = (a, b)
  | [], b, _ => by rw [List.nil_append, rowOf_cons, if_pos rfl]
  | c :: a, b, h => by
    simp only [List.mem_cons, not_or] at h
    rw [List.cons_append, rowOf_cons, if_neg (fun e => h.1 e.symm), rowOf_app a b h.2]
theorem sp_nil {n : Nat} {no : Nat} {ls : List S_line_Line} (h : Sp n [] no ls) : ls = [] := by
  cases h with
  | nil => rfl
  | skip _ _ _ hs => exact absurd rfl hs
  | line _ _ _ _ hs => exact absurd rfl hs
theorem sp_good {n : Nat} (hn : 20000 ≤ n) {s : BS} {no : Nat} {ls : List S_line_Line} (h : Sp n s no ls) : s.length ≤ 10000 → (∀ x ∈ ls, Gl n x) ∧ (joinF ls).length ≤ s.length + 1 ∧ ls.length ≤ s.length := by
  induction h with
  | nil no => intro _; exact ⟨fun x hx => (by cases hx), by simp [joinF], by simp⟩
  | skip s no ls hs h hr ih =>
    intro h2
    obtain ⟨g1, g2, g3⟩ := rowOf_len s
    have g2 := g2 hs
    obtain ⟨i1, i2, i3⟩ := ih (by omega)
    exact ⟨i1, by omega, by omega⟩
  | line s no t ls hs ht h hb hr ih =>
    intro h2
    obtain ⟨g1, g2, g3⟩ := rowOf_len s
    have g2 := g2 hs
    obtain ⟨i1, i2, i3⟩ := ih (by omega)
    have hil := ind_le (rowOf s).1
    obtain ⟨f1, f2, f3, f4, f5⟩ := say_fix n _ t hn (by rw [List.length_drop]; omega) h
    rw [List.length_drop] at f3
    obtain ⟨n1, n2⟩ := rowOf_nl s
    refine ⟨?_, ?_, by simp; omega⟩
    · intro x hx
      rcases List.mem_cons.1 hx with rfl | hx
      · refine ⟨by simp only; omega, ht, ?_, f5, f4, f1, ?_, ?_, by simp only; omega⟩
        · simp only
          intro e
          have hh : ((rowOf s).1.drop (ind (rowOf s).1)).head? = some 32 := by
            cases t with
            | nil => exact absurd rfl ht
            | cons c t =>
              cases hd : (rowOf s).1.drop (ind (rowOf s).1) with
              | nil => rw [hd] at f2; simp at f2
              | cons d r =>
                rw [hd] at f2
                simp only [List.length_cons, List.take_succ_cons, List.cons.injEq] at f2
                rw [← e, f2.1]; rfl
          rw [drop_ind] at hh
          have := List.head?_dropWhile_not (fun x : UInt8 => x == 32) (rowOf s).1
          rw [hh] at this
          simp at this
        · intro hm
          rw [f2] at hm
          exact n1 (List.mem_of_mem_drop (List.mem_of_mem_take hm))
        · simp only
          intro hc
          exact hb ⟨by omega, hc.2⟩
      · exact i1 x hx
    · have hd : joinF (S_line_Line.mk ((no + 1 : Nat) : Int) ((ind (rowOf s).1 : Nat) : Int) t :: ls) = rowS (S_line_Line.mk ((no + 1 : Nat) : Int) ((ind (rowOf s).1 : Nat) : Int) t) ++ joinF ls := List.flatMap_cons
      rw [hd, List.length_append]
      have hl : (rowS (S_line_Line.mk ((no + 1 : Nat) : Int) ((ind (rowOf s).1 : Nat) : Int) t)).length = ind (rowOf s).1 + t.length + 1 := by
        unfold rowS; simp; omega
      rw [hl]
      rcases n2 with n2 | ⟨n2, n3⟩
      · have := congrArg List.length n2
        simp at this
        omega
      · rw [n3] at hr
        rw [sp_nil hr]
        have := congrArg List.length n2
        simp [joinF]
        omega
def renum : Nat → List S_line_Line → List S_line_Line
  | _, [] => []
  | no, x :: l => S_line_Line.mk ((no + 1 : Nat) : Int) x.f_Indent x.f_Text :: renum (no + 1) l
theorem renum_len : ∀ (l : List S_line_Line) (no : Nat), (renum no l).length = l.length
  | [], _ => rfl
  | x :: l, no => by simp [renum, renum_len l]
theorem renum_at : ∀ (l : List S_line_Line) (no i : Nat) (h : i < l.length) (h' : i < (renum no l).length), (renum no l)[i] = S_line_Line.mk ((no + i + 1 : Nat) : Int) l[i].f_Indent l[i].f_Text
  | x :: l, no, 0, _, _ => rfl
  | x :: l, no, i + 1, h, h' => by
    have := renum_at l (no + 1) i (by simpa using h) (by simpa [renum] using h')
    simp only [renum, List.getElem_cons_succ]
    rw [this, show no + 1 + i + 1 = no + (i + 1) + 1 by omega]
theorem renum_join : ∀ (l : List S_line_Line) (no : Nat), joinF (renum no l) = joinF l
  | [], _ => rfl
  | x :: l, no => by
    have : ∀ (a b : S_line_Line) (u v : List S_line_Line), rowS a = rowS b → joinF u = joinF v → joinF (a :: u) = joinF (b :: v) := by
      intro a b u v h1 h2
      unfold joinF at h2 ⊢
      rw [List.flatMap_cons, List.flatMap_cons, h1, h2]
    exact this _ _ _ _ rfl (renum_join l (no + 1))
theorem ind_rep (m : Nat) (t : BS) (h : t.head? ≠ some 32) : ind (List.replicate m 32 ++ t) = m := by
  induction m with
  | zero =>
    cases t with
    | nil => rfl
    | cons c t =>
      rw [List.replicate_zero, List.nil_append, ind_cons, if_neg]
      intro e; subst e; exact h rfl
  | succ m ih => rw [List.replicate_succ, List.cons_append, ind_cons, if_pos rfl, ih]
theorem sp_again {n : Nat} : ∀ (l : List S_line_Line) (no : Nat), (∀ x ∈ l, Gl n x) → Sp n (joinF l) no (renum no l)
  | [], no, _ => .nil no
  | x :: l, no, hg => by
    have g := hg x (List.mem_cons_self ..)
    have ih := sp_again l (no + 1) fun y hy => hg y (List.mem_cons_of_mem _ hy)
    have hd : joinF (x :: l) = (List.replicate x.f_Indent.toNat 32 ++ x.f_Text) ++ 10 :: joinF l := by
      have : joinF (x :: l) = rowS x ++ joinF l := List.flatMap_cons
      rw [this]; unfold rowS; simp
    have hr := rowOf_app (List.replicate x.f_Indent.toNat 32 ++ x.f_Text) (joinF l) (by
      intro hm
      rcases List.mem_append.1 hm with hm | hm
      · have := List.eq_of_mem_replicate hm; exact absurd this (by decide)
      · exact g.nl hm)
    rw [← hd] at hr
    have hi := ind_rep x.f_Indent.toNat x.f_Text g.h32
    have hdrop : (List.replicate x.f_Indent.toNat (32 : UInt8) ++ x.f_Text).drop x.f_Indent.toNat = x.f_Text := by
      have := List.drop_left (l₁ := List.replicate x.f_Indent.toNat (32 : UInt8)) (l₂ := x.f_Text)
      rw [List.length_replicate] at this; exact this
    have := Sp.line (n := n) (joinF (x :: l)) no x.f_Text (renum (no + 1) l) (by rw [hd]; simp) g.ne
      (by rw [hr]; simp only; rw [hi, hdrop]; exact g.say)
      (by rw [hr]; simp only; rw [hi]; intro hc; exact g.dash ⟨by have := g.ind; omega, hc.2⟩)
      (by rw [hr]; exact ih)
    rw [hr] at this
    simp only at this
    rw [hi] at this
    have e : ((x.f_Indent.toNat : Nat) : Int) = x.f_Indent := Int.toNat_of_nonneg g.ind
    rw [e] at this
    exact this

/-! ### the statement -/
theorem same_l (n : Nat) (a b : List S_line_Line) (hab : a.length = b.length) (ha : a.length ≤ 10000) (he : ∀ i (h : i < a.length) (h' : i < b.length), a[i].f_Text = b[i].f_Text ∧ a[i].f_Indent = b[i].f_Indent) : ∀ (k i : Nat), i ≤ a.length → a.length - i < k → ref07_Same_l1 n a b false k (i : Int) = some (.inl ())
  | 0, i, _, h => by omega
  | k + 1, i, h1, h2 => by
    by_cases h : i < a.length
    · have h' : i < b.length := by omega
      obtain ⟨e1, e2⟩ := he i h h'
      have q1 : (!(a[i].f_Text == b[i].f_Text)) = false := by rw [e1]; simp
      have q2 : (a[i].f_Indent != b[i].f_Indent) = false := by rw [e2]; simp
      rw [ref07_Same_l1, if_pos (lt_i h), if_pos (in_i h), in_i h', if_pos rfl, at_i h, at_i h', q1, q2, in_i h]
      simp only [Bool.or_true, if_true, lett, cond_false, Bool.false_eq_true, if_false]
      rw [wrap_s i (by omega)]
      exact same_l n a b hab ha he k (i + 1) (by omega) (by omega)
    · rw [ref07_Same_l1, nlt_i (Nat.not_lt.1 h), if_neg Bool.false_ne_true]
theorem same_eq (n : Nat) (a b : List S_line_Line) (hn : 20000 ≤ n) (hab : a.length = b.length) (ha : a.length ≤ 10000) (he : ∀ i (h : i < a.length) (h' : i < b.length), a[i].f_Text = b[i].f_Text ∧ a[i].f_Indent = b[i].f_Indent) : ref07_Same n a b false = some true := by
  unfold ref07_Same
  have := same_l n a b hab ha he n 0 (by omega) (by omega)
  have this : ref07_Same_l1 n a b false n 0 = some (.inl ()) := this
  rw [this, if_neg (by rw [hab]; simp)]; rfl
theorem back_l (n : Nat) (m : List S_line_Line) (hm : m.length ≤ 10000) (hx : ∀ i (h : i < m.length), m[i].f_No = ((i + 1 : Nat) : Int) ∧ Gl n m[i]) : ∀ (k i : Nat), i ≤ m.length → m.length - i < k → law07_LineBack_l1 n m k (i : Int) = some (.inl ())
  | 0, i, _, h => by omega
  | k + 1, i, h1, h2 => by
    by_cases h : i < m.length
    · obtain ⟨e1, g⟩ := hx i h
      have c0 : (m[i].f_No != IntKind.wrap .i64 ((i : Int) + 1)) = false := by rw [wrap_s i (by omega), e1]; simp
      have c1 : (m[i].f_Text == []) = false := by simpa using g.ne
      have hpos : 0 < m[i].f_Text.length := List.length_pos_iff.2 g.ne
      have hlen := g.len
      have c2 : decide (0 ≤ (0 : Int) ∧ (0 : Int) < (List.length m[i].f_Text : Int)) = true := decide_eq_true (by omega)
      have c3 : (m[i].f_Text[Int.toNat 0]?.getD 0) = m[i].f_Text[0] := by show (m[i].f_Text[0]?.getD 0) = _; rw [List.getElem?_eq_getElem hpos]; rfl
      have hh : m[i].f_Text.head? = some m[i].f_Text[0] := by rw [List.head?_eq_getElem?, List.getElem?_eq_getElem hpos]
      have c4 : ((m[i].f_Text[0].toNat : Int) == 32) = false := by rw [b32]; exact decide_eq_false fun e => g.h32 (by rw [hh, e])
      have c5 : ((m[i].f_Text[0].toNat : Int) == 35) = false := by rw [b35]; exact decide_eq_false fun e => g.h35 (by rw [hh, e])
      have hw : IntKind.wrap .i64 ((m[i].f_Text.length : Int) - 1) = ((m[i].f_Text.length - 1 : Nat) : Int) := by rw [wrap_id _ (by omega) (by omega)]; omega
      have hl : m[i].f_Text.length - 1 < m[i].f_Text.length := by omega
      have c7 : ((m[i].f_Text[m[i].f_Text.length - 1].toNat : Int) == 32) = false := by
        rw [b32]; refine decide_eq_false fun e => g.last g.ne ?_
        rw [List.getLast_eq_getElem]; exact e
      rw [law07_LineBack_l1, if_pos (lt_i h), if_pos (in_i h), if_pos (in_i h), at_i h, c0, c1, c2, c3, c4, c5, hw, in_i hl, at_i hl, c7]
      simp only [Bool.or_true, if_true, lett, cond_false, Bool.false_eq_true, if_false]
      rw [wrap_s i (by omega)]
      exact back_l n m hm hx k (i + 1) (by omega) (by omega)
    · rw [law07_LineBack_l1, nlt_i (Nat.not_lt.1 h), if_neg Bool.false_ne_true]
theorem Gl.re {n : Nat} {x : S_line_Line} (g : Gl n x) (no : Int) : Gl n (S_line_Line.mk no x.f_Indent x.f_Text) := ⟨g.ind, g.ne, g.h32, g.h35, g.last, g.say, g.nl, g.dash, g.len⟩
theorem law07_LineBack_true (a0 : List UInt8) (_ : List.length a0 ≤ maxLen) : ∃ n, law07_LineBack n a0 = some true := by
  refine ⟨20000, ?_⟩
  unfold law07_LineBack
  rw [awake07]
  by_cases h : (a0.length : Int) > 8000
  · rw [if_pos (decide_eq_true h)]; rfl
  · rw [if_neg (by simpa using h)]
    rcases split_cases 20000 (Nat.le_refl _) a0 (by omega) with ⟨ls, s1, s2⟩ | ⟨no, e, he, s2⟩
    · rw [s2, Option.bind_some, if_neg (by simp)]
      simp only
      obtain ⟨g1, g2, g3⟩ := sp_good (Nat.le_refl _) s1 (by omega)
      have hj := join_eq 20000 ls (Nat.le_refl _) (by omega) (fun x hx => (g1 x hx).ind) (by omega)
      have s3 := split_run 20000 (Nat.le_refl _) (joinF ls) (by omega) (sp_again ls 0 g1)
      have rl := renum_len ls 0
      have gr : ∀ i (h : i < (renum 0 ls).length), (renum 0 ls)[i].f_No = ((i + 1 : Nat) : Int) ∧ Gl 20000 (renum 0 ls)[i] := by
        intro i hi
        have hi' : i < ls.length := by omega
        rw [renum_at ls 0 i hi' hi]
        exact ⟨by rw [Nat.zero_add], (g1 _ (List.getElem_mem hi')).re _⟩
      have hj2 : line_Join 20000 (renum 0 ls) = some (joinF ls) := by
        rw [join_eq 20000 (renum 0 ls) (Nat.le_refl _) (by omega) (fun x hx => by
          obtain ⟨i, hi, rfl⟩ := List.mem_iff_getElem.1 hx
          exact (gr i hi).2.ind) (by rw [renum_join]; omega), renum_join]
      have t1 := taken_eq 20000 ls (by omega) (Nat.le_refl _)
      have t2 := taken_eq 20000 (renum 0 ls) (by omega) (Nat.le_refl _)
      have q := same_eq 20000 ls (renum 0 ls) (Nat.le_refl _) (by omega) (by omega) (fun i hi hi' => by rw [renum_at ls 0 i hi hi']; exact ⟨rfl, rfl⟩)
      have bl := back_l 20000 (renum 0 ls) (by omega) gr 20000 0 (by omega) (by omega)
      have bl : law07_LineBack_l1 20000 (renum 0 ls) 20000 0 = some (.inl ()) := bl
      have hw : IntKind.wrap .i64 ((a0.length : Int) + 1) = ((a0.length + 1 : Nat) : Int) := wrap_s _ (by omega)
      have hd : decide (((joinF ls).length : Int) > ((a0.length + 1 : Nat) : Int)) = false := decide_eq_false (by omega)
      rw [hj, Option.bind_some, s3, Option.bind_some]
      simp only
      have z : ((0 : Int) != 0) = false := rfl
      simp only [z, t1, t2, q, hj2, bl, hw, hd, lett, beq_self_eq_true, Bool.not_true, if_true, Option.bind_some, cond_false, Bool.false_eq_true, if_false, Sum.elim_inl]
    · have hz : (e != 0) = true := by simpa using he
      rw [s2, Option.bind_some]
      simp only [hz, if_true]
      rfl
end Go.Proofs.YthhoedkeggiflaaDoor.M
