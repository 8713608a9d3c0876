/-
  Part of the proof of FlowBack: P09B.
-/
import Derived.Test.YtjicbelggepaiaaDoorQP09
set_option linter.all false
namespace Go.Proofs.YtjicbelggepaiaaDoor.M
open Go Go.Proofs.YtjicbelggepaiaaDoor.RX Go.Proofs.YtjicbelggepaiaaDoor.PL
set_option maxRecDepth 100000
abbrev Nd := S_api_Node
abbrev Z8 : Nd := S_api_Node.mk 0 [] [] []
def Fit : Nat → Nd → Prop
  | 0, _ => False
  | d + 1, t => t.f_Kids.length ≤ 2000 ∧ t.f_Keys.length ≤ 2000 ∧ (t.f_Kind ≠ 1 → t.f_Text = []) ∧ (t.f_Kind ≠ 3 → t.f_Keys = []) ∧ (t.f_Kind = 3 → t.f_Keys.length = t.f_Kids.length ∧ t.f_Keys.Nodup) ∧ (t.f_Kind < 2 → t.f_Kids = []) ∧ (0 ≤ t.f_Kind ∧ t.f_Kind ≤ 3) ∧ ∀ x ∈ t.f_Kids, Fit d x
def sz8 : Nat → Nd → Nat
  | 0, _ => 1
  | d + 1, t => 1 + (t.f_Kids.map (sz8 d)).sum
theorem sz8_pos : ∀ d t, 1 ≤ sz8 d t
  | 0, _ => Nat.le_refl 1
  | d + 1, t => by unfold sz8; omega
def Shk (b : Nat) : Nat → Nd → Prop
  | 0, _ => True
  | d + 1, t => t.f_Text.length ≤ b ∧ (∀ k ∈ t.f_Keys, k.length ≤ b) ∧ ∀ x ∈ t.f_Kids, Shk b d x
theorem Shk.mono {b c : Nat} (hbc : b ≤ c) : ∀ {d : Nat} {t : Nd}, Shk b d t → Shk c d t
  | 0, _, _ => trivial
  | d + 1, t, ⟨h1, h2, h3⟩ => ⟨Nat.le_trans h1 hbc, fun k hk => Nat.le_trans (h2 k hk) hbc, fun x hx => (h3 x hx).mono hbc⟩
theorem ins_has {x : BS} : ∀ {l : List BS}, Asc l → x ∈ l → (ins x l).length = l.length
  | [], _, h => by cases h
  | y :: l, ha, h => by
    obtain ⟨h1, h2⟩ := List.pairwise_cons.1 ha
    unfold ins
    split
    · rename_i hx
      rcases List.mem_cons.1 h with e | hm
      · subst e; exact (bs_irrefl _ hx).elim
      · exact (bs_irrefl _ (bs_trans hx (h1 x hm))).elim
    · split
      · rfl
      · rename_i hx hy
        rcases List.mem_cons.1 h with e | hm
        · exact (hy e).elim
        · rw [List.length_cons, ins_has h2 hm, List.length_cons]
theorem srt_nodup : ∀ {l : List BS}, (srt l).length = l.length → l.Nodup
  | [], _ => .nil
  | x :: l, h => by
    have h0 : srt (x :: l) = ins x (srt l) := rfl
    have h1 := srt_length_le l
    rw [h0, List.length_cons] at h
    by_cases hx : x ∈ srt l
    · rw [ins_has (asc_srt l) hx] at h; omega
    · have h2 := length_ins_le x (srt l)
      refine List.nodup_cons.2 ⟨fun hm => hx (mem_srt.2 hm), srt_nodup (by omega)⟩
theorem left_loop (R : Nd → Int → Int → Option Int) (n d : Nat) (dep : Int) (t : Nd) (hdep : 0 ≤ dep ∧ dep < 100)
    (hR : ∀ x ∈ t.f_Kids, ∀ l : Nat, l ≤ 2000 → ∃ r, R x (dep + 1) (l : Int) = some r ∧ (r = -1 ∨ ∃ q : Nat, r = (q : Int) ∧ Fit d x ∧ q + sz8 d x ≤ l)) :
    ∀ (k l i : Nat), l + 1 < k → i ≤ t.f_Kids.length → i + l ≤ 2000 →
      ref08_Left_l1 R n dep t k (l : Int) (i : Int) = some (.inr (-1)) ∨ ∃ q : Nat, ref08_Left_l1 R n dep t k (l : Int) (i : Int) = some (.inl (q : Int)) ∧ q + ((t.f_Kids.drop i).map (sz8 d)).sum ≤ l ∧ ∀ x ∈ t.f_Kids.drop i, Fit d x
  | 0, l, i, h, _, _ => by omega
  | k + 1, l, i, hk, hi, hil => by
    by_cases h : i < t.f_Kids.length
    · have e1 : IntKind.wrap .i64 (dep + 1) = dep + 1 := wrap_id _ (by omega) (by omega)
      obtain ⟨r, h1, h2⟩ := hR t.f_Kids[i] (List.getElem_mem h) l (by omega)
      have hst : ref08_Left_l1 R n dep t (k + 1) (l : Int) (i : Int) = if (decide (r < 0)) = true then some (.inr (-1)) else ref08_Left_l1 R n dep t k r (IntKind.wrap .i64 ((i : Int) + 1)) := by
        rw [ref08_Left_l1, if_pos (lt_i h), if_pos (in_i h), at_i h, e1, h1]; rfl
      rw [hst]
      rcases h2 with rfl | ⟨q, rfl, hF, hq⟩
      · exact .inl (if_pos rfl)
      · have hp := sz8_pos d t.f_Kids[i]
        rw [if_neg (by simp), wrap_s i (by omega)]
        rcases left_loop R n d dep t hdep hR k q (i + 1) (by omega) (by omega) (by omega) with h3 | ⟨q', h3, h4, h5⟩
        · exact .inl h3
        · refine .inr ⟨q', h3, ?_, ?_⟩
          · rw [drop_at h, List.map_cons, List.sum_cons]; omega
          · rw [drop_at h]
            intro x hx
            rcases List.mem_cons.1 hx with rfl | hx
            · exact hF
            · exact h5 x hx
    · have : i = t.f_Kids.length := by omega
      subst this
      refine .inr ⟨l, ?_, ?_, ?_⟩
      · rw [ref08_Left_l1, nlt_n]; rfl
      · rw [List.drop_eq_nil_of_le (Nat.le_refl _)]; simp
      · rw [List.drop_eq_nil_of_le (Nat.le_refl _)]; intro x hx; cases hx
theorem bif_or {a b : Bool} : (bif a then true else b) = (a || b) := by cases a <;> rfl
theorem bif_and {a b : Bool} : (bif a then b else false) = (a && b) := by cases a <;> rfl
theorem left_eq : ∀ (d n : Nat) (t : Nd) (dep : Int) (l : Nat), dep + (d : Int) = 13 → 0 ≤ dep → l ≤ 2000 → 100000 + d < n →
    ∃ r, ref08_Left n t dep (l : Int) = some r ∧ (r = -1 ∨ ∃ q : Nat, r = (q : Int) ∧ Fit d t ∧ q + sz8 d t ≤ l)
  | _, 0, _, _, _, _, _, _, h => by omega
  | 0, n + 1, t, dep, l, hd, h0, hl, hn => by
    refine ⟨-1, ?_, .inl rfl⟩
    show ref08_Left_b (ref08_Left n) n t dep (l : Int) = _
    unfold ref08_Left_b
    have : decide (dep > 12) = true := decide_eq_true (by omega)
    simp only [this, lett, bif_or, Bool.or_true, Bool.true_or, if_true]
  | d + 1, n + 1, t, dep, l, hd, h0, hl, hn => by
    show ∃ r, ref08_Left_b (ref08_Left n) n t dep (l : Int) = some r ∧ _
    unfold ref08_Left_b
    have e1 : IntKind.wrap .i64 ((l : Int) - 1) = (l : Int) - 1 := wrap_id _ (by omega) (by omega)
    simp only [lett, e1, bif_or, bif_and]
    by_cases c1 : (decide ((l : Int) - 1 < 0) || decide (dep > 12) || decide (t.f_Kind < 0) || decide (t.f_Kind > 3)) = true
    · exact ⟨-1, if_pos c1, .inl rfl⟩
    rw [if_neg c1]
    by_cases c2 : ((t.f_Kind != 1 && decide ((List.length t.f_Text : Int) > 0)) || (t.f_Kind != 3 && decide ((List.length t.f_Keys : Int) > 0)) || (decide (t.f_Kind < 2) && decide ((List.length t.f_Kids : Int) > 0))) = true
    · exact ⟨-1, if_pos c2, .inl rfl⟩
    rw [if_neg c2]
    simp only [Bool.or_eq_true, Bool.and_eq_true, decide_eq_true_eq, bne_iff_ne, ne_eq, not_or, not_and, gt_iff_lt, Int.not_lt] at c1 c2
    obtain ⟨⟨⟨a1, a2⟩, a3⟩, a4⟩ := c1
    obtain ⟨⟨b1, b2⟩, b3⟩ := c2
    obtain ⟨l, rfl⟩ : ∃ l', l = l' + 1 := ⟨l - 1, by omega⟩
    have e2 : ((l + 1 : Nat) : Int) - 1 = (l : Int) := by omega
    rw [e2]
    have loop := left_loop (ref08_Left n) n d dep t (by omega) (fun x _ l' hl' => left_eq d n x (dep + 1) l' (by omega) (by omega) hl' (by omega)) n l 0 (by omega) (Nat.zero_le _) (by omega)
    have fin : (t.f_Kind = 3 → t.f_Keys.length = t.f_Kids.length ∧ t.f_Keys.Nodup) → ∃ r, ((ref08_Left_l1 (ref08_Left n) n dep t n (l : Int) 0).bind fun o5 => (Sum.elim (fun o5 => some o5) (fun o5 => some o5)) o5) = some r ∧ (r = -1 ∨ ∃ q : Nat, r = (q : Int) ∧ Fit (d + 1) t ∧ q + sz8 (d + 1) t ≤ l + 1) := by
      intro hk
      rcases loop with h3 | ⟨q, h3, h4, h5⟩
      · have h3 : ref08_Left_l1 (ref08_Left n) n dep t n (l : Int) 0 = _ := h3
        exact ⟨-1, by rw [h3]; rfl, .inl rfl⟩
      · have h3 : ref08_Left_l1 (ref08_Left n) n dep t n (l : Int) 0 = _ := h3
        rw [List.drop_zero] at h4 h5
        have hs : ∀ (f : Nd → Nat) (m : List Nd), (∀ x, 1 ≤ f x) → m.length ≤ (m.map f).sum := by
          intro f m hf
          induction m with
          | nil => exact Nat.le_refl 0
          | cons x m ih => rw [List.map_cons, List.sum_cons, List.length_cons]; have := hf x; omega
        have hkl := hs (sz8 d) t.f_Kids (sz8_pos d)
        refine ⟨q, by rw [h3]; rfl, .inr ⟨q, rfl, ⟨by omega, ?_, fun h => List.eq_nil_of_length_eq_zero (by have := b1 h; omega), fun h => List.eq_nil_of_length_eq_zero (by have := b2 h; omega), hk, fun h => List.eq_nil_of_length_eq_zero (by have := b3 h; omega), ⟨by omega, by omega⟩, h5⟩, ?_⟩⟩
        · by_cases h : t.f_Kind = 3
          · have := hk h; omega
          · have := b2 h; omega
        · show q + (1 + (t.f_Kids.map (sz8 d)).sum) ≤ l + 1; omega
    by_cases h3 : t.f_Kind = 3
    · have e3 : (t.f_Kind == 3) = true := by rw [h3]; rfl
      rw [e3]
      by_cases c3 : ((List.length t.f_Keys : Int) != (List.length t.f_Kids : Int) || decide ((List.length t.f_Kids : Int) > (l : Int))) = true
      · rw [c3]
        exact ⟨-1, rfl, .inl rfl⟩
      · have c3' : ((List.length t.f_Keys : Int) != (List.length t.f_Kids : Int) || decide ((List.length t.f_Kids : Int) > (l : Int))) = false := by simpa using c3
        rw [c3']
        simp only [Bool.or_eq_true, bne_iff_ne, ne_eq, decide_eq_true_eq, not_or, Decidable.not_not] at c3
        obtain ⟨c4, c5⟩ := c3
        have hso := ref02_Sorted_eq n t.f_Keys (by omega) (by omega)
        simp only [beq_self_eq_true, Bool.and_self, if_true, hso, Option.bind_some, Bool.false_or, Bool.true_and]
        by_cases c6 : ((List.length (srt t.f_Keys) : Int) != (List.length t.f_Keys : Int)) = true
        · exact ⟨-1, if_pos c6, .inl rfl⟩
        · rw [if_neg c6]
          simp only [bne_iff_ne, ne_eq, Decidable.not_not] at c6
          exact fin fun _ => ⟨by omega, srt_nodup (by omega)⟩
    · have e3 : (t.f_Kind == 3) = false := by rw [beq_eq_false_iff_ne]; exact h3
      rw [e3]
      simp only [Bool.false_and, Bool.and_false, Bool.false_eq_true, if_false, Option.bind_some, show (false == true) = false from rfl]
      exact fin fun h => (h3 h).elim
theorem short_eq : ∀ (d n : Nat) (t : Nd), Fit d t → 100000 + d < n → ∃ b, ref08_short n t = some b ∧ (b = true → Shk 200 d t)
  | _, 0, _, _, h => by omega
  | 0, n + 1, t, h, _ => h.elim
  | d + 1, n + 1, t, hF, hn => by
    obtain ⟨f1, f2, _, _, _, _, _, f8⟩ := hF
    show ∃ b, ref08_short_b (ref08_short n) n t = some b ∧ _
    unfold ref08_short_b
    by_cases c : (List.length t.f_Text : Int) > 200
    · exact ⟨false, by rw [if_pos (decide_eq_true c)], fun h => by cases h⟩
    rw [if_neg (show ¬ decide ((List.length t.f_Text : Int) > 200) = true by simpa using c)]
    have l1 := scanL (L := ref08_short_l1 (ref08_short n) n t) t.f_Keys (fun x => if decide ((x.length : Int) > 200) = true then some false else none) 0 (by omega)
      (fun k i h _ => by
        rw [ref08_short_l1, if_pos (lt_i h), if_pos (in_i h), at_i h]
        cases decide ((t.f_Keys[i].length : Int) > 200) <;> rfl)
      (fun k => by rw [ref08_short_l1, nlt_n]; rfl) n 0 (by omega) (by omega) (by omega)
    have l1 : ref08_short_l1 (ref08_short n) n t n 0 = _ := l1
    rw [l1]
    rw [List.drop_zero]
    cases ho1 : List.findSome? (fun x : BS => if decide ((x.length : Int) > 200) = true then some false else none) t.f_Keys with
    | some r =>
      refine ⟨r, rfl, fun hr => ?_⟩
      obtain ⟨x, _, h2⟩ := List.exists_of_findSome?_eq_some ho1
      by_cases hb : decide ((x.length : Int) > 200) = true
      · rw [if_pos hb] at h2; cases h2; cases hr
      · rw [if_neg hb] at h2; cases h2
    | none =>
      have hx : ∀ x ∈ t.f_Kids, ∃ b, ref08_short n x = some b ∧ (b = true → Shk 200 d x) := fun x hx => short_eq d n x (f8 x hx) (by omega)
      have l2 := scanL (L := ref08_short_l2 (ref08_short n) n t) t.f_Kids (fun x => if (!((ref08_short n x).getD false)) = true then some false else none) 0 (by omega)
        (fun k i h _ => by
          obtain ⟨b, h1, _⟩ := hx t.f_Kids[i] (List.getElem_mem h)
          rw [ref08_short_l2, if_pos (lt_i h), if_pos (in_i h), at_i h, h1]
          cases b <;> rfl)
        (fun k => by rw [ref08_short_l2, nlt_n]; rfl) n 0 (by omega) (by omega) (by omega)
      have l2 : ref08_short_l2 (ref08_short n) n t n 0 = _ := l2
      show ∃ b, ((ref08_short_l2 (ref08_short n) n t n 0).bind fun o2 => (Sum.elim (fun _ => some true) (fun o2 => some o2)) o2) = some b ∧ _
      rw [l2, List.drop_zero]
      cases ho : List.findSome? (fun x => if (!((ref08_short n x).getD false)) = true then some false else none) t.f_Kids with
      | some r =>
        refine ⟨r, rfl, fun hr => ?_⟩
        obtain ⟨x, _, h2⟩ := List.exists_of_findSome?_eq_some ho
        by_cases hb : (!((ref08_short n x).getD false)) = true
        · rw [if_pos hb] at h2; cases h2; cases hr
        · rw [if_neg hb] at h2; cases h2
      | none =>
        refine ⟨true, rfl, fun _ => ⟨by omega, fun y hy => ?_, fun x hxm => ?_⟩⟩
        · have h2 := List.findSome?_eq_none_iff.1 ho1 y hy
          by_cases hb : decide ((y.length : Int) > 200) = true
          · rw [if_pos hb] at h2; cases h2
          · have : ¬ ((y.length : Int) > 200) := by simpa using hb
            omega
        have h2 := List.findSome?_eq_none_iff.1 ho x hxm
        obtain ⟨b, h1, h3⟩ := hx x hxm
        rw [h1] at h2
        cases b with
        | true => exact h3 rfl
        | false => cases h2
theorem small_eq (n : Nat) (t : Nd) (m : Nat) (hm : m ≤ 2000) (hn : 200000 ≤ n) : ∃ b, ref08_Small n t (m : Int) = some b ∧ (b = true → Fit 12 t ∧ sz8 12 t ≤ m ∧ Shk 200 12 t) := by
  obtain ⟨r, h1, h2⟩ := left_eq 12 n t 1 m rfl (by decide) hm (by omega)
  unfold ref08_Small
  rw [h1, Option.bind_some]
  rcases h2 with rfl | ⟨q, rfl, hF, hq⟩
  · exact ⟨false, rfl, fun h => by cases h⟩
  · obtain ⟨b, h3, h4⟩ := short_eq 12 n t hF (by omega)
    have e : decide ((q : Int) ≥ 0) = true := decide_eq_true (by omega)
    rw [e, if_pos (by rfl), h3]
    exact ⟨b, by cases b <;> rfl, fun hb => ⟨hF, by omega, h4 hb⟩⟩
theorem ins_new {x : BS} : ∀ {l : List BS}, x ∉ l → (ins x l).length = l.length + 1
  | [], _ => rfl
  | y :: l, h => by
    unfold ins
    split
    · simp
    · split
      · rename_i e; subst e; exact (h List.mem_cons_self).elim
      · rw [List.length_cons, ins_new fun hm => h (List.mem_cons_of_mem _ hm), List.length_cons]
theorem srt_len : ∀ {l : List BS}, l.Nodup → (srt l).length = l.length
  | [], _ => rfl
  | x :: l, h => by
    obtain ⟨h1, h2⟩ := List.nodup_cons.1 h
    show (ins x (srt l)).length = _
    rw [ins_new (fun hm => h1 (mem_srt.1 hm)), srt_len h2, List.length_cons]
def Wide : Nat → Nd → Prop
  | 0, _ => True
  | d + 1, t => t.f_Kids.length ≤ 1000000 ∧ t.f_Keys.length ≤ 1000000 ∧ ∀ x ∈ t.f_Kids, Wide d x
theorem Fit.wide : ∀ {d : Nat} {t : Nd}, Fit d t → Wide d t
  | 0, _, h => h.elim
  | d + 1, t, ⟨h1, h2, _, _, _, _, _, h8⟩ => ⟨by omega, by omega, fun x hx => (h8 x hx).wide⟩
theorem right_loop (R : Nd → Int → S_node_budget → Option (Bool × S_node_budget)) (n d : Nat) (dep : Int) (kids : List Nd) (hdep : 0 ≤ dep ∧ dep < 100)
    (hR : ∀ x ∈ kids, ∀ l : Nat, l ≤ 2000 → ∃ b q, R x (dep + 1) (S_node_budget.mk (l : Int)) = some (b, q) ∧ (b = true ↔ Fit d x ∧ sz8 d x ≤ l) ∧ (b = true → q = S_node_budget.mk ((l - sz8 d x : Nat) : Int))) :
    ∀ (k l i : Nat), l + 1 < k → i ≤ kids.length → i + l ≤ 2000 →
      (∃ q : Nat, node_budget_right__o0_l2 R n dep kids (List.length kids : Int) k (i : Int) (S_node_budget.mk (l : Int)) = some (.inl (S_node_budget.mk (q : Int))) ∧ q + ((kids.drop i).map (sz8 d)).sum = l ∧ ∀ x ∈ kids.drop i, Fit d x) ∨
      (∃ q, node_budget_right__o0_l2 R n dep kids (List.length kids : Int) k (i : Int) (S_node_budget.mk (l : Int)) = some (.inr (false, q)) ∧ ¬ ((∀ x ∈ kids.drop i, Fit d x) ∧ ((kids.drop i).map (sz8 d)).sum ≤ l))
  | 0, l, i, h, _, _ => by omega
  | k + 1, l, i, hk, hi, hil => by
    by_cases h : i < kids.length
    · have e1 : IntKind.wrap .i64 (dep + 1) = dep + 1 := wrap_id _ (by omega) (by omega)
      obtain ⟨b, q, h1, h2, h3⟩ := hR kids[i] (List.getElem_mem h) l (by omega)
      have hst : node_budget_right__o0_l2 R n dep kids (List.length kids : Int) (k + 1) (i : Int) (S_node_budget.mk (l : Int)) = if (!b) = true then some (.inr (false, q)) else node_budget_right__o0_l2 R n dep kids (List.length kids : Int) k (IntKind.wrap .i64 ((i : Int) + 1)) q := by
        rw [node_budget_right__o0_l2, if_pos (lt_i h), if_pos (in_i h), at_i h, e1, h1]; rfl
      rw [hst, drop_at h, List.map_cons, List.sum_cons]
      cases b with
      | false =>
        refine .inr ⟨q, rfl, fun hh => ?_⟩
        exact Bool.false_ne_true (h2.2 ⟨hh.1 _ List.mem_cons_self, by omega⟩)
      | true =>
        obtain ⟨hF, hs⟩ := h2.1 rfl
        have hq := h3 rfl
        subst hq
        have hp := sz8_pos d kids[i]
        rw [if_neg (by simp), wrap_s i (by omega)]
        rcases right_loop R n d dep kids hdep hR k (l - sz8 d kids[i]) (i + 1) (by omega) (by omega) (by omega) with ⟨q', h4, h5, h6⟩ | ⟨q', h4, h5⟩
        · refine .inl ⟨q', h4, by omega, fun x hx => ?_⟩
          rcases List.mem_cons.1 hx with rfl | hx
          · exact hF
          · exact h6 x hx
        · exact .inr ⟨q', h4, fun hh => h5 ⟨fun x hx => hh.1 x (List.mem_cons_of_mem _ hx), by omega⟩⟩
    · have : i = kids.length := by omega
      subst this
      refine .inl ⟨l, ?_, ?_, ?_⟩
      · rw [node_budget_right__o0_l2, nlt_n]; rfl
      · rw [List.drop_eq_nil_of_le (Nat.le_refl _)]; simp
      · rw [List.drop_eq_nil_of_le (Nat.le_refl _)]; intro x hx; cases hx
theorem sum_ge {d : Nat} : ∀ m : List Nd, m.length ≤ (m.map (sz8 d)).sum
  | [] => by simp
  | x :: m => by rw [List.map_cons, List.sum_cons, List.length_cons]; have := sz8_pos d x; have := sum_ge (d := d) m; omega
theorem sum_i {a b : Nat} (ha : a ≤ 1000000) (hb : b ≤ 1000000) : (IntKind.wrap .i64 ((a : Int) + (b : Int)) == 0) = decide (a = 0 ∧ b = 0) := by
  rw [wrap_id _ (by omega) (by omega), Bool.eq_iff_iff, beq_iff_eq, decide_eq_true_eq]; omega
theorem right_eq : ∀ (d n : Nat) (t : Nd) (dep : Int) (l : Nat), dep + (d : Int) = 13 → 0 ≤ dep → l ≤ 2000 → Wide d t → 100000 + d < n →
    ∃ b q, node_budget_right__o0 n t dep (S_node_budget.mk (l : Int)) = some (b, q) ∧ (b = true ↔ Fit d t ∧ sz8 d t ≤ l) ∧ (b = true → q = S_node_budget.mk ((l - sz8 d t : Nat) : Int))
  | _, 0, _, _, _, _, _, _, _, h => by omega
  | 0, n + 1, t, dep, l, hd, h0, hl, hW, hn => by
    show ∃ b q, node_budget_right__o0_b (node_budget_right__o0 n) n t dep (S_node_budget.mk (l : Int)) = some (b, q) ∧ _
    unfold node_budget_right__o0_b
    have : decide (dep > 12) = true := decide_eq_true (by omega)
    refine ⟨false, S_node_budget.mk (IntKind.wrap .i64 ((l : Int) - 1)), ?_, ⟨fun h => (by cases h), fun h => h.1.elim⟩, fun h => (by cases h)⟩
    rw [this, show ∀ b : Bool, (bif b then true else true) = true from fun b => by cases b <;> rfl, if_pos rfl]
  | d + 1, n + 1, t, dep, l, hd, h0, hl, hW, hn => by
    show ∃ b q, node_budget_right__o0_b (node_budget_right__o0 n) n t dep (S_node_budget.mk (l : Int)) = some (b, q) ∧ _
    obtain ⟨w1, w2, w3⟩ := hW
    unfold node_budget_right__o0_b
    have e1 : IntKind.wrap .i64 ((l : Int) - 1) = (l : Int) - 1 := wrap_id _ (by omega) (by omega)
    have hdp : decide (dep > 12) = false := decide_eq_false (by omega)
    simp only [e1, hdp]
    cases l with
    | zero =>
      have : decide ((((0 : Nat) : Int) - 1) < 0) = true := rfl
      refine ⟨false, _, by rw [this]; rfl, ⟨fun h => (by cases h), fun h => ?_⟩, fun h => by cases h⟩
      have := h.2
      have := sz8_pos (d + 1) t
      omega
    | succ l =>
      have e2 : ((l + 1 : Nat) : Int) - 1 = (l : Int) := by omega
      have hlt : decide ((l : Int) < 0) = false := decide_eq_false (by omega)
      have hs : sz8 (d + 1) t = 1 + (t.f_Kids.map (sz8 d)).sum := rfl
      rw [e2, hlt]
      simp only [cond_false, Bool.false_eq_true, if_false]
      have hsg := sum_ge (d := d) t.f_Kids
      have loop := right_loop (node_budget_right__o0 n) n d dep t.f_Kids (by omega) (fun x hx l' hl' => right_eq d n x (dep + 1) l' (by omega) (by omega) hl' (w3 x hx) (by omega)) n l 0 (by omega) (Nat.zero_le _) (by omega)
      have loop0 : ∀ (hk : (t.f_Kind = 2 ∨ t.f_Kind = 3) ∧ t.f_Text = [] ∧ (t.f_Kind ≠ 3 → t.f_Keys = []) ∧ (t.f_Kind = 3 → t.f_Keys.length = t.f_Kids.length ∧ t.f_Keys.Nodup)),
          ∃ b q, (node_budget_right__o0_l2 (node_budget_right__o0 n) n dep t.f_Kids (List.length t.f_Kids : Int) n 0 (S_node_budget.mk (l : Int))).bind (fun o2 => (Sum.elim (fun o2 => some (true, o2)) (fun o2 => some (o2.1, o2.2)) o2 : Option (Bool × S_node_budget))) = some (b, q) ∧ (b = true ↔ Fit (d + 1) t ∧ sz8 (d + 1) t ≤ l + 1) ∧ (b = true → q = S_node_budget.mk ((l + 1 - sz8 (d + 1) t : Nat) : Int)) := by
        intro ⟨k1, k2, k3, k4⟩
        rw [List.drop_zero] at loop
        rcases loop with ⟨q, h4, h5, h6⟩ | ⟨q, h4, h5⟩
        · have h4 : node_budget_right__o0_l2 (node_budget_right__o0 n) n dep t.f_Kids (List.length t.f_Kids : Int) n 0 (S_node_budget.mk (l : Int)) = _ := h4
          rw [h4]
          refine ⟨true, _, rfl, ⟨fun _ => ⟨⟨by omega, ?_, fun _ => k2, k3, k4, fun h => ?_, ⟨by omega, by omega⟩, h6⟩, by omega⟩, fun _ => rfl⟩, fun _ => ?_⟩
          · by_cases h3 : t.f_Kind = 3
            · have := (k4 h3).1; omega
            · rw [k3 h3]; simp
          · omega
          · exact congrArg _ (by omega)
        · have h4 : node_budget_right__o0_l2 (node_budget_right__o0 n) n dep t.f_Kids (List.length t.f_Kids : Int) n 0 (S_node_budget.mk (l : Int)) = _ := h4
          rw [h4]
          refine ⟨false, _, rfl, ⟨fun h => (by cases h), fun ⟨hF, hz⟩ => (h5 ⟨hF.2.2.2.2.2.2.2, by omega⟩).elim⟩, fun h => by cases h⟩
      have leaf : ∀ (c : Bool), (c = true ↔ Fit (d + 1) t ∧ sz8 (d + 1) t ≤ l + 1) → (c = true → t.f_Kids = []) → ∃ b q, (some (c, S_node_budget.mk (l : Int)) : Option (Bool × S_node_budget)) = some (b, q) ∧ (b = true ↔ Fit (d + 1) t ∧ sz8 (d + 1) t ≤ l + 1) ∧ (b = true → q = S_node_budget.mk ((l + 1 - sz8 (d + 1) t : Nat) : Int)) := by
        intro c h1 h2
        refine ⟨c, _, rfl, h1, fun hc => ?_⟩
        rw [hs, h2 hc]
        congr 1
      have nil_iff : ∀ {α : Type} (x : List α), x.length = 0 ↔ x = [] := fun x => List.length_eq_zero_iff
      unfold node_budget_right__o0_j1
      by_cases k0 : t.f_Kind = 0
      · rw [if_pos (by rw [k0]; rfl), sum_i w2 w1]
        refine leaf _ ⟨fun h => ?_, fun ⟨hF, _⟩ => ?_⟩ fun h => ?_
        · cases ht : (t.f_Text == []) with
          | false => rw [ht] at h; cases h
          | true =>
            rw [ht] at h
            have h := of_decide_eq_true h
            rw [nil_iff, nil_iff] at h
            refine ⟨⟨by rw [h.2]; simp, by rw [h.1]; simp, fun _ => by simpa using ht, fun _ => h.1, fun h3 => by omega, fun _ => h.2, ⟨by omega, by omega⟩, fun x hx => by rw [h.2] at hx; cases hx⟩, by rw [hs, h.2]; simp⟩
        · obtain ⟨_, _, f3, f4, _, f6, _, _⟩ := hF
          rw [f3 (by omega), f4 (by omega), f6 (by omega)]; rfl
        · cases ht : (t.f_Text == []) with
          | false => rw [ht] at h; cases h
          | true =>
            rw [ht] at h
            have h := of_decide_eq_true h
            rw [nil_iff, nil_iff] at h
            exact h.2
      rw [if_neg (by simpa using k0)]
      by_cases k1 : t.f_Kind = 1
      · rw [if_pos (by rw [k1]; rfl), sum_i w2 w1]
        refine leaf _ ⟨fun h => ?_, fun ⟨hF, _⟩ => ?_⟩ fun h => ?_
        · have h := of_decide_eq_true h
          rw [nil_iff, nil_iff] at h
          exact ⟨⟨by rw [h.2]; simp, by rw [h.1]; simp, fun h1 => (h1 k1).elim, fun _ => h.1, fun h3 => by omega, fun _ => h.2, ⟨by omega, by omega⟩, fun x hx => by rw [h.2] at hx; cases hx⟩, by rw [hs, h.2]; simp⟩
        · obtain ⟨_, _, f3, f4, _, f6, _, _⟩ := hF
          rw [f4 (by omega), f6 (by omega)]; rfl
        · have h := of_decide_eq_true h
          rw [nil_iff, nil_iff] at h
          exact h.2
      rw [if_neg (by simpa using k1)]
      by_cases k2 : t.f_Kind = 2
      · rw [if_pos (by rw [k2]; rfl)]
        by_cases c : (bif (!(t.f_Text == [])) then true else (decide ((List.length t.f_Keys : Int) > 0))) = true
        · rw [if_pos c]
          refine leaf false ⟨fun h => (by cases h), fun ⟨hF, _⟩ => ?_⟩ fun h => by cases h
          obtain ⟨_, _, f3, f4, _, f6, _, _⟩ := hF
          rw [f3 (by omega), f4 (by omega)] at c
          exact absurd c (by decide)
        · rw [if_neg c]
          have c : (bif (!(t.f_Text == [])) then true else (decide ((List.length t.f_Keys : Int) > 0))) = false := by simpa using c
          have ct : t.f_Text = [] := by
            cases ht : (t.f_Text == []) with
            | false => rw [ht] at c; cases c
            | true => simpa using ht
          rw [ct] at c
          have c : decide ((List.length t.f_Keys : Int) > 0) = false := c
          have c := of_decide_eq_false c
          have ck : t.f_Keys = [] := (nil_iff _).1 (by omega)
          exact loop0 ⟨.inl k2, ct, fun _ => ck, fun h => by omega⟩
      rw [if_neg (by simpa using k2)]
      by_cases k3 : t.f_Kind = 3
      · rw [if_pos (by rw [k3]; rfl)]
        have hc : ∃ c, (bif (bif (!(t.f_Text == [])) then true else ((List.length t.f_Keys : Int) != (List.length t.f_Kids : Int))) then true else (decide ((List.length t.f_Keys : Int) > (l : Int)))) = c := ⟨_, rfl⟩
        obtain ⟨c, hc⟩ := hc
        simp only [hc]
        cases c with
        | true =>
          refine leaf false ⟨fun h => (by cases h), fun ⟨hF, hz⟩ => ?_⟩ fun h => by cases h
          obtain ⟨_, _, f3, f4, f5, f6, _, _⟩ := hF
          obtain ⟨g1, g2⟩ := f5 k3
          rw [f3 (by omega)] at hc
          have e : ((List.length t.f_Keys : Int) != (List.length t.f_Kids : Int)) = false := by rw [g1]; simp
          have e2 : decide ((List.length t.f_Keys : Int) > (l : Int)) = false := decide_eq_false (by omega)
          rw [e, e2] at hc
          exact absurd hc (by decide)
        | false =>
          have ct : t.f_Text = [] := by
            cases ht : (t.f_Text == []) with
            | false => rw [ht] at hc; cases hc
            | true => simpa using ht
          rw [ct] at hc
          have hc : (bif ((List.length t.f_Keys : Int) != (List.length t.f_Kids : Int)) then true else (decide ((List.length t.f_Keys : Int) > (l : Int)))) = false := hc
          have cl : t.f_Keys.length = t.f_Kids.length := by
            cases hne : ((List.length t.f_Keys : Int) != (List.length t.f_Kids : Int)) with
            | true => rw [hne] at hc; cases hc
            | false =>
              simp only [bne_eq_false_iff_eq] at hne
              omega
          have e : ((List.length t.f_Keys : Int) != (List.length t.f_Kids : Int)) = false := by rw [cl]; simp
          rw [e] at hc
          have hc : decide ((List.length t.f_Keys : Int) > (l : Int)) = false := hc
          have hc := of_decide_eq_false hc
          have hso := name_Sorted_eq n t.f_Keys (by omega)
          simp only [beq_self_eq_true, if_true, hso, Option.bind_some, lett, cond_false]
          by_cases hx : ((List.length (srt t.f_Keys) : Int) != (List.length t.f_Keys : Int)) = true
          · rw [if_pos hx]
            refine leaf false ⟨fun h => (by cases h), fun ⟨hF, hz⟩ => ?_⟩ fun h => by cases h
            obtain ⟨_, _, f3, f4, f5, f6, _, _⟩ := hF
            obtain ⟨g1, g2⟩ := f5 k3
            rw [srt_len g2] at hx
            exact absurd hx (by simp)
          · rw [if_neg hx]
            simp only [bne_iff_ne, ne_eq, Decidable.not_not] at hx
            exact loop0 ⟨.inr k3, ct, fun h => (h k3).elim, fun _ => ⟨cl, srt_nodup (by omega)⟩⟩
      rw [if_neg (by simpa using k3)]
      exact leaf false ⟨fun h => (by cases h), fun ⟨hF, _⟩ => by
        obtain ⟨_, _, _, _, _, _, f7, _⟩ := hF
        omega⟩ fun h => by cases h
theorem node_Right_eq (n : Nat) (t : Nd) (hW : Wide 12 t) (hn : 200000 ≤ n) : ∃ b, node_Right n t = some b ∧ (b = true ↔ Fit 12 t ∧ sz8 12 t ≤ 2000) := by
  obtain ⟨b, q, h1, h2, _⟩ := right_eq 12 n t 1 2000 (by decide) (by decide) (by decide) hW (by omega)
  have h1 : node_budget_right__o0 n t 1 (S_node_budget.mk 2000) = some (b, q) := h1
  unfold node_Right
  rw [h1, Option.bind_some]
  exact ⟨b, rfl, h2⟩
theorem node_Right_yes (n : Nat) (t : Nd) (hF : Fit 12 t) (hz : sz8 12 t ≤ 2000) (hn : 200000 ≤ n) : node_Right n t = some true := by
  obtain ⟨b, h1, h2⟩ := node_Right_eq n t hF.wide hn
  rw [h1, h2.2 ⟨hF, hz⟩]
end Go.Proofs.YtjicbelggepaiaaDoor.M
