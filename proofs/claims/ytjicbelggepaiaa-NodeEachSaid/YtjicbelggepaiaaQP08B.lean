/-
  Part of the proof of NodeEach: P08B.
-/
import Derived.Test.YtjicbelggepaiaaQP08
set_option linter.all false
namespace Go.Proofs.Ytjicbelggepaiaa.M
open Go Go.Proofs.Ytjicbelggepaiaa.RX Go.Proofs.Ytjicbelggepaiaa.PL
set_option maxRecDepth 100000
abbrev Nd := S_api_Node
abbrev Z8 : Nd := S_api_Node.mk 0 [] [] []
theorem eta8 (x : Nd) : S_api_Node.mk x.f_Kind x.f_Text x.f_Keys x.f_Kids = x := by cases x; rfl
theorem kid8 {l : List Nd} {i : Nat} (h : i < l.length) : (S_api_Node.mk (((l)[Int.toNat (i : Int)]?.getD (S_api_Node.mk 0 [] [] [])).f_Kind) (((l)[Int.toNat (i : Int)]?.getD (S_api_Node.mk 0 [] [] [])).f_Text) (((l)[Int.toNat (i : Int)]?.getD (S_api_Node.mk 0 [] [] [])).f_Keys) (((l)[Int.toNat (i : Int)]?.getD (S_api_Node.mk 0 [] [] [])).f_Kids)) = l[i] := by
  rw [at_i h, eta8]
def Fit : Nat → Nd → Prop
  | 0, _ => False
  | d + 1, t => t.f_Kids.length ≤ 2000 ∧ t.f_Keys.length ≤ 2000 ∧ (t.f_Kind ≠ 1 → t.f_Text = []) ∧ (t.f_Kind ≠ 3 → t.f_Keys = []) ∧ (t.f_Kind = 3 → t.f_Keys.length = t.f_Kids.length ∧ t.f_Keys.Nodup) ∧ (t.f_Kind < 2 → t.f_Kids = []) ∧ (0 ≤ t.f_Kind ∧ t.f_Kind ≤ 3) ∧ ∀ x ∈ t.f_Kids, Fit d x
def sz8 : Nat → Nd → Nat
  | 0, _ => 1
  | d + 1, t => 1 + (t.f_Kids.map (sz8 d)).sum
theorem sz8_pos : ∀ d t, 1 ≤ sz8 d t
  | 0, _ => Nat.le_refl 1
  | d + 1, t => by unfold sz8; omega
def Shrt : Nat → Nd → Prop
  | 0, _ => True
  | d + 1, t => t.f_Text.length ≤ 200 ∧ ∀ x ∈ t.f_Kids, Shrt d x
theorem ins_has {x : BS} : ∀ {l : List BS}, Asc l → x ∈ l → (ins x l).length = l.length
  | [], _, h => by cases h
  | y :: l, ha, h => by
    obtain ⟨h1, h2⟩ := List.pairwise_cons.1 ha
    unfold ins
    split
    · rename_i hx
      rcases List.mem_cons.1 h with e | hm
      · subst e; exact (bs_irrefl _ hx).elim
      · exact (bs_irrefl _ (bs_trans hx (h1 x hm))).elim
    · split
      · rfl
      · rename_i hx hy
        rcases List.mem_cons.1 h with e | hm
        · exact (hy e).elim
        · rw [List.length_cons, ins_has h2 hm, List.length_cons]
theorem srt_nodup : ∀ {l : List BS}, (srt l).length = l.length → l.Nodup
  | [], _ => .nil
  | x :: l, h => by
    have h0 : srt (x :: l) = ins x (srt l) := rfl
    have h1 := srt_length_le l
    rw [h0, List.length_cons] at h
    by_cases hx : x ∈ srt l
    · rw [ins_has (asc_srt l) hx] at h; omega
    · have h2 := length_ins_le x (srt l)
      refine List.nodup_cons.2 ⟨fun hm => hx (mem_srt.2 hm), srt_nodup (by omega)⟩
theorem left_loop (R : Nd → Int → Int → Option Int) (n d : Nat) (dep : Int) (t : Nd) (hdep : 0 ≤ dep ∧ dep < 100)
    (hR : ∀ x ∈ t.f_Kids, ∀ l : Nat, l ≤ 2000 → ∃ r, R x (dep + 1) (l : Int) = some r ∧ (r = -1 ∨ ∃ q : Nat, r = (q : Int) ∧ Fit d x ∧ q + sz8 d x ≤ l)) :
    ∀ (k l i : Nat), l + 1 < k → i ≤ t.f_Kids.length → i + l ≤ 2000 →
      ref08_Left_l1 R n dep t k (l : Int) (i : Int) = some (.inr (-1)) ∨ ∃ q : Nat, ref08_Left_l1 R n dep t k (l : Int) (i : Int) = some (.inl (q : Int)) ∧ q + ((t.f_Kids.drop i).map (sz8 d)).sum ≤ l ∧ ∀ x ∈ t.f_Kids.drop i, Fit d x
  | 0, l, i, h, _, _ => by omega
  | k + 1, l, i, hk, hi, hil => by
    by_cases h : i < t.f_Kids.length
    · have e1 : IntKind.wrap .i64 (dep + 1) = dep + 1 := wrap_id _ (by omega) (by omega)
      obtain ⟨r, h1, h2⟩ := hR t.f_Kids[i] (List.getElem_mem h) l (by omega)
      have hst : ref08_Left_l1 R n dep t (k + 1) (l : Int) (i : Int) = if (decide (r < 0)) = true then some (.inr (-1)) else ref08_Left_l1 R n dep t k r (IntKind.wrap .i64 ((i : Int) + 1)) := by
        rw [ref08_Left_l1, if_pos (lt_i h), if_pos (in_i h), kid8 h, e1, h1]; rfl
      rw [hst]
      rcases h2 with rfl | ⟨q, rfl, hF, hq⟩
      · exact .inl (if_pos rfl)
      · have hp := sz8_pos d t.f_Kids[i]
        rw [if_neg (by simp), wrap_s i (by omega)]
        rcases left_loop R n d dep t hdep hR k q (i + 1) (by omega) (by omega) (by omega) with h3 | ⟨q', h3, h4, h5⟩
        · exact .inl h3
        · refine .inr ⟨q', h3, ?_, ?_⟩
          · rw [drop_at h, List.map_cons, List.sum_cons]; omega
          · rw [drop_at h]
            intro x hx
            rcases List.mem_cons.1 hx with rfl | hx
            · exact hF
            · exact h5 x hx
    · have : i = t.f_Kids.length := by omega
      subst this
      refine .inr ⟨l, ?_, ?_, ?_⟩
      · rw [ref08_Left_l1, nlt_n]; rfl
      · rw [List.drop_eq_nil_of_le (Nat.le_refl _)]; simp
      · rw [List.drop_eq_nil_of_le (Nat.le_refl _)]; intro x hx; cases hx
theorem bif_or {a b : Bool} : (bif a then true else b) = (a || b) := by cases a <;> rfl
theorem bif_and {a b : Bool} : (bif a then b else false) = (a && b) := by cases a <;> rfl
theorem left_eq : ∀ (d n : Nat) (t : Nd) (dep : Int) (l : Nat), dep + (d : Int) = 13 → 0 ≤ dep → l ≤ 2000 → 100000 + d < n →
    ∃ r, ref08_Left n t dep (l : Int) = some r ∧ (r = -1 ∨ ∃ q : Nat, r = (q : Int) ∧ Fit d t ∧ q + sz8 d t ≤ l)
  | _, 0, _, _, _, _, _, _, h => by omega
  | 0, n + 1, t, dep, l, hd, h0, hl, hn => by
    refine ⟨-1, ?_, .inl rfl⟩
    show ref08_Left_b (ref08_Left n) n t dep (l : Int) = _
    unfold ref08_Left_b
    have : decide (dep > 12) = true := decide_eq_true (by omega)
    simp only [this, lett, bif_or, Bool.or_true, Bool.true_or, if_true]
  | d + 1, n + 1, t, dep, l, hd, h0, hl, hn => by
    show ∃ r, ref08_Left_b (ref08_Left n) n t dep (l : Int) = some r ∧ _
    unfold ref08_Left_b
    have e1 : IntKind.wrap .i64 ((l : Int) - 1) = (l : Int) - 1 := wrap_id _ (by omega) (by omega)
    simp only [lett, e1, bif_or, bif_and]
    by_cases c1 : (decide ((l : Int) - 1 < 0) || decide (dep > 12) || decide (t.f_Kind < 0) || decide (t.f_Kind > 3)) = true
    · exact ⟨-1, if_pos c1, .inl rfl⟩
    rw [if_neg c1]
    by_cases c2 : ((t.f_Kind != 1 && decide ((List.length t.f_Text : Int) > 0)) || (t.f_Kind != 3 && decide ((List.length t.f_Keys : Int) > 0)) || (decide (t.f_Kind < 2) && decide ((List.length t.f_Kids : Int) > 0))) = true
    · exact ⟨-1, if_pos c2, .inl rfl⟩
    rw [if_neg c2]
    simp only [Bool.or_eq_true, Bool.and_eq_true, decide_eq_true_eq, bne_iff_ne, ne_eq, not_or, not_and, gt_iff_lt, Int.not_lt] at c1 c2
    obtain ⟨⟨⟨a1, a2⟩, a3⟩, a4⟩ := c1
    obtain ⟨⟨b1, b2⟩, b3⟩ := c2
    obtain ⟨l, rfl⟩ : ∃ l', l = l' + 1 := ⟨l - 1, by omega⟩
    have e2 : ((l + 1 : Nat) : Int) - 1 = (l : Int) := by omega
    rw [e2]
    have loop := left_loop (ref08_Left n) n d dep t (by omega) (fun x _ l' hl' => left_eq d n x (dep + 1) l' (by omega) (by omega) hl' (by omega)) n l 0 (by omega) (Nat.zero_le _) (by omega)
    have fin : (t.f_Kind = 3 → t.f_Keys.length = t.f_Kids.length ∧ t.f_Keys.Nodup) → ∃ r, ((ref08_Left_l1 (ref08_Left n) n dep t n (l : Int) 0).bind fun o5 => (Sum.elim (fun o5 => some o5) (fun o5 => some o5)) o5) = some r ∧ (r = -1 ∨ ∃ q : Nat, r = (q : Int) ∧ Fit (d + 1) t ∧ q + sz8 (d + 1) t ≤ l + 1) := by
      intro hk
      rcases loop with h3 | ⟨q, h3, h4, h5⟩
      · have h3 : ref08_Left_l1 (ref08_Left n) n dep t n (l : Int) 0 = _ := h3
        exact ⟨-1, by rw [h3]; rfl, .inl rfl⟩
      · have h3 : ref08_Left_l1 (ref08_Left n) n dep t n (l : Int) 0 = _ := h3
        rw [List.drop_zero] at h4 h5
        have hs : ∀ (f : Nd → Nat) (m : List Nd), (∀ x, 1 ≤ f x) → m.length ≤ (m.map f).sum := by
          intro f m hf
          induction m with
          | nil => exact Nat.le_refl 0
          | cons x m ih => rw [List.map_cons, List.sum_cons, List.length_cons]; have := hf x; omega
        have hkl := hs (sz8 d) t.f_Kids (sz8_pos d)
        refine ⟨q, by rw [h3]; rfl, .inr ⟨q, rfl, ⟨by omega, ?_, fun h => List.eq_nil_of_length_eq_zero (by have := b1 h; omega), fun h => List.eq_nil_of_length_eq_zero (by have := b2 h; omega), hk, fun h => List.eq_nil_of_length_eq_zero (by have := b3 h; omega), ⟨by omega, by omega⟩, h5⟩, ?_⟩⟩
        · by_cases h : t.f_Kind = 3
          · have := hk h; omega
          · have := b2 h; omega
        · show q + (1 + (t.f_Kids.map (sz8 d)).sum) ≤ l + 1; omega
    by_cases h3 : t.f_Kind = 3
    · have e3 : (t.f_Kind == 3) = true := by rw [h3]; rfl
      rw [e3]
      by_cases c3 : ((List.length t.f_Keys : Int) != (List.length t.f_Kids : Int) || decide ((List.length t.f_Kids : Int) > (l : Int))) = true
      · rw [c3]
        exact ⟨-1, rfl, .inl rfl⟩
      · have c3' : ((List.length t.f_Keys : Int) != (List.length t.f_Kids : Int) || decide ((List.length t.f_Kids : Int) > (l : Int))) = false := by simpa using c3
        rw [c3']
        simp only [Bool.or_eq_true, bne_iff_ne, ne_eq, decide_eq_true_eq, not_or, Decidable.not_not] at c3
        obtain ⟨c4, c5⟩ := c3
        have hso := ref02_Sorted_eq n t.f_Keys (by omega) (by omega)
        simp only [beq_self_eq_true, Bool.and_self, if_true, hso, Option.bind_some, Bool.false_or, Bool.true_and]
        by_cases c6 : ((List.length (srt t.f_Keys) : Int) != (List.length t.f_Keys : Int)) = true
        · exact ⟨-1, if_pos c6, .inl rfl⟩
        · rw [if_neg c6]
          simp only [bne_iff_ne, ne_eq, Decidable.not_not] at c6
          exact fin fun _ => ⟨by omega, srt_nodup (by omega)⟩
    · have e3 : (t.f_Kind == 3) = false := by rw [beq_eq_false_iff_ne]; exact h3
      rw [e3]
      simp only [Bool.false_and, Bool.and_false, Bool.false_eq_true, if_false, Option.bind_some, show (false == true) = false from rfl]
      exact fin fun h => (h3 h).elim
theorem short_eq : ∀ (d n : Nat) (t : Nd), Fit d t → 100000 + d < n → ∃ b, ref08_short n t = some b ∧ (b = true → Shrt d t)
  | _, 0, _, _, h => by omega
  | 0, n + 1, t, h, _ => h.elim
  | d + 1, n + 1, t, hF, hn => by
    obtain ⟨f1, f2, _, _, _, _, _, f8⟩ := hF
    show ∃ b, ref08_short_b (ref08_short n) n t = some b ∧ _
    unfold ref08_short_b
    by_cases c : (List.length t.f_Text : Int) > 200
    · exact ⟨false, by rw [if_pos (decide_eq_true c)], fun h => by cases h⟩
    rw [if_neg (show ¬ decide ((List.length t.f_Text : Int) > 200) = true by simpa using c)]
    have l1 := scanL (L := ref08_short_l1 (ref08_short n) n t) t.f_Keys (fun x => if decide ((x.length : Int) > 200) = true then some false else none) 0 (by omega)
      (fun k i h _ => by
        rw [ref08_short_l1, if_pos (lt_i h), if_pos (in_i h), at_i h]
        cases decide ((t.f_Keys[i].length : Int) > 200) <;> rfl)
      (fun k => by rw [ref08_short_l1, nlt_n]; rfl) n 0 (by omega) (by omega) (by omega)
    have l1 : ref08_short_l1 (ref08_short n) n t n 0 = _ := l1
    rw [l1]
    rw [List.drop_zero]
    cases ho1 : List.findSome? (fun x : BS => if decide ((x.length : Int) > 200) = true then some false else none) t.f_Keys with
    | some r =>
      refine ⟨r, rfl, fun hr => ?_⟩
      obtain ⟨x, _, h2⟩ := List.exists_of_findSome?_eq_some ho1
      by_cases hb : decide ((x.length : Int) > 200) = true
      · rw [if_pos hb] at h2; cases h2; cases hr
      · rw [if_neg hb] at h2; cases h2
    | none =>
      have hx : ∀ x ∈ t.f_Kids, ∃ b, ref08_short n x = some b ∧ (b = true → Shrt d x) := fun x hx => short_eq d n x (f8 x hx) (by omega)
      have l2 := scanL (L := ref08_short_l2 (ref08_short n) n t) t.f_Kids (fun x => if (!((ref08_short n x).getD false)) = true then some false else none) 0 (by omega)
        (fun k i h _ => by
          obtain ⟨b, h1, _⟩ := hx t.f_Kids[i] (List.getElem_mem h)
          rw [ref08_short_l2, if_pos (lt_i h), if_pos (in_i h), kid8 h, h1]
          cases b <;> rfl)
        (fun k => by rw [ref08_short_l2, nlt_n]; rfl) n 0 (by omega) (by omega) (by omega)
      have l2 : ref08_short_l2 (ref08_short n) n t n 0 = _ := l2
      show ∃ b, ((ref08_short_l2 (ref08_short n) n t n 0).bind fun o2 => (Sum.elim (fun _ => some true) (fun o2 => some o2)) o2) = some b ∧ _
      rw [l2, List.drop_zero]
      cases ho : List.findSome? (fun x => if (!((ref08_short n x).getD false)) = true then some false else none) t.f_Kids with
      | some r =>
        refine ⟨r, rfl, fun hr => ?_⟩
        obtain ⟨x, _, h2⟩ := List.exists_of_findSome?_eq_some ho
        by_cases hb : (!((ref08_short n x).getD false)) = true
        · rw [if_pos hb] at h2; cases h2; cases hr
        · rw [if_neg hb] at h2; cases h2
      | none =>
        refine ⟨true, rfl, fun _ => ⟨by omega, fun x hxm => ?_⟩⟩
        have h2 := List.findSome?_eq_none_iff.1 ho x hxm
        obtain ⟨b, h1, h3⟩ := hx x hxm
        rw [h1] at h2
        cases b with
        | true => exact h3 rfl
        | false => cases h2
theorem small_eq (n : Nat) (t : Nd) (hn : 200000 ≤ n) : ∃ b, ref08_Small n t 300 = some b ∧ (b = true → Fit 12 t ∧ sz8 12 t ≤ 300 ∧ Shrt 12 t) := by
  obtain ⟨r, h1, h2⟩ := left_eq 12 n t 1 300 rfl (by decide) (by decide) (by omega)
  have h1 : ref08_Left n t 1 300 = some r := h1
  unfold ref08_Small
  rw [h1, Option.bind_some]
  rcases h2 with rfl | ⟨q, rfl, hF, hq⟩
  · exact ⟨false, rfl, fun h => by cases h⟩
  · obtain ⟨b, h3, h4⟩ := short_eq 12 n t hF (by omega)
    have e : decide ((q : Int) ≥ 0) = true := decide_eq_true (by omega)
    rw [e, if_pos (by rfl), h3]
    exact ⟨b, by cases b <;> rfl, fun hb => ⟨hF, by omega, h4 hb⟩⟩
end Go.Proofs.Ytjicbelggepaiaa.M
