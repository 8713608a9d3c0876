/-
  Chapter 13: what the functions on parts compute; the statements.
-/
import Derived.Test.YtljnmojkhajolaaDoorP13C
namespace Go.Proofs.YtljnmojkhajolaaDoor.M
open Go Go.Proofs.YtljnmojkhajolaaDoor.RX Go.Proofs.YtljnmojkhajolaaDoor.PL

theorem strSort_sorted (l : List BS) : (strSort l).Pairwise (· ≤ ·) := by
  have := List.pairwise_mergeSort (le := fun x y : BS => decide (x ≤ y)) (fun a b c h1 h2 => by simp only [decide_eq_true_eq] at *; exact bs_le_trans h1 h2) (fun a b => by simpa using bs_total a b) l
  exact this.imp fun h => by simpa using h
theorem compact_up (zs : List BS) (hz : zs.Pairwise (· ≤ ·)) : ∀ m, m ≤ zs.length → Asc (Lib.compactUpTo zs.toArray m) ∧ ∀ x, x ∈ Lib.compactUpTo zs.toArray m ↔ x ∈ zs.take m
  | 0, _ => by simp [Lib.compactUpTo]
  | m + 1, hm => by
    obtain ⟨h1, h2⟩ := compact_up zs hz m (by omega)
    have hg : ∀ j (h : j < zs.length), zs.toArray[j]! = zs[j] := fun j h => by simp [h]
    have hle : ∀ j (h : j < zs.length), j < m → zs[j] ≤ zs[m] := fun j h hj => List.pairwise_iff_getElem.1 hz j m h (by omega) hj
    rw [Lib.compactUpTo_succ, List.take_succ_eq_append_getElem (by omega : m < zs.length)]
    by_cases hk : Lib.keeps zs.toArray m = true
    · rw [if_pos hk, hg m (by omega)]
      refine ⟨List.pairwise_append.2 ⟨h1, by simp, fun x hx y hy => ?_⟩, fun x => by rw [List.mem_append, List.mem_append, h2]⟩
      rw [List.mem_singleton.1 hy]
      obtain ⟨j, hj, rfl⟩ := List.mem_take_iff_getElem.1 ((h2 x).1 hx)
      have hjm : j < m := by omega
      refine bs_lt_of_le_of_ne (hle j (by omega) hjm) fun e => ?_
      have hk' : m = 0 ∨ zs.toArray[m]! ≠ zs.toArray[m - 1]! := by simpa [Lib.keeps] using hk
      rcases hk' with h0 | h0
      · omega
      · rw [hg m (by omega), hg (m - 1) (by omega)] at h0
        have a1 : zs[j] ≤ zs[m - 1] := by
          by_cases hq : j = m - 1
          · subst hq; exact bs_not_lt.1 (bs_irrefl _)
          · exact List.pairwise_iff_getElem.1 hz j (m - 1) (by omega) (by omega) (by omega)
        have a2 : zs[m - 1] ≤ zs[m] := hle (m - 1) (by omega) (by omega)
        exact h0 (bs_antisymm (e ▸ a1) a2)
    · rw [if_neg hk, List.append_nil]
      refine ⟨h1, fun x => ?_⟩
      have hk' : ¬ (m = 0 ∨ zs.toArray[m]! ≠ zs.toArray[m - 1]!) := by simpa [Lib.keeps] using hk
      have hm0 : m ≠ 0 := fun e => hk' (.inl e)
      have he : zs[m] = zs[m - 1] := by
        have : zs.toArray[m]! = zs.toArray[m - 1]! := Classical.byContradiction fun h => hk' (.inr h)
        rwa [hg m (by omega), hg (m - 1) (by omega)] at this
      rw [h2, List.mem_append, List.mem_singleton]
      constructor
      · exact fun h => .inl h
      · rintro (h | h)
        · exact h
        · rw [h, he]
          exact List.mem_take_iff_getElem.2 ⟨m - 1, by omega, rfl⟩
theorem compact_srt (l : List BS) : Lib.compact (strSort l) = srt l := by
  obtain ⟨h1, h2⟩ := compact_up (strSort l) (strSort_sorted l) _ (Nat.le_refl _)
  refine Asc.ext h1 (asc_srt l) fun x => ?_
  rw [mem_srt]
  have := h2 x
  rw [List.take_length] at this
  rw [show Lib.compact (strSort l) = Lib.compactUpTo (strSort l).toArray (strSort l).length from rfl, this]
  exact List.mem_mergeSort
theorem lim17 {a : Nat} (h : a ≤ 1000000) : decide (a * 17 ≤ limit) = true := decide_eq_true (by show a * 17 ≤ 140737488355328; omega)
theorem name_Sorted_eq (n : Nat) (l : List BS) (h : l.length ≤ 1000000) : name_Sorted n l = some (srt l) := by
  unfold name_Sorted
  have h1 : decide ((List.length ([] : List BS) + List.length l) * (16 + 1) ≤ limit) = true := cap_add (by simp; omega)
  have h3 : (Sh.sort l).length = l.length := List.length_mergeSort l
  rw [if_pos h1, List.nil_append, if_pos (lim17 h), if_pos (lim17 (by omega))]
  exact congrArg some (compact_srt l)

/-- The last one, and who is above it. -/
def aboveB (out : List BS) (x : BS) : Bool := if out.length = 0 then true else decide ((out[out.length - 1]?.getD []) < x)
def Best (l out : List BS) (i : Nat) (v : Int) : Prop :=
  (v = -1 ∧ ∀ j (h : j < l.length), j < i → aboveB out l[j] = false) ∨ ∃ (b : Nat) (h : b < l.length), v = (b : Int) ∧ b < i ∧ aboveB out l[b] = true ∧ ∀ j (h : j < l.length), j < i → aboveB out l[j] = true → l[b] ≤ l[j]
theorem last_at {out : List BS} (h0 : out.length ≠ 0) (ho : out.length < 1000000) : (decide (0 ≤ (IntKind.wrap .i64 ((List.length out : Int) - 1)) ∧ (IntKind.wrap .i64 ((List.length out : Int) - 1)) < (List.length out : Int))) = true ∧ (out[Int.toNat (IntKind.wrap .i64 ((List.length out : Int) - 1))]?.getD []) = (out[out.length - 1]?.getD []) := by
  rw [wrap_p out.length (by omega) (by omega)]
  exact ⟨in_i (by omega), rfl⟩
theorem j3_eq (n : Nat) (l out : List BS) (i : Nat) (v : Int) (hi : i < l.length) (ho : out.length < 1000000) (hv : v = -1 ∨ ∃ b : Nat, v = (b : Int) ∧ b < l.length) :
    ref02_Sorted_j3 n l out v (i : Int) = some (if (aboveB out l[i] && (decide (v < 0) || decide (l[i] < (l[Int.toNat v]?.getD [])))) = true then (i : Int) else v) := by
  have hA : (bif ((List.length out : Int) == 0) then true else (!(Op.bytesLess (l[Int.toNat (i : Int)]?.getD []) (out[Int.toNat (IntKind.wrap .i64 ((List.length out : Int) - 1))]?.getD []) || (l[Int.toNat (i : Int)]?.getD []) == (out[Int.toNat (IntKind.wrap .i64 ((List.length out : Int) - 1))]?.getD [])))) = aboveB out l[i] := by
    unfold aboveB
    rw [leq_dec, at_i hi]
    by_cases h0 : out.length = 0
    · simp [h0]
    · have e : ((List.length out : Int) == 0) = false := by rw [beq_eq_false_iff_ne]; omega
      rw [e, if_neg h0, (last_at h0 ho).2, cond_false, Bool.eq_iff_iff]
      simp [bs_not_le]
  unfold ref02_Sorted_j3
  rw [hA]
  have c2 : (!(((List.length out : Int) == 0) == false) || decide (0 ≤ (IntKind.wrap .i64 ((List.length out : Int) - 1)) ∧ (IntKind.wrap .i64 ((List.length out : Int) - 1)) < (List.length out : Int))) = true := by
    by_cases h0 : out.length = 0
    · simp [h0]
    · rw [(last_at h0 ho).1, Bool.or_true]
  have c4 : (!(((decide (v < 0)) == false) && (aboveB out l[i] == true)) || decide (0 ≤ v ∧ v < (List.length l : Int))) = true := by
    rcases hv with rfl | ⟨b, rfl, hb⟩
    · simp
    · rw [in_i hb, Bool.or_true]
  simp only [in_i hi, Bool.or_true, if_true, c2, c4, lett, less_dec, at_i hi]
  cases aboveB out l[i] <;> cases decide (v < 0) <;> simp
  split <;> rfl
theorem best_step {l out : List BS} {i : Nat} {v : Int} (hi : i < l.length) (h : Best l out i v) : Best l out (i + 1) (if (aboveB out l[i] && (decide (v < 0) || decide (l[i] < (l[Int.toNat v]?.getD [])))) = true then (i : Int) else v) := by
  cases ha : aboveB out l[i] with
  | false =>
    rw [Bool.false_and, if_neg Bool.false_ne_true]
    rcases h with ⟨rfl, h⟩ | ⟨b, hb, rfl, hbi, hab, h⟩
    · refine .inl ⟨rfl, fun j hj hji => ?_⟩
      by_cases e : j = i
      · subst e; exact ha
      · exact h j hj (by omega)
    · refine .inr ⟨b, hb, rfl, by omega, hab, fun j hj hji haj => ?_⟩
      by_cases e : j = i
      · subst e; rw [ha] at haj; cases haj
      · exact h j hj (by omega) haj
  | true =>
    rw [Bool.true_and]
    rcases h with ⟨rfl, h⟩ | ⟨b, hb, rfl, hbi, hab, h⟩
    · rw [if_pos (by simp)]
      refine .inr ⟨i, hi, rfl, by omega, ha, fun j hj hji haj => ?_⟩
      by_cases e : j = i
      · subst e; exact bs_not_lt.1 (bs_irrefl _)
      · rw [h j hj (by omega)] at haj; cases haj
    · have e0 : decide ((b : Int) < 0) = false := decide_eq_false (by omega)
      rw [e0, Bool.false_or, at_i hb]
      by_cases hlt : l[i] < l[b]
      · rw [if_pos (decide_eq_true hlt)]
        refine .inr ⟨i, hi, rfl, by omega, ha, fun j hj hji haj => ?_⟩
        by_cases e : j = i
        · subst e; exact bs_not_lt.1 (bs_irrefl _)
        · exact bs_le_trans (bs_le_of_lt hlt) (h j hj (by omega) haj)
      · rw [if_neg (by simpa using hlt)]
        refine .inr ⟨b, hb, rfl, by omega, hab, fun j hj hji haj => ?_⟩
        by_cases e : j = i
        · subst e; exact bs_not_lt.1 hlt
        · exact h j hj (by omega) haj
theorem l2_eq (n : Nat) (l out : List BS) (hl : l.length < 1000000) (ho : out.length < 1000000) : ∀ (k i : Nat) (v : Int), i ≤ l.length → l.length - i < k → Best l out i v → ∃ r, ref02_Sorted_l2 n l out k v (i : Int) = some r ∧ Best l out l.length r
  | 0, i, v, _, h, _ => by omega
  | k + 1, i, v, h1, h2, hb => by
    rw [ref02_Sorted_l2]
    by_cases h : i < l.length
    · have hv : v = -1 ∨ ∃ b : Nat, v = (b : Int) ∧ b < l.length := by
        rcases hb with ⟨e, _⟩ | ⟨b, hb, e, _⟩
        · exact .inl e
        · exact .inr ⟨b, e, hb⟩
      rw [if_pos (lt_i h), j3_eq n l out i v h ho hv, Option.bind_some, wrap_s i (by omega)]
      exact l2_eq n l out hl ho k (i + 1) _ (by omega) (by omega) (best_step h hb)
    · have : i = l.length := by omega
      subst this
      rw [if_neg (by rw [nlt_n]; exact Bool.false_ne_true)]
      exact ⟨v, rfl, hb⟩
theorem l1_eq (n : Nat) (l : List BS) (hl : l.length < 100000) (hn : 100000 ≤ n) : ∀ (k m : Nat), m ≤ (srt l).length → (srt l).length - m < k → ref02_Sorted_l1 n l k ((srt l).take m) = some (srt l)
  | 0, m, _, h => by omega
  | k + 1, m, h1, h2 => by
    have hlen := srt_length_le l
    have hA := asc_srt l
    have htl : ((srt l).take m).length = m := by rw [List.length_take]; omega
    have hab : ∀ x, aboveB ((srt l).take m) x = true ↔ (m = 0 ∨ ∃ h : m - 1 < (srt l).length, (srt l)[m - 1] < x) := by
      intro x
      unfold aboveB
      rw [htl]
      by_cases h0 : m = 0
      · simp [h0]
      · rw [if_neg h0, List.getElem?_take, if_pos (by omega), List.getElem?_eq_getElem (by omega)]
        simp [h0]
        constructor
        · exact fun h => ⟨by omega, h⟩
        · exact fun ⟨_, h⟩ => h
    obtain ⟨r, hr, hb⟩ := l2_eq n l ((srt l).take m) (by omega) (by omega) n 0 (-1) (by omega) (by omega) (.inl ⟨rfl, fun j _ h => by omega⟩)
    have hr : ref02_Sorted_l2 n l ((srt l).take m) n (-1) 0 = some r := hr
    rw [ref02_Sorted_l1, hr, Option.bind_some]
    rcases hb with ⟨rfl, hb⟩ | ⟨b, hbl, rfl, _, hcb, hb⟩
    · have hm : m = (srt l).length := by
        refine Classical.byContradiction fun hne => ?_
        have hmT : m < (srt l).length := by omega
        obtain ⟨j, hj, e⟩ := List.mem_iff_getElem.1 (mem_srt.1 (List.getElem_mem hmT))
        have := hb j hj hj
        rw [e] at this
        have h3 : aboveB ((srt l).take m) (srt l)[m] = true := by
          rw [hab]
          by_cases h0 : m = 0
          · exact .inl h0
          · exact .inr ⟨by omega, List.pairwise_iff_getElem.1 hA (m - 1) m (by omega) hmT (by omega)⟩
        rw [this] at h3; cases h3
      rw [if_pos (by decide)]
      subst hm
      rw [List.take_length]
    · obtain ⟨j, hj, e⟩ := List.mem_iff_getElem.1 (mem_srt.2 (List.getElem_mem hbl) : l[b] ∈ srt l)
      have hmj : m ≤ j := by
        rcases (hab _).1 hcb with h0 | ⟨h0, h3⟩
        · omega
        · refine Classical.byContradiction fun hne => ?_
          rw [← e] at h3
          by_cases hq : j = m - 1
          · subst hq; exact bs_irrefl _ h3
          · exact bs_irrefl _ (bs_trans h3 (List.pairwise_iff_getElem.1 hA j (m - 1) hj h0 (by omega)))
      have hmT : m < (srt l).length := by omega
      have hbm : l[b] = (srt l)[m] := by
        obtain ⟨j', hj', e'⟩ := List.mem_iff_getElem.1 (mem_srt.1 (List.getElem_mem hmT))
        have h3 : aboveB ((srt l).take m) (srt l)[m] = true := by
          rw [hab]
          by_cases h0 : m = 0
          · exact .inl h0
          · exact .inr ⟨by omega, List.pairwise_iff_getElem.1 hA (m - 1) m (by omega) hmT (by omega)⟩
        have h4 := hb j' hj' hj' (by rw [e']; exact h3)
        rw [e'] at h4
        refine bs_antisymm h4 ?_
        rw [← e]
        by_cases hq : j = m
        · subst hq; exact bs_not_lt.1 (bs_irrefl _)
        · exact bs_le_of_lt (List.pairwise_iff_getElem.1 hA m j hmT hj (by omega))
      have e0 : decide ((b : Int) < 0) = false := decide_eq_false (by omega)
      have hc : decide ((List.length ((srt l).take m) + List.length ([l[b]] : List BS)) * (16 + 1) ≤ limit) = true := cap_add (by rw [htl]; simp; omega)
      rw [e0, if_neg Bool.false_ne_true, if_pos (in_i hbl), at_i hbl, if_pos hc, hbm, ← List.take_succ_eq_append_getElem hmT]
      exact l1_eq n l hl hn k (m + 1) (by omega) (by omega)
theorem ref02_Sorted_eq (n : Nat) (l : List BS) (hl : l.length < 10000) (hn : 100000 ≤ n) : ref02_Sorted n l = some (srt l) := by
  unfold ref02_Sorted
  have := l1_eq n l (by omega) hn n 0 (by omega) (by have := srt_length_le l; omega)
  rw [List.take_zero] at this
  rw [this]; rfl

/-! ### places -/
def at1 (s : BS) : Nat → List BS → Option Int := findI fun i x => if (s == x) = true then some (i : Int) else none

theorem eq_drop {l m : List BS} {i : Nat} (h1 : i < l.length) (h2 : i < m.length) : (l.drop i = m.drop i) ↔ l[i] = m[i] ∧ l.drop (i + 1) = m.drop (i + 1) := by
  rw [drop_at h1, drop_at h2, List.cons.injEq]
theorem same_l {L : Nat → Int → Option (Sum Unit Bool)} (l m : List BS) (hlm : l.length = m.length) (hl : l.length < 10000)
    (hs : ∀ k i (h : i < l.length) (h' : i < m.length), L (k + 1) (i : Int) = if (!(l[i] == m[i])) = true then some (.inr false) else L k (IntKind.wrap .i64 ((i : Int) + 1)))
    (he : ∀ k, L (k + 1) (l.length : Int) = some (.inl ())) : ∀ k i, i ≤ l.length → l.length - i < k → L k (i : Int) = some (if l.drop i = m.drop i then .inl () else .inr false)
  | 0, i, _, h => by omega
  | k + 1, i, h1, h2 => by
    by_cases h : i < l.length
    · have h' : i < m.length := by omega
      rw [hs k i h h']
      simp only [eq_drop h h']
      by_cases e : l[i] = m[i]
      · simp only [e, beq_self_eq_true, Bool.not_true, Bool.false_eq_true, if_false, true_and]
        rw [wrap_s i (by omega)]
        exact same_l l m hlm hl hs he k (i + 1) (by omega) (by omega)
      · simp [e]
    · have : i = l.length := by omega
      subst this
      rw [he, List.drop_eq_nil_of_le (Nat.le_refl _), List.drop_eq_nil_of_le (by omega), if_pos rfl]
theorem ref02_Same_eq (n : Nat) (l m : List BS) (hl : l.length < 10000) (hn : 100000 ≤ n) : ref02_Same n l m = some (decide (l = m)) := by
  unfold ref02_Same
  by_cases hlm : l.length = m.length
  · have e : ((List.length l : Int) != (List.length m : Int)) = false := by simp [hlm]
    have := same_l (L := ref02_Same_l1 n l m) l m hlm hl
      (fun k i h h' => by rw [ref02_Same_l1, if_pos (lt_i h), if_pos (in_i h), if_pos (in_i h'), at_i h, at_i h'])
      (fun k => by rw [ref02_Same_l1, nlt_n]; rfl) n 0 (by omega) (by omega)
    rw [e, if_neg Bool.false_ne_true, show (0 : Int) = ((0 : Nat) : Int) from rfl, this, List.drop_zero, List.drop_zero]
    by_cases h : l = m
    · rw [if_pos h, decide_eq_true h]; rfl
    · rw [if_neg h, decide_eq_false h]; rfl
  · have e : ((List.length l : Int) != (List.length m : Int)) = true := by simpa using fun h => hlm (by omega)
    rw [e, if_pos rfl, decide_eq_false (fun h => hlm (congrArg List.length h))]


theorem take_flat {α β : Type} (f : α → List β) (l : List α) (i : Nat) (h : i < l.length) : (l.take (i + 1)).flatMap f = (l.take i).flatMap f ++ f l[i] := by
  rw [List.take_succ_eq_append_getElem h, List.flatMap_append]; simp
theorem flat_take_le {α β : Type} (f : α → List β) (l : List α) (i : Nat) : ((l.take i).flatMap f).length ≤ (l.flatMap f).length := by
  conv => rhs; rw [← List.take_append_drop i l, List.flatMap_append]
  simp
theorem gatherF {α β ρ : Type} {L : Nat → List β → Int → Option ρ} (l : List α) (f : α → List β) (s0 : List β) (fin : List β → ρ) (hN : l.length < 1000000000)
    (hs : ∀ k i (h : i < l.length) (s : List β), s.length + (f l[i]).length ≤ s0.length + (l.flatMap f).length → L (k + 1) s (i : Int) = L k (s ++ f l[i]) (IntKind.wrap .i64 ((i : Int) + 1)))
    (he : ∀ k s, L (k + 1) s (l.length : Int) = some (fin s)) (k : Nat) (hk : l.length < k) : L k s0 0 = some (fin (s0 ++ l.flatMap f)) := by
  have key : ∀ (k i : Nat), i ≤ l.length → l.length - i < k → L k (s0 ++ (l.take i).flatMap f) (i : Int) = some (fin (s0 ++ l.flatMap f)) := by
    intro k
    induction k with
    | zero => intro i _ h; omega
    | succ k ih =>
      intro i h1 h2
      by_cases h : i < l.length
      · have ht := take_flat f l i h
        have hle := flat_take_le f l (i + 1)
        rw [ht, List.length_append] at hle
        rw [hs k i h _ (by rw [List.length_append]; omega), wrap_s i (by omega), List.append_assoc, ← ht]
        exact ih (i + 1) (by omega) (by omega)
      · have : i = l.length := by omega
        subst this
        rw [he, List.take_length]
  have := key k 0 (by omega) (by omega)
  rw [List.take_zero, List.flatMap_nil, List.append_nil] at this
  exact this
theorem V_mem {d : Nat} {l : List TP} (h : V d l) : ∀ p ∈ l, (p.f_Op = 0 ∧ p.f_Sub = []) ∨ (d ≤ 8 ∧ ∃ op : Nat, p.f_Op = (op : Int) ∧ 1 ≤ op ∧ op ≤ 7 ∧ V (d + 1) p.f_Sub ∧ (op = 1 → p.f_Sub = [])) := by
  induction h with
  | nil d => intro p hp; cases hp
  | text d t l ht hc h ih =>
    intro p hp
    rcases List.mem_cons.1 hp with rfl | hp
    · exact .inl ⟨rfl, rfl⟩
    · exact ih p hp
  | var1 d nm l hd hv hw h ih =>
    intro p hp
    rcases List.mem_cons.1 hp with rfl | hp
    · exact .inr ⟨hd, 1, rfl, Nat.le_refl _, by omega, .nil _, fun _ => rfl⟩
    · exact ih p hp
  | var d nm op sb l hd hv hw h2 h7 hs hn h ihs ih =>
    intro p hp
    rcases List.mem_cons.1 hp with rfl | hp
    · exact .inr ⟨hd, op, rfl, by omega, h7, hs, fun e => by omega⟩
    · exact ih p hp
def pc (m : Nat) (p : TP) : BS := if p.f_Op = 0 then escS p.f_Text else [36, 123] ++ p.f_Name ++ mkS p.f_Op ++ T m p.f_Sub ++ [125]
theorem T_pc (m : Nat) (l : List TP) : T (m + 1) l = l.flatMap (pc m) := rfl
theorem pc_le (m : Nat) {l : List TP} {p : TP} (hp : p ∈ l) : (pc m p).length ≤ (T (m + 1) l).length := by
  rw [T_pc]
  obtain ⟨i, hi, rfl⟩ := List.mem_iff_getElem.1 hp
  have := flat_take_le (pc m) l (i + 1)
  rw [take_flat _ _ _ hi, List.length_append] at this
  omega
theorem sub_le (m : Nat) {l : List TP} {p : TP} (hp : p ∈ l) (h : p.f_Op ≠ 0) : (T m p.f_Sub).length + 3 + p.f_Name.length ≤ (T (m + 1) l).length := by
  have := pc_le m hp
  unfold pc at this
  rw [if_neg h] at this
  simp at this
  omega
theorem V_len {d : Nat} {l : List TP} (h : V d l) (m : Nat) : l.length ≤ (T (m + 1) l).length := by
  induction h with
  | nil d => simp
  | text d t l ht hc h ih =>
    rw [T_cons, if_pos rfl]
    have := List.length_pos_iff.2 ht
    have := escS_len t
    simp; omega
  | var1 d nm l hd hv hw h ih => rw [T_cons, if_neg (by show ¬ (1 : Int) = 0; decide)]; simp; omega
  | var d nm op sb l hd hv hw h2 h7 hs hn h ihs ih =>
    have hop : ¬ (S_tmpl_Part.mk nm [] (op : Int) sb).f_Op = 0 := by show ¬ ((op : Int) = 0); omega
    rw [T_cons, if_neg hop]; simp; omega

/-! ### Text -/
theorem capS {a b : Nat} (h : a + b ≤ 1000000000) : decide ((a + b) * (1 + 1) ≤ limit) = true := decide_eq_true (by show (a + b) * (1 + 1) ≤ 140737488355328; omega)
theorem text_j2 (R : List TP → Option BS) (n m : Nat) (l : List TP) (v7 : Int) (i : Nat) (h : i < l.length) (s : BS) (hs : s.length + (pc m l[i]).length ≤ 1000000)
    (hop : l[i].f_Op = 0 ∨ ∃ op : Nat, l[i].f_Op = (op : Int) ∧ 1 ≤ op ∧ op ≤ 7 ∧ (op = 1 → l[i].f_Sub = [])) (hR : l[i].f_Op ≠ 0 → R l[i].f_Sub = some (T m l[i].f_Sub)) : tmpl_Text_j2 R n l v7 (i : Int) s = some (s ++ pc m l[i]) := by
  unfold tmpl_Text_j2
  rw [if_pos (in_i h), at_i h]
  generalize l[i] = p at hs hop hR
  unfold pc at hs ⊢
  by_cases h0 : p.f_Op = 0
  · rw [if_pos h0] at hs ⊢
    have hr : Lib.replaceAll p.f_Text ([36] : BS) ([36, 36] : BS) = escS p.f_Text := replaceAll_eq 36 _ _ (by decide)
    have hl := escS_len p.f_Text
    have hc := countB_le 36 p.f_Text
    have c1 : decide (List.length p.f_Text < 4294967281 ∧ 1 ≤ List.length ([36] : List UInt8) ∧ List.length p.f_Text + Lib.countB ⟨List.toArray p.f_Text⟩ ⟨List.toArray ([36] : List UInt8)⟩ * List.length ([36, 36] : List UInt8) ≤ limit) = true := by
      refine decide_eq_true ⟨by omega, by simp, ?_⟩
      show _ + _ * 2 ≤ 140737488355328
      omega
    rw [if_pos (by simp [h0]), if_pos c1, hr, if_pos (capS (by omega))]; rfl
  · rw [if_neg h0] at hs ⊢
    obtain ⟨op, o1, o2, o3, o4⟩ := hop.resolve_left h0
    simp only [List.length_append, List.length_cons, List.length_nil] at hs
    rw [if_neg (by simpa using h0), if_pos (str_fits (by simp; omega)), if_pos (capS (by simp; omega))]
    unfold tmpl_Text_j3
    simp only [lett, marks_eq]
    by_cases h1 : op = 1
    · have e1 : p.f_Op = 1 := by rw [o1, h1]; rfl
      have hm : mkS p.f_Op = [] := by rw [e1]; rfl
      rw [hm, o4 h1, T_nil, e1, if_neg (by decide), Option.bind_some, if_pos (capS (by simp; omega))]
      simp
    · have c1 : (bif decide (p.f_Op > 1) then decide (p.f_Op ≤ 7) else false) = true := by
        rw [decide_eq_true (show p.f_Op > 1 by omega)]; simp; omega
      have c2 : decide (0 ≤ p.f_Op ∧ p.f_Op < (8 : Int)) = true := decide_eq_true (by omega)
      have c3 : decide (List.length marks = 8) = true := rfl
      rw [if_pos c1, Option.bind_some, if_pos c2, if_pos c3, hR h0, Option.bind_some]
      have hmk : marks[Int.toNat p.f_Op]?.getD [] = mkS p.f_Op := rfl
      rw [hmk, if_pos (str_fits (by omega)), if_pos (capS (by simp; omega)), Option.bind_some, if_pos (capS (by simp; omega))]
      simp
theorem Text_nil (n : Nat) : tmpl_Text (n + 2) [] = some [] := by
  show tmpl_Text_b (tmpl_Text (n + 1)) (n + 1) [] = _
  unfold tmpl_Text_b
  rw [tmpl_Text_l1]; rfl
theorem Text_eq : ∀ (m d n : Nat) (l : List TP), d + m = 9 → 1 ≤ d → V d l → (T (m + 1) l).length ≤ 100000 → 100002 + m ≤ n → tmpl_Text n l = some (T (m + 1) l)
  | m, d, n, l, hdm, hd, hV, hT, hn => by
    obtain ⟨n, rfl⟩ : ∃ n', n = n' + 1 := ⟨n - 1, by omega⟩
    have hmem := V_mem hV
    have hlen := V_len hV m
    show tmpl_Text_b (tmpl_Text n) n l = _
    unfold tmpl_Text_b
    have := gatherF (L := fun k s i => tmpl_Text_l1 (tmpl_Text n) n l (l.length : Int) k i s) l (pc m) [] id (by omega)
      (fun k i h s hb => by
        have hp := hmem l[i] (List.getElem_mem h)
        rw [← T_pc] at hb
        rw [tmpl_Text_l1, if_pos (lt_i h), text_j2 (tmpl_Text n) n m l _ i h s (by simp at hb; omega) (hp.elim (fun h => .inl h.1) fun h => .inr (let ⟨op, a, b, c, _, e⟩ := h.2; ⟨op, a, b, c, e⟩)) (fun h0 => by
          obtain ⟨h8, op, o1, o2, o3, o4, o5⟩ := hp.resolve_left (fun h => h0 h.1)
          obtain ⟨m, rfl⟩ : ∃ m', m = m' + 1 := ⟨m - 1, by omega⟩
          have := sub_le (m + 1) (List.getElem_mem h) h0
          exact Text_eq m (d + 1) n _ (by omega) (by omega) o4 (by omega) (by omega)), Option.bind_some])
      (fun k s => by rw [tmpl_Text_l1, nlt_n]; rfl) n (by omega)
    rw [List.nil_append, ← T_pc] at this
    have this : tmpl_Text_l1 (tmpl_Text n) n l (l.length : Int) n 0 [] = some (T (m + 1) l) := this
    rw [this]; rfl
  termination_by m => m

/-! ### taken -/
abbrev RP := S_ref13_Part
def Tk : Nat → List TP → List RP
  | 0, _ => []
  | d + 1, l => l.map fun p => S_ref13_Part.mk p.f_Name p.f_Text p.f_Op (Tk d p.f_Sub)
def tk (m : Nat) (p : TP) : RP := S_ref13_Part.mk p.f_Name p.f_Text p.f_Op (Tk m p.f_Sub)
theorem Tk_map (m : Nat) (l : List TP) : Tk (m + 1) l = l.map (tk m) := rfl
theorem Tk_nil (m : Nat) : Tk m [] = [] := by cases m <;> rfl
theorem Tk_at (m : Nat) (l : List TP) (i : Nat) (h : i < l.length) (h' : i < (Tk (m + 1) l).length) : (Tk (m + 1) l)[i] = tk m l[i] := by simp [Tk_map]
theorem Tk_len (m : Nat) (l : List TP) : (Tk (m + 1) l).length = l.length := by simp [Tk_map]
theorem taken_nil (n : Nat) : law13_taken (n + 2) [] = some [] := by
  show law13_taken_b (law13_taken (n + 1)) (n + 1) [] = _
  unfold law13_taken_b
  rw [law13_taken_l1]; rfl
theorem taken_eq : ∀ (m d n : Nat) (l : List TP), d + m = 9 → 1 ≤ d → V d l → (T (m + 1) l).length ≤ 100000 → 100002 + m ≤ n → law13_taken n l = some (Tk (m + 1) l)
  | m, d, n, l, hdm, hd, hV, hT, hn => by
    obtain ⟨n, rfl⟩ : ∃ n', n = n' + 1 := ⟨n - 1, by omega⟩
    have hmem := V_mem hV
    have hlen := V_len hV m
    show law13_taken_b (law13_taken n) n l = _
    unfold law13_taken_b
    have hfl : ∀ l : List TP, l.flatMap (fun p => [tk m p]) = l.map (tk m) := fun l => by induction l <;> simp_all
    have := gatherF (L := law13_taken_l1 (law13_taken n) n l) l (fun p => [tk m p]) [] id (by omega)
      (fun k i h s hb => by
        have hp := hmem l[i] (List.getElem_mem h)
        have hsub : law13_taken n l[i].f_Sub = some (Tk m l[i].f_Sub) := by
          by_cases h0 : l[i].f_Op = 0
          · rcases hp with h | ⟨_, op, o1, o2, _⟩
            · rw [h.2, Tk_nil]
              obtain ⟨n, rfl⟩ : ∃ n', n = n' + 2 := ⟨n - 2, by omega⟩
              exact taken_nil n
            · omega
          · obtain ⟨h8, op, o1, o2, o3, o4, o5⟩ := hp.resolve_left (fun h => h0 h.1)
            obtain ⟨m, rfl⟩ : ∃ m', m = m' + 1 := ⟨m - 1, by omega⟩
            have := sub_le (m + 1) (List.getElem_mem h) h0
            exact taken_eq m (d + 1) n _ (by omega) (by omega) o4 (by omega) (by omega)
        rw [hfl, List.length_map] at hb
        rw [law13_taken_l1, if_pos (lt_i h), if_pos (in_i h), at_i h, hsub, Option.bind_some, if_pos (cap65 _ _ (by simp at hb; omega))]; rfl)
      (fun k s => by rw [law13_taken_l1, nlt_n]; rfl) n (by omega)
    rw [List.nil_append, hfl, ← Tk_map] at this
    have this : law13_taken_l1 (law13_taken n) n l n [] 0 = some (Tk (m + 1) l) := this
    rw [this]; rfl
  termination_by m => m
theorem rSame_nil (n : Nat) : ref13_Same (n + 2) [] [] = some true := by
  show ref13_Same_b (ref13_Same (n + 1)) (n + 1) [] [] = _
  unfold ref13_Same_b
  rw [ref13_Same_l1]; rfl
theorem rSame_eq : ∀ (m d n : Nat) (l : List TP), d + m = 9 → 1 ≤ d → V d l → (T (m + 1) l).length ≤ 100000 → 100002 + m ≤ n → ref13_Same n (Tk (m + 1) l) (Tk (m + 1) l) = some true
  | m, d, n, l, hdm, hd, hV, hT, hn => by
    obtain ⟨n, rfl⟩ : ∃ n', n = n' + 1 := ⟨n - 1, by omega⟩
    have hmem := V_mem hV
    have hlen := V_len hV m
    show ref13_Same_b (ref13_Same n) n _ _ = _
    unfold ref13_Same_b
    rw [if_neg (by simp)]
    have key : ∀ (k i : Nat), i ≤ l.length → l.length - i < k → ref13_Same_l1 (ref13_Same n) n (Tk (m + 1) l) (Tk (m + 1) l) k (i : Int) = some (.inl ()) := by
      intro k
      induction k with
      | zero => intro i _ h; omega
      | succ k ih =>
        intro i h1 h2
        rw [ref13_Same_l1]
        by_cases h : i < l.length
        · have h' : i < (Tk (m + 1) l).length := by rw [Tk_len]; exact h
          have hp := hmem l[i] (List.getElem_mem h)
          have hsub : ref13_Same n (Tk m l[i].f_Sub) (Tk m l[i].f_Sub) = some true := by
            by_cases h0 : l[i].f_Op = 0
            · rcases hp with h | ⟨_, op, o1, o2, _⟩
              · rw [h.2, Tk_nil]
                obtain ⟨n, rfl⟩ : ∃ n', n = n' + 2 := ⟨n - 2, by omega⟩
                exact rSame_nil n
              · omega
            · obtain ⟨h8, op, o1, o2, o3, o4, o5⟩ := hp.resolve_left (fun h => h0 h.1)
              obtain ⟨m, rfl⟩ : ∃ m', m = m' + 1 := ⟨m - 1, by omega⟩
              have := sub_le (m + 1) (List.getElem_mem h) h0
              exact rSame_eq m (d + 1) n _ (by omega) (by omega) o4 (by omega) (by omega)
          have e1 : (tk m l[i]).f_Sub = Tk m l[i].f_Sub := rfl
          simp only [lt_i h', in_i h', at_i h', Tk_at m l i h h', e1, hsub, beq_self_eq_true, bne_self_eq_false, Bool.not_true, Bool.or_true, if_true, cond_false, lett, Bool.false_eq_true, if_false, Option.bind_some]
          rw [wrap_s i (by omega)]
          exact ih (i + 1) (by omega) (by omega)
        · have hl : decide ((i : Int) < (List.length (Tk (m + 1) l) : Int)) = false := nlt_i (by rw [Tk_len]; omega)
          rw [hl, if_neg Bool.false_ne_true]
    have := key n 0 (by omega) (by omega)
    have this : ref13_Same_l1 (ref13_Same n) n (Tk (m + 1) l) (Tk (m + 1) l) n 0 = some (.inl ()) := this
    rw [this]; rfl
  termination_by m => m
end Go.Proofs.YtljnmojkhajolaaDoor.M
