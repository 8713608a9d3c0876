/-
  Part of the proof of NodePuts: P08.
-/
import Derived.Test.YtjicbelggepaiaaQM08
import Derived.Test.YtjicbelggepaiaaQLoop
import Derived.Test.YtjicbelggepaiaaQRxShelf
set_option linter.all false
namespace Go.Proofs.Ytjicbelggepaiaa.M
open Go Go.Proofs.Ytjicbelggepaiaa.RX Go.Proofs.Ytjicbelggepaiaa.PL
set_option maxRecDepth 100000
def aboveB (out : List BS) (x : BS) : Bool := if out.length = 0 then true else decide ((out[out.length - 1]?.getD []) < x)
def Best (l out : List BS) (i : Nat) (v : Int) : Prop :=
  (v = -1 ∧ ∀ j (h : j < l.length), j < i → aboveB out l[j] = false) ∨ ∃ (b : Nat) (h : b < l.length), v = (b : Int) ∧ b < i ∧ aboveB out l[b] = true ∧ ∀ j (h : j < l.length), j < i → aboveB out l[j] = true → l[b] ≤ l[j]
theorem last_at {out : List BS} (h0 : out.length ≠ 0) (ho : out.length < 1000000) : (decide (0 ≤ (IntKind.wrap .i64 ((List.length out : Int) - 1)) ∧ (IntKind.wrap .i64 ((List.length out : Int) - 1)) < (List.length out : Int))) = true ∧ (out[Int.toNat (IntKind.wrap .i64 ((List.length out : Int) - 1))]?.getD []) = (out[out.length - 1]?.getD []) := by
  rw [wrap_p out.length (by omega) (by omega)]
  exact ⟨in_i (by omega), rfl⟩
theorem j3_eq (n : Nat) (l out : List BS) (i : Nat) (v : Int) (hi : i < l.length) (ho : out.length < 1000000) (hv : v = -1 ∨ ∃ b : Nat, v = (b : Int) ∧ b < l.length) :
    ref02_Sorted_j3 n l out v (i : Int) = some (if (aboveB out l[i] && (decide (v < 0) || decide (l[i] < (l[Int.toNat v]?.getD [])))) = true then (i : Int) else v) := by
  have hA : (bif ((List.length out : Int) == 0) then true else (!(Op.bytesLess (l[Int.toNat (i : Int)]?.getD []) (out[Int.toNat (IntKind.wrap .i64 ((List.length out : Int) - 1))]?.getD []) || (l[Int.toNat (i : Int)]?.getD []) == (out[Int.toNat (IntKind.wrap .i64 ((List.length out : Int) - 1))]?.getD [])))) = aboveB out l[i] := by
    unfold aboveB
    rw [leq_dec, at_i hi]
    by_cases h0 : out.length = 0
    · simp [h0]
    · have e : ((List.length out : Int) == 0) = false := by rw [beq_eq_false_iff_ne]; omega
      rw [e, if_neg h0, (last_at h0 ho).2, cond_false, Bool.eq_iff_iff]
      simp [bs_not_le]
  unfold ref02_Sorted_j3
  rw [hA]
  have c2 : (!(((List.length out : Int) == 0) == false) || decide (0 ≤ (IntKind.wrap .i64 ((List.length out : Int) - 1)) ∧ (IntKind.wrap .i64 ((List.length out : Int) - 1)) < (List.length out : Int))) = true := by
    by_cases h0 : out.length = 0
    · simp [h0]
    · rw [(last_at h0 ho).1, Bool.or_true]
  have c4 : (!(((decide (v < 0)) == false) && (aboveB out l[i] == true)) || decide (0 ≤ v ∧ v < (List.length l : Int))) = true := by
    rcases hv with rfl | ⟨b, rfl, hb⟩
    · simp
    · rw [in_i hb, Bool.or_true]
  simp only [in_i hi, Bool.or_true, if_true, c2, c4, lett, less_dec, at_i hi]
  cases aboveB out l[i] <;> cases decide (v < 0) <;> simp
  split <;> rfl
theorem best_step {l out : List BS} {i : Nat} {v : Int} (hi : i < l.length) (h : Best l out i v) : Best l out (i + 1) (if (aboveB out l[i] && (decide (v < 0) || decide (l[i] < (l[Int.toNat v]?.getD [])))) = true then (i : Int) else v) := by
  cases ha : aboveB out l[i] with
  | false =>
    rw [Bool.false_and, if_neg Bool.false_ne_true]
    rcases h with ⟨rfl, h⟩ | ⟨b, hb, rfl, hbi, hab, h⟩
    · refine .inl ⟨rfl, fun j hj hji => ?_⟩
      by_cases e : j = i
      · subst e; exact ha
      · exact h j hj (by omega)
    · refine .inr ⟨b, hb, rfl, by omega, hab, fun j hj hji haj => ?_⟩
      by_cases e : j = i
      · subst e; rw [ha] at haj; cases haj
      · exact h j hj (by omega) haj
  | true =>
    rw [Bool.true_and]
    rcases h with ⟨rfl, h⟩ | ⟨b, hb, rfl, hbi, hab, h⟩
    · rw [if_pos (by simp)]
      refine .inr ⟨i, hi, rfl, by omega, ha, fun j hj hji haj => ?_⟩
      by_cases e : j = i
      · subst e; exact bs_not_lt.1 (bs_irrefl _)
      · rw [h j hj (by omega)] at haj; cases haj
    · have e0 : decide ((b : Int) < 0) = false := decide_eq_false (by omega)
      rw [e0, Bool.false_or, at_i hb]
      by_cases hlt : l[i] < l[b]
      · rw [if_pos (decide_eq_true hlt)]
        refine .inr ⟨i, hi, rfl, by omega, ha, fun j hj hji haj => ?_⟩
        by_cases e : j = i
        · subst e; exact bs_not_lt.1 (bs_irrefl _)
        · exact bs_le_trans (bs_le_of_lt hlt) (h j hj (by omega) haj)
      · rw [if_neg (by simpa using hlt)]
        refine .inr ⟨b, hb, rfl, by omega, hab, fun j hj hji haj => ?_⟩
        by_cases e : j = i
        · subst e; exact bs_not_lt.1 hlt
        · exact h j hj (by omega) haj
theorem l2_eq (n : Nat) (l out : List BS) (hl : l.length < 1000000) (ho : out.length < 1000000) : ∀ (k i : Nat) (v : Int), i ≤ l.length → l.length - i < k → Best l out i v → ∃ r, ref02_Sorted_l2 n l out k v (i : Int) = some r ∧ Best l out l.length r
  | 0, i, v, _, h, _ => by omega
  | k + 1, i, v, h1, h2, hb => by
    rw [ref02_Sorted_l2]
    by_cases h : i < l.length
    · have hv : v = -1 ∨ ∃ b : Nat, v = (b : Int) ∧ b < l.length := by
        rcases hb with ⟨e, _⟩ | ⟨b, hb, e, _⟩
        · exact .inl e
        · exact .inr ⟨b, e, hb⟩
      rw [if_pos (lt_i h), j3_eq n l out i v h ho hv, Option.bind_some, wrap_s i (by omega)]
      exact l2_eq n l out hl ho k (i + 1) _ (by omega) (by omega) (best_step h hb)
    · have : i = l.length := by omega
      subst this
      rw [if_neg (by rw [nlt_n]; exact Bool.false_ne_true)]
      exact ⟨v, rfl, hb⟩
theorem l1_eq (n : Nat) (l : List BS) (hl : l.length < 100000) (hn : 100000 ≤ n) : ∀ (k m : Nat), m ≤ (srt l).length → (srt l).length - m < k → ref02_Sorted_l1 n l k ((srt l).take m) = some (srt l)
  | 0, m, _, h => by omega
  | k + 1, m, h1, h2 => by
    have hlen := srt_length_le l
    have hA := asc_srt l
    have htl : ((srt l).take m).length = m := by rw [List.length_take]; omega
    have hab : ∀ x, aboveB ((srt l).take m) x = true ↔ (m = 0 ∨ ∃ h : m - 1 < (srt l).length, (srt l)[m - 1] < x) := by
      intro x
      unfold aboveB
      rw [htl]
      by_cases h0 : m = 0
      · simp [h0]
      · rw [if_neg h0, List.getElem?_take, if_pos (by omega), List.getElem?_eq_getElem (by omega)]
        simp [h0]
        constructor
        · exact fun h => ⟨by omega, h⟩
        · exact fun ⟨_, h⟩ => h
    obtain ⟨r, hr, hb⟩ := l2_eq n l ((srt l).take m) (by omega) (by omega) n 0 (-1) (by omega) (by omega) (.inl ⟨rfl, fun j _ h => by omega⟩)
    have hr : ref02_Sorted_l2 n l ((srt l).take m) n (-1) 0 = some r := hr
    rw [ref02_Sorted_l1, hr, Option.bind_some]
    rcases hb with ⟨rfl, hb⟩ | ⟨b, hbl, rfl, _, hcb, hb⟩
    · have hm : m = (srt l).length := by
        refine Classical.byContradiction fun hne => ?_
        have hmT : m < (srt l).length := by omega
        obtain ⟨j, hj, e⟩ := List.mem_iff_getElem.1 (mem_srt.1 (List.getElem_mem hmT))
        have := hb j hj hj
        rw [e] at this
        have h3 : aboveB ((srt l).take m) (srt l)[m] = true := by
          rw [hab]
          by_cases h0 : m = 0
          · exact .inl h0
          · exact .inr ⟨by omega, List.pairwise_iff_getElem.1 hA (m - 1) m (by omega) hmT (by omega)⟩
        rw [this] at h3; cases h3
      rw [if_pos (by decide)]
      subst hm
      rw [List.take_length]
    · obtain ⟨j, hj, e⟩ := List.mem_iff_getElem.1 (mem_srt.2 (List.getElem_mem hbl) : l[b] ∈ srt l)
      have hmj : m ≤ j := by
        rcases (hab _).1 hcb with h0 | ⟨h0, h3⟩
        · omega
        · refine Classical.byContradiction fun hne => ?_
          rw [← e] at h3
          by_cases hq : j = m - 1
          · subst hq; exact bs_irrefl _ h3
          · exact bs_irrefl _ (bs_trans h3 (List.pairwise_iff_getElem.1 hA j (m - 1) hj h0 (by omega)))
      have hmT : m < (srt l).length := by omega
      have hbm : l[b] = (srt l)[m] := by
        obtain ⟨j', hj', e'⟩ := List.mem_iff_getElem.1 (mem_srt.1 (List.getElem_mem hmT))
        have h3 : aboveB ((srt l).take m) (srt l)[m] = true := by
          rw [hab]
          by_cases h0 : m = 0
          · exact .inl h0
          · exact .inr ⟨by omega, List.pairwise_iff_getElem.1 hA (m - 1) m (by omega) hmT (by omega)⟩
        have h4 := hb j' hj' hj' (by rw [e']; exact h3)
        rw [e'] at h4
        refine bs_antisymm h4 ?_
        rw [← e]
        by_cases hq : j = m
        · subst hq; exact bs_not_lt.1 (bs_irrefl _)
        · exact bs_le_of_lt (List.pairwise_iff_getElem.1 hA m j hmT hj (by omega))
      have e0 : decide ((b : Int) < 0) = false := decide_eq_false (by omega)
      have hc : decide ((List.length ((srt l).take m) + List.length ([l[b]] : List BS)) * (16 + 1) ≤ limit) = true := cap_add (by rw [htl]; simp; omega)
      rw [e0, if_neg Bool.false_ne_true, if_pos (in_i hbl), at_i hbl, if_pos hc, hbm, ← List.take_succ_eq_append_getElem hmT]
      exact l1_eq n l hl hn k (m + 1) (by omega) (by omega)
theorem ref02_Sorted_eq (n : Nat) (l : List BS) (hl : l.length < 10000) (hn : 100000 ≤ n) : ref02_Sorted n l = some (srt l) := by
  unfold ref02_Sorted
  have := l1_eq n l (by omega) hn n 0 (by omega) (by have := srt_length_le l; omega)
  rw [List.take_zero] at this
  rw [this]; rfl
def at1 (s : BS) : Nat → List BS → Option Int := findI fun i x => if (s == x) = true then some (i : Int) else none
theorem name_At_eq (n : Nat) (l : List BS) (s : BS) (hl : l.length < 10000) (hn : 100000 ≤ n) : name_At n l s = some ((at1 s 0 l).getD (-1)) := by
  unfold name_At slices_Index_string_string
  have := scanI (L := slices_Index_string_string_l1 n l s (List.length l : Int)) l (fun i x => if (s == x) = true then some (i : Int) else none) 0 (by omega)
    (fun k i h _ => by
      rw [slices_Index_string_string_l1, if_pos (lt_i h), if_pos (in_i h), at_i h]
      cases s == l[i] <;> rfl)
    (fun k => by rw [slices_Index_string_string_l1, nlt_n]; rfl) n 0 (by omega) (by omega) (by omega)
  rw [show (0 : Int) = ((0 : Nat) : Int) from rfl, this, List.drop_zero]
  show (Option.bind _ _) = some ((at1 s 0 l).getD (-1))
  rw [show findI (fun i x => if (s == x) = true then some (i : Int) else none) 0 l = at1 s 0 l from rfl]
  cases at1 s 0 l <;> rfl
theorem eq_drop {l m : List BS} {i : Nat} (h1 : i < l.length) (h2 : i < m.length) : (l.drop i = m.drop i) ↔ l[i] = m[i] ∧ l.drop (i + 1) = m.drop (i + 1) := by
  rw [drop_at h1, drop_at h2, List.cons.injEq]
theorem same_l {L : Nat → Int → Option (Sum Unit Bool)} (l m : List BS) (hlm : l.length = m.length) (hl : l.length < 10000)
    (hs : ∀ k i (h : i < l.length) (h' : i < m.length), L (k + 1) (i : Int) = if (!(l[i] == m[i])) = true then some (.inr false) else L k (IntKind.wrap .i64 ((i : Int) + 1)))
    (he : ∀ k, L (k + 1) (l.length : Int) = some (.inl ())) : ∀ k i, i ≤ l.length → l.length - i < k → L k (i : Int) = some (if l.drop i = m.drop i then .inl () else .inr false)
  | 0, i, _, h => by omega
  | k + 1, i, h1, h2 => by
    by_cases h : i < l.length
    · have h' : i < m.length := by omega
      rw [hs k i h h']
      simp only [eq_drop h h']
      by_cases e : l[i] = m[i]
      · simp only [e, beq_self_eq_true, Bool.not_true, Bool.false_eq_true, if_false, true_and]
        rw [wrap_s i (by omega)]
        exact same_l l m hlm hl hs he k (i + 1) (by omega) (by omega)
      · simp [e]
    · have : i = l.length := by omega
      subst this
      rw [he, List.drop_eq_nil_of_le (Nat.le_refl _), List.drop_eq_nil_of_le (by omega), if_pos rfl]
end Go.Proofs.Ytjicbelggepaiaa.M
