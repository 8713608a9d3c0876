/-
  Chapter 2: what the functions of names and lists compute, said plainly. Over the printed models.
-/
import Derived.Test.YtljnmojkhajolaaM02
import Derived.Test.YtljnmojkhajolaaLoop
import Derived.Test.YtljnmojkhajolaaRxShelf
namespace Go.Proofs.Ytljnmojkhajolaa.M
open Go Go.Proofs.Ytljnmojkhajolaa.RX Go.Proofs.Ytljnmojkhajolaa.PL

/-! ### lists in order -/
theorem strSort_sorted (l : List BS) : (strSort l).Pairwise (· ≤ ·) := by
  have := List.pairwise_mergeSort (le := fun x y : BS => decide (x ≤ y)) (fun a b c h1 h2 => by simp only [decide_eq_true_eq] at *; exact bs_le_trans h1 h2) (fun a b => by simpa using bs_total a b) l
  exact this.imp fun h => by simpa using h
theorem compact_up (zs : List BS) (hz : zs.Pairwise (· ≤ ·)) : ∀ m, m ≤ zs.length → Asc (Lib.compactUpTo zs.toArray m) ∧ ∀ x, x ∈ Lib.compactUpTo zs.toArray m ↔ x ∈ zs.take m
  | 0, _ => by simp [Lib.compactUpTo]
  | m + 1, hm => by
    obtain ⟨h1, h2⟩ := compact_up zs hz m (by omega)
    have hg : ∀ j (h : j < zs.length), zs.toArray[j]! = zs[j] := fun j h => by simp [h]
    have hle : ∀ j (h : j < zs.length), j < m → zs[j] ≤ zs[m] := fun j h hj => List.pairwise_iff_getElem.1 hz j m h (by omega) hj
    rw [Lib.compactUpTo_succ, List.take_succ_eq_append_getElem (by omega : m < zs.length)]
    by_cases hk : Lib.keeps zs.toArray m = true
    · rw [if_pos hk, hg m (by omega)]
      refine ⟨List.pairwise_append.2 ⟨h1, by simp, fun x hx y hy => ?_⟩, fun x => by rw [List.mem_append, List.mem_append, h2]⟩
      rw [List.mem_singleton.1 hy]
      obtain ⟨j, hj, rfl⟩ := List.mem_take_iff_getElem.1 ((h2 x).1 hx)
      have hjm : j < m := by omega
      refine bs_lt_of_le_of_ne (hle j (by omega) hjm) fun e => ?_
      have hk' : m = 0 ∨ zs.toArray[m]! ≠ zs.toArray[m - 1]! := by simpa [Lib.keeps] using hk
      rcases hk' with h0 | h0
      · omega
      · rw [hg m (by omega), hg (m - 1) (by omega)] at h0
        have a1 : zs[j] ≤ zs[m - 1] := by
          by_cases hq : j = m - 1
          · subst hq; exact bs_not_lt.1 (bs_irrefl _)
          · exact List.pairwise_iff_getElem.1 hz j (m - 1) (by omega) (by omega) (by omega)
        have a2 : zs[m - 1] ≤ zs[m] := hle (m - 1) (by omega) (by omega)
        exact h0 (bs_antisymm (e ▸ a1) a2)
    · rw [if_neg hk, List.append_nil]
      refine ⟨h1, fun x => ?_⟩
      have hk' : ¬ (m = 0 ∨ zs.toArray[m]! ≠ zs.toArray[m - 1]!) := by simpa [Lib.keeps] using hk
      have hm0 : m ≠ 0 := fun e => hk' (.inl e)
      have he : zs[m] = zs[m - 1] := by
        have : zs.toArray[m]! = zs.toArray[m - 1]! := Classical.byContradiction fun h => hk' (.inr h)
        rwa [hg m (by omega), hg (m - 1) (by omega)] at this
      rw [h2, List.mem_append, List.mem_singleton]
      constructor
      · exact fun h => .inl h
      · rintro (h | h)
        · exact h
        · rw [h, he]
          exact List.mem_take_iff_getElem.2 ⟨m - 1, by omega, rfl⟩
theorem compact_srt (l : List BS) : Lib.compact (strSort l) = srt l := by
  obtain ⟨h1, h2⟩ := compact_up (strSort l) (strSort_sorted l) _ (Nat.le_refl _)
  refine Asc.ext h1 (asc_srt l) fun x => ?_
  rw [mem_srt]
  have := h2 x
  rw [List.take_length] at this
  rw [show Lib.compact (strSort l) = Lib.compactUpTo (strSort l).toArray (strSort l).length from rfl, this]
  exact List.mem_mergeSort
theorem lim17 {a : Nat} (h : a ≤ 1000000) : decide (a * 17 ≤ limit) = true := decide_eq_true (by show a * 17 ≤ 140737488355328; omega)
theorem name_Sorted_eq (n : Nat) (l : List BS) (h : l.length ≤ 1000000) : name_Sorted n l = some (srt l) := by
  unfold name_Sorted
  have h1 : decide ((List.length ([] : List BS) + List.length l) * (16 + 1) ≤ limit) = true := cap_add (by simp; omega)
  have h3 : (Sh.sort l).length = l.length := List.length_mergeSort l
  rw [if_pos h1, List.nil_append, if_pos (lim17 h), if_pos (lim17 (by omega))]
  exact congrArg some (compact_srt l)

/-- The last one, and who is above it. -/
def aboveB (out : List BS) (x : BS) : Bool := if out.length = 0 then true else decide ((out[out.length - 1]?.getD []) < x)
def Best (l out : List BS) (i : Nat) (v : Int) : Prop :=
  (v = -1 ∧ ∀ j (h : j < l.length), j < i → aboveB out l[j] = false) ∨ ∃ (b : Nat) (h : b < l.length), v = (b : Int) ∧ b < i ∧ aboveB out l[b] = true ∧ ∀ j (h : j < l.length), j < i → aboveB out l[j] = true → l[b] ≤ l[j]
theorem last_at {out : List BS} (h0 : out.length ≠ 0) (ho : out.length < 1000000) : (decide (0 ≤ (IntKind.wrap .i64 ((List.length out : Int) - 1)) ∧ (IntKind.wrap .i64 ((List.length out : Int) - 1)) < (List.length out : Int))) = true ∧ (out[Int.toNat (IntKind.wrap .i64 ((List.length out : Int) - 1))]?.getD []) = (out[out.length - 1]?.getD []) := by
  rw [wrap_p out.length (by omega) (by omega)]
  exact ⟨in_i (by omega), rfl⟩
theorem j3_eq (n : Nat) (l out : List BS) (i : Nat) (v : Int) (hi : i < l.length) (ho : out.length < 1000000) (hv : v = -1 ∨ ∃ b : Nat, v = (b : Int) ∧ b < l.length) :
    ref02_Sorted_j3 n l out v (i : Int) = some (if (aboveB out l[i] && (decide (v < 0) || decide (l[i] < (l[Int.toNat v]?.getD [])))) = true then (i : Int) else v) := by
  have hA : (bif ((List.length out : Int) == 0) then true else (!(Op.bytesLess (l[Int.toNat (i : Int)]?.getD []) (out[Int.toNat (IntKind.wrap .i64 ((List.length out : Int) - 1))]?.getD []) || (l[Int.toNat (i : Int)]?.getD []) == (out[Int.toNat (IntKind.wrap .i64 ((List.length out : Int) - 1))]?.getD [])))) = aboveB out l[i] := by
    unfold aboveB
    rw [leq_dec, at_i hi]
    by_cases h0 : out.length = 0
    · simp [h0]
    · have e : ((List.length out : Int) == 0) = false := by rw [beq_eq_false_iff_ne]; omega
      rw [e, if_neg h0, (last_at h0 ho).2, cond_false, Bool.eq_iff_iff]
      simp [bs_not_le]
  unfold ref02_Sorted_j3
  rw [hA]
  have c2 : (!(((List.length out : Int) == 0) == false) || decide (0 ≤ (IntKind.wrap .i64 ((List.length out : Int) - 1)) ∧ (IntKind.wrap .i64 ((List.length out : Int) - 1)) < (List.length out : Int))) = true := by
    by_cases h0 : out.length = 0
    · simp [h0]
    · rw [(last_at h0 ho).1, Bool.or_true]
  have c4 : (!(((decide (v < 0)) == false) && (aboveB out l[i] == true)) || decide (0 ≤ v ∧ v < (List.length l : Int))) = true := by
    rcases hv with rfl | ⟨b, rfl, hb⟩
    · simp
    · rw [in_i hb, Bool.or_true]
  simp only [in_i hi, Bool.or_true, if_true, c2, c4, lett, less_dec, at_i hi]
  cases aboveB out l[i] <;> cases decide (v < 0) <;> simp
  split <;> rfl
theorem best_step {l out : List BS} {i : Nat} {v : Int} (hi : i < l.length) (h : Best l out i v) : Best l out (i + 1) (if (aboveB out l[i] && (decide (v < 0) || decide (l[i] < (l[Int.toNat v]?.getD [])))) = true then (i : Int) else v) := by
  cases ha : aboveB out l[i] with
  | false =>
    rw [Bool.false_and, if_neg Bool.false_ne_true]
    rcases h with ⟨rfl, h⟩ | ⟨b, hb, rfl, hbi, hab, h⟩
    · refine .inl ⟨rfl, fun j hj hji => ?_⟩
      by_cases e : j = i
      · subst e; exact ha
      · exact h j hj (by omega)
    · refine .inr ⟨b, hb, rfl, by omega, hab, fun j hj hji haj => ?_⟩
      by_cases e : j = i
      · subst e; rw [ha] at haj; cases haj
      · exact h j hj (by omega) haj
  | true =>
    rw [Bool.true_and]
    rcases h with ⟨rfl, h⟩ | ⟨b, hb, rfl, hbi, hab, h⟩
    · rw [if_pos (by simp)]
      refine .inr ⟨i, hi, rfl, by omega, ha, fun j hj hji haj => ?_⟩
      by_cases e : j = i
      · subst e; exact bs_not_lt.1 (bs_irrefl _)
      · rw [h j hj (by omega)] at haj; cases haj
    · have e0 : decide ((b : Int) < 0) = false := decide_eq_false (by omega)
      rw [e0, Bool.false_or, at_i hb]
      by_cases hlt : l[i] < l[b]
      · rw [if_pos (decide_eq_true hlt)]
        refine .inr ⟨i, hi, rfl, by omega, ha, fun j hj hji haj => ?_⟩
        by_cases e : j = i
        · subst e; exact bs_not_lt.1 (bs_irrefl _)
        · exact bs_le_trans (bs_le_of_lt hlt) (h j hj (by omega) haj)
      · rw [if_neg (by simpa using hlt)]
        refine .inr ⟨b, hb, rfl, by omega, hab, fun j hj hji haj => ?_⟩
        by_cases e : j = i
        · subst e; exact bs_not_lt.1 hlt
        · exact h j hj (by omega) haj
theorem l2_eq (n : Nat) (l out : List BS) (hl : l.length < 1000000) (ho : out.length < 1000000) : ∀ (k i : Nat) (v : Int), i ≤ l.length → l.length - i < k → Best l out i v → ∃ r, ref02_Sorted_l2 n l out k v (i : Int) = some r ∧ Best l out l.length r
  | 0, i, v, _, h, _ => by omega
  | k + 1, i, v, h1, h2, hb => by
    rw [ref02_Sorted_l2]
    by_cases h : i < l.length
    · have hv : v = -1 ∨ ∃ b : Nat, v = (b : Int) ∧ b < l.length := by
        rcases hb with ⟨e, _⟩ | ⟨b, hb, e, _⟩
        · exact .inl e
        · exact .inr ⟨b, e, hb⟩
      rw [if_pos (lt_i h), j3_eq n l out i v h ho hv, Option.bind_some, wrap_s i (by omega)]
      exact l2_eq n l out hl ho k (i + 1) _ (by omega) (by omega) (best_step h hb)
    · have : i = l.length := by omega
      subst this
      rw [if_neg (by rw [nlt_n]; exact Bool.false_ne_true)]
      exact ⟨v, rfl, hb⟩
theorem l1_eq (n : Nat) (l : List BS) (hl : l.length < 100000) (hn : 100000 ≤ n) : ∀ (k m : Nat), m ≤ (srt l).length → (srt l).length - m < k → ref02_Sorted_l1 n l k ((srt l).take m) = some (srt l)
  | 0, m, _, h => by omega
  | k + 1, m, h1, h2 => by
    have hlen := srt_length_le l
    have hA := asc_srt l
    have htl : ((srt l).take m).length = m := by rw [List.length_take]; omega
    have hab : ∀ x, aboveB ((srt l).take m) x = true ↔ (m = 0 ∨ ∃ h : m - 1 < (srt l).length, (srt l)[m - 1] < x) := by
      intro x
      unfold aboveB
      rw [htl]
      by_cases h0 : m = 0
      · simp [h0]
      · rw [if_neg h0, List.getElem?_take, if_pos (by omega), List.getElem?_eq_getElem (by omega)]
        simp [h0]
        constructor
        · exact fun h => ⟨by omega, h⟩
        · exact fun ⟨_, h⟩ => h
    obtain ⟨r, hr, hb⟩ := l2_eq n l ((srt l).take m) (by omega) (by omega) n 0 (-1) (by omega) (by omega) (.inl ⟨rfl, fun j _ h => by omega⟩)
    have hr : ref02_Sorted_l2 n l ((srt l).take m) n (-1) 0 = some r := hr
    rw [ref02_Sorted_l1, hr, Option.bind_some]
    rcases hb with ⟨rfl, hb⟩ | ⟨b, hbl, rfl, _, hcb, hb⟩
    · have hm : m = (srt l).length := by
        refine Classical.byContradiction fun hne => ?_
        have hmT : m < (srt l).length := by omega
        obtain ⟨j, hj, e⟩ := List.mem_iff_getElem.1 (mem_srt.1 (List.getElem_mem hmT))
        have := hb j hj hj
        rw [e] at this
        have h3 : aboveB ((srt l).take m) (srt l)[m] = true := by
          rw [hab]
          by_cases h0 : m = 0
          · exact .inl h0
          · exact .inr ⟨by omega, List.pairwise_iff_getElem.1 hA (m - 1) m (by omega) hmT (by omega)⟩
        rw [this] at h3; cases h3
      rw [if_pos (by decide)]
      subst hm
      rw [List.take_length]
    · obtain ⟨j, hj, e⟩ := List.mem_iff_getElem.1 (mem_srt.2 (List.getElem_mem hbl) : l[b] ∈ srt l)
      have hmj : m ≤ j := by
        rcases (hab _).1 hcb with h0 | ⟨h0, h3⟩
        · omega
        · refine Classical.byContradiction fun hne => ?_
          rw [← e] at h3
          by_cases hq : j = m - 1
          · subst hq; exact bs_irrefl _ h3
          · exact bs_irrefl _ (bs_trans h3 (List.pairwise_iff_getElem.1 hA j (m - 1) hj h0 (by omega)))
      have hmT : m < (srt l).length := by omega
      have hbm : l[b] = (srt l)[m] := by
        obtain ⟨j', hj', e'⟩ := List.mem_iff_getElem.1 (mem_srt.1 (List.getElem_mem hmT))
        have h3 : aboveB ((srt l).take m) (srt l)[m] = true := by
          rw [hab]
          by_cases h0 : m = 0
          · exact .inl h0
          · exact .inr ⟨by omega, List.pairwise_iff_getElem.1 hA (m - 1) m (by omega) hmT (by omega)⟩
        have h4 := hb j' hj' hj' (by rw [e']; exact h3)
        rw [e'] at h4
        refine bs_antisymm h4 ?_
        rw [← e]
        by_cases hq : j = m
        · subst hq; exact bs_not_lt.1 (bs_irrefl _)
        · exact bs_le_of_lt (List.pairwise_iff_getElem.1 hA m j hmT hj (by omega))
      have e0 : decide ((b : Int) < 0) = false := decide_eq_false (by omega)
      have hc : decide ((List.length ((srt l).take m) + List.length ([l[b]] : List BS)) * (16 + 1) ≤ limit) = true := cap_add (by rw [htl]; simp; omega)
      rw [e0, if_neg Bool.false_ne_true, if_pos (in_i hbl), at_i hbl, if_pos hc, hbm, ← List.take_succ_eq_append_getElem hmT]
      exact l1_eq n l hl hn k (m + 1) (by omega) (by omega)
theorem ref02_Sorted_eq (n : Nat) (l : List BS) (hl : l.length < 10000) (hn : 100000 ≤ n) : ref02_Sorted n l = some (srt l) := by
  unfold ref02_Sorted
  have := l1_eq n l (by omega) hn n 0 (by omega) (by have := srt_length_le l; omega)
  rw [List.take_zero] at this
  rw [this]; rfl

/-! ### places -/
def at1 (s : BS) : Nat → List BS → Option Int := findI fun i x => if (s == x) = true then some (i : Int) else none
theorem at1_some (s : BS) : ∀ (l : List BS) (i : Nat), (at1 s i l).isSome = l.contains s ∧ ∀ r, at1 s i l = some r → 0 ≤ r
  | [], i => ⟨rfl, fun r h => by cases h⟩
  | x :: l, i => by
    unfold at1 findI
    rw [List.contains_cons]
    cases s == x with
    | true => exact ⟨rfl, fun r h => by simp at h; omega⟩
    | false =>
      obtain ⟨h1, h2⟩ := at1_some s l (i + 1)
      exact ⟨by simpa [at1] using h1, h2⟩
theorem name_At_eq (n : Nat) (l : List BS) (s : BS) (hl : l.length < 10000) (hn : 100000 ≤ n) : name_At n l s = some ((at1 s 0 l).getD (-1)) := by
  unfold name_At slices_Index_string_string
  have := scanI (L := slices_Index_string_string_l1 n l s (List.length l : Int)) l (fun i x => if (s == x) = true then some (i : Int) else none) 0 (by omega)
    (fun k i h _ => by
      rw [slices_Index_string_string_l1, if_pos (lt_i h), if_pos (in_i h), at_i h]
      cases s == l[i] <;> rfl)
    (fun k => by rw [slices_Index_string_string_l1, nlt_n]; rfl) n 0 (by omega) (by omega) (by omega)
  rw [show (0 : Int) = ((0 : Nat) : Int) from rfl, this, List.drop_zero]
  show (Option.bind _ _) = some ((at1 s 0 l).getD (-1))
  rw [show findI (fun i x => if (s == x) = true then some (i : Int) else none) 0 l = at1 s 0 l from rfl]
  cases at1 s 0 l <;> rfl
theorem ref02_At_eq (n : Nat) (l : List BS) (s : BS) (hl : l.length < 10000) (hn : 100000 ≤ n) : ref02_At n l s = some ((at1 s 0 l).getD (-1)) := by
  unfold ref02_At
  have hc : ∀ x y : BS, (x == y) = (y == x) := fun x y => by rw [Bool.eq_iff_iff, beq_iff_eq, beq_iff_eq]; exact eq_comm
  have := scanI (L := ref02_At_l1 n l s) l (fun i x => if (s == x) = true then some (i : Int) else none) 0 (by omega)
    (fun k i h _ => by
      rw [ref02_At_l1, if_pos (lt_i h), if_pos (in_i h), at_i h, hc]
      cases s == l[i] <;> rfl)
    (fun k => by rw [ref02_At_l1, nlt_n]; rfl) n 0 (by omega) (by omega) (by omega)
  rw [show (0 : Int) = ((0 : Nat) : Int) from rfl, this, List.drop_zero]
  rw [show findI (fun i x => if (s == x) = true then some (i : Int) else none) 0 l = at1 s 0 l from rfl]
  cases at1 s 0 l <;> rfl
theorem name_In_eq (n : Nat) (l : List BS) (s : BS) (hl : l.length < 10000) (hn : 100000 ≤ n) : name_In n l s = some (l.contains s) := by
  have h := name_At_eq n l s hl hn
  unfold name_At at h
  unfold name_In slices_Contains_string_string
  obtain ⟨h1, h2⟩ := at1_some s l 0
  cases hi : slices_Index_string_string n l s with
  | none => rw [hi] at h; cases h
  | some v =>
    rw [hi] at h
    simp only [Option.bind_some, Option.some.injEq] at h ⊢
    rw [← h1, h]
    cases ha : at1 s 0 l with
    | none => rfl
    | some r => simpa using h2 r ha
theorem findSome_any {α : Type} (p : α → Bool) : ∀ l : List α, l.findSome? (fun x => if p x = true then some true else none) = if l.any p = true then some true else none
  | [] => rfl
  | x :: l => by rw [List.findSome?_cons, List.any_cons, findSome_any p l]; cases p x <;> simp
theorem findSome_anyF {α : Type} (p : α → Bool) : ∀ l : List α, l.findSome? (fun x => if p x = true then some false else none) = if l.any p = true then some false else none
  | [] => rfl
  | x :: l => by rw [List.findSome?_cons, List.any_cons, findSome_anyF p l]; cases p x <;> simp
theorem any_beq (s : BS) : ∀ l : List BS, l.any (fun x => x == s) = l.contains s
  | [] => rfl
  | x :: l => by
    rw [List.any_cons, List.contains_cons, any_beq s l]
    congr 1
    rw [Bool.eq_iff_iff, beq_iff_eq, beq_iff_eq]; exact eq_comm
theorem ref02_In_eq (n : Nat) (l : List BS) (s : BS) (hl : l.length < 10000) (hn : 100000 ≤ n) : ref02_In n l s = some (l.contains s) := by
  unfold ref02_In
  have := scanL (L := ref02_In_l1 n l s) l (fun x => if (x == s) = true then some true else none) 0 (by omega)
    (fun k i h _ => by
      rw [ref02_In_l1, if_pos (lt_i h), if_pos (in_i h), at_i h]
      cases l[i] == s <;> rfl)
    (fun k => by rw [ref02_In_l1, nlt_n]; rfl) n 0 (by omega) (by omega) (by omega)
  rw [show (0 : Int) = ((0 : Nat) : Int) from rfl, this, List.drop_zero, findSome_any, any_beq]
  cases l.contains s <;> rfl

/-! ### two lists -/
theorem eq_drop {l m : List BS} {i : Nat} (h1 : i < l.length) (h2 : i < m.length) : (l.drop i = m.drop i) ↔ l[i] = m[i] ∧ l.drop (i + 1) = m.drop (i + 1) := by
  rw [drop_at h1, drop_at h2, List.cons.injEq]
theorem same_l {L : Nat → Int → Option (Sum Unit Bool)} (l m : List BS) (hlm : l.length = m.length) (hl : l.length < 10000)
    (hs : ∀ k i (h : i < l.length) (h' : i < m.length), L (k + 1) (i : Int) = if (!(l[i] == m[i])) = true then some (.inr false) else L k (IntKind.wrap .i64 ((i : Int) + 1)))
    (he : ∀ k, L (k + 1) (l.length : Int) = some (.inl ())) : ∀ k i, i ≤ l.length → l.length - i < k → L k (i : Int) = some (if l.drop i = m.drop i then .inl () else .inr false)
  | 0, i, _, h => by omega
  | k + 1, i, h1, h2 => by
    by_cases h : i < l.length
    · have h' : i < m.length := by omega
      rw [hs k i h h']
      simp only [eq_drop h h']
      by_cases e : l[i] = m[i]
      · simp only [e, beq_self_eq_true, Bool.not_true, Bool.false_eq_true, if_false, true_and]
        rw [wrap_s i (by omega)]
        exact same_l l m hlm hl hs he k (i + 1) (by omega) (by omega)
      · simp [e]
    · have : i = l.length := by omega
      subst this
      rw [he, List.drop_eq_nil_of_le (Nat.le_refl _), List.drop_eq_nil_of_le (by omega), if_pos rfl]
theorem name_Same_eq (n : Nat) (l m : List BS) (hl : l.length < 10000) (hn : 100000 ≤ n) : name_Same n l m = some (decide (l = m)) := by
  unfold name_Same slices_Equal_string_string
  by_cases hlm : l.length = m.length
  · have e : ((List.length l : Int) != (List.length m : Int)) = false := by simp [hlm]
    have := same_l (L := slices_Equal_string_string_l1 n l m (List.length l : Int)) l m hlm hl
      (fun k i h h' => by rw [slices_Equal_string_string_l1, if_pos (lt_i h), if_pos (in_i h), if_pos (in_i h'), at_i h, at_i h'])
      (fun k => by rw [slices_Equal_string_string_l1, nlt_n]; rfl) n 0 (by omega) (by omega)
    rw [e, if_neg Bool.false_ne_true, show (0 : Int) = ((0 : Nat) : Int) from rfl, this, List.drop_zero, List.drop_zero]
    by_cases h : l = m
    · rw [if_pos h, decide_eq_true h]; rfl
    · rw [if_neg h, decide_eq_false h]; rfl
  · have e : ((List.length l : Int) != (List.length m : Int)) = true := by simpa using fun h => hlm (by omega)
    rw [e, if_pos rfl, decide_eq_false (fun h => hlm (congrArg List.length h))]; rfl
theorem ref02_Same_eq (n : Nat) (l m : List BS) (hl : l.length < 10000) (hn : 100000 ≤ n) : ref02_Same n l m = some (decide (l = m)) := by
  unfold ref02_Same
  by_cases hlm : l.length = m.length
  · have e : ((List.length l : Int) != (List.length m : Int)) = false := by simp [hlm]
    have := same_l (L := ref02_Same_l1 n l m) l m hlm hl
      (fun k i h h' => by rw [ref02_Same_l1, if_pos (lt_i h), if_pos (in_i h), if_pos (in_i h'), at_i h, at_i h'])
      (fun k => by rw [ref02_Same_l1, nlt_n]; rfl) n 0 (by omega) (by omega)
    rw [e, if_neg Bool.false_ne_true, show (0 : Int) = ((0 : Nat) : Int) from rfl, this, List.drop_zero, List.drop_zero]
    by_cases h : l = m
    · rw [if_pos h, decide_eq_true h]; rfl
    · rw [if_neg h, decide_eq_false h]; rfl
  · have e : ((List.length l : Int) != (List.length m : Int)) = true := by simpa using fun h => hlm (by omega)
    rw [e, if_pos rfl, decide_eq_false (fun h => hlm (congrArg List.length h))]

theorem wrap_aa (a b : Nat) (h : a + b < 1000000000) : IntKind.wrap .i64 ((a : Int) + (b : Int)) = ((a + b : Nat) : Int) := PL.wrap_add a b (by omega)
theorem name_Both_eq (n : Nat) (a b : List BS) (ha : a.length < 10000) (hb : b.length < 10000) (hn : 100000 ≤ n) : name_Both n a b = some (srt (a ++ b)) := by
  have hc : slices_Concat_string_string n [a, b] = some (a ++ b) := by
    unfold slices_Concat_string_string
    obtain ⟨m, rfl⟩ : ∃ m, n = m + 3 := ⟨n - 3, by omega⟩
    have ea : IntKind.wrap .i64 ((0 : Int) + (a.length : Int)) = (a.length : Int) := by rw [wrap_id _ (by omega) (by omega)]; omega
    have eb : IntKind.wrap .i64 ((a.length : Int) + (b.length : Int)) = ((a.length + b.length : Nat) : Int) := wrap_aa _ _ (by omega)
    have e1 : IntKind.wrap .i64 ((0 : Int) + 1) = 1 := by decide
    have e2 : IntKind.wrap .i64 ((1 : Int) + 1) = 2 := by decide
    have d1 : decide ((a.length : Int) < 0) = false := decide_eq_false (by omega)
    have d2 : decide (((a.length + b.length : Nat) : Int) < 0) = false := decide_eq_false (by omega)
    have l1 : slices_Concat_string_string_l1 (m + 3) [a, b] [a, b] 2 (m + 3) 0 0 = some (((a.length + b.length : Nat) : Int)) := by
      rw [slices_Concat_string_string_l1, if_pos (by decide), slices_Concat_string_string_j2, if_pos (by rfl)]
      simp only [Int.toNat_zero, List.getElem?_cons_zero, Option.getD_some, ea, d1, Bool.false_eq_true, if_false, Option.bind_some, e1]
      rw [slices_Concat_string_string_l1, if_pos (by decide), slices_Concat_string_string_j2, if_pos (by rfl)]
      simp only [show Int.toNat 1 = 1 from rfl, List.getElem?_cons_succ, List.getElem?_cons_zero, Option.getD_some, eb, d2, Bool.false_eq_true, if_false, Option.bind_some, e2]
      rw [slices_Concat_string_string_l1, if_neg (by decide)]
    have c1 : decide ((List.length ([] : List BS) + List.length a) * (16 + 1) ≤ limit) = true := cap_add (by simp; omega)
    have c2 : decide ((List.length a + List.length b) * (16 + 1) ≤ limit) = true := cap_add (by omega)
    have l3 : slices_Concat_string_string_l3 (m + 3) [a, b] 2 (m + 3) ([] : List BS) 0 = some (a ++ b) := by
      rw [slices_Concat_string_string_l3, if_pos (by decide), if_pos (by rfl)]
      simp only [Int.toNat_zero, List.getElem?_cons_zero, Option.getD_some, c1, if_true, e1, List.nil_append]
      rw [slices_Concat_string_string_l3, if_pos (by decide), if_pos (by rfl)]
      simp only [show Int.toNat 1 = 1 from rfl, List.getElem?_cons_succ, List.getElem?_cons_zero, Option.getD_some, c2, if_true, e2]
      rw [slices_Concat_string_string_l3, if_neg (by decide)]
    have c3 : decide (0 ≤ ((a.length + b.length : Nat) : Int) ∧ ((a.length + b.length : Nat) : Int) * 17 ≤ (limit : Int)) = true := decide_eq_true ⟨by omega, by show _ ≤ ((140737488355328 : Nat) : Int); omega⟩
    rw [show (List.length [a, b] : Int) = 2 from rfl, l1, Option.bind_some, if_pos c3, l3]; rfl
  unfold name_Both
  rw [hc, Option.bind_some, name_Sorted_eq n _ (by simp; omega)]; rfl
theorem ref02_Both_eq (n : Nat) (a b : List BS) (ha : a.length < 1000) (hb : b.length < 1000) (hn : 100000 ≤ n) : ref02_Both n a b = some (srt (a ++ b)) := by
  unfold ref02_Both
  have h1 := (gather (L := ref02_Both_l1 n a b) a (fun acc x => acc ++ [x]) id (fun i s => s.length ≤ i) (by omega)
    (fun k s i h hs => by rw [ref02_Both_l1, if_pos (lt_i h), if_pos (in_i h), at_i h, if_pos (cap_add (by simp; omega))])
    (fun s i h hs => by simp; omega) (fun k s _ => by rw [ref02_Both_l1, nlt_n]; rfl) n 0 [] (by omega) (by omega) (by simp)).1
  have h2 := (gather (L := ref02_Both_l2 n b) b (fun acc x => acc ++ [x]) id (fun i s => s.length ≤ a.length + i) (by omega)
    (fun k s i h hs => by rw [ref02_Both_l2, if_pos (lt_i h), if_pos (in_i h), at_i h, if_pos (cap_add (by simp; omega))])
    (fun s i h hs => by simp; omega) (fun k s _ => by rw [ref02_Both_l2, nlt_n]; rfl) n 0 a (by omega) (by omega) (by simp)).1
  rw [List.drop_zero, foldl_app (fun x => [x])] at h1 h2
  have hf : ∀ l : List BS, l.flatMap (fun x => [x]) = l := fun l => by induction l <;> simp_all
  rw [hf] at h1 h2
  simp only [id, List.nil_append] at h1 h2
  rw [show (0 : Int) = ((0 : Nat) : Int) from rfl, h1, Option.bind_some, h2, Option.bind_some, ref02_Sorted_eq n _ (by simp; omega) hn]; rfl
def less (a b : List BS) : List BS := (srt a).filter fun x => !b.contains x
theorem name_Without_eq (n : Nat) (a b : List BS) (ha : a.length < 1000) (hb : b.length < 1000) (hn : 100000 ≤ n) : name_Without n a b = some (less a b) := by
  unfold name_Without
  have hl := srt_length_le a
  have := (gather (L := name_Without_l1 n b (srt a) (List.length (srt a) : Int)) (srt a) (fun acc x => if (!b.contains x) = true then acc ++ [x] else acc) id (fun i s => s.length ≤ i) (by omega)
    (fun k s i h hs => by
      rw [name_Without_l1, if_pos (lt_i h), name_Without_j2, if_pos (in_i h), at_i h, name_In_eq n b _ (by omega) hn, Option.bind_some, if_pos (cap_add (by simp; omega))]
      cases b.contains (srt a)[i] <;> rfl)
    (fun s i h hs => by split <;> (try simp only [List.length_append, List.length_cons, List.length_nil]) <;> omega) (fun k s _ => by rw [name_Without_l1, nlt_n]; rfl) n 0 [] (by omega) (by omega) (by simp)).1
  rw [List.drop_zero, foldl_filter] at this
  rw [name_Sorted_eq n _ (by omega), Option.bind_some, show (0 : Int) = ((0 : Nat) : Int) from rfl, this]; rfl
theorem ref02_Without_eq (n : Nat) (a b : List BS) (ha : a.length < 1000) (hb : b.length < 1000) (hn : 100000 ≤ n) : ref02_Without n a b = some (less a b) := by
  unfold ref02_Without
  have hl := srt_length_le a
  have := (gather (L := ref02_Without_l1 n b (srt a)) (srt a) (fun acc x => if (!b.contains x) = true then acc ++ [x] else acc) id (fun i s => s.length ≤ i) (by omega)
    (fun k s i h hs => by
      rw [ref02_Without_l1, if_pos (lt_i h), ref02_Without_j2, if_pos (in_i h), at_i h, ref02_In_eq n b _ (by omega) hn, Option.bind_some, if_pos (in_i h), if_pos (cap_add (by simp; omega))]
      cases b.contains (srt a)[i] <;> rfl)
    (fun s i h hs => by split <;> (try simp only [List.length_append, List.length_cons, List.length_nil]) <;> omega) (fun k s _ => by rw [ref02_Without_l1, nlt_n]; rfl) n 0 [] (by omega) (by omega) (by simp)).1
  rw [List.drop_zero, foldl_filter] at this
  rw [ref02_Sorted_eq n _ (by omega) hn, Option.bind_some, show (0 : Int) = ((0 : Nat) : Int) from rfl, this]; rfl

/-! ### kinds -/
theorem k1 : ∀ c : UInt8, name_Service_1 (c.toNat : Int) = !(bif (ref02_Kind (c.toNat : Int) == 0) then true else decide (ref02_Kind (c.toNat : Int) > 3)) := byte_all (by decide +kernel)
theorem k2 : ∀ c : UInt8, name_Service_2 (c.toNat : Int) = !(ref02_Kind (c.toNat : Int) == 0) := byte_all (by decide +kernel)
theorem k3 : ∀ c : UInt8, name_Variable_1 (c.toNat : Int) = !(bif (bif (ref02_Kind (c.toNat : Int) == 0) then true else decide (ref02_Kind (c.toNat : Int) > 4)) then true else (ref02_Kind (c.toNat : Int) == 3)) := byte_all (by decide +kernel)
theorem k4 : ∀ c : UInt8, name_Variable_2 (c.toNat : Int) = !(bif (ref02_Kind (c.toNat : Int) == 0) then true else decide (ref02_Kind (c.toNat : Int) > 4)) := byte_all (by decide +kernel)
theorem k5 : ∀ c : UInt8, name_Project_1 (c.toNat : Int) = !(bif (bif (bif (ref02_Kind (c.toNat : Int) == 0) then true else (ref02_Kind (c.toNat : Int) == 2)) then true else (ref02_Kind (c.toNat : Int) == 6)) then true else decide (ref02_Kind (c.toNat : Int) > 3)) := byte_all (by decide +kernel)
theorem k6 : ∀ c : UInt8, name_Project_2 (c.toNat : Int) = !(bif (bif (ref02_Kind (c.toNat : Int) == 0) then true else (ref02_Kind (c.toNat : Int) == 2)) then true else (ref02_Kind (c.toNat : Int) == 6)) := byte_all (by decide +kernel)
theorem k7 : ∀ c : UInt8, (name_Project_1 (c.toNat : Int) = true → name_Service_1 (c.toNat : Int) = true) ∧ (name_Project_2 (c.toNat : Int) = true → name_Service_2 (c.toNat : Int) = true) := byte_all (by decide +kernel)
def isName (p q : UInt8 → Bool) : BS → Bool
  | [] => false
  | c :: s => decide (s.length < 24) && p c && s.all q
theorem any_not {α : Type} (p : α → Bool) (l : List α) : l.any (fun x => !p x) = !l.all p := by induction l <;> simp_all
theorem kind_impl (n : Nat) (L : List UInt8 → Nat → Int → Option (Sum Unit Bool)) (p q : UInt8 → Bool) (s : BS) (hn : 100 ≤ n)
    (hs : ∀ k i (h : i < s.length), L s (k + 1) (i : Int) = if (!(q s[i])) = true then some (.inr false) else L s k (IntKind.wrap .i64 ((i : Int) + 1)))
    (he : ∀ k, L s (k + 1) (s.length : Int) = some (.inl ())) :
    (if ((!((bif (decide ((List.length s : Int) < 1)) then true else (decide ((List.length s : Int) > 24))) == false) || decide (0 ≤ (0 : Int) ∧ (0 : Int) < (List.length s : Int)))) = true then (lett ((bif (bif (decide ((List.length s : Int) < 1)) then true else (decide ((List.length s : Int) > 24))) then true else (!(p ((s)[Int.toNat 0]?.getD 0)))) : Bool) fun x1 =>
      if x1 = true then some false
      else ((L s n 1).bind fun o2 => (Sum.elim (fun _ => some true) (fun o2 => some o2)) o2)) else none) = some (isName p q s) := by
  cases s with
  | nil => simp [lett, isName]
  | cons c t =>
    have e1 : decide ((List.length (c :: t) : Int) < 1) = false := decide_eq_false (by simp; omega)
    have e2 : decide (0 ≤ (0 : Int) ∧ (0 : Int) < (List.length (c :: t) : Int)) = true := decide_eq_true (by rw [List.length_cons]; omega)
    simp only [e1, e2, cond_false, Bool.or_true, if_true, Int.toNat_zero, List.getElem?_cons_zero, Option.getD_some, lett]
    by_cases h : t.length < 24
    · have e3 : decide ((List.length (c :: t) : Int) > 24) = false := decide_eq_false (by simp; omega)
      simp only [e3, cond_false, isName, decide_eq_true h, Bool.true_and]
      have := scanL (L := L (c :: t)) (c :: t) (fun x => if (!q x) = true then some false else none) 1 (by simp; omega)
        (fun k i hi _ => by rw [hs k i hi]; cases q (c :: t)[i] <;> rfl) he n 1 (by omega) (by simp) (by simp; omega)
      rw [show (1 : Int) = ((1 : Nat) : Int) from rfl, this, List.drop_one, List.tail_cons, findSome_anyF, any_not]
      cases p c <;> cases t.all q <;> rfl
    · have e3 : decide ((List.length (c :: t) : Int) > 24) = true := decide_eq_true (by simp; omega)
      rw [e3, isName, decide_eq_false h]; rfl
theorem kind_ref (n : Nat) (L : List UInt8 → Nat → Int → Option (Sum Unit Bool)) (p q : UInt8 → Bool) (s : BS) (hn : 100 ≤ n)
    (h0 : ∀ k c t, s = c :: t → L s (k + 1) 0 = if (!(p c)) = true then some (.inr false) else L s k 1)
    (hs : ∀ k i (h : i < s.length), 1 ≤ i → L s (k + 1) (i : Int) = if (!(q s[i])) = true then some (.inr false) else L s k (IntKind.wrap .i64 ((i : Int) + 1)))
    (he : ∀ k, L s (k + 1) (s.length : Int) = some (.inl ())) :
    (if (bif (decide ((List.length s : Int) < 1)) then true else (decide ((List.length s : Int) > 24))) = true then some false
      else ((L s n 0).bind fun o1 => (Sum.elim (fun _ => some true) (fun o1 => some o1)) o1)) = some (isName p q s) := by
  cases s with
  | nil => simp [isName]
  | cons c t =>
    have e1 : decide ((List.length (c :: t) : Int) < 1) = false := decide_eq_false (by simp; omega)
    simp only [e1, cond_false]
    by_cases h : t.length < 24
    · have e3 : decide ((List.length (c :: t) : Int) > 24) = false := decide_eq_false (by simp; omega)
      rw [e3, isName, decide_eq_true h, Bool.true_and, if_neg Bool.false_ne_true]
      obtain ⟨m, rfl⟩ : ∃ m, n = m + 1 := ⟨n - 1, by omega⟩
      rw [h0 m c t rfl]
      have := scanL (L := L (c :: t)) (c :: t) (fun x => if (!q x) = true then some false else none) 1 (by simp; omega)
        (fun k i hi h1 => by rw [hs k i hi h1]; cases q (c :: t)[i] <;> rfl) he m 1 (by omega) (by simp) (by simp; omega)
      rw [show (1 : Int) = ((1 : Nat) : Int) from rfl, this, List.drop_one, List.tail_cons, findSome_anyF, any_not]
      cases p c <;> cases t.all q <;> rfl
    · have e3 : decide ((List.length (c :: t) : Int) > 24) = true := decide_eq_true (by simp; omega)
      rw [e3, isName, decide_eq_false h]; rfl
def sv1 (c : UInt8) := name_Service_1 (c.toNat : Int)
def sv2 (c : UInt8) := name_Service_2 (c.toNat : Int)
def va1 (c : UInt8) := name_Variable_1 (c.toNat : Int)
def va2 (c : UInt8) := name_Variable_2 (c.toNat : Int)
def pr1 (c : UInt8) := name_Project_1 (c.toNat : Int)
def pr2 (c : UInt8) := name_Project_2 (c.toNat : Int)
theorem i0 {i : Nat} (h : 1 ≤ i) : ((i : Int) == 0) = false := by rw [beq_eq_false_iff_ne]; omega
theorem name_Service_eq (n : Nat) (s : BS) (hn : 100 ≤ n) : name_Service n s = some (isName sv1 sv2 s) := by
  have h : name_of__name_Service_1__name_Service_2 n s = some (isName sv1 sv2 s) := kind_impl n (name_of__name_Service_1__name_Service_2_l1 n) sv1 sv2 s hn (fun k i h => by rw [name_of__name_Service_1__name_Service_2_l1, if_pos (lt_i h), if_pos (in_i h), at_i h]; rfl) (fun k => by rw [name_of__name_Service_1__name_Service_2_l1, nlt_n]; rfl)
  unfold name_Service
  rw [h]; rfl
theorem name_Variable_eq (n : Nat) (s : BS) (hn : 100 ≤ n) : name_Variable n s = some (isName va1 va2 s) := by
  have h : name_of__name_Variable_1__name_Variable_2 n s = some (isName va1 va2 s) := kind_impl n (name_of__name_Variable_1__name_Variable_2_l1 n) va1 va2 s hn (fun k i h => by rw [name_of__name_Variable_1__name_Variable_2_l1, if_pos (lt_i h), if_pos (in_i h), at_i h]; rfl) (fun k => by rw [name_of__name_Variable_1__name_Variable_2_l1, nlt_n]; rfl)
  unfold name_Variable
  rw [h]; rfl
theorem name_Project_eq (n : Nat) (s : BS) (hn : 100 ≤ n) : name_Project n s = some (isName pr1 pr2 s) := by
  have h : name_of__name_Project_1__name_Project_2 n s = some (isName pr1 pr2 s) := kind_impl n (name_of__name_Project_1__name_Project_2_l1 n) pr1 pr2 s hn (fun k i h => by rw [name_of__name_Project_1__name_Project_2_l1, if_pos (lt_i h), if_pos (in_i h), at_i h]; rfl) (fun k => by rw [name_of__name_Project_1__name_Project_2_l1, nlt_n]; rfl)
  unfold name_Project
  rw [h]; rfl
theorem z_in (c : UInt8) (t : BS) : decide (0 ≤ (0 : Int) ∧ (0 : Int) < (List.length (c :: t) : Int)) = true ∧ decide ((0 : Int) < (List.length (c :: t) : Int)) = true := ⟨decide_eq_true (by rw [List.length_cons]; omega), decide_eq_true (by rw [List.length_cons]; omega)⟩
theorem ref02_Service_eq (n : Nat) (s : BS) (hn : 100 ≤ n) : ref02_Service n s = some (isName sv1 sv2 s) := by
  unfold ref02_Service
  exact kind_ref n (ref02_Service_l1 n) sv1 sv2 s hn (fun k c t e => by
      subst e
      rw [ref02_Service_l1, (z_in c t).1, (z_in c t).2]
      simp only [if_true, Int.toNat_zero, List.getElem?_cons_zero, Option.getD_some, lett, sv1, k1, Bool.not_not, beq_self_eq_true, cond_true, show IntKind.wrap .i64 ((0 : Int) + 1) = 1 from by decide])
    (fun k i h h1 => by
      rw [ref02_Service_l1, if_pos (lt_i h), if_pos (in_i h), at_i h]
      simp only [lett, sv2, k2, Bool.not_not, i0 h1, cond_false]
      cases (ref02_Kind (s[i].toNat : Int) == 0) <;> rfl)
    (fun k => by rw [ref02_Service_l1, nlt_n]; rfl)
theorem ref02_Variable_eq (n : Nat) (s : BS) (hn : 100 ≤ n) : ref02_Variable n s = some (isName va1 va2 s) := by
  unfold ref02_Variable
  exact kind_ref n (ref02_Variable_l1 n) va1 va2 s hn (fun k c t e => by
      subst e
      rw [ref02_Variable_l1, (z_in c t).1, (z_in c t).2]
      simp only [if_true, Int.toNat_zero, List.getElem?_cons_zero, Option.getD_some, lett, va1, k3, Bool.not_not, beq_self_eq_true, cond_true, show IntKind.wrap .i64 ((0 : Int) + 1) = 1 from by decide])
    (fun k i h h1 => by
      rw [ref02_Variable_l1, if_pos (lt_i h), if_pos (in_i h), at_i h]
      simp only [lett, va2, k4, Bool.not_not, i0 h1, cond_false]
      cases (bif (ref02_Kind (s[i].toNat : Int) == 0) then true else decide (ref02_Kind (s[i].toNat : Int) > 4)) <;> rfl)
    (fun k => by rw [ref02_Variable_l1, nlt_n]; rfl)
theorem ref02_Project_eq (n : Nat) (s : BS) (hn : 100 ≤ n) : ref02_Project n s = some (isName pr1 pr2 s) := by
  unfold ref02_Project
  exact kind_ref n (ref02_Project_l1 n) pr1 pr2 s hn (fun k c t e => by
      subst e
      rw [ref02_Project_l1, (z_in c t).1, (z_in c t).2]
      simp only [if_true, Int.toNat_zero, List.getElem?_cons_zero, Option.getD_some, lett, pr1, k5, Bool.not_not, beq_self_eq_true, cond_true, show IntKind.wrap .i64 ((0 : Int) + 1) = 1 from by decide])
    (fun k i h h1 => by
      rw [ref02_Project_l1, if_pos (lt_i h), if_pos (in_i h), at_i h]
      simp only [lett, pr2, k6, Bool.not_not, i0 h1, cond_false]
      cases (bif (bif (ref02_Kind (s[i].toNat : Int) == 0) then true else (ref02_Kind (s[i].toNat : Int) == 2)) then true else (ref02_Kind (s[i].toNat : Int) == 6)) <;> rfl)
    (fun k => by rw [ref02_Project_l1, nlt_n]; rfl)
theorem project_service (s : BS) (h : isName pr1 pr2 s = true) : isName sv1 sv2 s = true := by
  cases s with
  | nil => cases h
  | cons c t =>
    simp only [isName, Bool.and_eq_true, List.all_eq_true] at h ⊢
    exact ⟨⟨h.1.1, (k7 c).1 h.1.2⟩, fun x hx => (k7 x).2 (h.2 x hx)⟩

/-! ### the statements -/
theorem srt_bab : srt [[98], [97], [98]] = [[97], [98]] := by decide +kernel
theorem awake02 (n : Nat) (hn : 100000 ≤ n) : law02_awake n = some true := by
  unfold law02_awake
  simp only [name_Sorted_eq n [[98], [97], [98]] (by decide), srt_bab, name_Service_eq n _ (show 100 ≤ n by omega), name_Variable_eq n _ (show 100 ≤ n by omega), name_At_eq n [[97], [98]] [98] (by decide) hn, Option.bind_some, show isName sv1 sv2 [119, 101, 98, 45, 49] = true by decide +kernel, show isName va1 va2 [119, 101, 98, 45, 49] = false by decide +kernel]
  decide +kernel
theorem law02_NameKinds_true (a0 : List UInt8) (_ : List.length a0 ≤ maxLen) : ∃ n, law02_NameKinds n a0 = some true := by
  refine ⟨100000, ?_⟩
  unfold law02_NameKinds
  rw [awake02 _ (by omega)]
  by_cases h : (a0.length : Int) > 4000
  · rw [if_pos (decide_eq_true h)]; rfl
  · rw [if_neg (by simpa using h), name_Service_eq _ _ (by omega), name_Variable_eq _ _ (by omega), name_Project_eq _ _ (by omega), ref02_Service_eq _ _ (by omega), ref02_Variable_eq _ _ (by omega), ref02_Project_eq _ _ (by omega)]
    simp only [Option.bind_some, beq_self_eq_true, if_true, cond_true]
    have := project_service a0
    cases hp : isName pr1 pr2 a0 with
    | false => simp [lett]
    | true => simp [lett, this hp]
theorem few_eq (n : Nat) (l : List BS) (m : Nat) (hm : m ≤ 1000) (hn : 100000 ≤ n) : ∃ b, law02_Few n l (m : Int) = some b ∧ (b = true → l.length ≤ m) := by
  unfold law02_Few
  by_cases h : (l.length : Int) > (m : Int)
  · exact ⟨false, by rw [if_pos (decide_eq_true h)], fun h => by cases h⟩
  · rw [if_neg (by simpa using h)]
    have := scanL (L := law02_Few_l1 n l) l (fun x => if decide ((x.length : Int) > 100) = true then some false else none) 0 (by omega)
      (fun k i h _ => by
        rw [law02_Few_l1, if_pos (lt_i h), if_pos (in_i h), at_i h]
        cases decide ((l[i].length : Int) > 100) <;> rfl)
      (fun k => by rw [law02_Few_l1, nlt_n]; rfl) n 0 (by omega) (by omega) (by omega)
    have this : law02_Few_l1 n l n 0 = _ := this
    rw [this]
    generalize List.findSome? _ _ = o
    cases o with
    | none => exact ⟨true, rfl, fun _ => by omega⟩
    | some r => exact ⟨r, rfl, fun _ => by omega⟩
theorem NameLists_n (n : Nat) (hn : 100000 ≤ n) (a0 a1 : List BS) (a2 : BS) : law02_NameLists n a0 a1 a2 = some true := by
  unfold law02_NameLists
  obtain ⟨b1, e1, h1⟩ := few_eq n a0 60 (by omega) hn
  obtain ⟨b2, e2, h2⟩ := few_eq n a1 60 (by omega) hn
  have e1 : law02_Few n a0 60 = some b1 := e1
  have e2 : law02_Few n a1 60 = some b2 := e2
  rw [e1, e2, awake02 _ hn]
  cases b1 with
  | false => rfl
  | true =>
    cases b2 with
    | false => rfl
    | true =>
      have h1 := h1 rfl; have h2 := h2 rfl
      have s0 := srt_length_le a0; have s1 := srt_length_le (a0 ++ a1)
      rw [List.length_append] at s1
      have s2 : (less a0 a1).length ≤ (srt a0).length := List.length_filter_le _ _
      simp only [Option.bind_some, Bool.not_true, beq_self_eq_true, if_true, cond_false, Bool.false_eq_true, if_false, name_Sorted_eq n a0 (by omega), ref02_Sorted_eq n a0 (by omega) hn, ref02_Same_eq n (srt a0) _ (by omega) hn, decide_true,
        name_Both_eq n a0 a1 (by omega) (by omega) hn, ref02_Both_eq n a0 a1 (by omega) (by omega) hn, ref02_Same_eq n (srt (a0 ++ a1)) _ (by omega) hn, name_Without_eq n a0 a1 (by omega) (by omega) hn, ref02_Without_eq n a0 a1 (by omega) (by omega) hn,
        ref02_Same_eq n (less a0 a1) _ (by omega) hn, name_In_eq n a0 a2 (by omega) hn, ref02_In_eq n a0 a2 (by omega) hn, name_Same_eq n a0 a1 (by omega) hn, ref02_Same_eq n a0 a1 (by omega) hn, name_At_eq n a0 a2 (by omega) hn, ref02_At_eq n a0 a2 (by omega) hn, cond_true]
theorem less_mem {a b : List BS} {x : BS} : (less a b).contains x = (a.contains x && !b.contains x) := by
  rw [Bool.eq_iff_iff]
  simp [less, mem_srt]
theorem srt_contains {l : List BS} {x : BS} : (srt l).contains x = l.contains x := by
  rw [Bool.eq_iff_iff]; simp [mem_srt]
theorem both_len (a b : List BS) : (srt (a ++ b)).length = (less a b).length + (srt b).length := by
  rw [← List.length_append]
  refine ((List.perm_ext_iff_of_nodup (asc_srt _).nodup ?_).2 fun x => ?_).length_eq
  · refine List.nodup_append.2 ⟨((asc_srt a).nodup).filter _, (asc_srt b).nodup, fun x hx y hy e => ?_⟩
    subst e
    simp only [less, List.mem_filter] at hx
    simp [mem_srt] at hx hy
    exact hx.2 hy
  · simp only [mem_srt, List.mem_append, less, List.mem_filter]
    simp
    by_cases hb : x ∈ b <;> simp [hb]
theorem NameMembers_n (n : Nat) (hn : 100000 ≤ n) (a0 a1 : List BS) (a2 : BS) : law02_NameMembers n a0 a1 a2 = some true := by
  unfold law02_NameMembers
  obtain ⟨b1, e1, h1⟩ := few_eq n a0 60 (by omega) hn
  obtain ⟨b2, e2, h2⟩ := few_eq n a1 60 (by omega) hn
  have e1 : law02_Few n a0 60 = some b1 := e1
  have e2 : law02_Few n a1 60 = some b2 := e2
  rw [e1, e2, awake02 _ hn]
  cases b1 with
  | false => rfl
  | true =>
    cases b2 with
    | false => rfl
    | true =>
      have h1 := h1 rfl; have h2 := h2 rfl
      have s0 := srt_length_le a0; have s1 := srt_length_le (a0 ++ a1); have s3 := srt_length_le a1
      rw [List.length_append] at s1
      have s2 : (less a0 a1).length ≤ (srt a0).length := List.length_filter_le _ _
      have hcom : srt (a1 ++ a0) = srt (a0 ++ a1) := srt_ext fun x => by simp [or_comm]
      have hidem : srt (srt (a0 ++ a1)) = srt (a0 ++ a1) := srt_of_asc (asc_srt _)
      have hlen : ((IntKind.wrap .i64 ((List.length (srt (a0 ++ a1)) : Int) - (List.length (less a0 a1) : Int))) == (List.length (srt a1) : Int)) = true := by
        rw [both_len, wrap_id _ (by omega) (by omega)]
        simp only [beq_iff_eq]; omega
      have hloop := scanL (L := law02_NameMembers_l1 n a0 a1 (srt (a0 ++ a1)) (less a0 a1)) (srt (a0 ++ a1)) (fun _ => (none : Option Bool)) 1 (by omega)
        (fun k i h hi => by
          have hp : i - 1 < (srt (a0 ++ a1)).length := by omega
          have := List.pairwise_iff_getElem.1 (asc_srt (a0 ++ a1)) (i - 1) i hp h (by omega)
          rw [law02_NameMembers_l1, if_pos (lt_i h), wrap_p i (by omega) (by omega), if_pos (in_i hp), if_pos (in_i h), at_i h, at_i hp, less_dec, decide_eq_true this]; rfl)
        (fun k => by rw [law02_NameMembers_l1, nlt_n]; rfl)
      have hloop1 : law02_NameMembers_l1 n a0 a1 (srt (a0 ++ a1)) (less a0 a1) n 1 = some (.inl ()) := by
        by_cases hz : (srt (a0 ++ a1)).length = 0
        · obtain ⟨m, rfl⟩ : ∃ m, n = m + 1 := ⟨n - 1, by omega⟩
          rw [law02_NameMembers_l1, hz]; rfl
        · have := hloop n 1 (by omega) (by omega) (by omega)
          rw [show (1 : Int) = ((1 : Nat) : Int) from rfl, this]
          have hno : ∀ l : List BS, l.findSome? (fun _ => (none : Option Bool)) = none := fun l => by induction l <;> simp_all
          rw [hno]; rfl
      have hm1 : (srt (a0 ++ a1)).contains a2 = (bif a0.contains a2 then true else a1.contains a2) := by
        rw [srt_contains]
        cases h : a0.contains a2 <;> cases h' : a1.contains a2 <;> simp_all
      simp only [Option.bind_some, Bool.not_true, beq_self_eq_true, if_true, cond_false, Bool.false_eq_true, if_false, name_Both_eq n a0 a1 (by omega) (by omega) hn, name_Without_eq n a0 a1 (by omega) (by omega) hn, name_In_eq n (srt (a0 ++ a1)) a2 (by omega) hn,
        name_In_eq n a0 a2 (by omega) hn, name_In_eq n a1 a2 (by omega) hn, name_In_eq n (less a0 a1) a2 (by omega) hn, less_mem, hm1, hloop1, Sum.elim_inl, name_Sorted_eq n (srt (a0 ++ a1)) (by omega), hidem, name_Same_eq n (srt (a0 ++ a1)) _ (by omega) hn, name_Both_eq n a1 a0 (by omega) (by omega) hn, hcom, decide_true, name_Sorted_eq n a1 (by omega), hlen, cond_true]
      cases a0.contains a2 <;> cases a1.contains a2 <;> simp [lett]
theorem law02_NameLists_true (a0 : List (List UInt8)) (_ : W_Lstring a0) (a1 : List (List UInt8)) (_ : W_Lstring a1) (a2 : List UInt8) (_ : List.length a2 ≤ maxLen) : ∃ n, law02_NameLists n a0 a1 a2 = some true := ⟨100000, NameLists_n _ (Nat.le_refl _) a0 a1 a2⟩
theorem law02_NameMembers_true (a0 : List (List UInt8)) (_ : W_Lstring a0) (a1 : List (List UInt8)) (_ : W_Lstring a1) (a2 : List UInt8) (_ : List.length a2 ≤ maxLen) : ∃ n, law02_NameMembers n a0 a1 a2 = some true := ⟨100000, NameMembers_n _ (Nat.le_refl _) a0 a1 a2⟩
end Go.Proofs.Ytljnmojkhajolaa.M
