/-
  Part of the proof of NodeEach: P08.
-/
import Derived.Test.YtjicbelggepaiaaQM08
import Derived.Test.YtjicbelggepaiaaQLoop
import Derived.Test.YtjicbelggepaiaaQRxShelf
set_option linter.all false
namespace Go.Proofs.Ytjicbelggepaiaa.M
open Go Go.Proofs.Ytjicbelggepaiaa.RX Go.Proofs.Ytjicbelggepaiaa.PL
set_option maxRecDepth 100000
theorem strSort_sorted (l : List BS) : (strSort l).Pairwise (· ≤ ·) := by
  have := List.pairwise_mergeSort (le := fun x y : BS => decide (x ≤ y)) (fun a b c h1 h2 => by simp only [decide_eq_true_eq] at *; exact bs_le_trans h1 h2) (fun a b => by simpa using bs_total a b) l
  exact this.imp fun h => by simpa using h
theorem compact_up (zs : List BS) (hz : zs.Pairwise (· ≤ ·)) : ∀ m, m ≤ zs.length → Asc (Lib.compactUpTo zs.toArray m) ∧ ∀ x, x ∈ Lib.compactUpTo zs.toArray m ↔ x ∈ zs.take m
  | 0, _ => by simp [Lib.compactUpTo]
  | m + 1, hm => by
    obtain ⟨h1, h2⟩ := compact_up zs hz m (by omega)
    have hg : ∀ j (h : j < zs.length), zs.toArray[j]! = zs[j] := fun j h => by simp [h]
    have hle : ∀ j (h : j < zs.length), j < m → zs[j] ≤ zs[m] := fun j h hj => List.pairwise_iff_getElem.1 hz j m h (by omega) hj
    rw [Lib.compactUpTo_succ, List.take_succ_eq_append_getElem (by omega : m < zs.length)]
    by_cases hk : Lib.keeps zs.toArray m = true
    · rw [if_pos hk, hg m (by omega)]
      refine ⟨List.pairwise_append.2 ⟨h1, by simp, fun x hx y hy => ?_⟩, fun x => by rw [List.mem_append, List.mem_append, h2]⟩
      rw [List.mem_singleton.1 hy]
      obtain ⟨j, hj, rfl⟩ := List.mem_take_iff_getElem.1 ((h2 x).1 hx)
      have hjm : j < m := by omega
      refine bs_lt_of_le_of_ne (hle j (by omega) hjm) fun e => ?_
      have hk' : m = 0 ∨ zs.toArray[m]! ≠ zs.toArray[m - 1]! := by simpa [Lib.keeps] using hk
      rcases hk' with h0 | h0
      · omega
      · rw [hg m (by omega), hg (m - 1) (by omega)] at h0
        have a1 : zs[j] ≤ zs[m - 1] := by
          by_cases hq : j = m - 1
          · subst hq; exact bs_not_lt.1 (bs_irrefl _)
          · exact List.pairwise_iff_getElem.1 hz j (m - 1) (by omega) (by omega) (by omega)
        have a2 : zs[m - 1] ≤ zs[m] := hle (m - 1) (by omega) (by omega)
        exact h0 (bs_antisymm (e ▸ a1) a2)
    · rw [if_neg hk, List.append_nil]
      refine ⟨h1, fun x => ?_⟩
      have hk' : ¬ (m = 0 ∨ zs.toArray[m]! ≠ zs.toArray[m - 1]!) := by simpa [Lib.keeps] using hk
      have hm0 : m ≠ 0 := fun e => hk' (.inl e)
      have he : zs[m] = zs[m - 1] := by
        have : zs.toArray[m]! = zs.toArray[m - 1]! := Classical.byContradiction fun h => hk' (.inr h)
        rwa [hg m (by omega), hg (m - 1) (by omega)] at this
      rw [h2, List.mem_append, List.mem_singleton]
      constructor
      · exact fun h => .inl h
      · rintro (h | h)
        · exact h
        · rw [h, he]
          exact List.mem_take_iff_getElem.2 ⟨m - 1, by omega, rfl⟩
theorem compact_srt (l : List BS) : Lib.compact (strSort l) = srt l := by
  obtain ⟨h1, h2⟩ := compact_up (strSort l) (strSort_sorted l) _ (Nat.le_refl _)
  refine Asc.ext h1 (asc_srt l) fun x => ?_
  rw [mem_srt]
  have := h2 x
  rw [List.take_length] at this
  rw [show Lib.compact (strSort l) = Lib.compactUpTo (strSort l).toArray (strSort l).length from rfl, this]
  exact List.mem_mergeSort
theorem lim17 {a : Nat} (h : a ≤ 1000000) : decide (a * 17 ≤ limit) = true := decide_eq_true (by show a * 17 ≤ 140737488355328; omega)
theorem name_Sorted_eq (n : Nat) (l : List BS) (h : l.length ≤ 1000000) : name_Sorted n l = some (srt l) := by
  unfold name_Sorted
  have h1 : decide ((List.length ([] : List BS) + List.length l) * (16 + 1) ≤ limit) = true := cap_add (by simp; omega)
  have h3 : (Sh.sort l).length = l.length := List.length_mergeSort l
  rw [if_pos h1, List.nil_append, if_pos (lim17 h), if_pos (lim17 (by omega))]
  exact congrArg some (compact_srt l)
def aboveB (out : List BS) (x : BS) : Bool := if out.length = 0 then true else decide ((out[out.length - 1]?.getD []) < x)
def Best (l out : List BS) (i : Nat) (v : Int) : Prop :=
  (v = -1 ∧ ∀ j (h : j < l.length), j < i → aboveB out l[j] = false) ∨ ∃ (b : Nat) (h : b < l.length), v = (b : Int) ∧ b < i ∧ aboveB out l[b] = true ∧ ∀ j (h : j < l.length), j < i → aboveB out l[j] = true → l[b] ≤ l[j]
theorem last_at {out : List BS} (h0 : out.length ≠ 0) (ho : out.length < 1000000) : (decide (0 ≤ (IntKind.wrap .i64 ((List.length out : Int) - 1)) ∧ (IntKind.wrap .i64 ((List.length out : Int) - 1)) < (List.length out : Int))) = true ∧ (out[Int.toNat (IntKind.wrap .i64 ((List.length out : Int) - 1))]?.getD []) = (out[out.length - 1]?.getD []) := by
  rw [wrap_p out.length (by omega) (by omega)]
  exact ⟨in_i (by omega), rfl⟩
theorem j3_eq (n : Nat) (l out : List BS) (i : Nat) (v : Int) (hi : i < l.length) (ho : out.length < 1000000) (hv : v = -1 ∨ ∃ b : Nat, v = (b : Int) ∧ b < l.length) :
    ref02_Sorted_j3 n l out v (i : Int) = some (if (aboveB out l[i] && (decide (v < 0) || decide (l[i] < (l[Int.toNat v]?.getD [])))) = true then (i : Int) else v) := by
  have hA : (bif ((List.length out : Int) == 0) then true else (!(Op.bytesLess (l[Int.toNat (i : Int)]?.getD []) (out[Int.toNat (IntKind.wrap .i64 ((List.length out : Int) - 1))]?.getD []) || (l[Int.toNat (i : Int)]?.getD []) == (out[Int.toNat (IntKind.wrap .i64 ((List.length out : Int) - 1))]?.getD [])))) = aboveB out l[i] := by
    unfold aboveB
    rw [leq_dec, at_i hi]
    by_cases h0 : out.length = 0
    · simp [h0]
    · have e : ((List.length out : Int) == 0) = false := by rw [beq_eq_false_iff_ne]; omega
      rw [e, if_neg h0, (last_at h0 ho).2, cond_false, Bool.eq_iff_iff]
      simp [bs_not_le]
  unfold ref02_Sorted_j3
  rw [hA]
  have c2 : (!(((List.length out : Int) == 0) == false) || decide (0 ≤ (IntKind.wrap .i64 ((List.length out : Int) - 1)) ∧ (IntKind.wrap .i64 ((List.length out : Int) - 1)) < (List.length out : Int))) = true := by
    by_cases h0 : out.length = 0
    · simp [h0]
    · rw [(last_at h0 ho).1, Bool.or_true]
  have c4 : (!(((decide (v < 0)) == false) && (aboveB out l[i] == true)) || decide (0 ≤ v ∧ v < (List.length l : Int))) = true := by
    rcases hv with rfl | ⟨b, rfl, hb⟩
    · simp
    · rw [in_i hb, Bool.or_true]
  simp only [in_i hi, Bool.or_true, if_true, c2, c4, lett, less_dec, at_i hi]
  cases aboveB out l[i] <;> cases decide (v < 0) <;> simp
  split <;> rfl
theorem best_step {l out : List BS} {i : Nat} {v : Int} (hi : i < l.length) (h : Best l out i v) : Best l out (i + 1) (if (aboveB out l[i] && (decide (v < 0) || decide (l[i] < (l[Int.toNat v]?.getD [])))) = true then (i : Int) else v) := by
  cases ha : aboveB out l[i] with
  | false =>
    rw [Bool.false_and, if_neg Bool.false_ne_true]
    rcases h with ⟨rfl, h⟩ | ⟨b, hb, rfl, hbi, hab, h⟩
    · refine .inl ⟨rfl, fun j hj hji => ?_⟩
      by_cases e : j = i
      · subst e; exact ha
      · exact h j hj (by omega)
    · refine .inr ⟨b, hb, rfl, by omega, hab, fun j hj hji haj => ?_⟩
      by_cases e : j = i
      · subst e; rw [ha] at haj; cases haj
      · exact h j hj (by omega) haj
  | true =>
    rw [Bool.true_and]
    rcases h with ⟨rfl, h⟩ | ⟨b, hb, rfl, hbi, hab, h⟩
    · rw [if_pos (by simp)]
      refine .inr ⟨i, hi, rfl, by omega, ha, fun j hj hji haj => ?_⟩
      by_cases e : j = i
      · subst e; exact bs_not_lt.1 (bs_irrefl _)
      · rw [h j hj (by omega)] at haj; cases haj
    · have e0 : decide ((b : Int) < 0) = false := decide_eq_false (by omega)
      rw [e0, Bool.false_or, at_i hb]
      by_cases hlt : l[i] < l[b]
      · rw [if_pos (decide_eq_true hlt)]
        refine .inr ⟨i, hi, rfl, by omega, ha, fun j hj hji haj => ?_⟩
        by_cases e : j = i
        · subst e; exact bs_not_lt.1 (bs_irrefl _)
        · exact bs_le_trans (bs_le_of_lt hlt) (h j hj (by omega) haj)
      · rw [if_neg (by simpa using hlt)]
        refine .inr ⟨b, hb, rfl, by omega, hab, fun j hj hji haj => ?_⟩
        by_cases e : j = i
        · subst e; exact bs_not_lt.1 hlt
        · exact h j hj (by omega) haj
theorem l2_eq (n : Nat) (l out : List BS) (hl : l.length < 1000000) (ho : out.length < 1000000) : ∀ (k i : Nat) (v : Int), i ≤ l.length → l.length - i < k → Best l out i v → ∃ r, ref02_Sorted_l2 n l out k v (i : Int) = some r ∧ Best l out l.length r
  | 0, i, v, _, h, _ => by omega
  | k + 1, i, v, h1, h2, hb => by
    rw [ref02_Sorted_l2]
    by_cases h : i < l.length
    · have hv : v = -1 ∨ ∃ b : Nat, v = (b : Int) ∧ b < l.length := by
        rcases hb with ⟨e, _⟩ | ⟨b, hb, e, _⟩
        · exact .inl e
        · exact .inr ⟨b, e, hb⟩
      rw [if_pos (lt_i h), j3_eq n l out i v h ho hv, Option.bind_some, wrap_s i (by omega)]
      exact l2_eq n l out hl ho k (i + 1) _ (by omega) (by omega) (best_step h hb)
    · have : i = l.length := by omega
      subst this
      rw [if_neg (by rw [nlt_n]; exact Bool.false_ne_true)]
      exact ⟨v, rfl, hb⟩
theorem l1_eq (n : Nat) (l : List BS) (hl : l.length < 100000) (hn : 100000 ≤ n) : ∀ (k m : Nat), m ≤ (srt l).length → (srt l).length - m < k → ref02_Sorted_l1 n l k ((srt l).take m) = some (srt l)
  | 0, m, _, h => by omega
  | k + 1, m, h1, h2 => by
    have hlen := srt_length_le l
    have hA := asc_srt l
    have htl : ((srt l).take m).length = m := by rw [List.length_take]; omega
    have hab : ∀ x, aboveB ((srt l).take m) x = true ↔ (m = 0 ∨ ∃ h : m - 1 < (srt l).length, (srt l)[m - 1] < x) := by
      intro x
      unfold aboveB
      rw [htl]
      by_cases h0 : m = 0
      · simp [h0]
      · rw [if_neg h0, List.getElem?_take, if_pos (by omega), List.getElem?_eq_getElem (by omega)]
        simp [h0]
        constructor
        · exact fun h => ⟨by omega, h⟩
        · exact fun ⟨_, h⟩ => h
    obtain ⟨r, hr, hb⟩ := l2_eq n l ((srt l).take m) (by omega) (by omega) n 0 (-1) (by omega) (by omega) (.inl ⟨rfl, fun j _ h => by omega⟩)
    have hr : ref02_Sorted_l2 n l ((srt l).take m) n (-1) 0 = some r := hr
    rw [ref02_Sorted_l1, hr, Option.bind_some]
    rcases hb with ⟨rfl, hb⟩ | ⟨b, hbl, rfl, _, hcb, hb⟩
    · have hm : m = (srt l).length := by
        refine Classical.byContradiction fun hne => ?_
        have hmT : m < (srt l).length := by omega
        obtain ⟨j, hj, e⟩ := List.mem_iff_getElem.1 (mem_srt.1 (List.getElem_mem hmT))
        have := hb j hj hj
        rw [e] at this
        have h3 : aboveB ((srt l).take m) (srt l)[m] = true := by
          rw [hab]
          by_cases h0 : m = 0
          · exact .inl h0
          · exact .inr ⟨by omega, List.pairwise_iff_getElem.1 hA (m - 1) m (by omega) hmT (by omega)⟩
        rw [this] at h3; cases h3
      rw [if_pos (by decide)]
      subst hm
      rw [List.take_length]
    · obtain ⟨j, hj, e⟩ := List.mem_iff_getElem.1 (mem_srt.2 (List.getElem_mem hbl) : l[b] ∈ srt l)
      have hmj : m ≤ j := by
        rcases (hab _).1 hcb with h0 | ⟨h0, h3⟩
        · omega
        · refine Classical.byContradiction fun hne => ?_
          rw [← e] at h3
          by_cases hq : j = m - 1
          · subst hq; exact bs_irrefl _ h3
          · exact bs_irrefl _ (bs_trans h3 (List.pairwise_iff_getElem.1 hA j (m - 1) hj h0 (by omega)))
      have hmT : m < (srt l).length := by omega
      have hbm : l[b] = (srt l)[m] := by
        obtain ⟨j', hj', e'⟩ := List.mem_iff_getElem.1 (mem_srt.1 (List.getElem_mem hmT))
        have h3 : aboveB ((srt l).take m) (srt l)[m] = true := by
          rw [hab]
          by_cases h0 : m = 0
          · exact .inl h0
          · exact .inr ⟨by omega, List.pairwise_iff_getElem.1 hA (m - 1) m (by omega) hmT (by omega)⟩
        have h4 := hb j' hj' hj' (by rw [e']; exact h3)
        rw [e'] at h4
        refine bs_antisymm h4 ?_
        rw [← e]
        by_cases hq : j = m
        · subst hq; exact bs_not_lt.1 (bs_irrefl _)
        · exact bs_le_of_lt (List.pairwise_iff_getElem.1 hA m j hmT hj (by omega))
      have e0 : decide ((b : Int) < 0) = false := decide_eq_false (by omega)
      have hc : decide ((List.length ((srt l).take m) + List.length ([l[b]] : List BS)) * (16 + 1) ≤ limit) = true := cap_add (by rw [htl]; simp; omega)
      rw [e0, if_neg Bool.false_ne_true, if_pos (in_i hbl), at_i hbl, if_pos hc, hbm, ← List.take_succ_eq_append_getElem hmT]
      exact l1_eq n l hl hn k (m + 1) (by omega) (by omega)
theorem ref02_Sorted_eq (n : Nat) (l : List BS) (hl : l.length < 10000) (hn : 100000 ≤ n) : ref02_Sorted n l = some (srt l) := by
  unfold ref02_Sorted
  have := l1_eq n l (by omega) hn n 0 (by omega) (by have := srt_length_le l; omega)
  rw [List.take_zero] at this
  rw [this]; rfl
def at1 (s : BS) : Nat → List BS → Option Int := findI fun i x => if (s == x) = true then some (i : Int) else none
theorem name_At_eq (n : Nat) (l : List BS) (s : BS) (hl : l.length < 10000) (hn : 100000 ≤ n) : name_At n l s = some ((at1 s 0 l).getD (-1)) := by
  unfold name_At slices_Index_string_string
  have := scanI (L := slices_Index_string_string_l1 n l s (List.length l : Int)) l (fun i x => if (s == x) = true then some (i : Int) else none) 0 (by omega)
    (fun k i h _ => by
      rw [slices_Index_string_string_l1, if_pos (lt_i h), if_pos (in_i h), at_i h]
      cases s == l[i] <;> rfl)
    (fun k => by rw [slices_Index_string_string_l1, nlt_n]; rfl) n 0 (by omega) (by omega) (by omega)
  rw [show (0 : Int) = ((0 : Nat) : Int) from rfl, this, List.drop_zero]
  show (Option.bind _ _) = some ((at1 s 0 l).getD (-1))
  rw [show findI (fun i x => if (s == x) = true then some (i : Int) else none) 0 l = at1 s 0 l from rfl]
  cases at1 s 0 l <;> rfl
theorem eq_drop {l m : List BS} {i : Nat} (h1 : i < l.length) (h2 : i < m.length) : (l.drop i = m.drop i) ↔ l[i] = m[i] ∧ l.drop (i + 1) = m.drop (i + 1) := by
  rw [drop_at h1, drop_at h2, List.cons.injEq]
theorem same_l {L : Nat → Int → Option (Sum Unit Bool)} (l m : List BS) (hlm : l.length = m.length) (hl : l.length < 10000)
    (hs : ∀ k i (h : i < l.length) (h' : i < m.length), L (k + 1) (i : Int) = if (!(l[i] == m[i])) = true then some (.inr false) else L k (IntKind.wrap .i64 ((i : Int) + 1)))
    (he : ∀ k, L (k + 1) (l.length : Int) = some (.inl ())) : ∀ k i, i ≤ l.length → l.length - i < k → L k (i : Int) = some (if l.drop i = m.drop i then .inl () else .inr false)
  | 0, i, _, h => by omega
  | k + 1, i, h1, h2 => by
    by_cases h : i < l.length
    · have h' : i < m.length := by omega
      rw [hs k i h h']
      simp only [eq_drop h h']
      by_cases e : l[i] = m[i]
      · simp only [e, beq_self_eq_true, Bool.not_true, Bool.false_eq_true, if_false, true_and]
        rw [wrap_s i (by omega)]
        exact same_l l m hlm hl hs he k (i + 1) (by omega) (by omega)
      · simp [e]
    · have : i = l.length := by omega
      subst this
      rw [he, List.drop_eq_nil_of_le (Nat.le_refl _), List.drop_eq_nil_of_le (by omega), if_pos rfl]
theorem ref02_Same_eq (n : Nat) (l m : List BS) (hl : l.length < 10000) (hn : 100000 ≤ n) : ref02_Same n l m = some (decide (l = m)) := by
  unfold ref02_Same
  by_cases hlm : l.length = m.length
  · have e : ((List.length l : Int) != (List.length m : Int)) = false := by simp [hlm]
    have := same_l (L := ref02_Same_l1 n l m) l m hlm hl
      (fun k i h h' => by rw [ref02_Same_l1, if_pos (lt_i h), if_pos (in_i h), if_pos (in_i h'), at_i h, at_i h'])
      (fun k => by rw [ref02_Same_l1, nlt_n]; rfl) n 0 (by omega) (by omega)
    rw [e, if_neg Bool.false_ne_true, show (0 : Int) = ((0 : Nat) : Int) from rfl, this, List.drop_zero, List.drop_zero]
    by_cases h : l = m
    · rw [if_pos h, decide_eq_true h]; rfl
    · rw [if_neg h, decide_eq_false h]; rfl
  · have e : ((List.length l : Int) != (List.length m : Int)) = true := by simpa using fun h => hlm (by omega)
    rw [e, if_pos rfl, decide_eq_false (fun h => hlm (congrArg List.length h))]
theorem wrap_sw (i : Nat) (h : i < 9223372036854775807) : IntKind.wrap .i64 ((i : Int) + 1) = ((i + 1 : Nat) : Int) := by rw [wrap_id _ (by omega) (by omega)]; omega
def dig (b : UInt8) : Bool := decide (48 ≤ b.toNat ∧ b.toNat ≤ 57)
def dval (b : UInt8) : Nat := b.toNat - 48
def vl : Nat → BS → Nat
  | a, [] => a
  | a, b :: t => vl (a * 10 + dval b) t
def isNum (s : BS) : Bool := match s with | [] => false | b :: t => dig b && t.all dig && (t.isEmpty || !(b == 48))
def ncount (s : BS) (most : Nat) : Int × Int := if isNum s = true then (if vl 0 s ≤ most then ((vl 0 s : Nat), 0) else (0, 9)) else (0, 3)
theorem vl_ge : ∀ (t : BS) (a : Nat), a ≤ vl a t
  | [], a => Nat.le_refl a
  | b :: t, a => by have := vl_ge t (a * 10 + dval b); unfold vl; omega
theorem dw_l {n most : Nat} (l : BS) (V : Nat) (hm : most ≤ 1000000000000000000) (hl : l.length ≤ 9223372036854775807) : ∀ (k i acc : Nat) (over : Bool), i ≤ l.length → l.length - i < k → (over = false → acc ≤ most ∧ ((l.drop i).all dig = true → V = vl acc (l.drop i))) → (over = true → (l.drop i).all dig = true → most < V) → acc ≤ most →
    ∃ x : Nat, digit_whole_l1 n l (most : Int) (l.length : Int) k (acc : Int) over (i : Int) = some (if (l.drop i).all dig = true then .inl ((x : Int), decide (most < V)) else .inr (0, 3)) ∧ ((l.drop i).all dig = true → V ≤ most → x = V)
  | 0, i, acc, over, _, h, _, _, _ => by omega
  | k + 1, i, acc, over, h1, h2, h3, h4, h5 => by
    rw [digit_whole_l1]
    by_cases h : i < l.length
    · have hc := l[i].toNat_lt
      have e0 : IntKind.wrap .i64 ((l[i].toNat : Int)) = (l[i].toNat : Int) := wrap_id _ (by omega) (by omega)
      have e1 : IntKind.wrap .i64 ((l[i].toNat : Int) - 48) = (l[i].toNat : Int) - 48 := wrap_id _ (by omega) (by omega)
      rw [if_pos (lt_i h), digit_whole_j2, if_pos (in_i h), at_i h, e0, e1, drop_at h, List.all_cons]
      simp only [lett]
      by_cases hd : dig l[i] = true
      · have hb := of_decide_eq_true hd
        have ed : (l[i].toNat : Int) - 48 = (dval l[i] : Int) := by unfold dval; omega
        have hd9 : dval l[i] ≤ 9 := by unfold dval; omega
        rw [ed, decide_eq_false (by omega : ¬ (dval l[i] : Int) < 0), decide_eq_false (by omega : ¬ (dval l[i] : Int) > 9), cond_false, if_neg Bool.false_ne_true, if_pos (by simp)]
        rw [hd, Bool.true_and]
        have e4 : IntKind.wrap .i64 ((most : Int) - (dval l[i] : Int)) = (most : Int) - (dval l[i] : Int) := wrap_id _ (by omega) (by omega)
        have e5 : IntKind.wrap .i64 (((most : Int) - (dval l[i] : Int)).tdiv 10) = ((most : Int) - (dval l[i] : Int)).tdiv 10 := by
          by_cases hq : dval l[i] ≤ most
          · rw [Int.tdiv_eq_ediv_of_nonneg (by omega)]; exact wrap_id _ (by omega) (by omega)
          · have : ((most : Int) - (dval l[i] : Int)).tdiv 10 = 0 := by
              have h8 : (most : Int) - (dval l[i] : Int) = -((dval l[i] - most : Nat) : Int) := by omega
              rw [h8, Int.neg_tdiv, Int.tdiv_eq_ediv_of_nonneg (by omega)]
              omega
            rw [this]; rfl
        rw [e4, e5]
        have hx : (bif (bif over then true else decide ((acc : Int) > ((most : Int) - (dval l[i] : Int)).tdiv 10)) then true else decide ((most : Int) < (dval l[i] : Int))) = (over || decide (most < acc * 10 + dval l[i])) := by
          cases over with
          | true => rfl
          | false =>
            simp only [cond_false, Bool.false_or]
            by_cases hq : dval l[i] ≤ most
            · rw [decide_eq_false (by omega : ¬ (most : Int) < (dval l[i] : Int)), Int.tdiv_eq_ediv_of_nonneg (by omega)]
              have : decide ((acc : Int) > ((most : Int) - (dval l[i] : Int)) / 10) = decide (most < acc * 10 + dval l[i]) := by
                rw [decide_eq_decide]; omega
              rw [this]
              cases decide (most < acc * 10 + dval l[i]) <;> rfl
            · rw [decide_eq_true (by omega : (most : Int) < (dval l[i] : Int)), decide_eq_true (by omega : most < acc * 10 + dval l[i])]
              cases decide ((acc : Int) > ((most : Int) - (dval l[i] : Int)).tdiv 10) <;> rfl
        rw [hx]
        cases hov : (over || decide (most < acc * 10 + dval l[i])) with
        | true =>
          simp only [Bool.not_true, Bool.false_eq_true, if_false, Option.bind_some, Sum.elim_inl]
          rw [wrap_sw i (by omega)]
          refine dw_l l V hm hl k (i + 1) acc true (by omega) (by omega) (by intro h; cases h) (fun _ ha => ?_) h5
          rw [drop_at h, List.all_cons, hd, Bool.true_and] at h3 h4
          cases over with
          | true => exact h4 rfl ha
          | false =>
            have h6 : most < acc * 10 + dval l[i] := of_decide_eq_true (by simpa using hov)
            have h7 := (h3 rfl).2 ha
            have h8 := vl_ge (l.drop (i + 1)) (acc * 10 + dval l[i])
            have h9 : vl acc (l[i] :: l.drop (i + 1)) = vl (acc * 10 + dval l[i]) (l.drop (i + 1)) := rfl
            omega
        | false =>
          simp only [Bool.or_eq_false_iff, decide_eq_false_iff_not] at hov
          obtain ⟨rfl, h6⟩ := hov
          have e6 : IntKind.wrap .i64 ((acc : Int) * 10) = (acc : Int) * 10 := wrap_id _ (by omega) (by omega)
          have e7 : IntKind.wrap .i64 ((acc : Int) * 10 + (dval l[i] : Int)) = ((acc * 10 + dval l[i] : Nat) : Int) := by rw [wrap_id _ (by omega) (by omega)]; omega
          simp only [Bool.not_false, if_true, Option.bind_some, Sum.elim_inl, e6, e7]
          rw [wrap_sw i (by omega)]
          rw [drop_at h, List.all_cons, hd, Bool.true_and] at h3
          exact dw_l l V hm hl k (i + 1) _ false (by omega) (by omega) (fun _ => ⟨by omega, fun ha => (h3 rfl).2 ha⟩) (by intro h; cases h) (by omega)
      · have hdf : dig l[i] = false := by simpa using hd
        have hb := of_decide_eq_false (p := 48 ≤ l[i].toNat ∧ l[i].toNat ≤ 57) hdf
        have hc2 : (bif decide ((l[i].toNat : Int) - 48 < 0) then true else decide ((l[i].toNat : Int) - 48 > 9)) = true := by
          by_cases h2 : (l[i].toNat : Int) - 48 < 0
          · rw [decide_eq_true h2]; rfl
          · rw [decide_eq_false h2, decide_eq_true (by omega : (l[i].toNat : Int) - 48 > 9)]; rfl
        rw [hc2, hdf]
        exact ⟨0, rfl, by intro h; cases h⟩
    · have : i = l.length := by omega
      subst this
      rw [nlt_n, if_neg Bool.false_ne_true, List.drop_eq_nil_of_le (Nat.le_refl _)]
      rw [List.drop_eq_nil_of_le (Nat.le_refl _)] at h3 h4
      refine ⟨acc, ?_, fun _ hv => ?_⟩
      · show some (Sum.inl ((acc : Int), over)) = some (Sum.inl ((acc : Int), decide (most < V)))
        cases over with
        | true => rw [decide_eq_true (h4 rfl rfl)]
        | false =>
          have h6 := h3 rfl
          have h7 : V = acc := h6.2 rfl
          rw [decide_eq_false (by omega)]
      · cases over with
        | true => have := h4 rfl rfl; omega
        | false => exact ((h3 rfl).2 rfl).symm
theorem dwhole_eq (n : Nat) (s : BS) (most : Nat) (hs : s.length ≤ 9223372036854775807) (hm : most ≤ 1000000000000000000) (hn : s.length < n ∧ 100 ≤ n) : digit_whole n s (most : Int) = some (ncount s most) := by
  unfold digit_whole
  obtain ⟨x, h1, h2⟩ := dw_l (n := n) (most := most) s (vl 0 s) hm hs n 0 0 false (by omega) (by omega) (fun _ => ⟨Nat.zero_le _, fun _ => rfl⟩) (by intro h; cases h) (Nat.zero_le _)
  rw [List.drop_zero] at h1 h2
  have h0 : digit_whole_l1 n s (most : Int) (s.length : Int) n 0 false 0 = _ := h1
  rw [h0]
  cases s with
  | nil => rfl
  | cons b t =>
    have e1 : decide (0 ≤ (0 : Int) ∧ (0 : Int) < ((b :: t).length : Int)) = true := decide_eq_true (by simp only [List.length_cons]; omega)
    have e2 : ((b :: t) == []) = false := rfl
    rw [e1, if_pos (by simp), e2]
    simp only [cond_false, lett, Int.toNat_zero, List.getElem?_cons_zero, Option.getD_some]
    have e48 : ((b.toNat : Int) == 48) = decide (b = 48) := beq_byte b 48 (by decide)
    simp only [e48]
    unfold ncount
    by_cases hc : t ≠ [] ∧ b = 48
    · have h3 : decide (((b :: t).length : Int) > 1) = true := decide_eq_true (by have := List.length_pos_iff.2 hc.1; simp only [List.length_cons]; omega)
      have h4 : t.isEmpty = false := by simpa using hc.1
      rw [h3, decide_eq_true hc.2, hc.2]
      simp [isNum, h4]
    · have hcond : (bif decide (((b :: t).length : Int) > 1) then decide (b = 48) else false) = false := by
        by_cases ht : t = []
        · subst ht; simp
        · have : b ≠ 48 := fun e => hc ⟨ht, e⟩
          simp [this]
      have hor : (t.isEmpty || !(b == 48)) = true := by
        by_cases ht : t = []
        · subst ht; rfl
        · have : b ≠ 48 := fun e => hc ⟨ht, e⟩
          simp [this]
      have hN : isNum (b :: t) = (b :: t).all dig := by
        show (dig b && t.all dig && (t.isEmpty || !(b == 48))) = _
        rw [hor, Bool.and_true, List.all_cons]
      rw [hcond, if_neg Bool.false_ne_true, hN]
      cases ha : (b :: t).all dig with
      | false => rfl
      | true =>
        simp only [if_true, Option.bind_some, Sum.elim_inl]
        by_cases hv : vl 0 (b :: t) ≤ most
        · rw [if_pos hv, decide_eq_false (by omega), if_neg Bool.false_ne_true, h2 ha hv]
        · rw [if_neg hv, decide_eq_true (by omega), if_pos rfl]
theorem dcount_eq (n : Nat) (s : BS) (most : Nat) (hs : s.length ≤ 9223372036854775807) (hm : most ≤ 1000000000000000000) (hn : s.length < n ∧ 100 ≤ n) : digit_Count n s (most : Int) = some (ncount s most) := by
  unfold digit_Count
  rw [decide_eq_false (by omega : ¬ (most : Int) < 0), if_neg Bool.false_ne_true, dwhole_eq n s most hs hm hn]
  rfl
end Go.Proofs.Ytjicbelggepaiaa.M
