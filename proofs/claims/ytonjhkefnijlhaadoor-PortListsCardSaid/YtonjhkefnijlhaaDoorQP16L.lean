/-
  Part of the proof of PortLists: P16L.
-/
import Derived.Test.YtonjhkefnijlhaaDoorQM16L
import Derived.Test.YtonjhkefnijlhaaDoorQLoop
set_option linter.all false
namespace Go.Proofs.YtonjhkefnijlhaaDoor.M
open Go Go.Proofs.YtonjhkefnijlhaaDoor.RX Go.Proofs.YtonjhkefnijlhaaDoor.PL
set_option maxRecDepth 100000
theorem idxScan {α : Type} {L : Nat → Int → Option (Sum Unit Int)} (l : List α) (q : α → Bool) (hN : l.length < 1000000)
    (hs : ∀ k i (h : i < l.length), L (k + 1) (i : Int) = if q l[i] = true then some (.inr (i : Int)) else L k (IntKind.wrap .i64 ((i : Int) + 1)))
    (he : ∀ k, L (k + 1) (l.length : Int) = some (.inl ())) (k : Nat) (hk : l.length < k) : L k 0 = some (match l.findIdx? q with | some i => .inr (i : Int) | none => .inl ()) := by
  have := scanI (L := L) l (fun i y => if q y = true then some (i : Int) else none) 0 (by omega)
    (fun k i h _ => by rw [hs k i h]; cases q l[i] <;> rfl) he k 0 (by omega) (by omega) (by omega)
  have this : L k 0 = _ := this
  rw [this, List.drop_zero]
  have key : ∀ (l : List α) (i : Nat), findI (fun i y => if q y = true then some (i : Int) else none) i l = (l.findIdx? q).map fun j => ((i + j : Nat) : Int) := by
    intro l
    induction l with
    | nil => intro i; rfl
    | cons y l ih =>
      intro i
      unfold findI
      rw [List.findIdx?_cons]
      cases hc : q y with
      | true => simp
      | false =>
        simp only [Bool.false_eq_true, if_false, ih (i + 1), Option.map_map]
        congr 1
        funext j
        simp only [Function.comp]
        omega
  rw [key]
  cases l.findIdx? q <;> simp
theorem idx_some {α : Type} {q : α → Bool} {l : List α} {i : Nat} (h : l.findIdx? q = some i) : i < l.length := by
  rw [List.findIdx?_eq_some_iff_getElem] at h
  exact h.1
def ofI (o : Option Nat) : Int := match o with | some i => (i : Int) | none => -1
theorem ofI_pos {o : Option Nat} : decide (ofI o ≥ 0) = o.isSome := by
  cases o with
  | none => rfl
  | some i => exact decide_eq_true (by show 0 ≤ (i : Int); omega)
namespace PO
abbrev BS := S_api_Port
theorem lessL (a b : S_api_Port) : ref16_less a b = true ↔ L51 a b := by
  unfold ref16_less L51
  by_cases h : a.f_In = b.f_In
  · rw [if_neg (by simp [h])]
    by_cases h2 : a.f_Proto = b.f_Proto
    · rw [if_neg (by simp [h2])]
      have hp := List.lt_irrefl b.f_Proto
      by_cases h3 : a.f_Host = b.f_Host
      · rw [if_neg (by simp [h3])]
        have hh := List.lt_irrefl b.f_Host
        simp [h, h2, h3, hp, hh]
      · rw [if_pos (by simp [h3]), PL.less_dec]
        simp [h, h2, h3, hp]
    · rw [if_pos (by simp [h2]), PL.less_dec]
      simp [h, h2]
  · rw [if_pos (by simp [h])]
    simp [h]
instance : LT S_api_Port := ⟨L51⟩
instance : LE S_api_Port := ⟨fun a b => ¬ L51 b a⟩
instance (a b : S_api_Port) : Decidable (a < b) := decidable_of_iff (ref16_less a b = true) (lessL a b)
theorem less_dec (a b : S_api_Port) : ref16_less a b = decide (a < b) := by
  rw [Bool.eq_iff_iff, decide_eq_true_eq]; exact lessL a b
theorem bs_irrefl (a : BS) : ¬ a < a := L51.irrefl a
theorem bs_trans {a b c : BS} (h : a < b) (h' : b < c) : a < c := L51.trans h h'
theorem bs_not_lt {a b : BS} : ¬ a < b ↔ b ≤ a := Iff.rfl
theorem bs_not_le {a b : BS} : ¬ a ≤ b ↔ b < a := Classical.not_not
theorem bs_total (a b : BS) : a ≤ b ∨ b ≤ a := by
  rcases L51.tri a b with h | h | h
  · exact .inl fun h' => bs_irrefl _ (bs_trans h h')
  · subst h; exact .inl (bs_irrefl _)
  · exact .inr fun h' => bs_irrefl _ (bs_trans h h')
theorem bs_antisymm {a b : BS} (h : a ≤ b) (h' : b ≤ a) : a = b := by
  rcases L51.tri a b with k | k | k
  · exact absurd k h'
  · exact k
  · exact absurd k h
theorem bs_le_of_lt {a b : BS} (h : a < b) : a ≤ b := fun h' => bs_irrefl _ (bs_trans h h')
theorem bs_lt_of_le_of_ne {a b : BS} (h : a ≤ b) (hn : a ≠ b) : a < b := bs_not_le.1 fun h' => hn (bs_antisymm h h')
theorem bs_le_trans {a b c : BS} (h : a ≤ b) (h' : b ≤ c) : a ≤ c := by
  intro k
  rcases L51.tri a b with e | e | e
  · exact h' (bs_trans k e)
  · subst e; exact h' k
  · exact h e
abbrev Asc (l : List BS) : Prop := l.Pairwise (· < ·)
theorem Asc.ext : ∀ {l m : List BS}, Asc l → Asc m → (∀ x, x ∈ l ↔ x ∈ m) → l = m
  | [], [], _, _, _ => rfl
  | [], b :: m, _, _, h => by have := (h b).2 (by simp); simp at this
  | a :: l, [], _, _, h => by have := (h a).1 (by simp); simp at this
  | a :: l, b :: m, hl, hm, h => by
    obtain ⟨h1, h2⟩ := List.pairwise_cons.1 hl
    obtain ⟨h3, h4⟩ := List.pairwise_cons.1 hm
    have hab : a = b := by
      rcases List.mem_cons.1 ((h a).1 (by simp)) with e | e
      · exact e
      · rcases List.mem_cons.1 ((h b).2 (by simp)) with e' | e'
        · exact e'.symm
        · exact absurd (bs_trans (h1 b e') (h3 a e)) (bs_irrefl a)
    subst hab
    congr 1
    refine Asc.ext h2 h4 fun x => ⟨fun hx => ?_, fun hx => ?_⟩
    · rcases List.mem_cons.1 ((h x).1 (by simp [hx])) with e | e
      · exact absurd (h1 x hx) (e ▸ bs_irrefl _)
      · exact e
    · rcases List.mem_cons.1 ((h x).2 (by simp [hx])) with e | e
      · exact absurd (h3 x hx) (e ▸ bs_irrefl _)
      · exact e
def ins (x : BS) : List BS → List BS
  | [] => [x]
  | y :: l => if x < y then x :: y :: l else if x = y then y :: l else y :: ins x l
def srt (l : List BS) : List BS := l.foldr ins []
theorem mem_ins {x z : BS} : ∀ {l : List BS}, z ∈ ins x l ↔ z = x ∨ z ∈ l
  | [] => by simp [ins]
  | y :: l => by
    unfold ins
    split
    · simp
    · split
      · rename_i h; subst h; simp
      · simp only [List.mem_cons, mem_ins (l := l)]
        constructor
        · rintro (h | h | h) <;> simp [h]
        · rintro (h | h | h) <;> simp [h]
theorem asc_ins {x : BS} : ∀ {l : List BS}, Asc l → Asc (ins x l)
  | [], _ => by simp [ins]
  | y :: l, h => by
    obtain ⟨h1, h2⟩ := List.pairwise_cons.1 h
    unfold ins
    split
    · rename_i hx
      refine List.pairwise_cons.2 ⟨fun z hz => ?_, h⟩
      rcases List.mem_cons.1 hz with rfl | hz
      · exact hx
      · exact bs_trans hx (h1 z hz)
    · split
      · exact h
      · rename_i hx hy
        refine List.pairwise_cons.2 ⟨fun z hz => ?_, asc_ins h2⟩
        rcases mem_ins.1 hz with rfl | hz
        · exact bs_lt_of_le_of_ne (bs_not_lt.1 hx) (fun e => hy e.symm)
        · exact h1 z hz
theorem asc_srt : ∀ l : List BS, Asc (srt l)
  | [] => .nil
  | x :: l => asc_ins (asc_srt l)
theorem mem_srt {z : BS} : ∀ {l : List BS}, z ∈ srt l ↔ z ∈ l
  | [] => by simp [srt]
  | x :: l => by
    show z ∈ ins x (srt l) ↔ _
    rw [mem_ins, mem_srt, List.mem_cons]
theorem srt_of_asc {l : List BS} (h : Asc l) : srt l = l := Asc.ext (asc_srt l) h fun _ => mem_srt
theorem length_ins_le (x : BS) : ∀ l : List BS, (ins x l).length ≤ l.length + 1
  | [] => by simp [ins]
  | y :: l => by
    unfold ins
    have := length_ins_le x l
    split
    · simp
    · split
      · simp
      · simp; omega
theorem srt_length_le : ∀ l : List BS, (srt l).length ≤ l.length
  | [] => by simp [srt]
  | x :: l => by
    have := length_ins_le x (srt l); have := srt_length_le l
    show (ins x (srt l)).length ≤ _
    simp; omega
def aboveB (out : List BS) (x : BS) : Bool := if out.length = 0 then true else decide ((out[out.length - 1]?.getD (S_api_Port.mk [] 0 0 [])) < x)
def Best (l out : List BS) (i : Nat) (v : Int) : Prop :=
  (v = -1 ∧ ∀ j (h : j < l.length), j < i → aboveB out l[j] = false) ∨ ∃ (b : Nat) (h : b < l.length), v = (b : Int) ∧ b < i ∧ aboveB out l[b] = true ∧ ∀ j (h : j < l.length), j < i → aboveB out l[j] = true → l[b] ≤ l[j]
theorem last_at {out : List BS} (h0 : out.length ≠ 0) (ho : out.length < 1000000) : (decide (0 ≤ (IntKind.wrap .i64 ((List.length out : Int) - 1)) ∧ (IntKind.wrap .i64 ((List.length out : Int) - 1)) < (List.length out : Int))) = true ∧ (out[Int.toNat (IntKind.wrap .i64 ((List.length out : Int) - 1))]?.getD (S_api_Port.mk [] 0 0 [])) = (out[out.length - 1]?.getD (S_api_Port.mk [] 0 0 [])) := by
  rw [wrap_p out.length (by omega) (by omega)]
  exact ⟨in_i (by omega), rfl⟩
theorem j3_eq (n : Nat) (l out : List BS) (i : Nat) (v : Int) (hi : i < l.length) (ho : out.length < 1000000) (hv : v = -1 ∨ ∃ b : Nat, v = (b : Int) ∧ b < l.length) :
    ref16_Sorted_j3 n l out v (i : Int) = some (if (aboveB out l[i] && (decide (v < 0) || decide (l[i] < (l[Int.toNat v]?.getD (S_api_Port.mk [] 0 0 []))))) = true then (i : Int) else v) := by
  have hA : (bif ((List.length out : Int) == 0) then true else (ref16_less (out[Int.toNat (IntKind.wrap .i64 ((List.length out : Int) - 1))]?.getD (S_api_Port.mk [] 0 0 [])) (l[Int.toNat (i : Int)]?.getD (S_api_Port.mk [] 0 0 [])))) = aboveB out l[i] := by
    unfold aboveB
    rw [less_dec, at_i hi]
    by_cases h0 : out.length = 0
    · simp [h0]
    · have e : ((List.length out : Int) == 0) = false := by rw [beq_eq_false_iff_ne]; omega
      rw [e, if_neg h0, (last_at h0 ho).2, cond_false]
  unfold ref16_Sorted_j3
  simp only [lett]
  rw [hA]
  have c2 : (!(((List.length out : Int) == 0) == false) || decide (0 ≤ (IntKind.wrap .i64 ((List.length out : Int) - 1)) ∧ (IntKind.wrap .i64 ((List.length out : Int) - 1)) < (List.length out : Int))) = true := by
    by_cases h0 : out.length = 0
    · simp [h0]
    · rw [(last_at h0 ho).1, Bool.or_true]
  have c4 : (!(((decide (v < 0)) == false) && (aboveB out l[i] == true)) || decide (0 ≤ v ∧ v < (List.length l : Int))) = true := by
    rcases hv with rfl | ⟨b, rfl, hb⟩
    · simp
    · rw [in_i hb, Bool.or_true]
  simp only [in_i hi, Bool.or_true, if_true, c2, c4, less_dec, at_i hi]
  cases aboveB out l[i] <;> cases decide (v < 0) <;> simp
  split <;> rfl
theorem best_step {l out : List BS} {i : Nat} {v : Int} (hi : i < l.length) (h : Best l out i v) : Best l out (i + 1) (if (aboveB out l[i] && (decide (v < 0) || decide (l[i] < (l[Int.toNat v]?.getD (S_api_Port.mk [] 0 0 []))))) = true then (i : Int) else v) := by
  cases ha : aboveB out l[i] with
  | false =>
    rw [Bool.false_and, if_neg Bool.false_ne_true]
    rcases h with ⟨rfl, h⟩ | ⟨b, hb, rfl, hbi, hab, h⟩
    · refine .inl ⟨rfl, fun j hj hji => ?_⟩
      by_cases e : j = i
      · subst e; exact ha
      · exact h j hj (by omega)
    · refine .inr ⟨b, hb, rfl, by omega, hab, fun j hj hji haj => ?_⟩
      by_cases e : j = i
      · subst e; rw [ha] at haj; cases haj
      · exact h j hj (by omega) haj
  | true =>
    rw [Bool.true_and]
    rcases h with ⟨rfl, h⟩ | ⟨b, hb, rfl, hbi, hab, h⟩
    · rw [if_pos (by simp)]
      refine .inr ⟨i, hi, rfl, by omega, ha, fun j hj hji haj => ?_⟩
      by_cases e : j = i
      · subst e; exact bs_not_lt.1 (bs_irrefl _)
      · rw [h j hj (by omega)] at haj; cases haj
    · have e0 : decide ((b : Int) < 0) = false := decide_eq_false (by omega)
      rw [e0, Bool.false_or, at_i hb]
      by_cases hlt : l[i] < l[b]
      · rw [if_pos (decide_eq_true hlt)]
        refine .inr ⟨i, hi, rfl, by omega, ha, fun j hj hji haj => ?_⟩
        by_cases e : j = i
        · subst e; exact bs_not_lt.1 (bs_irrefl _)
        · exact bs_le_trans (bs_le_of_lt hlt) (h j hj (by omega) haj)
      · rw [if_neg (by simpa using hlt)]
        refine .inr ⟨b, hb, rfl, by omega, hab, fun j hj hji haj => ?_⟩
        by_cases e : j = i
        · subst e; exact bs_not_lt.1 hlt
        · exact h j hj (by omega) haj
theorem l2_eq (n : Nat) (l out : List BS) (hl : l.length < 1000000) (ho : out.length < 1000000) : ∀ (k i : Nat) (v : Int), i ≤ l.length → l.length - i < k → Best l out i v → ∃ r, ref16_Sorted_l2 n l out k v (i : Int) = some r ∧ Best l out l.length r
  | 0, i, v, _, h, _ => by omega
  | k + 1, i, v, h1, h2, hb => by
    rw [ref16_Sorted_l2]
    by_cases h : i < l.length
    · have hv : v = -1 ∨ ∃ b : Nat, v = (b : Int) ∧ b < l.length := by
        rcases hb with ⟨e, _⟩ | ⟨b, hb, e, _⟩
        · exact .inl e
        · exact .inr ⟨b, e, hb⟩
      rw [if_pos (lt_i h), j3_eq n l out i v h ho hv, Option.bind_some, wrap_s i (by omega)]
      exact l2_eq n l out hl ho k (i + 1) _ (by omega) (by omega) (best_step h hb)
    · have : i = l.length := by omega
      subst this
      rw [if_neg (by rw [nlt_n]; exact Bool.false_ne_true)]
      exact ⟨v, rfl, hb⟩
theorem l1_eq (n : Nat) (l : List BS) (hl : l.length < 100000) (hn : 100000 ≤ n) : ∀ (k m : Nat), m ≤ (srt l).length → (srt l).length - m < k → ref16_Sorted_l1 n l k ((srt l).take m) = some (srt l)
  | 0, m, _, h => by omega
  | k + 1, m, h1, h2 => by
    have hlen := srt_length_le l
    have hA := asc_srt l
    have htl : ((srt l).take m).length = m := by rw [List.length_take]; omega
    have hab : ∀ x, aboveB ((srt l).take m) x = true ↔ (m = 0 ∨ ∃ h : m - 1 < (srt l).length, (srt l)[m - 1] < x) := by
      intro x
      unfold aboveB
      rw [htl]
      by_cases h0 : m = 0
      · simp [h0]
      · rw [if_neg h0, List.getElem?_take, if_pos (by omega), List.getElem?_eq_getElem (by omega)]
        simp [h0]
        constructor
        · exact fun h => ⟨by omega, h⟩
        · exact fun ⟨_, h⟩ => h
    obtain ⟨r, hr, hb⟩ := l2_eq n l ((srt l).take m) (by omega) (by omega) n 0 (-1) (by omega) (by omega) (.inl ⟨rfl, fun j _ h => by omega⟩)
    have hr : ref16_Sorted_l2 n l ((srt l).take m) n (-1) 0 = some r := hr
    rw [ref16_Sorted_l1, hr, Option.bind_some]
    rcases hb with ⟨rfl, hb⟩ | ⟨b, hbl, rfl, _, hcb, hb⟩
    · have hm : m = (srt l).length := by
        refine Classical.byContradiction fun hne => ?_
        have hmT : m < (srt l).length := by omega
        obtain ⟨j, hj, e⟩ := List.mem_iff_getElem.1 (mem_srt.1 (List.getElem_mem hmT))
        have := hb j hj hj
        rw [e] at this
        have h3 : aboveB ((srt l).take m) (srt l)[m] = true := by
          rw [hab]
          by_cases h0 : m = 0
          · exact .inl h0
          · exact .inr ⟨by omega, List.pairwise_iff_getElem.1 hA (m - 1) m (by omega) hmT (by omega)⟩
        rw [this] at h3; cases h3
      rw [if_pos (by decide)]
      subst hm
      rw [List.take_length]
    · obtain ⟨j, hj, e⟩ := List.mem_iff_getElem.1 (mem_srt.2 (List.getElem_mem hbl) : l[b] ∈ srt l)
      have hmj : m ≤ j := by
        rcases (hab _).1 hcb with h0 | ⟨h0, h3⟩
        · omega
        · refine Classical.byContradiction fun hne => ?_
          rw [← e] at h3
          by_cases hq : j = m - 1
          · subst hq; exact bs_irrefl _ h3
          · exact bs_irrefl _ (bs_trans h3 (List.pairwise_iff_getElem.1 hA j (m - 1) hj h0 (by omega)))
      have hmT : m < (srt l).length := by omega
      have hbm : l[b] = (srt l)[m] := by
        obtain ⟨j', hj', e'⟩ := List.mem_iff_getElem.1 (mem_srt.1 (List.getElem_mem hmT))
        have h3 : aboveB ((srt l).take m) (srt l)[m] = true := by
          rw [hab]
          by_cases h0 : m = 0
          · exact .inl h0
          · exact .inr ⟨by omega, List.pairwise_iff_getElem.1 hA (m - 1) m (by omega) hmT (by omega)⟩
        have h4 := hb j' hj' hj' (by rw [e']; exact h3)
        rw [e'] at h4
        refine bs_antisymm h4 ?_
        rw [← e]
        by_cases hq : j = m
        · subst hq; exact bs_not_lt.1 (bs_irrefl _)
        · exact bs_le_of_lt (List.pairwise_iff_getElem.1 hA m j hmT hj (by omega))
      have e0 : decide ((b : Int) < 0) = false := decide_eq_false (by omega)
      have hc : decide ((List.length ((srt l).take m) + List.length ([l[b]] : List BS)) * (48 + 1) ≤ limit) = true := decide_eq_true (by show _ * 49 ≤ 140737488355328; rw [htl]; simp; omega)
      rw [e0, if_neg Bool.false_ne_true, if_pos (in_i hbl), at_i hbl, if_pos hc, hbm, ← List.take_succ_eq_append_getElem hmT]
      exact l1_eq n l hl hn k (m + 1) (by omega) (by omega)
theorem rSorted_eq (n : Nat) (l : List BS) (hl : l.length < 10000) (hn : 100000 ≤ n) : ref16_Sorted n l = some (srt l) := by
  unfold ref16_Sorted
  have := l1_eq n l (by omega) hn n 0 (by omega) (by have := srt_length_le l; omega)
  rw [List.take_zero] at this
  rw [this]; rfl
theorem compact_up (zs : List BS) (hz : zs.Pairwise (· ≤ ·)) : ∀ m, m ≤ zs.length → Asc (Lib.compactUpTo zs.toArray m) ∧ ∀ x, x ∈ Lib.compactUpTo zs.toArray m ↔ x ∈ zs.take m
  | 0, _ => by simp [Lib.compactUpTo]
  | m + 1, hm => by
    obtain ⟨h1, h2⟩ := compact_up zs hz m (by omega)
    have hg : ∀ j (h : j < zs.length), zs.toArray[j]! = zs[j] := fun j h => by simp [h]
    have hle : ∀ j (h : j < zs.length), j < m → zs[j] ≤ zs[m] := fun j h hj => List.pairwise_iff_getElem.1 hz j m h (by omega) hj
    rw [Lib.compactUpTo_succ, List.take_succ_eq_append_getElem (by omega : m < zs.length)]
    by_cases hk : Lib.keeps zs.toArray m = true
    · rw [if_pos hk, hg m (by omega)]
      refine ⟨List.pairwise_append.2 ⟨h1, by simp, fun x hx y hy => ?_⟩, fun x => by rw [List.mem_append, List.mem_append, h2]⟩
      rw [List.mem_singleton.1 hy]
      obtain ⟨j, hj, rfl⟩ := List.mem_take_iff_getElem.1 ((h2 x).1 hx)
      have hjm : j < m := by omega
      refine bs_lt_of_le_of_ne (hle j (by omega) hjm) fun e => ?_
      have hk' : m = 0 ∨ zs.toArray[m]! ≠ zs.toArray[m - 1]! := by simpa [Lib.keeps] using hk
      rcases hk' with h0 | h0
      · omega
      · rw [hg m (by omega), hg (m - 1) (by omega)] at h0
        have a1 : zs[j] ≤ zs[m - 1] := by
          by_cases hq : j = m - 1
          · subst hq; exact bs_not_lt.1 (bs_irrefl _)
          · exact List.pairwise_iff_getElem.1 hz j (m - 1) (by omega) (by omega) (by omega)
        have a2 : zs[m - 1] ≤ zs[m] := hle (m - 1) (by omega) (by omega)
        exact h0 (bs_antisymm (e ▸ a1) a2)
    · rw [if_neg hk, List.append_nil]
      refine ⟨h1, fun x => ?_⟩
      have hk' : ¬ (m = 0 ∨ zs.toArray[m]! ≠ zs.toArray[m - 1]!) := by simpa [Lib.keeps] using hk
      have hm0 : m ≠ 0 := fun e => hk' (.inl e)
      have he : zs[m] = zs[m - 1] := by
        have : zs.toArray[m]! = zs.toArray[m - 1]! := Classical.byContradiction fun h => hk' (.inr h)
        rwa [hg m (by omega), hg (m - 1) (by omega)] at this
      rw [h2, List.mem_append, List.mem_singleton]
      constructor
      · exact fun h => .inl h
      · rintro (h | h)
        · exact h
        · rw [h, he]
          exact List.mem_take_iff_getElem.2 ⟨m - 1, by omega, rfl⟩
theorem vSorted (l : List BS) : compactL (sortBy cf51 l) = srt l := by
  have hs : (sortBy cf51 l).Pairwise (· ≤ ·) := by
    have := List.pairwise_mergeSort (le := fun x y : BS => !(Go.Proofs.ltOf cf51 y x)) (fun a b c h1 h2 => by
      simp only [Bool.not_eq_true', ltF51] at *
      exact bs_le_trans (a := a) (b := b) (c := c) h1 h2) (fun a b => by
      rcases bs_total a b with h | h
      · have h : ¬ L51 b a := h
        simp [(ltF51 b a).2 h]
      · have h : ¬ L51 a b := h
        simp [(ltF51 a b).2 h]) l
    exact this.imp fun {a b} h => by
      have : Go.Proofs.ltOf cf51 b a = false := by simpa using h
      exact (ltF51 b a).1 this
  have h := compact_up (sortBy cf51 l) hs (sortBy cf51 l).length (Nat.le_refl _)
  have e : compactL (sortBy cf51 l) = Lib.compactUpTo (sortBy cf51 l).toArray (sortBy cf51 l).length := by unfold compactL; simp
  rw [e]
  refine Asc.ext h.1 (asc_srt l) fun x => ?_
  rw [h.2, List.take_length, mem_srt]
  unfold sortBy
  exact List.mem_mergeSort
end PO
end Go.Proofs.YtonjhkefnijlhaaDoor.M
