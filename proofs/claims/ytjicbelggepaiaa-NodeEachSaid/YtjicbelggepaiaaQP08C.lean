/-
  Part of the proof of NodeEach: P08C.
-/
import Derived.Test.YtjicbelggepaiaaQP08B
set_option linter.all false
namespace Go.Proofs.Ytjicbelggepaiaa.M
open Go Go.Proofs.Ytjicbelggepaiaa.RX Go.Proofs.Ytjicbelggepaiaa.PL
set_option maxRecDepth 100000
def sm8 : Nat → Nd → Nd → Bool
  | 0, _, _ => true
  | d + 1, a, b => (a.f_Kind == b.f_Kind) && (a.f_Text == b.f_Text) && decide (a.f_Keys = b.f_Keys) && decide (a.f_Kids.length = b.f_Kids.length) && (a.f_Kids.zip b.f_Kids).all fun p => sm8 d p.1 p.2
theorem zip_self {α : Type} : ∀ l : List α, ∀ p ∈ l.zip l, p.1 = p.2
  | [], p, h => by cases h
  | x :: l, p, h => by
    rw [List.zip_cons_cons] at h
    rcases List.mem_cons.1 h with rfl | h
    · rfl
    · exact zip_self l p h
theorem sm_refl : ∀ (d : Nat) (t : Nd), sm8 d t t = true
  | 0, _ => rfl
  | d + 1, t => by
    unfold sm8
    simp only [beq_self_eq_true, decide_true, Bool.and_self, Bool.true_and]
    exact List.all_eq_true.2 fun p hp => by
      have := zip_self _ p hp
      show sm8 d p.1 p.2 = true
      rw [this]; exact sm_refl d _
theorem pair_l {α : Type} {L : Nat → Int → Option (Sum Unit Bool)} (l m : List α) (f : α → α → Bool) (hlm : l.length = m.length) (hl : l.length < 10000)
    (hs : ∀ k i (h : i < l.length) (h' : i < m.length), L (k + 1) (i : Int) = if (!(f l[i] m[i])) = true then some (.inr false) else L k (IntKind.wrap .i64 ((i : Int) + 1)))
    (he : ∀ k, L (k + 1) (l.length : Int) = some (.inl ())) : ∀ k i, i ≤ l.length → l.length - i < k → L k (i : Int) = some (if ((l.drop i).zip (m.drop i)).all (fun p => f p.1 p.2) = true then .inl () else .inr false)
  | 0, i, _, h => by omega
  | k + 1, i, h1, h2 => by
    by_cases h : i < l.length
    · have h' : i < m.length := by omega
      rw [hs k i h h', drop_at h, drop_at h', List.zip_cons_cons, List.all_cons]
      cases hf : f l[i] m[i] with
      | true =>
        simp only [Bool.not_true, Bool.false_eq_true, if_false, Bool.true_and, hf]
        rw [wrap_s i (by omega)]
        exact pair_l l m f hlm hl hs he k (i + 1) (by omega) (by omega)
      | false => simp [hf]
    · have : i = l.length := by omega
      subst this
      rw [he, List.drop_eq_nil_of_le (Nat.le_refl _)]; simp
theorem equal_eq (n : Nat) (l m : List BS) (hl : l.length < 10000) (hn : 100000 ≤ n) : slices_Equal_string_string n l m = some (decide (l = m)) := by
  unfold slices_Equal_string_string
  by_cases hlm : l.length = m.length
  · have e : ((List.length l : Int) != (List.length m : Int)) = false := by simp [hlm]
    have := same_l (L := slices_Equal_string_string_l1 n l m (List.length l : Int)) l m hlm hl
      (fun k i h h' => by rw [slices_Equal_string_string_l1, if_pos (lt_i h), if_pos (in_i h), if_pos (in_i h'), at_i h, at_i h'])
      (fun k => by rw [slices_Equal_string_string_l1, nlt_n]; rfl) n 0 (by omega) (by omega)
    rw [e, if_neg Bool.false_ne_true, show (0 : Int) = ((0 : Nat) : Int) from rfl, this, List.drop_zero, List.drop_zero]
    by_cases h : l = m
    · rw [if_pos h, decide_eq_true h]; rfl
    · rw [if_neg h, decide_eq_false h]; rfl
  · have e : ((List.length l : Int) != (List.length m : Int)) = true := by simpa using fun h => hlm (by omega)
    rw [e, if_pos rfl, decide_eq_false (fun h => hlm (congrArg List.length h))]
theorem lne {α β : Type} (l : List α) (m : List β) : ((List.length l : Int) != (List.length m : Int)) = !decide (l.length = m.length) := by
  by_cases h : l.length = m.length
  · simp [h]
  · rw [decide_eq_false h, Bool.not_false, bne_iff_ne]; omega
theorem node_Same_eq : ∀ (d n : Nat) (a b : Nd), Fit d a → Fit d b → 100000 + d < n → node_Same n a b = some (sm8 d a b)
  | _, 0, _, _, _, _, h => by omega
  | 0, n + 1, _, _, h, _, _ => h.elim
  | d + 1, n + 1, a, b, hA, hB, hn => by
    obtain ⟨a1, a2, _, _, _, _, _, a8⟩ := hA
    obtain ⟨b1, b2, _, _, _, _, _, b8⟩ := hB
    show node_Same_b (node_Same n) n a b = _
    unfold node_Same_b sm8
    simp only [lett, bif_and, bif_or]
    cases e1 : (a.f_Kind == b.f_Kind && a.f_Text == b.f_Text) with
    | false => simp only [Bool.false_and, show ((false : Bool) == true) = false from rfl, Bool.false_eq_true, if_false, Option.bind_some]
    | true =>
      rw [if_pos (by rfl), equal_eq n _ _ (by omega) (by omega), Option.bind_some]
      cases e2 : decide (a.f_Keys = b.f_Keys) with
      | false => simp only [Bool.false_and, Bool.and_false, show ((false : Bool) == true) = false from rfl, Bool.false_eq_true, if_false, Option.bind_some]
      | true =>
        rw [if_pos (by rfl)]
        unfold slices_EqualFunc_api_Node_api_Node_api_Node_api_Node__node_Same
        rw [lne]
        cases e3 : decide (a.f_Kids.length = b.f_Kids.length) with
        | false => rfl
        | true =>
          have hlm := of_decide_eq_true e3
          have := pair_l (L := slices_EqualFunc_api_Node_api_Node_api_Node_api_Node__node_Same_l1 (node_Same n) n b.f_Kids a.f_Kids (List.length a.f_Kids : Int)) a.f_Kids b.f_Kids (sm8 d) hlm (by omega)
            (fun k i h h' => by
              rw [slices_EqualFunc_api_Node_api_Node_api_Node_api_Node__node_Same_l1, if_pos (lt_i h), if_pos (in_i h), if_pos (in_i h'), kid8 h, kid8 h', node_Same_eq d n _ _ (a8 _ (List.getElem_mem h)) (b8 _ (List.getElem_mem h')) (by omega)]; rfl)
            (fun k => by rw [slices_EqualFunc_api_Node_api_Node_api_Node_api_Node__node_Same_l1, nlt_n]; rfl) n 0 (by omega) (by omega)
          rw [List.drop_zero, List.drop_zero] at this
          have this : slices_EqualFunc_api_Node_api_Node_api_Node_api_Node__node_Same_l1 (node_Same n) n b.f_Kids a.f_Kids (List.length a.f_Kids : Int) n 0 = _ := this
          rw [this]
          cases (a.f_Kids.zip b.f_Kids).all (fun p => sm8 d p.1 p.2) <;> rfl
theorem ref08_Same_eq : ∀ (d n : Nat) (a b : Nd), Fit d a → Fit d b → 100000 + d < n → ref08_Same n a b = some (sm8 d a b)
  | _, 0, _, _, _, _, h => by omega
  | 0, n + 1, _, _, h, _, _ => h.elim
  | d + 1, n + 1, a, b, hA, hB, hn => by
    obtain ⟨a1, a2, _, _, _, _, _, a8⟩ := hA
    obtain ⟨b1, b2, _, _, _, _, _, b8⟩ := hB
    show ref08_Same_b (ref08_Same n) n a b = _
    unfold ref08_Same_b sm8
    have e0 : (a.f_Kind != b.f_Kind || !(a.f_Text == b.f_Text)) = !(a.f_Kind == b.f_Kind && a.f_Text == b.f_Text) := by
      rw [bne]; cases a.f_Kind == b.f_Kind <;> cases a.f_Text == b.f_Text <;> rfl
    simp only [lett, bif_and, bif_or, e0]
    cases e1 : (a.f_Kind == b.f_Kind && a.f_Text == b.f_Text) with
    | false => simp only [Bool.not_false, Bool.true_or, show ((true : Bool) == false) = false from rfl, Bool.false_eq_true, if_false, Option.bind_some, if_true, Bool.false_and]
    | true =>
      rw [if_pos (by rfl), ref02_Same_eq n _ _ (by omega) (by omega), Option.bind_some, lne]
      cases e2 : decide (a.f_Keys = b.f_Keys) with
      | false => rfl
      | true =>
        cases e3 : decide (a.f_Kids.length = b.f_Kids.length) with
        | false => rfl
        | true =>
          have hlm := of_decide_eq_true e3
          have := pair_l (L := ref08_Same_l1 (ref08_Same n) n a b) a.f_Kids b.f_Kids (sm8 d) hlm (by omega)
            (fun k i h h' => by
              rw [ref08_Same_l1, if_pos (lt_i h), if_pos (in_i h), if_pos (in_i h'), kid8 h, kid8 h', ref08_Same_eq d n _ _ (a8 _ (List.getElem_mem h)) (b8 _ (List.getElem_mem h')) (by omega)]; rfl)
            (fun k => by rw [ref08_Same_l1, nlt_n]; rfl) n 0 (by omega) (by omega)
          rw [List.drop_zero, List.drop_zero] at this
          have this : ref08_Same_l1 (ref08_Same n) n a b n 0 = _ := this
          rw [this]
          cases (a.f_Kids.zip b.f_Kids).all (fun p => sm8 d p.1 p.2) <;> rfl
def cn8 : Nat → Nd → Int
  | 0, _ => 0
  | d + 1, t => t.f_Kids.foldl (fun acc x => IntKind.wrap .i64 (acc + cn8 d x)) 1
theorem ref08_Count_eq : ∀ (d n : Nat) (t : Nd), Fit d t → 100000 + d < n → ref08_Count n t = some (cn8 d t)
  | _, 0, _, _, h => by omega
  | 0, n + 1, _, h, _ => h.elim
  | d + 1, n + 1, t, hF, hn => by
    obtain ⟨a1, a2, _, _, _, _, _, a8⟩ := hF
    show ref08_Count_b (ref08_Count n) n t = _
    unfold ref08_Count_b cn8
    have := gather (L := fun k s i => ref08_Count_l1 (ref08_Count n) n t k s i) t.f_Kids (fun acc x => IntKind.wrap .i64 (acc + cn8 d x)) (fun s => s) (fun _ _ => True) (by omega)
      (fun k s i h _ => by
        show ref08_Count_l1 _ _ _ _ _ _ = _
        rw [ref08_Count_l1, if_pos (lt_i h), if_pos (in_i h), kid8 h, ref08_Count_eq d n _ (a8 _ (List.getElem_mem h)) (by omega)]; rfl)
      (fun _ _ _ _ => trivial) (fun k s _ => by show ref08_Count_l1 _ _ _ _ _ _ = _; rw [ref08_Count_l1, nlt_n]; rfl) n 0 1 (by omega) (by omega) trivial
    have h0 : ref08_Count_l1 (ref08_Count n) n t n 1 0 = _ := this.1
    rw [h0]; rfl
end Go.Proofs.Ytjicbelggepaiaa.M
