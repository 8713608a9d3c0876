/-
  Part of the proof of StoreHolds: P33H.
-/
import Derived.Test.YtaecmkldkljioaaQP33
import Derived.Test.YtaecmkldkljioaaQP33N
set_option linter.all false
namespace Go.Proofs.Ytaecmkldkljioaa.M
open Go Go.Proofs.Ytaecmkldkljioaa.RX Go.Proofs.Ytaecmkldkljioaa.PL
set_option maxRecDepth 100000
theorem findSome_any {α : Type} (p : α → Bool) : ∀ l : List α, l.findSome? (fun x => if p x = true then some true else none) = if l.any p = true then some true else none
  | [] => rfl
  | x :: l => by rw [List.findSome?_cons, List.any_cons, findSome_any p l]; cases p x <;> simp
theorem any_beq (s : BS) : ∀ l : List BS, l.any (fun x => x == s) = l.contains s
  | [] => rfl
  | x :: l => by
    rw [List.any_cons, List.contains_cons, any_beq s l]
    congr 1
    rw [Bool.eq_iff_iff, beq_iff_eq, beq_iff_eq]; exact eq_comm
theorem ref02_In_eq (n : Nat) (l : List BS) (s : BS) (hl : l.length < 10000) (hn : 100000 ≤ n) : ref02_In n l s = some (l.contains s) := by
  unfold ref02_In
  have := scanL (L := ref02_In_l1 n l s) l (fun x => if (x == s) = true then some true else none) 0 (by omega)
    (fun k i h _ => by
      rw [ref02_In_l1, if_pos (lt_i h), if_pos (in_i h), at_i h]
      cases l[i] == s <;> rfl)
    (fun k => by rw [ref02_In_l1, nlt_n]; rfl) n 0 (by omega) (by omega) (by omega)
  rw [show (0 : Int) = ((0 : Nat) : Int) from rfl, this, List.drop_zero, findSome_any, any_beq]
  cases l.contains s <;> rfl
def less (a b : List BS) : List BS := (srt a).filter fun x => !b.contains x
theorem ref02_Without_eq (n : Nat) (a b : List BS) (ha : a.length < 1000) (hb : b.length < 1000) (hn : 100000 ≤ n) : ref02_Without n a b = some (less a b) := by
  unfold ref02_Without
  have hl := srt_length_le a
  have := (gather (L := ref02_Without_l1 n b (srt a)) (srt a) (fun acc x => if (!b.contains x) = true then acc ++ [x] else acc) id (fun i s => s.length ≤ i) (by omega)
    (fun k s i h hs => by
      rw [ref02_Without_l1, if_pos (lt_i h), ref02_Without_j2, if_pos (in_i h), at_i h, ref02_In_eq n b _ (by omega) hn, Option.bind_some, if_pos (in_i h), if_pos (cap_add (by simp; omega))]
      cases b.contains (srt a)[i] <;> rfl)
    (fun s i h hs => by split <;> (try simp only [List.length_append, List.length_cons, List.length_nil]) <;> omega) (fun k s _ => by rw [ref02_Without_l1, nlt_n]; rfl) n 0 [] (by omega) (by omega) (by simp)).1
  rw [List.drop_zero, foldl_filter] at this
  rw [ref02_Sorted_eq n _ (by omega) hn, Option.bind_some, show (0 : Int) = ((0 : Nat) : Int) from rfl, this]; rfl
theorem eq_drop {l m : List BS} {i : Nat} (h1 : i < l.length) (h2 : i < m.length) : (l.drop i = m.drop i) ↔ l[i] = m[i] ∧ l.drop (i + 1) = m.drop (i + 1) := by
  rw [drop_at h1, drop_at h2, List.cons.injEq]
theorem same_l {L : Nat → Int → Option (Sum Unit Bool)} (l m : List BS) (hlm : l.length = m.length) (hl : l.length < 10000)
    (hs : ∀ k i (h : i < l.length) (h' : i < m.length), L (k + 1) (i : Int) = if (!(l[i] == m[i])) = true then some (.inr false) else L k (IntKind.wrap .i64 ((i : Int) + 1)))
    (he : ∀ k, L (k + 1) (l.length : Int) = some (.inl ())) : ∀ k i, i ≤ l.length → l.length - i < k → L k (i : Int) = some (if l.drop i = m.drop i then .inl () else .inr false)
  | 0, i, _, h => by omega
  | k + 1, i, h1, h2 => by
    by_cases h : i < l.length
    · have h' : i < m.length := by omega
      rw [hs k i h h']
      simp only [eq_drop h h']
      by_cases e : l[i] = m[i]
      · simp only [e, beq_self_eq_true, Bool.not_true, Bool.false_eq_true, if_false, true_and]
        rw [wrap_s i (by omega)]
        exact same_l l m hlm hl hs he k (i + 1) (by omega) (by omega)
      · simp [e]
    · have : i = l.length := by omega
      subst this
      rw [he, List.drop_eq_nil_of_le (Nat.le_refl _), List.drop_eq_nil_of_le (by omega), if_pos rfl]
theorem ref02_Same_eq (n : Nat) (l m : List BS) (hl : l.length < 10000) (hn : 100000 ≤ n) : ref02_Same n l m = some (decide (l = m)) := by
  unfold ref02_Same
  by_cases hlm : l.length = m.length
  · have e : ((List.length l : Int) != (List.length m : Int)) = false := by simp [hlm]
    have := same_l (L := ref02_Same_l1 n l m) l m hlm hl
      (fun k i h h' => by rw [ref02_Same_l1, if_pos (lt_i h), if_pos (in_i h), if_pos (in_i h'), at_i h, at_i h'])
      (fun k => by rw [ref02_Same_l1, nlt_n]; rfl) n 0 (by omega) (by omega)
    rw [e, if_neg Bool.false_ne_true, show (0 : Int) = ((0 : Nat) : Int) from rfl, this, List.drop_zero, List.drop_zero]
    by_cases h : l = m
    · rw [if_pos h, decide_eq_true h]; rfl
    · rw [if_neg h, decide_eq_false h]; rfl
  · have e : ((List.length l : Int) != (List.length m : Int)) = true := by simpa using fun h => hlm (by omega)
    rw [e, if_pos rfl, decide_eq_false (fun h => hlm (congrArg List.length h))]
theorem alike_refl (n : Nat) (s : S_api_Spec) (h1 : s.f_Nets.length ≤ 1000) (h2 : s.f_Vols.length ≤ 1000) (hn : 100000 ≤ n) : ref27_Alike n s s = some true := by
  unfold ref27_Alike
  rw [ref02_Same_eq n _ _ (by omega) hn, Option.bind_some]
  simp only [decide_true, Bool.not_true, beq_self_eq_true, if_true]
  rw [ref02_Same_eq n _ _ (by omega) hn, Option.bind_some]
  simp [lett]
theorem findSome_no {α ρ : Type} : ∀ l : List α, l.findSome? (fun _ => (none : Option ρ)) = none
  | [] => rfl
  | _ :: l => by rw [List.findSome?_cons]; exact findSome_no l
theorem sameBoxes_refl (n : Nat) (l : List S_api_Container) (hl : l.length ≤ 1000) (h : ∀ c ∈ l, c.f_Spec.f_Nets.length ≤ 1000 ∧ c.f_Spec.f_Vols.length ≤ 1000) (hn : 100000 ≤ n) : law33_SameBoxes n l l = some true := by
  unfold law33_SameBoxes
  rw [if_neg (by simp)]
  have := scanL (L := law33_SameBoxes_l1 n l l) l (fun _ => none) 0 (by omega)
    (fun k i hi _ => by
      have hc := h _ (List.getElem_mem hi)
      rw [law33_SameBoxes_l1, if_pos (lt_i hi), if_pos (in_i hi), if_pos (in_i hi), at_i hi]
      simp only [bne_self_eq_false, cond_false, beq_self_eq_true, if_true]
      rw [alike_refl n _ hc.1 hc.2 hn]
      simp [lett])
    (fun k => by rw [law33_SameBoxes_l1, nlt_n]; rfl) n 0 (by omega) (by omega) (by omega)
  have this : law33_SameBoxes_l1 n l l n 0 = _ := this
  rw [this, List.drop_zero, findSome_no]; rfl
theorem sameKept_refl (n : Nat) (l : List S_api_Kept) (hl : l.length ≤ 1000) (hn : 100000 ≤ n) : ref33_SameKept n l l = some true := by
  unfold ref33_SameKept
  rw [if_neg (by simp)]
  have := scanL (L := ref33_SameKept_l1 n l l) l (fun _ => none) 0 (by omega)
    (fun k i hi _ => by
      rw [ref33_SameKept_l1, if_pos (lt_i hi), if_pos (in_i hi), if_pos (in_i hi), at_i hi]
      simp [lett])
    (fun k => by rw [ref33_SameKept_l1, nlt_n]; rfl) n 0 (by omega) (by omega) (by omega)
  have this : ref33_SameKept_l1 n l l n 0 = _ := this
  rw [this, List.drop_zero, findSome_no]; rfl
theorem seenB_few {k : Nat} {p : PS} (h : Inv k p) : ∀ c ∈ p.bs.map seenB, c.f_Spec.f_Nets.length ≤ 1000 ∧ c.f_Spec.f_Vols.length ≤ 1000 := by
  intro c hc
  obtain ⟨b, h1, rfl⟩ := List.mem_map.1 hc
  have := h.few b h1
  show b.f_Spec.f_Nets.length ≤ 1000 ∧ b.f_Spec.f_Vols.length ≤ 1000
  omega
def fewC (c : S_api_Call) : Bool := (bif (bif (bif (decide ((List.length c.f_Spec.f_Nets : Int) > 10)) then true else (decide ((List.length c.f_Spec.f_Vols : Int) > 10))) then true else (decide ((List.length c.f_Spec.f_Name : Int) > 200))) then true else (decide ((List.length c.f_Name : Int) > 200)))
theorem findSome_any2 {α ρ : Type} (p : α → Bool) (r : ρ) : ∀ l : List α, l.findSome? (fun x => if p x = true then some r else none) = if l.any p = true then some r else none
  | [] => rfl
  | x :: l => by
    rw [List.findSome?_cons, List.any_cons, findSome_any2 p r l]
    cases p x <;> simp
theorem few33 (n : Nat) (l : List S_api_Call) (m : Nat) (hm : m ≤ 1000) (hn : 100000 ≤ n) : law33_Few n l (m : Int) = some (decide (l.length ≤ m) && !l.any fewC) := by
  unfold law33_Few
  by_cases h : (l.length : Int) > (m : Int)
  · rw [if_pos (decide_eq_true h), decide_eq_false (by omega)]; rfl
  · rw [if_neg (by simpa using h), decide_eq_true (by omega)]
    have := scanL (L := law33_Few_l1 n l) l (fun x => if fewC x = true then some false else none) 0 (by omega)
      (fun k i h _ => by
        rw [law33_Few_l1, if_pos (lt_i h), if_pos (in_i h), at_i h, if_pos (by rw [in_i h]; simp), if_pos (by rw [in_i h]; simp), if_pos (by rw [in_i h]; simp)]
        simp only [lett]
        unfold fewC
        split <;> rfl)
      (fun k => by rw [law33_Few_l1, nlt_n]; rfl) n 0 (by omega) (by omega) (by omega)
    have this : law33_Few_l1 n l n 0 = _ := this
    rw [this, List.drop_zero, findSome_any2]
    cases l.any fewC <;> rfl
theorem fewC_few {c : S_api_Call} (h : fewC c = false) : c.f_Spec.f_Nets.length ≤ 10 ∧ c.f_Spec.f_Vols.length ≤ 10 := by
  unfold fewC at h
  simp only [Bool.cond_true_left, Bool.or_eq_false_iff, decide_eq_false_iff_not] at h
  omega
theorem l4_eq (n : Nat) (v0 : List S_api_Call) (v4 v5 : Int) (v11 : List S_api_Container) (v12 v14 : List BS) {k : Nat} {p : PS} (h : Inv k p) (hn : 100000 ≤ n) :
    law33_StoreHolds_l4 n v0 v4 v5 v11 v12 v14 n [] 0 p.toS = some (srt (nms p.ns), p.toS) := by
  have hl := listP_len p.ns
  have h32 := h.nets
  have := gather (L := fun k s i => law33_StoreHolds_l4 n v0 v4 v5 v11 v12 v14 k s i p.toS) (listP p.ns) (fun acc x => acc ++ [x.f_Name]) (fun s => (s, p.toS)) (fun i s => s.length = i) (by omega)
    (fun k s i hi hs => by
      show law33_StoreHolds_l4 n v0 v4 v5 v11 v12 v14 (k + 1) s (i : Int) p.toS = _
      rw [law33_StoreHolds_l4, Nets_eq n h hn, Option.bind_some]
      dsimp only
      rw [if_pos (lt_i hi), Nets_eq n h hn, Option.bind_some]
      dsimp only
      rw [if_pos (in_i hi), at_i hi, if_pos (cap_add (by simp only [List.length_cons, List.length_nil]; omega))])
    (fun s i h hi => by simp [hi])
    (fun k s hi => by
      show law33_StoreHolds_l4 n v0 v4 v5 v11 v12 v14 (k + 1) s (List.length (listP p.ns) : Int) p.toS = _
      rw [law33_StoreHolds_l4, Nets_eq n h hn, Option.bind_some]
      dsimp only
      rw [nlt_n]; rfl) n 0 [] (by omega) (by omega) rfl
  have this : law33_StoreHolds_l4 n v0 v4 v5 v11 v12 v14 n [] 0 p.toS = _ := this.1
  rw [this, List.drop_zero, foldl_app (fun x : S_api_Kept => [x.f_Name]), List.nil_append, ← List.map_eq_flatMap, listP_names]
theorem l5_eq (n : Nat) (v0 : List S_api_Call) (v4 v5 : Int) (v11 : List S_api_Container) (v12 v13 : List BS) {k : Nat} {p : PS} (h : Inv k p) (hn : 100000 ≤ n) :
    law33_StoreHolds_l5 n v0 v4 v5 v11 v12 v13 n [] 0 p.toS = some (srt (nms p.vs), p.toS) := by
  have hl := listP_len p.vs
  have h32 := h.vols
  have := gather (L := fun k s i => law33_StoreHolds_l5 n v0 v4 v5 v11 v12 v13 k s i p.toS) (listP p.vs) (fun acc x => acc ++ [x.f_Name]) (fun s => (s, p.toS)) (fun i s => s.length = i) (by omega)
    (fun k s i hi hs => by
      show law33_StoreHolds_l5 n v0 v4 v5 v11 v12 v13 (k + 1) s (i : Int) p.toS = _
      rw [law33_StoreHolds_l5, Vols_eq n h hn, Option.bind_some]
      dsimp only
      rw [if_pos (lt_i hi), Vols_eq n h hn, Option.bind_some]
      dsimp only
      rw [if_pos (in_i hi), at_i hi, if_pos (cap_add (by simp only [List.length_cons, List.length_nil]; omega))])
    (fun s i h hi => by simp [hi])
    (fun k s hi => by
      show law33_StoreHolds_l5 n v0 v4 v5 v11 v12 v13 (k + 1) s (List.length (listP p.vs) : Int) p.toS = _
      rw [law33_StoreHolds_l5, Vols_eq n h hn, Option.bind_some]
      dsimp only
      rw [nlt_n]; rfl) n 0 [] (by omega) (by omega) rfl
  have this : law33_StoreHolds_l5 n v0 v4 v5 v11 v12 v13 n [] 0 p.toS = _ := this.1
  rw [this, List.drop_zero, foldl_app (fun x : S_api_Kept => [x.f_Name]), List.nil_append, ← List.map_eq_flatMap, listP_names]
theorem less_nil {a b : List BS} (h : ∀ s ∈ a, s ∈ b) : less a b = [] := by
  unfold less
  rw [List.filter_eq_nil_iff]
  intro s hs
  simp [h s (mem_srt.1 hs)]
theorem nodup_take {l : List BS} (h : l.Nodup) {i : Nat} (hi : i < l.length) : (l.take i).contains l[i] = false := by
  rw [← Bool.not_eq_true, List.contains_iff_mem]
  intro hm
  have e : l = l.take i ++ l[i] :: l.drop (i + 1) := by rw [← drop_at hi, List.take_append_drop]
  rw [e, List.nodup_append] at h
  have := h.2.2
  exact this _ hm _ List.mem_cons_self rfl
theorem l6_eq (n : Nat) (v0 : List S_api_Call) (v5 : Int) {k : Nat} {p : PS} (h : Inv k p) (s0 : S_store_Store) (hn : 100000 ≤ n) :
    law33_StoreHolds_l6 n v0 p.last v5 (p.bs.map seenB) (srt (nms p.ns)) (srt (nms p.vs)) s0 n [] 0 = some (.inl ()) := by
  have h64 := h.boxes
  have h32 := h.nets
  have hv32 := h.vols
  have l1 := srt_length_le (nms p.ns)
  have l2 := srt_length_le (nms p.vs)
  have e1 : (nms p.ns).length = p.ns.length := by simp [nms]
  have e2 : (nms p.vs).length = p.vs.length := by simp [nms]
  have := gather (L := fun k s i => law33_StoreHolds_l6 n v0 p.last v5 (p.bs.map seenB) (srt (nms p.ns)) (srt (nms p.vs)) s0 k s i) p.bs (fun acc b => acc ++ [b.f_Spec.f_Name]) (fun _ => .inl ()) (fun i s => s = (p.bs.map (·.f_Spec.f_Name)).take i) (by omega)
    (fun k s i hi hs => by
      have hi' : i < (p.bs.map seenB).length := by simpa using hi
      show law33_StoreHolds_l6 n v0 p.last v5 (p.bs.map seenB) (srt (nms p.ns)) (srt (nms p.vs)) s0 (k + 1) s (i : Int) = _
      have hm := List.getElem_mem hi
      have hf := h.few _ hm
      have hid := h.ids _ hm
      have hget : ((p.bs.map seenB)[Int.toNat (i : Int)]?.getD Z_api_Container) = seenB p.bs[i] := by rw [at_i hi']; simp
      have hnod : s.contains p.bs[i].f_Spec.f_Name = false := by
        rw [hs]
        have := nodup_take h.bnod (i := i) (by simpa using hi)
        simpa using this
      have hlen : s.length ≤ i := by rw [hs]; simp; omega
      rw [law33_StoreHolds_l6, if_pos (lt_i hi'), if_pos (in_i hi'), hget]
      show ((ref02_Without n p.bs[i].f_Spec.f_Nets (srt (nms p.ns))).bind _) = _
      rw [ref02_Without_eq n _ _ (by omega) (by omega) hn, less_nil (fun x hx => mem_srt.2 (h.nin _ hm x hx)), Option.bind_some, if_pos (by rw [in_i hi']; simp)]
      rw [if_pos (by rfl), show (seenB p.bs[i]).f_Spec = p.bs[i].f_Spec from rfl, ref02_Without_eq n _ _ (by omega) (by omega) hn, less_nil (fun x hx => mem_srt.2 (h.vin _ hm x hx)), Option.bind_some, if_pos (by rw [in_i hi']; simp)]
      rw [if_pos (by rfl), ref02_In_eq n _ _ (by omega) hn, hnod, Option.bind_some, if_pos (by rw [in_i hi']; simp)]
      simp only [lett]
      rw [if_neg (by
        show ¬ (bif (bif (bif (decide ((0 : Int) > 0)) then true else (decide ((0 : Int) > 0))) then true else false) then true else decide ((seenB p.bs[i]).f_Id > p.last)) = true
        have : ¬ (seenB p.bs[i]).f_Id > p.last := by show ¬ p.bs[i].f_Id > p.last; omega
        rw [decide_eq_false this]; decide), if_pos (in_i hi'), if_pos (cap_add (by simp only [List.length_cons, List.length_nil]; omega))])
    (fun s i hi hs => by
      rw [hs, List.take_succ_eq_append_getElem (by simpa using hi)]; simp)
    (fun k s hi => by
      show law33_StoreHolds_l6 n v0 p.last v5 (p.bs.map seenB) (srt (nms p.ns)) (srt (nms p.vs)) s0 (k + 1) s (List.length p.bs : Int) = _
      rw [law33_StoreHolds_l6, List.length_map, nlt_n]; rfl) n 0 [] (by omega) (by omega) (by simp)
  exact this.1
theorem tail33 (n : Nat) (v0 : List S_api_Call) (v5 : Int) {k : Nat} {p : PS} (h : Inv k p) (hn : 100000 ≤ n) :
    ((law33_StoreHolds_l4 n v0 p.last v5 (p.bs.map seenB) [] [] n [] 0 p.toS).bind fun o16 =>
      (law33_StoreHolds_l5 n v0 p.last v5 (p.bs.map seenB) [] o16.1 n [] 0 o16.2).bind fun o17 =>
      (law33_StoreHolds_l6 n v0 p.last v5 (p.bs.map seenB) o16.1 o17.1 o17.2 n [] 0).bind fun o18 =>
      (Sum.elim (fun _ => some (.inl (p.last, o17.2))) (fun o18 => some (.inr o18))) o18 : Option (Sum (Int × S_store_Store) Bool)) = some (.inl (p.last, p.toS)) := by
  rw [l4_eq n v0 _ v5 _ _ _ h hn, Option.bind_some]
  dsimp only
  rw [l5_eq n v0 _ v5 _ _ _ h hn, Option.bind_some]
  dsimp only
  rw [l6_eq n v0 v5 h _ hn]; rfl
theorem j2_eq33 (n : Nat) (v0 : List S_api_Call) (i : Nat) (hi : i < v0.length) {k : Nat} {p : PS} (h : Inv k p) (hk : k ≤ 900) (hc : fewC v0[i] = false) (hn : 100000 ≤ n) :
    law33_StoreHolds_j2 n v0 p.last (i : Int) p.toS = some (.inl ((stepP v0[i] i p).2.2.last, (stepP v0[i] i p).2.2.toS)) := by
  obtain ⟨f1, f2⟩ := fewC_few hc
  have h' := h.step v0[i] i f1 f2
  obtain ⟨a1, a2⟩ := step_facts v0[i] i h
  unfold law33_StoreHolds_j2
  rw [Boxes_eq n h (by omega) hn, Option.bind_some]
  dsimp only
  rw [Nets_eq n h hn, Option.bind_some]
  dsimp only
  rw [Vols_eq n h hn, Option.bind_some]
  dsimp only
  rw [if_pos (in_i hi), at_i hi, Do_eq n _ _ h (by omega) f1 f2 hn, Option.bind_some]
  dsimp only
  rw [Boxes_eq n h' (by omega) hn, Option.bind_some]
  dsimp only
  by_cases hz : (stepP v0[i] i p).2.1 = 0
  · have a2 := a2 hz
    rw [hz]
    simp only [bne_self_eq_false, Bool.false_eq_true, beq_iff_eq, if_false, Option.bind_some, Bool.not_false, cond_true, cond_false, and_false, Bool.and_false, Bool.and_eq_true, Bool.false_beq, Bool.not_true, lett, false_and, reduceCtorEq]
    rw [if_pos (by rw [in_i hi]; simp)]
    unfold law33_StoreHolds_j3
    by_cases k5 : v0[i].f_Kind = 5
    · rw [if_pos k5] at a2
      rw [if_pos (by simpa using k5), if_neg (by rw [a2.1]; simp; omega)]
      simp only [Option.bind_some, Sum.elim_inl]
      rw [show (stepP v0[i] i p).1 = (stepP v0[i] i p).2.2.last by rw [a2.1, a2.2]]
      exact tail33 n v0 i h' hn
    · rw [if_neg k5] at a2
      rw [if_neg (by simpa using k5)]
      simp only [Option.bind_some, Sum.elim_inl]
      rw [← a2]
      exact tail33 n v0 i h' hn
  · obtain ⟨b1, b2⟩ := a1 hz
    have hz' : ((stepP v0[i] i p).2.1 != 0) = true := by simpa using hz
    have hz2 : ((stepP v0[i] i p).2.1 == 0) = false := by simpa using hz
    rw [hz', hz2, b1, b2]
    have hl : (p.bs.map seenB).length ≤ 1000 := by have := h.boxes; simp; omega
    rw [if_pos (by rfl), sameBoxes_refl n _ hl (seenB_few h) hn, Option.bind_some, if_pos (by rfl), Nets_eq n h hn, Option.bind_some]
    dsimp only
    rw [if_pos (by rfl), sameKept_refl n _ (by have := listP_len p.ns; have := h.nets; omega) hn, Option.bind_some, if_pos (by rfl), Vols_eq n h hn, Option.bind_some]
    dsimp only
    rw [if_pos (by rfl), sameKept_refl n _ (by have := listP_len p.vs; have := h.vols; omega) hn, Option.bind_some]
    simp only [lett]
    rw [if_neg (by simp), if_pos (by simp)]
    unfold law33_StoreHolds_j3
    rw [if_neg (by simp)]
    simp only [Option.bind_some, Sum.elim_inl]
    exact tail33 n v0 i h hn
theorem loop33 (n : Nat) (v0 : List S_api_Call) (hl : v0.length ≤ 80) (hf : v0.any fewC = false) (hn : 100000 ≤ n) : ∀ (k i : Nat) (p : PS), Inv i p → i ≤ v0.length → v0.length - i < k → law33_StoreHolds_l1 n v0 k p.last (i : Int) p.toS = some (.inl ())
  | 0, _, _, _, _, h => by omega
  | k + 1, i, p, hp, h1, h2 => by
    rw [law33_StoreHolds_l1]
    by_cases hi : i < v0.length
    · have hc : fewC v0[i] = false := by
        rw [List.any_eq_false] at hf
        simpa using hf _ (List.getElem_mem hi)
      obtain ⟨f1, f2⟩ := fewC_few hc
      rw [if_pos (lt_i hi), j2_eq33 n v0 i hi hp (by omega) hc hn, Option.bind_some, Sum.elim_inl]
      dsimp only
      rw [wrap_s i (by omega)]
      exact loop33 n v0 hl hf hn k (i + 1) _ (hp.step _ _ f1 f2) (by omega) (by omega)
    · have : i = v0.length := by omega
      subst this
      rw [nlt_n]; rfl
theorem law33_StoreHolds_true (a0 : List (S_api_Call)) (_ : W_Lapi_Call a0) : ∃ n, law33_StoreHolds n a0 = some true := by
  obtain ⟨n, hn⟩ : ∃ n, n = 600000 := ⟨_, rfl⟩
  refine ⟨n, ?_⟩
  have haw : law33_awake n = some true := by rw [hn]; exact awake33
  unfold law33_StoreHolds
  rw [show (80 : Int) = ((80 : Nat) : Int) from rfl, few33 n a0 80 (by omega) (by omega), Option.bind_some]
  cases hb : (decide (a0.length ≤ 80) && !a0.any fewC) with
  | false => rw [if_pos (by rfl), haw]; rfl
  | true =>
    rw [Bool.and_eq_true, decide_eq_true_eq, Bool.not_eq_true'] at hb
    have := loop33 n a0 hb.1 hb.2 (by omega) n 0 ⟨[], [], [], 0⟩ inv0 (by omega) (by omega)
    have this : law33_StoreHolds_l1 n a0 n 0 0 store_New_o = _ := this
    rw [if_neg (by decide)]
    simp only [lett]
    rw [this, Option.bind_some, Sum.elim_inl, haw]; rfl
end Go.Proofs.Ytaecmkldkljioaa.M
