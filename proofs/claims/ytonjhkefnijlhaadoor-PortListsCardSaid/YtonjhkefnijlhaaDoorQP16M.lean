/-
  Part of the proof of PortLists: P16M.
-/
import Derived.Test.YtonjhkefnijlhaaDoorQP16L
set_option linter.all false
namespace Go.Proofs.YtonjhkefnijlhaaDoor.M
open Go Go.Proofs.YtonjhkefnijlhaaDoor.RX Go.Proofs.YtonjhkefnijlhaaDoor.PL
set_option maxRecDepth 100000
theorem awake16L : law16_awake 600000 = some true := by kernel_rfl
theorem clash_eq (x y : S_api_Port) : ref16_Clash x y = port_Clash x y := by
  unfold ref16_Clash port_Clash
  simp only [lett]
  have e1 : ((List.length x.f_Host : Int) == 0) = (x.f_Host == []) := by cases x.f_Host <;> simp <;> omega
  have e2 : ((List.length y.f_Host : Int) == 0) = (y.f_Host == []) := by cases y.f_Host <;> simp <;> omega
  rw [e1, e2]
  by_cases h : (bif (bif (decide (x.f_Out < 1)) then true else (x.f_Out != y.f_Out)) then true else (!(x.f_Proto == y.f_Proto))) = true
  · rw [if_pos h]
    simp only [Bool.cond_true_left, Bool.or_eq_true, decide_eq_true_eq, bne_iff_ne, Bool.not_eq_true', beq_eq_false_iff_ne] at h
    symm
    rw [Bool.cond_false_right, Bool.cond_false_right, Bool.cond_false_right, ← Bool.not_eq_true]
    simp only [Bool.and_eq_true, decide_eq_true_eq, beq_iff_eq]
    rintro ⟨⟨⟨h1, h2⟩, h3⟩, _⟩
    rcases h with (h | h) | h
    · omega
    · exact h h2
    · exact h h3
  · rw [if_neg h]
    simp only [Bool.cond_true_left, Bool.or_eq_true, decide_eq_true_eq, bne_iff_ne, Bool.not_eq_true', beq_eq_false_iff_ne, not_or, Decidable.not_not] at h
    have h1 : decide (x.f_Out > 0) = true := decide_eq_true (by omega)
    rw [h1, beq_iff_eq.2 h.1.2, beq_iff_eq.2 h.2]
    rfl
theorem clash_symm (x y : S_api_Port) : port_Clash x y = port_Clash y x := by
  unfold port_Clash
  simp only [lett]
  rw [Bool.eq_iff_iff]
  simp only [Bool.cond_false_right, Bool.cond_true_left, Bool.and_eq_true, Bool.or_eq_true, decide_eq_true_eq, beq_iff_eq]
  constructor
  · rintro ⟨⟨⟨h1, h2⟩, h3⟩, h4⟩
    refine ⟨⟨⟨by omega, h2.symm⟩, h3.symm⟩, ?_⟩
    rcases h4 with (h4 | h4) | h4
    · exact .inl (.inl h4.symm)
    · exact .inr h4
    · exact .inl (.inr h4)
  · rintro ⟨⟨⟨h1, h2⟩, h3⟩, h4⟩
    refine ⟨⟨⟨by omega, h2.symm⟩, h3.symm⟩, ?_⟩
    rcases h4 with (h4 | h4) | h4
    · exact .inl (.inl h4.symm)
    · exact .inr h4
    · exact .inl (.inr h4)
abbrev LP := List S_api_Port
abbrev R3 := Int × Int × Bool
def gP (l : LP) (i : Nat) (x : S_api_Port) : Option R3 := ((l.drop (i + 1)).findIdx? fun y => port_Clash x y).map fun j => ((i : Int), ((i + 1 + j : Nat) : Int), true)
def firstL (l : LP) : R3 := (findI (gP l) 0 l).getD (0, 0, false)
theorem index16_eq (n : Nat) (l : LP) (c : S_api_Port) (hl : l.length ≤ 900) (hn : 100000 ≤ n) : slices_IndexFunc_api_Port_api_Port__port_First_1_e n l c = some (ofI (l.findIdx? fun y => port_Clash c y)) := by
  unfold slices_IndexFunc_api_Port_api_Port__port_First_1_e
  have := idxScan (L := slices_IndexFunc_api_Port_api_Port__port_First_1_e_l1 n l c (List.length l : Int)) l (fun y => port_Clash c y) (by omega)
    (fun k i h => by rw [slices_IndexFunc_api_Port_api_Port__port_First_1_e_l1, if_pos (lt_i h), if_pos (in_i h), at_i h]; rfl)
    (fun k => by rw [slices_IndexFunc_api_Port_api_Port__port_First_1_e_l1, nlt_n]; rfl) n (by omega)
  rw [this]
  cases l.findIdx? fun y => port_Clash c y <;> rfl
theorem wadd16 {a b : Nat} (h : a + b < 1000000000) : IntKind.wrap .i64 ((a : Int) + (b : Int)) = ((a + b : Nat) : Int) := PL.wrap_add a b (by omega)
theorem pFirst_eq (n : Nat) (l : LP) (hl : l.length ≤ 900) (hn : 100000 ≤ n) : port_First n l = some (firstL l) := by
  unfold port_First
  have := scanI (L := port_First_l1 n l l (List.length l : Int)) l (gP l) 0 (by omega)
    (fun k i h _ => by
      rw [port_First_l1, if_pos (lt_i h), if_pos (in_i h), at_i h, wrap_s i (by omega), if_pos (decide_eq_true (by omega)), Int.toNat_natCast, index16_eq n _ _ (by simp; omega) hn, Option.bind_some, ofI_pos]
      unfold gP
      cases hj : (l.drop (i + 1)).findIdx? fun y => port_Clash l[i] y with
      | none => rfl
      | some j =>
        have hjl := idx_some hj
        rw [List.length_drop] at hjl
        rw [if_pos (by rfl), show ofI (some j) = (j : Int) from rfl, wadd16 (by omega)]; rfl)
    (fun k => by rw [port_First_l1, nlt_n]; rfl) n 0 (by omega) (by omega) (by omega)
  have this : port_First_l1 n l l (List.length l : Int) n 0 = _ := this
  rw [this, List.drop_zero]
  unfold firstL
  cases findI (gP l) 0 l <;> rfl
theorem findI_idx {ρ : Type} (c : S_api_Port → Bool) (f : Nat → ρ) : ∀ (m : LP) (i : Nat), findI (fun j y => if c y = true then some (f j) else none) i m = (m.findIdx? c).map fun j => f (i + j)
  | [], i => rfl
  | y :: m, i => by
    unfold findI
    rw [List.findIdx?_cons]
    cases hc : c y with
    | true => simp
    | false =>
      simp only [Bool.false_eq_true, if_false, findI_idx c f m (i + 1), Option.map_map]
      congr 1
      funext j
      simp only [Function.comp]
      congr 1; omega
theorem rFirst_eq (n : Nat) (l : LP) (hl : l.length ≤ 900) (hn : 100000 ≤ n) : ref16_First n l = some (firstL l) := by
  unfold ref16_First
  have := scanI (L := ref16_First_l1 n l) l (gP l) 0 (by omega)
    (fun k i h _ => by
      rw [ref16_First_l1, if_pos (lt_i h), wrap_s i (by omega)]
      have h2 := scanI (L := ref16_First_l2 n l (i : Int)) l (fun j y => if port_Clash l[i] y = true then some ((i : Int), (j : Int), true) else none) 0 (by omega)
        (fun k j hj _ => by
          rw [ref16_First_l2, if_pos (lt_i hj), if_pos (in_i h), if_pos (in_i hj), at_i h, at_i hj]
          simp only [lett, clash_eq]
          cases port_Clash l[i] l[j] <;> rfl)
        (fun k => by rw [ref16_First_l2, nlt_n]; rfl) n (i + 1) (by omega) (by omega) (by omega)
      rw [h2, findI_idx (fun y => port_Clash l[i] y) (fun j => ((i : Int), (j : Int), true))]
      unfold gP
      cases (l.drop (i + 1)).findIdx? fun y => port_Clash l[i] y <;> rfl)
    (fun k => by rw [ref16_First_l1, nlt_n]; rfl) n 0 (by omega) (by omega) (by omega)
  have this : ref16_First_l1 n l n 0 = _ := this
  rw [this, List.drop_zero]
  unfold firstL
  cases findI (gP l) 0 l <;> rfl
def anyL : LP → Bool
  | [] => false
  | x :: r => r.any (port_Clash x) || anyL r
theorem flag_eq (L : LP) : ∀ (m : LP) (k : Nat), L.drop k = m → ((findI (gP L) k m).getD (0, 0, false)).2.2 = anyL m
  | [], _, _ => rfl
  | x :: m, k, h => by
    have hd : L.drop (k + 1) = m := by
      have := congrArg (List.drop 1) h
      rwa [List.drop_drop] at this
    unfold findI anyL
    have hg : gP L k x = (m.findIdx? fun y => port_Clash x y).map fun j => ((k : Int), ((k + 1 + j : Nat) : Int), true) := by unfold gP; rw [hd]
    rw [hg, ← List.findIdx?_isSome]
    cases m.findIdx? fun y => port_Clash x y with
    | some j => rfl
    | none => exact flag_eq L m (k + 1) hd
theorem any_app : ∀ l m : LP, anyL (l ++ m) = (anyL l || anyL m || l.any fun x => m.any (port_Clash x))
  | [], m => by simp [anyL]
  | x :: l, m => by
    rw [List.cons_append, anyL, any_app l m, List.any_append, anyL, List.any_cons]
    cases l.any (port_Clash x) <;> cases m.any (port_Clash x) <;> cases anyL l <;> cases anyL m <;> simp
theorem any_rev : ∀ l : LP, anyL l.reverse = anyL l
  | [] => rfl
  | x :: l => by
    rw [List.reverse_cons, any_app, any_rev l, anyL]
    have : (l.reverse.any fun y => [x].any (port_Clash y)) = l.any (port_Clash x) := by
      rw [List.any_reverse]
      congr 1
      funext y
      simp [clash_symm y x]
    rw [this]
    show (anyL l || (false || false) || l.any (port_Clash x)) = (l.any (port_Clash x) || anyL l)
    cases anyL l <;> cases l.any (port_Clash x) <;> rfl
theorem same16_refl (n : Nat) (l : LP) (hl : l.length ≤ 900) (hn : 100000 ≤ n) : ref16_Same n l l = some true := by
  unfold ref16_Same
  rw [if_neg (by simp)]
  have := scanL (ρ := Bool) (L := ref16_Same_l1 n l l) l (fun _ => none) 0 (by omega)
    (fun k i hi _ => by
      rw [ref16_Same_l1, if_pos (lt_i hi), if_pos (in_i hi), if_pos (in_i hi), at_i hi]
      simp [lett])
    (fun k => by rw [ref16_Same_l1, nlt_n]; rfl) n 0 (by omega) (by omega) (by omega)
  have this : ref16_Same_l1 n l l n 0 = _ := this
  have key : ∀ l : LP, l.findSome? (fun _ => (none : Option Bool)) = none := fun l => by induction l <;> simp_all
  rw [this, List.drop_zero, key]; rfl
theorem pSorted_eq (n : Nat) (l : LP) (hl : l.length ≤ 900) : port_Sorted n l = some (PO.srt l) := by
  unfold port_Sorted slices_Clone_api_Port_api_Port_o
  have hb : (sortBy cf51 l).length = l.length := by simp [sortBy]
  rw [if_pos (decide_eq_true (by show (([] : LP).length + l.length) * 49 ≤ 140737488355328; simp; omega)), Option.bind_some, List.nil_append, if_pos (decide_eq_true (by show _ * 5 ≤ 140737488355328; omega)), if_pos (decide_eq_true (by show _ * 5 ≤ 140737488355328; omega)), PO.vSorted]
theorem lists_l1 (n : Nat) (l : LP) (f : Bool) (hl : l.length ≤ 900) : ∀ (k i : Nat), 1 ≤ i → l.length - i < k → law16_PortLists_l1 n l f k (i : Int) = some (.inl ())
  | 0, _, _, h => by omega
  | k + 1, i, h1, h2 => by
    rw [law16_PortLists_l1]
    by_cases hi : i < l.length
    · obtain ⟨j, rfl⟩ : ∃ j, i = j + 1 := ⟨i - 1, by omega⟩
      have hj : j < l.length := by omega
      have hw : IntKind.wrap .i64 (((j + 1 : Nat) : Int) - 1) = (j : Int) := by
        rw [show ((j + 1 : Nat) : Int) - 1 = (j : Int) by omega]
        have := wadd16 (a := j) (b := 0) (by omega)
        simpa using this
      rw [if_pos (lt_i hi), hw, if_pos (in_i hj), if_pos (in_i hi), at_i hj, at_i hi]
      simp only [lett]
      rw [clash_eq, if_pos (by rw [in_i hj]; simp), if_pos (by rw [in_i hi]; simp), clash_symm l[j + 1] l[j], if_neg (by simp), wrap_s _ (by omega)]
      exact lists_l1 n l f hl k (j + 1 + 1) (by omega) (by omega)
    · rw [if_neg (by simp; omega)]
theorem lists_l2 (n : Nat) (l : LP) (f : Bool) (hl : l.length ≤ 900) : ∀ (k m : Nat) (acc : LP), m ≤ l.length → m < k → acc.length + m ≤ 2000 → law16_PortLists_l2 n l f k acc ((m : Int) - 1) = some (acc ++ (l.take m).reverse)
  | 0, _, _, _, h, _ => by omega
  | k + 1, 0, acc, _, _, _ => by rw [law16_PortLists_l2, if_neg (by simp)]; simp
  | k + 1, m + 1, acc, h1, h2, h3 => by
    have hm : m < l.length := by omega
    have hw : IntKind.wrap .i64 ((m : Int) - 1) = (m : Int) - 1 := by
      cases m with
      | zero => decide
      | succ m =>
        rw [show ((m + 1 : Nat) : Int) - 1 = (m : Int) by omega]
        have := wadd16 (a := m) (b := 0) (by omega)
        simpa using this
    rw [law16_PortLists_l2, show ((m + 1 : Nat) : Int) - 1 = (m : Int) by omega, if_pos (decide_eq_true (by omega)), if_pos (in_i hm), at_i hm, if_pos (decide_eq_true (by show _ * 49 ≤ 140737488355328; simp; omega)), hw,
      lists_l2 n l f hl k m _ (by omega) (by omega) (by simp; omega)]
    have e : l.take (m + 1) = l.take m ++ [l[m]] := List.take_succ_eq_append_getElem hm
    rw [e, List.reverse_append]
    simp
theorem law16_PortLists_true (a0 : List (S_api_Port)) (_ : W_Lapi_Port a0) : ∃ n, law16_PortLists n a0 = some true := by
  obtain ⟨n, hn⟩ : ∃ n, n = 600000 := ⟨_, rfl⟩
  refine ⟨n, ?_⟩
  have haw : law16_awake n = some true := by rw [hn]; exact awake16L
  unfold law16_PortLists
  rw [haw]
  by_cases h : (a0.length : Int) > 40
  · rw [if_pos (decide_eq_true h)]; rfl
  rw [if_neg (by simpa using h)]
  have hl : a0.length ≤ 40 := by omega
  have hs := PO.srt_length_le a0
  rw [pFirst_eq n a0 (by omega) (by omega), Option.bind_some, rFirst_eq n a0 (by omega) (by omega), Option.bind_some, pSorted_eq n a0 (by omega), Option.bind_some]
  simp only [bne_self_eq_false, cond_false, beq_self_eq_true, Bool.not_true, if_true]
  rw [PO.rSorted_eq n a0 (by omega) (by omega), Option.bind_some, same16_refl n _ (by omega) (by omega), Option.bind_some]
  simp only [bne_self_eq_false, cond_false, beq_self_eq_true, Bool.not_true, if_true]
  rw [pSorted_eq n _ (by omega), Option.bind_some, PO.srt_of_asc (PO.asc_srt a0), same16_refl n _ (by omega) (by omega), Option.bind_some]
  simp only [lett, bne_self_eq_false, cond_false, beq_self_eq_true, Bool.not_true, Bool.false_eq_true, if_false]
  have h1 := lists_l1 n a0 (firstL a0).2.2 (by omega) n 1 (by omega) (by omega)
  have h1 : law16_PortLists_l1 n a0 (firstL a0).2.2 n 1 = _ := h1
  have hw : IntKind.wrap .i64 ((List.length a0 : Int) - 1) = (List.length a0 : Int) - 1 := by
    cases hm : a0.length with
    | zero => decide
    | succ m =>
      rw [show ((m + 1 : Nat) : Int) - 1 = (m : Int) by omega]
      have := wadd16 (a := m) (b := 0) (by omega)
      simpa using this
  rw [h1, Option.bind_some, Sum.elim_inl, hw, lists_l2 n a0 _ (by omega) n a0.length [] (Nat.le_refl _) (by omega) (by simp; omega), Option.bind_some, List.take_length, List.nil_append, pFirst_eq n _ (by simp; omega) (by omega), Option.bind_some]
  have hflag : (firstL a0.reverse).2.2 = (firstL a0).2.2 := by
    have e1 := flag_eq a0.reverse a0.reverse 0 rfl
    have e2 := flag_eq a0 a0 0 rfl
    unfold firstL
    rw [e1, e2, any_rev]
  rw [hflag]
  simp
end Go.Proofs.YtonjhkefnijlhaaDoor.M
