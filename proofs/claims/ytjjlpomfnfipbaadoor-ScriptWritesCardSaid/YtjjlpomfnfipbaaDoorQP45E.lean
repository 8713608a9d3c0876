import Derived.Test.YtjjlpomfnfipbaaDoorQP45D
set_option linter.all false
namespace Go.Proofs.YtjjlpomfnfipbaaDoor.M
open Go Go.Proofs.YtjjlpomfnfipbaaDoor.RX Go.Proofs.YtjjlpomfnfipbaaDoor.PL
def ones : List BS := [[116, 105, 99, 107], [115, 105, 99, 107], [119, 101, 108, 108]]
def kds : List Int := [3, 5, 6]
theorem l2s (n : Nat) (h : BS) (t : List BS) (b2 : St) (hl : Small (h :: t)) (hn : 200000 ≤ n) (k i : Nat) (c : BS) (kd : Int) (hc : ones[i]? = some c) (hk : kds[i]? = some kd) (hi : i < 3) :
    ref45_Line_l2 n (h :: t) ones (k + 1) (i : Int) b2 = (if h = c then one1 (fun v => stOf kd v 0) t else none).elim (ref45_Line_l2 n (h :: t) ones k ((i + 1 : Nat) : Int) b2) (fun x => some (.inr (true, x))) := by
  have o1 : decide (0 ≤ (i : Int) ∧ (i : Int) < (List.length ones : Int)) = true := decide_eq_true (by show 0 ≤ (i : Int) ∧ (i : Int) < ((3 : Nat) : Int); omega)
  have o2 : ones[Int.toNat (i : Int)]?.getD [] = c := by rw [tn, hc]; rfl
  have o3 : decide (0 ≤ (i : Int) ∧ (i : Int) < (List.length ([3, 5, 6] : List Int) : Int)) = true := decide_eq_true (by show 0 ≤ (i : Int) ∧ (i : Int) < ((3 : Nat) : Int); omega)
  have o4 : ([3, 5, 6] : List Int)[Int.toNat (i : Int)]?.getD 0 = kd := by rw [tn]; show kds[i]?.getD 0 = kd; rw [hk]; rfl
  rw [ref45_Line_l2, if_pos (decide_eq_true (by omega)), if_pos (in0 _ _), if_pos o1, fst0, o2, wrap_s i (by omega)]
  by_cases e : h = c
  · rw [if_pos e, beq_iff_eq.2 e]
    match t, hl with
    | [], _ => rfl
    | [a], hl =>
      have hr := rnumber_eq n a (hl a (by simp)) hn
      have e2 : ((List.length [h, a] : Int) == 2) = true := rfl
      simp only [e2, in1, fst1, hr, Bool.or_true, if_true, cond_true, beq_self_eq_true, Option.bind_some, lett, o3, o4]
      show _ = ((numV a).map fun v => stOf kd v 0).elim _ _
      cases hv : numV a with
      | none => rw [nv_none hv]; rfl
      | some v =>
        obtain ⟨q1, q2⟩ := nv_some hv
        rw [q1, if_pos (decide_eq_true q2)]; rfl
    | a :: b :: t, _ =>
      have e2 : ((List.length (h :: a :: b :: t) : Int) == 2) = false := by rw [beq_eq_false_iff_ne]; simp; omega
      simp only [e2, cond_true, lett]
      rfl
  · have e' : (h == c) = false := by simpa using e
    rw [if_neg e, e']
    simp only [cond_false, lett]
    rfl
theorem l2_all (n : Nat) (h : BS) (t : List BS) (b2 : St) (hl : Small (h :: t)) (hn : 200000 ≤ n) (k : Nat) : ref45_Line_l2 n (h :: t) ones (k + 4) 0 b2 =
    (if h = [116, 105, 99, 107] then one1 (fun v => stOf 3 v 0) t else none).elim ((if h = [115, 105, 99, 107] then one1 (fun v => stOf 5 v 0) t else none).elim ((if h = [119, 101, 108, 108] then one1 (fun v => stOf 6 v 0) t else none).elim (some (.inl b2)) (fun x => some (.inr (true, x)))) (fun x => some (.inr (true, x)))) (fun x => some (.inr (true, x))) := by
  have s0 := l2s n h t b2 hl hn (k + 3) 0 _ _ rfl rfl (by decide)
  have s0 : ref45_Line_l2 n (h :: t) ones (k + 4) 0 b2 = _ := s0
  rw [s0, l2s n h t b2 hl hn (k + 2) 1 _ _ rfl rfl (by decide), l2s n h t b2 hl hn (k + 1) 2 _ _ rfl rfl (by decide), ref45_Line_l2]
  rfl
def two2 (k : Int) (t : List BS) : Option St := match t with | [a, b] => (numV a).bind fun x => (numV b).map fun y => stOf k x y | _ => none
theorem two_end (k : Int) (t : List BS) : endB (twoP k t) = two2 k t := by
  unfold twoP
  match t with
  | [] => rfl
  | [a] => simp only [numP]; cases numV a <;> rfl
  | [a, b] =>
    show _ = (numV a).bind fun x => (numV b).map fun y => stOf k x y
    simp only [numP]
    cases numV a with
    | none => rfl
    | some x =>
      simp only [Option.map_some, Option.bind_some]
      cases numV b <;> rfl
  | a :: b :: c :: t =>
    show _ = none
    simp only [numP]
    cases numV a with
    | none => rfl
    | some x =>
      simp only [Option.map_some, Option.bind_some]
      cases numV b <;> rfl
theorem one_end (k : Int) (t : List BS) : endB (oneP k t) = one1 (fun v => stOf k v 0) t := numP_bind_end (fun v => stOf k v 0) t
theorem last_eq (n : Nat) (h : BS) (t : List BS) (o5 : St) (hl : Small (h :: t)) (hn : 200000 ≤ n) :
    (if decide (0 ≤ (0 : Int) ∧ (0 : Int) < (List.length (h :: t) : Int)) = true then (if ((!(((((h :: t))[Int.toNat 0]?.getD []) == [101, 120, 105, 116]) == false) || decide (0 ≤ (0 : Int) ∧ (0 : Int) < (List.length (h :: t) : Int)))) = true then (if ((!((bif (bif ((((h :: t))[Int.toNat 0]?.getD []) == [101, 120, 105, 116]) then true else ((((h :: t))[Int.toNat 0]?.getD []) == [102, 97, 117, 108, 116])) then ((List.length (h :: t) : Int) == 3) else false) == true) || decide (0 ≤ (1 : Int) ∧ (1 : Int) < (List.length (h :: t) : Int)))) = true then (((if ((bif (bif ((((h :: t))[Int.toNat 0]?.getD []) == [101, 120, 105, 116]) then true else ((((h :: t))[Int.toNat 0]?.getD []) == [102, 97, 117, 108, 116])) then ((List.length (h :: t) : Int) == 3) else false) == true) = true then ref45_number n (((h :: t))[Int.toNat 1]?.getD []) else some 0)).bind fun r6 =>
  if ((!((bif (bif (bif ((((h :: t))[Int.toNat 0]?.getD []) == [101, 120, 105, 116]) then true else ((((h :: t))[Int.toNat 0]?.getD []) == [102, 97, 117, 108, 116])) then ((List.length (h :: t) : Int) == 3) else false) then (decide (r6 ≥ 0)) else false) == true) || decide (0 ≤ (2 : Int) ∧ (2 : Int) < (List.length (h :: t) : Int)))) = true then (((if ((bif (bif (bif ((((h :: t))[Int.toNat 0]?.getD []) == [101, 120, 105, 116]) then true else ((((h :: t))[Int.toNat 0]?.getD []) == [102, 97, 117, 108, 116])) then ((List.length (h :: t) : Int) == 3) else false) then (decide (r6 ≥ 0)) else false) == true) = true then ref45_number n (((h :: t))[Int.toNat 2]?.getD []) else some 0)).bind fun r7 =>
  lett ((bif (bif (bif (bif ((((h :: t))[Int.toNat 0]?.getD []) == [101, 120, 105, 116]) then true else ((((h :: t))[Int.toNat 0]?.getD []) == [102, 97, 117, 108, 116])) then ((List.length (h :: t) : Int) == 3) else false) then (decide (r6 ≥ 0)) else false) then (decide (r7 ≥ 0)) else false) : Bool) fun x8 =>
  if x8 = true then (if (decide (0 ≤ (0 : Int) ∧ (0 : Int) < (List.length (h :: t) : Int))) = true then ((ref45_Line_j3 n (h :: t) 4 ((((h :: t))[Int.toNat 0]?.getD []) == [102, 97, 117, 108, 116]) o5).bind fun o9 =>
  if (decide (0 ≤ (1 : Int) ∧ (1 : Int) < (List.length (h :: t) : Int))) = true then ((ref45_number n (((h :: t))[Int.toNat 1]?.getD [])).bind fun r10 =>
  if (decide (0 ≤ (2 : Int) ∧ (2 : Int) < (List.length (h :: t) : Int))) = true then ((ref45_number n (((h :: t))[Int.toNat 2]?.getD [])).bind fun r11 =>
  some ((S_ref45_Step.mk o9 r10 r11 (S_api_Command.mk 0 [] 0 false false 0 0) (S_api_Call.mk 0 [] 0 (S_api_Spec.mk [] [] [] 0 [] [] [] (S_api_Check.mk [] 0 0 0) 0 0))), true)) else none) else none) else none)
  else (some (zSt, false))) else none) else none) else none) else none) =
    some (match (if h = [101, 120, 105, 116] then two2 4 t else if h = [102, 97, 117, 108, 116] then two2 7 t else none) with | some x => (x, true) | none => (zSt, false)) := by
  simp only [in0, fst0, Bool.or_true, if_true]
  by_cases e : h = [101, 120, 105, 116] ∨ h = [102, 97, 117, 108, 116]
  · have hx : (bif (h == [101, 120, 105, 116]) then true else (h == [102, 97, 117, 108, 116])) = true := by
      rcases e with e | e <;> subst e <;> rfl
    have hk : (if h = [101, 120, 105, 116] then two2 4 t else if h = [102, 97, 117, 108, 116] then two2 7 t else none) = two2 (if h = [102, 97, 117, 108, 116] then 7 else 4) t := by
      rcases e with e | e <;> subst e <;> rfl
    rw [hk]
    simp only [hx, cond_true]
    match t, hl with
    | [], _ => rfl
    | [a], _ => rfl
    | [a, b], hl =>
      have hra := rnumber_eq n a (hl a (by simp)) hn
      have hrb := rnumber_eq n b (hl b (by simp)) hn
      have e3 : ((List.length [h, a, b] : Int) == 3) = true := rfl
      simp only [e3, in1, in2, fst1, fst2, hra, hrb, Bool.or_true, if_true, cond_true, beq_self_eq_true, Option.bind_some, lett]
      have h22 : ∀ k, two2 k [a, b] = (numV a).bind fun x => (numV b).map fun y => stOf k x y := fun k => rfl
      rw [h22]
      cases hv : numV a with
      | none => rw [nv_none hv]; rfl
      | some v =>
        obtain ⟨q1, q2⟩ := nv_some hv
        rw [q1, decide_eq_true q2]
        simp only [beq_self_eq_true, if_true, Option.bind_some, cond_true]
        cases hw : numV b with
        | none => rw [nv_none hw]; rfl
        | some w =>
          obtain ⟨q3, q4⟩ := nv_some hw
          rw [q3, decide_eq_true q4, if_pos rfl]
          unfold ref45_Line_j3
          by_cases ef : h = [102, 97, 117, 108, 116]
          · rw [if_pos (beq_iff_eq.2 ef), if_pos ef]; rfl
          · rw [if_neg (fun h => ef (beq_iff_eq.1 h)), if_neg ef]; rfl
    | a :: b :: c :: t, _ =>
      have e3 : ((List.length (h :: a :: b :: c :: t) : Int) == 3) = false := by rw [beq_eq_false_iff_ne]; simp; omega
      simp only [e3, lett]
      rfl
  · simp only [not_or] at e
    have e1 : (h == [101, 120, 105, 116]) = false := by simpa using e.1
    have e2 : (h == [102, 97, 117, 108, 116]) = false := by simpa using e.2
    simp only [e1, e2, if_neg e.1, if_neg e.2, cond_false, lett]
    rfl
theorem lineL_end (l : List BS) : lineL l = endB (lineP l) := by
  unfold lineL endB
  cases lineP l with
  | none => rfl
  | some p => obtain ⟨x, r⟩ := p; cases r <;> rfl
theorem rLine_eq (n : Nat) (s : BS) (hs : s.length ≤ 100000) (hn : 2000000 ≤ n) : ref45_Line n s = some ((okR (lineR s)).2, decide ((okR (lineR s)).1 = 0)) := by
  have hsm : Small (parts 32 s) := fun x hx => Nat.le_trans (parts_part_len 32 s x hx) hs
  have hpl := parts_len 32 s
  unfold ref45_Line
  rw [Split_eq45 n s hs (by omega), Option.bind_some]
  by_cases g1 : s = [103, 111]
  · subst g1; rfl
  rw [if_neg (fun h => g1 (beq_iff_eq.1 h))]
  by_cases g2 : s = [99, 114, 97, 115, 104]
  · subst g2; rfl
  rw [if_neg (fun h => g2 (beq_iff_eq.1 h))]
  unfold lineR
  rw [lineL_end]
  cases hp : parts 32 s with
  | nil => exact absurd hp (parts_ne 32 s)
  | cons h t =>
    rw [hp] at hsm hpl
    rw [if_pos (in0 _ _), fst0]
    by_cases hc : h = [99, 97, 108, 108]
    · rw [if_pos (beq_iff_eq.2 hc), if_pos (decide_eq_true (by rw [List.length_cons]; omega))]
      have hd : List.drop (Int.toNat 1) (h :: t) = t := rfl
      obtain ⟨y, b, c1, c2, c3⟩ := call_end n t hsm.tail (by omega)
      rw [hd, c1, Option.bind_some]
      have hl : endB (lineP (h :: t)) = (endB (callP t)).map fun c => S_ref45_Step.mk 9 0 0 zCm c := by
        subst hc
        exact endB_bind (callP t) fun c => S_ref45_Step.mk 9 0 0 zCm c
      rw [hl]
      cases b with
      | true => rw [c2 rfl]; rfl
      | false => rw [c3 rfl]; rfl
    · rw [if_neg (fun h => hc (beq_iff_eq.1 h)), kl1_all n h t _ hsm (by simp at hpl; omega) hn, Option.bind_some]
      by_cases hk : kindOf h = 0
      · rw [if_pos hk, Sum.elim_inl]
        obtain ⟨k, rfl⟩ : ∃ k, n = k + 4 := ⟨n - 4, by omega⟩
        have hL := l2_all (k + 4) h t (S_ref45_Step.mk 0 0 0 (S_api_Command.mk 0 [] 0 false false 0 0) (S_api_Call.mk 0 [] 0 (S_api_Spec.mk [] [] [] 0 [] [] [] (S_api_Check.mk [] 0 0 0) 0 0))) hsm (by omega) k
        have hL : ref45_Line_l2 (k + 4) (h :: t) ([[116, 105, 99, 107], [115, 105, 99, 107], [119, 101, 108, 108]] : List (List UInt8)) (k + 4) 0 (S_ref45_Step.mk 0 0 0 (S_api_Command.mk 0 [] 0 false false 0 0) (S_api_Call.mk 0 [] 0 (S_api_Spec.mk [] [] [] 0 [] [] [] (S_api_Check.mk [] 0 0 0) 0 0))) = _ := hL
        have hlast := last_eq (k + 4) h t (S_ref45_Step.mk 0 0 0 (S_api_Command.mk 0 [] 0 false false 0 0) (S_api_Call.mk 0 [] 0 (S_api_Spec.mk [] [] [] 0 [] [] [] (S_api_Check.mk [] 0 0 0) 0 0))) hsm (by omega)
        rw [hL]
        have hl0 : lineP (h :: t) = (if h = [103, 111] then some (stOf 2 0 0, t) else if h = [99, 114, 97, 115, 104] then some (stOf 8 0 0, t) else if h = [116, 105, 99, 107] then oneP 3 t else if h = [115, 105, 99, 107] then oneP 5 t else if h = [119, 101, 108, 108] then oneP 6 t
            else if h = [101, 120, 105, 116] then twoP 4 t else if h = [102, 97, 117, 108, 116] then twoP 7 t else none) := by
          simp only [lineP, hk, ne_eq, not_true_eq_false, if_false, hc]
        rw [hl0]
        have oneC : ∀ (kd : Int) (o : Option St), endB (oneP kd t) = o → o = one1 (fun v => stOf kd v 0) t := fun kd o e => by rw [← e]; exact one_end kd t
        have tne : ∀ c : BS, (s ≠ c) → h = c → t ≠ [] := by
          intro c hs hc ht
          subst ht; subst hc
          exact hs (parts_one hp)
        by_cases w1 : h = [103, 111]
        · have ht := tne _ g1 w1
          rw [if_pos w1]
          subst w1
          have hz : endB (some (stOf 2 0 0, t)) = none := by cases t with | nil => exact absurd rfl ht | cons a t => rfl
          rw [hz]
          exact hlast
        rw [if_neg w1]
        by_cases w2 : h = [99, 114, 97, 115, 104]
        · have ht := tne _ g2 w2
          rw [if_pos w2]
          subst w2
          have hz : endB (some (stOf 8 0 0, t)) = none := by cases t with | nil => exact absurd rfl ht | cons a t => rfl
          rw [hz]
          exact hlast
        rw [if_neg w2]
        by_cases w3 : h = [116, 105, 99, 107]
        · rw [if_pos w3, if_pos w3, one_end]
          subst w3
          cases ho : one1 (fun v => stOf 3 v 0) t with
          | some x => rfl
          | none => exact hlast
        rw [if_neg w3, if_neg w3, Option.elim_none]
        by_cases w4 : h = [115, 105, 99, 107]
        · rw [if_pos w4, if_pos w4, one_end]
          subst w4
          cases ho : one1 (fun v => stOf 5 v 0) t with
          | some x => rfl
          | none => exact hlast
        rw [if_neg w4, if_neg w4, Option.elim_none]
        by_cases w5 : h = [119, 101, 108, 108]
        · rw [if_pos w5, if_pos w5, one_end]
          subst w5
          cases ho : one1 (fun v => stOf 6 v 0) t with
          | some x => rfl
          | none => exact hlast
        rw [if_neg w5, if_neg w5, Option.elim_none, Option.bind_some, Sum.elim_inl]
        refine Eq.trans hlast ?_
        by_cases w6 : h = [101, 120, 105, 116]
        · rw [if_pos w6, if_pos w6, two_end]
          cases two2 4 t <;> rfl
        rw [if_neg w6, if_neg w6]
        by_cases w7 : h = [102, 97, 117, 108, 116]
        · rw [if_pos w7, if_pos w7, two_end]
          cases two2 7 t <;> rfl
        rw [if_neg w7, if_neg w7]; rfl
      · rw [if_neg hk]
        have : lineP (h :: t) = cmdP (kindOf h) t := by simp only [lineP, ne_eq, hk, not_false_eq_true, if_true]
        rw [this]
        rfl
end Go.Proofs.YtjjlpomfnfipbaaDoor.M
