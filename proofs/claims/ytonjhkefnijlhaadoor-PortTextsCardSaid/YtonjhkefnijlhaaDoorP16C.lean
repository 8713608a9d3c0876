/-
  Chapter 16: the document's Parse, and the law. Over the printed models.
-/
import Derived.Test.YtonjhkefnijlhaaDoorP16B
namespace Go.Proofs.YtonjhkefnijlhaaDoor.M
open Go Go.Proofs.YtonjhkefnijlhaaDoor.RX Go.Proofs.YtonjhkefnijlhaaDoor.PL

theorem finP_in {h proto : BS} {o : Int} : finP ⟨h, o, -1, proto⟩ = none := by
  have : right ⟨h, o, -1, proto⟩ = false := by
    unfold right
    have : decide (1 ≤ (-1 : Int) ∧ (-1 : Int) ≤ 65535 ∧ 0 ≤ o ∧ o ≤ 65535) = false := decide_eq_false (by omega)
    simp only [this, Bool.false_and]
  unfold finP; rw [this]; rfl
theorem finP_in0 {h proto : BS} {o : Int} : finP ⟨h, o, 0, proto⟩ = none := by
  have : right ⟨h, o, 0, proto⟩ = false := by
    unfold right
    have : decide (1 ≤ (0 : Int) ∧ (0 : Int) ≤ 65535 ∧ 0 ≤ o ∧ o ≤ 65535) = false := decide_eq_false (by omega)
    simp only [this, Bool.false_and]
  unfold finP; rw [this]; rfl
theorem finP_out {h proto : BS} {i : Int} : finP ⟨h, -1, i, proto⟩ = none := by
  have : right ⟨h, -1, i, proto⟩ = false := by
    unfold right
    have : decide (1 ≤ i ∧ i ≤ 65535 ∧ 0 ≤ (-1 : Int) ∧ (-1 : Int) ≤ 65535) = false := decide_eq_false (by omega)
    simp only [this, Bool.false_and]
  unfold finP; rw [this]; rfl
theorem ncount_of {x : BS} {m : Nat} (h : okc m x = true) : ncount x m = (((vl 0 x : Nat) : Int), (0 : Int)) := by
  unfold okc at h
  simp only [Bool.and_eq_true, decide_eq_true_eq] at h
  unfold ncount
  rw [if_pos h.1, if_pos h.2]
theorem num_bad {x : BS} (h : okc 65535 x = false) : num x = -1 := by unfold num; rw [h]; rfl
theorem num_ok {x : BS} (h : okc 65535 x = true) (h0 : vl 0 x ≠ 0) : num x = (vl 0 x : Int) := by
  unfold num
  have e2 : (vl 0 x == 0) = false := by rw [beq_eq_false_iff_ne]; exact h0
  rw [h, e2]; rfl
theorem num_zero {x : BS} (h0 : vl 0 x = 0) : num x = -1 := by
  unfold num
  rw [h0]; simp
def errP : Option (S_api_Port × Int) := some ((S_api_Port.mk [] 0 0 []), 3)
theorem fin_eq (n : Nat) (h proto i : BS) (o : Int) (hh : h.length ≤ 900000) (hn : 2000000 ≤ n) :
    ((if (((ncount i 65535).2 != 0) == false) = true then ref16_Right n (S_api_Port.mk h o (ncount i 65535).1 proto) else some false).bind fun r9 =>
      if (bif ((ncount i 65535).2 != 0) then true else (!r9)) = true then (some ((S_api_Port.mk [] 0 0 []), (3 : Int))) else (some ((S_api_Port.mk h o (ncount i 65535).1 proto), 0))) = some (resP (finP ⟨h, o, num i, proto⟩)) := by
  rw [ncount_ok]
  cases hk : okc 65535 i with
  | false => rw [num_bad hk, finP_in]; rfl
  | true =>
    rw [ncount_of hk, rright_eq n ⟨h, o, ((vl 0 i : Nat) : Int), proto⟩ hh hn]
    by_cases h0 : vl 0 i = 0
    · rw [num_zero h0, h0, finP_in]
      have h1 : finP ⟨h, o, ((0 : Nat) : Int), proto⟩ = none := finP_in0
      unfold finP at h1
      split at h1
      · cases h1
      · rename_i h2
        have h2 : right ⟨h, o, ((0 : Nat) : Int), proto⟩ = false := by simpa using h2
        rw [h2]; rfl
    · rw [num_ok hk h0]
      unfold finP
      cases right ⟨h, o, ((vl 0 i : Nat) : Int), proto⟩ <;> rfl

def refRest (n : Nat) (t proto : BS) : Option (S_api_Port × Int) :=
  (ref16_cut n t 58).bind fun r3 =>
  if ((!((((List.length r3 : Int) == 3) == true) && ((decide ((List.length r3 : Int) > 3)) == false)) || decide (0 ≤ (0 : Int) ∧ (0 : Int) < (List.length r3 : Int)))) = true then (lett ((bif (decide ((List.length r3 : Int) > 3)) then true else (bif ((List.length r3 : Int) == 3) then ((List.length ((r3)[Int.toNat 0]?.getD []) : Int) == 0) else false)) : Bool) fun x4 =>
  if x4 = true then (some ((S_api_Port.mk [] 0 0 []), 3))
  else (if (decide (0 ≤ (IntKind.wrap .i64 ((List.length r3 : Int) - 1)) ∧ (IntKind.wrap .i64 ((List.length r3 : Int) - 1)) < (List.length r3 : Int))) = true then ((ref01_Count n ((r3)[Int.toNat (IntKind.wrap .i64 ((List.length r3 : Int) - 1))]?.getD []) 65535).bind fun r5 =>
  if ((!((((List.length r3 : Int) == 2) == false) && ((decide ((List.length r3 : Int) > 1)) == true)) || decide (0 ≤ (1 : Int) ∧ (1 : Int) < (List.length r3 : Int)))) = true then (lett ((bif (decide ((List.length r3 : Int) > 1)) then (bif ((List.length r3 : Int) == 2) then true else (decide ((List.length ((r3)[Int.toNat 1]?.getD []) : Int) > 0))) else false) : Bool) fun x6 =>
  (ref16_Parse_j2 n r3 (List.length r3 : Int) r5.2 x6 (S_api_Port.mk [] 0 0 []) (S_api_Port.mk [] 0 r5.1 proto)).bind fun o7 =>
  (Sum.elim (fun o7 : S_api_Port × S_api_Port => (ref16_Parse_j3 n r3 r5.2 ((List.length r3 : Int) == 3) o7.1 o7.2).bind fun o8 =>
  ((if ((r5.2 != 0) == false) = true then ref16_Right n o8 else some false)).bind fun r9 =>
  if (bif (r5.2 != 0) then true else (!r9)) = true then (some ((S_api_Port.mk [] 0 0 []), 3))
  else (some (o8, 0))) (fun o7 : Int × S_api_Port => some (o7.2, o7.1))) o7) else none) else none)) else none
theorem rest_eq (n : Nat) (t proto : BS) (ht : t.length ≤ 500000) (hn : 2000000 ≤ n) : refRest n t proto = some (resP (rest t proto)) := by
  unfold refRest
  rw [c58 n t (by omega) hn]
  simp only [Option.bind_some]
  have hpl := parts_len 58 t
  have hpp := parts_part_len 58 t
  have hne := parts_ne 58 t
  have hrc : ∀ x : BS, x.length ≤ 500000 → ref01_Count n x 65535 = some (ncount x 65535) := fun x hx => rcount_eq n x 65535 (by omega) (by decide) hn
  unfold rest
  generalize parts 58 t = l at *
  match l, hne with
  | [a], _ =>
    have ha := hpp a (by simp)
    have e : ([a] : List BS)[Int.toNat (IntKind.wrap .i64 ((([a] : List BS).length : Int) - 1))]?.getD [] = a := rfl
    rw [e, hrc a (by omega)]
    have := fin_eq n [] proto a 0 (Nat.zero_le _) hn
    exact this
  | [a, b], _ =>
    have ha := hpp a (by simp)
    have hb := hpp b (by simp)
    have e : ([a, b] : List BS)[Int.toNat (IntKind.wrap .i64 ((([a, b] : List BS).length : Int) - 1))]?.getD [] = b := rfl
    have e2 : ([a, b] : List BS)[Int.toNat (IntKind.wrap .i64 ((([a, b] : List BS).length : Int) - 2))]?.getD [] = a := rfl
    have f1 : ((([a, b] : List BS).length : Int) == 3) = false := rfl
    have f2 : decide ((([a, b] : List BS).length : Int) > 3) = false := rfl
    have f3 : decide ((([a, b] : List BS).length : Int) > 1) = true := rfl
    have f4 : ((([a, b] : List BS).length : Int) == 2) = true := rfl
    have f5 : decide (0 ≤ (IntKind.wrap .i64 ((([a, b] : List BS).length : Int) - 1)) ∧ (IntKind.wrap .i64 ((([a, b] : List BS).length : Int) - 1)) < (([a, b] : List BS).length : Int)) = true := rfl
    have f6 : decide (0 ≤ (IntKind.wrap .i64 ((([a, b] : List BS).length : Int) - 2)) ∧ (IntKind.wrap .i64 ((([a, b] : List BS).length : Int) - 2)) < (([a, b] : List BS).length : Int)) = true := rfl
    have g1 : ((false == true) : Bool) = false := rfl
    have g2 : ((true == false) : Bool) = false := rfl
    simp only [f1, f2, f3, f4, f5, g1, g2, Bool.false_and, Bool.not_false, Bool.true_or, if_true, lett, cond_false, cond_true, Bool.false_eq_true, if_false, e, hrc b (by omega), Option.bind_some, ref16_Parse_j2, f6, e2, hrc a (by omega)]
    simp only [Option.bind_some, ncount_ok]
    cases hk : okc 65535 a with
    | false =>
      simp only [Bool.not_false, cond_true, if_true, Option.bind_some, Sum.elim_inr]
      rw [num_bad hk, finP_out]; rfl
    | true =>
      rw [ncount_of hk]
      simp only [Bool.not_true, cond_false]
      by_cases h0 : vl 0 a = 0
      · rw [num_zero h0, finP_out, h0]; rfl
      · have e3 : (((vl 0 a : Nat) : Int) == 0) = false := by rw [beq_eq_false_iff_ne]; omega
        rw [e3, if_neg Bool.false_ne_true, num_ok hk h0]
        have := fin_eq n [] proto b (vl 0 a : Int) (Nat.zero_le _) hn
        rw [ncount_ok] at this
        exact this
  | [h, o, i], _ =>
    have hh := hpp h (by simp)
    have ho := hpp o (by simp)
    have hi := hpp i (by simp)
    have e : ([h, o, i] : List BS)[Int.toNat (IntKind.wrap .i64 ((([h, o, i] : List BS).length : Int) - 1))]?.getD [] = i := rfl
    have e2 : ([h, o, i] : List BS)[Int.toNat (IntKind.wrap .i64 ((([h, o, i] : List BS).length : Int) - 2))]?.getD [] = o := rfl
    rw [e, hrc i (by omega)]
    by_cases hh0 : h = []
    · subst hh0; rfl
    · have e9 : ((h.length : Int) == 0) = false := by
        rw [beq_eq_false_iff_ne]; intro h5; exact hh0 (List.eq_nil_of_length_eq_zero (by omega))
      simp only [if_neg hh0]
      have e4 : ([h, o, i] : List BS)[Int.toNat 0]?.getD [] = h := rfl
      have e5 : ([h, o, i] : List BS)[Int.toNat 1]?.getD [] = o := rfl
      have f1 : ((([h, o, i] : List BS).length : Int) == 3) = true := rfl
      have f2 : decide ((([h, o, i] : List BS).length : Int) > 3) = false := rfl
      have f3 : decide ((([h, o, i] : List BS).length : Int) > 1) = true := rfl
      have f4 : ((([h, o, i] : List BS).length : Int) == 2) = false := rfl
      have f5 : decide (0 ≤ (IntKind.wrap .i64 ((([h, o, i] : List BS).length : Int) - 1)) ∧ (IntKind.wrap .i64 ((([h, o, i] : List BS).length : Int) - 1)) < (([h, o, i] : List BS).length : Int)) = true := rfl
      have f6 : decide (0 ≤ (IntKind.wrap .i64 ((([h, o, i] : List BS).length : Int) - 2)) ∧ (IntKind.wrap .i64 ((([h, o, i] : List BS).length : Int) - 2)) < (([h, o, i] : List BS).length : Int)) = true := rfl
      have f7 : decide (0 ≤ (0 : Int) ∧ (0 : Int) < (([h, o, i] : List BS).length : Int)) = true := rfl
      have f8 : decide (0 ≤ (1 : Int) ∧ (1 : Int) < (([h, o, i] : List BS).length : Int)) = true := rfl
      simp only [f7, f8, Bool.or_true, if_true, f1, f2, f3, f4, f5, e4, e5, e9, lett, cond_false, cond_true, Bool.false_eq_true, if_false, Option.bind_some]
      by_cases ho0 : o = []
      · subst ho0
        have := fin_eq n h proto i 0 (by omega) hn
        exact this
      · have e10 : decide ((o.length : Int) > 0) = true := decide_eq_true (by have := List.length_pos_iff.2 ho0; omega)
        rw [e10]
        simp only [if_neg ho0]
        simp only [ref16_Parse_j2, if_true, f6, e2, hrc o (by omega)]
        simp only [Option.bind_some, ncount_ok]
        cases hk : okc 65535 o with
        | false =>
          simp only [Bool.not_false, cond_true, if_true, Option.bind_some, Sum.elim_inr]
          rw [num_bad hk, finP_out]; rfl
        | true =>
          rw [ncount_of hk]
          simp only [Bool.not_true, cond_false]
          by_cases h0 : vl 0 o = 0
          · rw [num_zero h0, finP_out, h0]; rfl
          · have e3 : (((vl 0 o : Nat) : Int) == 0) = false := by rw [beq_eq_false_iff_ne]; omega
            rw [e3, if_neg Bool.false_ne_true, num_ok hk h0]
            have := fin_eq n h proto i (vl 0 o : Int) (by omega) hn
            rw [ncount_ok] at this
            exact this
  | a :: b :: c :: d :: r, _ =>
    have e2 : (((a :: b :: c :: d :: r).length : Int) == 3) = false := by rw [beq_eq_false_iff_ne]; simp only [List.length_cons]; omega
    have e3 : decide (((a :: b :: c :: d :: r).length : Int) > 3) = true := decide_eq_true (by simp only [List.length_cons]; omega)
    rw [e2, e3]; rfl
end Go.Proofs.YtonjhkefnijlhaaDoor.M
