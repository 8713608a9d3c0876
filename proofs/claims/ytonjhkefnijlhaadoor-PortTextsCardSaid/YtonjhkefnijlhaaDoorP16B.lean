/-
  Chapter 16: a port of a text, said plainly. Over the printed models.
-/
import Derived.Test.YtonjhkefnijlhaaDoorP16
namespace Go.Proofs.YtonjhkefnijlhaaDoor.M
open Go Go.Proofs.YtonjhkefnijlhaaDoor.RX Go.Proofs.YtonjhkefnijlhaaDoor.PL

def rng (p : S_api_Port) : Bool := bif (bif (bif (bif (decide (p.f_In ≥ 1)) then (decide (p.f_In ≤ 65535)) else false) then (decide (p.f_Out ≥ 0)) else false) then (decide (p.f_Out ≤ 65535)) else false) then (bif (p.f_Proto == [116, 99, 112]) then true else (p.f_Proto == [117, 100, 112])) else false
theorem cand (a b : Bool) : (bif a then b else false) = (a && b) := by cases a <;> rfl
theorem cor (a b : Bool) : (bif a then true else b) = (a || b) := by cases a <;> rfl
theorem right_rng (p : S_api_Port) : right p = (rng p && (p.f_Host == [] || addr p.f_Host)) := by
  unfold right rng
  simp only [cor, cand, Bool.decide_and, ge_iff_le, Bool.and_assoc]
theorem pright_eq (n : Nat) (p : S_api_Port) (hl : p.f_Host.length ≤ 900000) (hn : 2000000 ≤ n) : port_Right n p = some (right p) := by
  unfold port_Right
  rw [right_rng, paddr_eq n _ (by omega) hn]
  have e : (bif (bif (bif (bif (decide (p.f_In ≥ 1)) then (decide (p.f_In ≤ 65535)) else false) then (decide (p.f_Out ≥ 0)) else false) then (decide (p.f_Out ≤ 65535)) else false) then (bif (p.f_Proto == [116, 99, 112]) then true else (p.f_Proto == [117, 100, 112])) else false) = rng p := rfl
  simp only [e, lett]
  cases rng p <;> cases hh : (p.f_Host == []) <;> simp
theorem rright_eq (n : Nat) (p : S_api_Port) (hl : p.f_Host.length ≤ 900000) (hn : 2000000 ≤ n) : ref16_Right n p = some (right p) := by
  unfold ref16_Right right
  rw [raddr_eq n _ hl hn]
  have e0 : ((p.f_Host.length : Int) == 0) = (p.f_Host == []) := by
    rw [Bool.eq_iff_iff, beq_iff_eq, beq_iff_eq]
    constructor
    · intro h; exact List.eq_nil_of_length_eq_zero (by omega)
    · intro h; rw [h]; rfl
  rw [e0]
  have e1 : (bif (bif (bif (decide (p.f_In < 1)) then true else (decide (p.f_In > 65535))) then true else (decide (p.f_Out < 0))) then true else (decide (p.f_Out > 65535))) = !decide (1 ≤ p.f_In ∧ p.f_In ≤ 65535 ∧ 0 ≤ p.f_Out ∧ p.f_Out ≤ 65535) := by
    have e : ∀ a b c d : Prop, [Decidable a] → [Decidable b] → [Decidable c] → [Decidable d] → (bif (bif (bif decide a then true else decide b) then true else decide c) then true else decide d) = decide (a ∨ b ∨ c ∨ d) := by
      intro a b c d _ _ _ _
      simp only [cor, Bool.decide_or, Bool.or_assoc]
    rw [e, ← decide_not, decide_eq_decide]
    omega
  simp only [lett, e1]
  cases decide (1 ≤ p.f_In ∧ p.f_In ≤ 65535 ∧ 0 ≤ p.f_Out ∧ p.f_Out ≤ 65535) with
  | false => rfl
  | true =>
    cases (p.f_Proto == [116, 99, 112]) <;> cases (p.f_Proto == [117, 100, 112]) <;> cases (p.f_Host == []) <;> simp

def num (x : BS) : Int := if (okc 65535 x && !(vl 0 x == 0)) = true then (vl 0 x : Int) else -1
theorem num_eq (n : Nat) (x : BS) (hx : x.length ≤ 1000000) (hn : 2000000 ≤ n) : port_number n x = some (num x) := by
  unfold port_number
  have := dcount_eq n x 65535 hx (by decide) hn
  rw [show ((65535 : Nat) : Int) = 65535 from rfl] at this
  rw [this]
  simp only [Option.bind_some]
  unfold num ncount okc
  cases isNum x with
  | false => rfl
  | true =>
    by_cases h : vl 0 x ≤ 65535
    · simp only [if_true, h, decide_true, Bool.and_self, Bool.true_and]
      by_cases h0 : vl 0 x = 0
      · simp [h0]
      · have e : (((vl 0 x : Nat) : Int) == 0) = false := by rw [beq_eq_false_iff_ne]; omega
        have e2 : (vl 0 x == 0) = false := by rw [beq_eq_false_iff_ne]; omega
        simp [e2, h0]
    · simp [h]
def finP (p : S_api_Port) : Option S_api_Port := if right p = true then some p else none
def rest (s proto : BS) : Option S_api_Port :=
  match parts 58 s with
  | [a] => finP ⟨[], 0, num a, proto⟩
  | [a, b] => finP ⟨[], num a, num b, proto⟩
  | [h, o, i] => if h = [] then none else finP ⟨h, if o = [] then 0 else num o, num i, proto⟩
  | _ => none
def resP (o : Option S_api_Port) : S_api_Port × Int := match o with | none => (⟨[], 0, 0, []⟩, 3) | some p => (p, 0)
def parse (s : BS) : Option S_api_Port := match upto 47 s with | none => rest s [116, 99, 112] | some p => rest p.1 p.2

theorem prest_eq (n : Nat) (s proto : BS) (b2 : S_api_Port) (hs : s.length ≤ 500000) (hn : 2000000 ≤ n) :
    ((port_number n ((parts 58 s)[Int.toNat (IntKind.wrap .i64 (((parts 58 s).length : Int) - 1))]?.getD [])).bind fun r4 =>
      (port_Parse_j2 n (parts 58 s) ((parts 58 s).length : Int) b2 (S_api_Port.mk [] 0 r4 proto)).bind fun o5 =>
      (Sum.elim (fun o5 : S_api_Port × S_api_Port => (port_Right n o5.2).bind fun r6 => if (!r6) = true then (some ((S_api_Port.mk [] 0 0 []), (3 : Int))) else (some (o5.2, 0))) (fun o5 : Int × S_api_Port => some (o5.2, o5.1))) o5) = some (resP (rest s proto)) := by
  have hfin : ∀ p : S_api_Port, p.f_Host.length ≤ 900000 → ((port_Right n p).bind fun r6 => if (!r6) = true then (some ((S_api_Port.mk [] 0 0 []), (3 : Int))) else (some (p, 0))) = some (resP (finP p)) := by
    intro p hp
    rw [pright_eq n p hp hn]
    unfold finP
    simp only [Option.bind_some]
    cases right p <;> rfl
  have hpl := parts_len 58 s
  have hpp := parts_part_len 58 s
  have hne := parts_ne 58 s
  rw [wrap_p _ (by omega) (List.length_pos_iff.2 hne), tn]
  unfold rest port_Parse_j2
  generalize parts 58 s = l at *
  match l, hne with
  | [a], _ =>
    have ha := hpp a (by simp)
    have e : ([a] : List BS)[([a] : List BS).length - 1]?.getD [] = a := rfl
    rw [e, num_eq n a (by omega) hn]
    simp only [Option.bind_some]
    exact hfin ⟨[], 0, num a, proto⟩ (Nat.zero_le _)
  | [a, b], _ =>
    have ha := hpp a (by simp)
    have hb := hpp b (by simp)
    have e : ([a, b] : List BS)[([a, b] : List BS).length - 1]?.getD [] = b := rfl
    rw [e, num_eq n b (by omega) hn]
    simp only [Option.bind_some]
    have e2 : ((([a, b] : List BS).length : Int) == 1) = false := rfl
    have e3 : ((([a, b] : List BS).length : Int) == 2) = true := rfl
    have e4 : decide (0 ≤ (0 : Int) ∧ (0 : Int) < (([a, b] : List BS).length : Int)) = true := rfl
    have e5 : ([a, b] : List BS)[Int.toNat 0]?.getD [] = a := rfl
    rw [e2, e3, e4, e5, if_neg Bool.false_ne_true, if_pos rfl, if_pos rfl]
    rw [num_eq n a (by omega) hn]
    simp only [Option.bind_some, Sum.elim_inl]
    exact hfin ⟨[], num a, num b, proto⟩ (Nat.zero_le _)
  | [h, o, i], _ =>
    have hh := hpp h (by simp)
    have ho := hpp o (by simp)
    have hi := hpp i (by simp)
    have e : ([h, o, i] : List BS)[([h, o, i] : List BS).length - 1]?.getD [] = i := rfl
    rw [e, num_eq n i (by omega) hn]
    simp only [Option.bind_some]
    have e2 : ((([h, o, i] : List BS).length : Int) == 1) = false := rfl
    have e3 : ((([h, o, i] : List BS).length : Int) == 2) = false := rfl
    have e4 : ((([h, o, i] : List BS).length : Int) == 3) = true := rfl
    have e5 : decide (0 ≤ (0 : Int) ∧ (0 : Int) < (([h, o, i] : List BS).length : Int)) = true := rfl
    have e6 : decide (0 ≤ (1 : Int) ∧ (1 : Int) < (([h, o, i] : List BS).length : Int)) = true := rfl
    have e7 : ([h, o, i] : List BS)[Int.toNat 0]?.getD [] = h := rfl
    have e8 : ([h, o, i] : List BS)[Int.toNat 1]?.getD [] = o := rfl
    rw [e2, e3, e4, e5, e6, e7, e8, if_neg Bool.false_ne_true, if_neg Bool.false_ne_true, if_pos rfl, if_pos rfl, if_pos rfl, if_pos rfl]
    by_cases hh0 : h = []
    · subst hh0; rfl
    · have e9 : (h == []) = false := by simpa using hh0
      rw [e9, if_neg Bool.false_ne_true]
      simp only [if_neg hh0]
      by_cases ho0 : o = []
      · subst ho0
        simp only [beq_self_eq_true, Bool.not_true, Bool.false_eq_true, if_false, Option.bind_some, Sum.elim_inl, if_true]
        exact hfin ⟨h, 0, num i, proto⟩ (by show h.length ≤ _; omega)
      · have e10 : (o == []) = false := by simpa using ho0
        rw [e10]
        simp only [Bool.not_false, if_true, if_neg ho0]
        rw [num_eq n o (by omega) hn]
        simp only [Option.bind_some, Sum.elim_inl]
        exact hfin ⟨h, num o, num i, proto⟩ (by show h.length ≤ _; omega)
  | a :: b :: c :: d :: r, _ =>
    have hz := hpp ((a :: b :: c :: d :: r)[(a :: b :: c :: d :: r).length - 1]'(by simp)) (List.getElem_mem _)
    rw [List.getElem?_eq_getElem (by simp), Option.getD_some, num_eq n _ (by omega) hn]
    simp only [Option.bind_some]
    have e2 : (((a :: b :: c :: d :: r).length : Int) == 1) = false := by rw [beq_eq_false_iff_ne]; simp only [List.length_cons]; omega
    have e3 : (((a :: b :: c :: d :: r).length : Int) == 2) = false := by rw [beq_eq_false_iff_ne]; simp only [List.length_cons]; omega
    have e4 : (((a :: b :: c :: d :: r).length : Int) == 3) = false := by rw [beq_eq_false_iff_ne]; simp only [List.length_cons]; omega
    rw [e2, e3, e4]
    rfl
theorem pparse_eq (n : Nat) (s : BS) (hs : s.length ≤ 500000) (hn : 2000000 ≤ n) : port_Parse n s = some (resP (parse s)) := by
  unfold port_Parse parse
  rw [if_pos (decide_eq_true (by omega)), cut_eq]
  have main : ∀ (t proto : BS) (b2 : S_api_Port), t.length ≤ 500000 → (if (decide (List.length t < 4294967281 ∧ 1 ≤ List.length ([58] : List UInt8))) = true then (if (decide (0 ≤ (IntKind.wrap .i64 ((List.length (splitL t ([58] : List UInt8)) : Int) - 1)) ∧ (IntKind.wrap .i64 ((List.length (splitL t ([58] : List UInt8)) : Int) - 1)) < (List.length (splitL t ([58] : List UInt8)) : Int))) = true then ((port_number n (((splitL t ([58] : List UInt8)))[Int.toNat (IntKind.wrap .i64 ((List.length (splitL t ([58] : List UInt8)) : Int) - 1))]?.getD [])).bind fun r4 =>
      (port_Parse_j2 n (splitL t ([58] : List UInt8)) (List.length (splitL t ([58] : List UInt8)) : Int) b2 (S_api_Port.mk [] 0 r4 proto)).bind fun o5 =>
      (Sum.elim (fun o5 : S_api_Port × S_api_Port => (port_Right n o5.2).bind fun r6 => if (!r6) = true then (some ((S_api_Port.mk [] 0 0 []), (3 : Int))) else (some (o5.2, 0))) (fun o5 : Int × S_api_Port => some (o5.2, o5.1))) o5) else none) else none) = some (resP (rest t proto)) := by
    intro t proto b2 ht
    rw [if_pos (decide_eq_true ⟨by omega, by decide⟩), splitL_eq]
    have hpl := parts_len 58 t
    have hpos := List.length_pos_iff.2 (parts_ne 58 t)
    rw [if_pos (by rw [wrap_p _ (by omega) hpos]; exact decide_eq_true (by omega))]
    exact prest_eq n t proto b2 ht hn
  cases hu : upto 47 s with
  | none => exact main s _ _ hs
  | some p =>
    obtain ⟨p, q⟩ := p
    obtain ⟨h1, _⟩ := upto_some hu
    exact main p q _ (by rw [h1] at hs; simp at hs; omega)
end Go.Proofs.YtonjhkefnijlhaaDoor.M
