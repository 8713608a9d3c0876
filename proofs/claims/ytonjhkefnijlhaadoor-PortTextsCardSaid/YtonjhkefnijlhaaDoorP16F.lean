/-
  Chapter 16: texts of ports; the law PortTexts. Over the printed models.
-/
import Derived.Test.YtonjhkefnijlhaaDoorP16E
namespace Go.Proofs.YtonjhkefnijlhaaDoor.M
open Go Go.Proofs.YtonjhkefnijlhaaDoor.RX Go.Proofs.YtonjhkefnijlhaaDoor.PL

def body (p : S_api_Port) : BS :=
  (if p.f_Host = [] then (if 0 < p.f_Out then dg 19 p.f_Out.toNat [] ++ [58] else []) else p.f_Host ++ [58] ++ (if 0 < p.f_Out then dg 19 p.f_Out.toNat [] else []) ++ [58]) ++ dg 19 p.f_In.toNat []
def text (p : S_api_Port) : BS := if right p = true then body p ++ (if p.f_Proto = [117, 100, 112] then [47, 117, 100, 112] else []) else []
theorem right_rg {p : S_api_Port} (h : right p = true) : (1 ≤ p.f_In ∧ p.f_In ≤ 65535 ∧ 0 ≤ p.f_Out ∧ p.f_Out ≤ 65535) ∧ isP p.f_Proto ∧ (p.f_Host = [] ∨ addr p.f_Host = true) := by
  unfold right at h
  simp only [Bool.and_eq_true, decide_eq_true_eq, Bool.or_eq_true, beq_iff_eq] at h
  exact ⟨h.1.1, h.1.2, h.2⟩
theorem dtx (n : Nat) (x : Int) (h0 : 0 ≤ x) (h1 : x ≤ 65535) (hn : 100 ≤ n) : digit_Text n x = some (dg 19 x.toNat []) := by
  have := dtext_eq n x.toNat (by omega) hn
  rwa [Int.toNat_of_nonneg h0] at this
theorem rtx (n : Nat) (x : Int) (h0 : 0 ≤ x) (h1 : x ≤ 65535) (hn : 100 ≤ n) : ref01_Text n x = some (dg 19 x.toNat []) := by
  have := rtext_eq n x.toNat (by omega) hn
  rwa [Int.toNat_of_nonneg h0] at this
theorem dl (u : Nat) : (dg 19 u []).length ≤ 20 := dg_len 19 u []
theorem ptext_eq (n : Nat) (p : S_api_Port) (hh : p.f_Host.length ≤ 1000) (hn : 2000000 ≤ n) : port_Text n p = some (text p) := by
  unfold port_Text
  rw [pright_eq n p (by omega) hn]
  simp only [Option.bind_some]
  unfold text
  cases hr : right p with
  | false => rfl
  | true =>
    obtain ⟨⟨h1, h2, h3, h4⟩, h5, h6⟩ := right_rg hr
    simp only [Bool.not_true, Bool.false_eq_true, if_false, if_true]
    have hdO := dl p.f_Out.toNat
    have hdI := dl p.f_In.toNat
    -- the first part
    have e1 : port_Text_j1 n [] (decide (p.f_Out > 0)) p = some (if 0 < p.f_Out then dg 19 p.f_Out.toNat [] else []) := by
      unfold port_Text_j1
      by_cases h : 0 < p.f_Out
      · rw [decide_eq_true h, if_pos rfl, dtx n _ h3 h4 (by omega), if_pos h]; rfl
      · rw [decide_eq_false h, if_neg Bool.false_ne_true, if_neg h]
    rw [e1]
    simp only [Option.bind_some]
    generalize hout : (if 0 < p.f_Out then dg 19 p.f_Out.toNat [] else []) = out
    have hol : out.length ≤ 20 := by
      rw [← hout]; split
      · exact hdO
      · exact Nat.zero_le _
    have e2 : port_Text_j2 n out (!(p.f_Host == [])) p = some (if p.f_Host = [] then out else p.f_Host ++ [58] ++ out) := by
      unfold port_Text_j2
      by_cases h : p.f_Host = []
      · have e : (p.f_Host == []) = true := by rw [h]; rfl
        rw [e, if_pos h]; rfl
      · have e : (p.f_Host == []) = false := by simpa using h
        rw [e, if_neg h, if_pos (str_fits (by simp; omega)), if_pos (str_fits (by simp; omega))]; rfl
    rw [e2]
    simp only [Option.bind_some]
    generalize hc : (if p.f_Host = [] then out else p.f_Host ++ [58] ++ out) = c
    have hcl : c.length ≤ 1100 := by
      rw [← hc]; split
      · first | omega | exact Nat.zero_le _
      · simp; omega
    have e3 : port_Text_j3 n c (!(c == [])) p = some (if c = [] then [] else c ++ [58]) := by
      unfold port_Text_j3
      by_cases h : c = []
      · subst h; rfl
      · have e : (c == []) = false := by simpa using h
        rw [e, if_neg h, if_pos (str_fits (by simp; omega))]; rfl
    rw [e3]
    simp only [Option.bind_some]
    rw [dtx n _ (by omega) h2 (by omega)]
    simp only [Option.bind_some]
    generalize hd : (if c = [] then ([] : BS) else c ++ [58]) = d
    have hdl : d.length ≤ 1101 := by
      rw [← hd]; split
      · exact Nat.zero_le _
      · simp; omega
    rw [if_pos (str_fits (by omega))]
    have e4 : port_Text_j4 n (d ++ dg 19 p.f_In.toNat []) (p.f_Proto == [117, 100, 112]) = some (d ++ dg 19 p.f_In.toNat [] ++ (if p.f_Proto = [117, 100, 112] then [47, 117, 100, 112] else [])) := by
      unfold port_Text_j4
      by_cases h : p.f_Proto = [117, 100, 112]
      · have e : (p.f_Proto == [117, 100, 112]) = true := by rw [h]; rfl
        rw [e, if_pos h, if_pos rfl, if_pos (str_fits (by simp; omega))]
      · have e : (p.f_Proto == [117, 100, 112]) = false := by simpa using h
        rw [e, if_neg h, if_neg Bool.false_ne_true, List.append_nil]
    rw [e4]
    simp only [Option.bind_some]
    congr 2
    unfold body
    congr 1
    rw [← hd, ← hc, ← hout]
    by_cases h : p.f_Host = []
    · rw [if_pos h, if_pos h]
      by_cases h' : 0 < p.f_Out
      · rw [if_pos h', if_pos h', if_neg]
        have e20 : (10 : Nat) ^ (19 + 1) = 100000000000000000000 := by decide
        obtain ⟨b, t, h7, _⟩ := dg_head 19 p.f_Out.toNat [] (by omega) (by omega)
        rw [h7]; simp
      · rw [if_neg h', if_neg h', if_pos rfl]
    · rw [if_neg h, if_neg h, if_neg (by simp)]
theorem reftext_eq (n : Nat) (p : S_api_Port) (hh : p.f_Host.length ≤ 1000) (hn : 2000000 ≤ n) : ref16_Text n p = some (text p) := by
  unfold ref16_Text
  rw [rright_eq n p (by omega) hn]
  simp only [Option.bind_some]
  unfold text
  cases hr : right p with
  | false => rfl
  | true =>
    obtain ⟨⟨h1, h2, h3, h4⟩, h5, h6⟩ := right_rg hr
    simp only [Bool.not_true, Bool.false_eq_true, if_false, if_true]
    have hdO := dl p.f_Out.toNat
    have hdI := dl p.f_In.toNat
    have e0 : decide ((p.f_Host.length : Int) > 0) = !(p.f_Host == []) := by
      by_cases h : p.f_Host = []
      · rw [h]; rfl
      · have e : (p.f_Host == []) = false := by simpa using h
        rw [e, decide_eq_true (by have := List.length_pos_iff.2 h; omega)]; rfl
    have e1 : ref16_Text_j1 n [] (decide ((p.f_Host.length : Int) > 0)) p = some (if p.f_Host = [] then [] else p.f_Host ++ [58]) := by
      unfold ref16_Text_j1
      rw [e0]
      by_cases h : p.f_Host = []
      · rw [if_pos h, h]; rfl
      · have e : (p.f_Host == []) = false := by simpa using h
        rw [e, if_neg h, if_pos (str_fits (by simp; omega))]; rfl
    rw [e1]
    simp only [Option.bind_some]
    generalize hc : (if p.f_Host = [] then ([] : BS) else p.f_Host ++ [58]) = c
    have hcl : c.length ≤ 1100 := by
      rw [← hc]; split
      · first | omega | exact Nat.zero_le _
      · simp; omega
    have e2 : ref16_Text_j2 n c (decide (p.f_Out > 0)) p = some (if 0 < p.f_Out then c ++ dg 19 p.f_Out.toNat [] ++ [58] else if p.f_Host = [] then c else c ++ [58]) := by
      unfold ref16_Text_j2
      by_cases h : 0 < p.f_Out
      · rw [decide_eq_true h, if_pos rfl, rtx n _ h3 h4 (by omega), if_pos h]
        simp only [Option.bind_some]
        rw [if_pos (str_fits (by omega)), if_pos (str_fits (by simp; omega))]
      · rw [decide_eq_false h, if_neg Bool.false_ne_true, if_neg h, e0]
        by_cases h' : p.f_Host = []
        · rw [if_pos h', h']; rfl
        · have e : (p.f_Host == []) = false := by simpa using h'
          rw [e, if_neg h', if_pos (str_fits (by simp; omega))]; rfl
    rw [e2]
    simp only [Option.bind_some]
    rw [rtx n _ (by omega) h2 (by omega)]
    simp only [Option.bind_some]
    generalize hd : (if 0 < p.f_Out then c ++ dg 19 p.f_Out.toNat [] ++ [58] else if p.f_Host = [] then c else c ++ [58]) = d
    have hdl : d.length ≤ 1200 := by
      rw [← hd]
      split
      · simp; omega
      · split
        · omega
        · simp; omega
    rw [if_pos (str_fits (by omega))]
    have e4 : ref16_Text_j3 n (d ++ dg 19 p.f_In.toNat []) (p.f_Proto == [117, 100, 112]) = some (d ++ dg 19 p.f_In.toNat [] ++ (if p.f_Proto = [117, 100, 112] then [47, 117, 100, 112] else [])) := by
      unfold ref16_Text_j3
      by_cases h : p.f_Proto = [117, 100, 112]
      · have e : (p.f_Proto == [117, 100, 112]) = true := by rw [h]; rfl
        rw [e, if_pos h, if_pos rfl, if_pos (str_fits (by simp; omega))]
      · have e : (p.f_Proto == [117, 100, 112]) = false := by simpa using h
        rw [e, if_neg h, if_neg Bool.false_ne_true, List.append_nil]
    rw [e4]
    simp only [Option.bind_some]
    congr 2
    unfold body
    congr 1
    rw [← hd, ← hc]
    by_cases h : p.f_Host = []
    · simp only [if_pos h, List.nil_append]
    · simp only [if_neg h]
      by_cases h' : 0 < p.f_Out
      · simp only [if_pos h', List.append_assoc]
      · simp only [if_neg h', List.append_assoc, List.nil_append]
end Go.Proofs.YtonjhkefnijlhaaDoor.M
