/-
  Chapter 16: the law PortTexts. Over the printed models.
-/
import Derived.Test.YtonjhkefnijlhaaDoorP16F
namespace Go.Proofs.YtonjhkefnijlhaaDoor.M
open Go Go.Proofs.YtonjhkefnijlhaaDoor.RX Go.Proofs.YtonjhkefnijlhaaDoor.PL

theorem okc_dig {m : Nat} {x : BS} (h : okc m x = true) : ∀ b ∈ x, dig b = true := by
  unfold okc at h
  simp only [Bool.and_eq_true] at h
  exact isNum_all h.1
theorem addr_free {x : BS} (h : addr x = true) {b : UInt8} (hb : dig b = false) (hne : b ≠ 46) : b ∉ x := by
  intro hm
  obtain ⟨y, h1, h2⟩ := mem_parts hne hm
  unfold addr at h
  simp only [Bool.and_eq_true] at h
  have := okc_dig (List.all_eq_true.1 h.2 y h1) b h2
  rw [hb] at this; cases this
theorem dg_free {u : Nat} (h : u < 10 ^ 20) {b : UInt8} (hb : dig b = false) : b ∉ dg 19 u [] := by
  intro hm
  have := dg_dig 19 u [] h (by simp) b hm
  rw [hb] at this; cases this
theorem num_dg {x : Int} (h1 : 1 ≤ x) (h2 : x ≤ 65535) : num (dg 19 x.toNat []) = x := by
  have e20 : (10 : Nat) ^ 20 = 100000000000000000000 := by decide
  obtain ⟨h3, h4⟩ := dg_num (u := x.toNat) (by omega) (by omega)
  have hk : okc 65535 (dg 19 x.toNat []) = true := by
    unfold okc; rw [h3, h4]; exact decide_eq_true (by omega)
  rw [num_ok hk (by rw [h4]; omega), h4, Int.toNat_of_nonneg (by omega)]
theorem dg_ne {x : Int} (h1 : 1 ≤ x) (h2 : x ≤ 65535) : dg 19 x.toNat [] ≠ [] := by
  have e20 : (10 : Nat) ^ (19 + 1) = 100000000000000000000 := by decide
  obtain ⟨b, t, h7, _⟩ := dg_head 19 x.toNat [] (by omega) (by omega)
  rw [h7]; simp
theorem body_rest {p : S_api_Port} (hr : right p = true) : rest (body p) p.f_Proto = some p ∧ (47 : UInt8) ∉ body p := by
  obtain ⟨⟨h1, h2, h3, h4⟩, h5, h6⟩ := right_rg hr
  obtain ⟨host, out, inn, proto⟩ := p
  simp only at h1 h2 h3 h4 h5 h6
  have e20 : (10 : Nat) ^ 20 = 100000000000000000000 := by decide
  have i58 : (58 : UInt8) ∉ dg 19 inn.toNat [] := dg_free (by omega) (by decide)
  have i47 : (47 : UInt8) ∉ dg 19 inn.toNat [] := dg_free (by omega) (by decide)
  have o58 : (58 : UInt8) ∉ dg 19 out.toNat [] := dg_free (by omega) (by decide)
  have o47 : (47 : UInt8) ∉ dg 19 out.toNat [] := dg_free (by omega) (by decide)
  have hfin : finP ⟨host, out, inn, proto⟩ = some ⟨host, out, inn, proto⟩ := by unfold finP; rw [if_pos hr]
  unfold body
  simp only
  by_cases hh : host = []
  · subst hh
    simp only [if_true]
    by_cases ho : 0 < out
    · simp only [if_pos ho]
      refine ⟨?_, ?_⟩
      · unfold rest
        rw [List.append_assoc, show ([58] : BS) ++ dg 19 inn.toNat [] = 58 :: dg 19 inn.toNat [] from rfl, parts_app _ o58, parts_none i58]
        simp only [num_dg h1 h2, num_dg (by omega : 1 ≤ out) h4]
        exact hfin
      · simp only [List.mem_append, List.mem_singleton, not_or]
        exact ⟨⟨o47, by decide⟩, i47⟩
    · have ho0 : out = 0 := by omega
      subst ho0
      simp only [Int.lt_irrefl, if_false, List.nil_append]
      refine ⟨?_, i47⟩
      unfold rest
      rw [parts_none i58]
      simp only [num_dg h1 h2]
      exact hfin
  · have ha : addr host = true := h6.resolve_left hh
    have h58 : (58 : UInt8) ∉ host := addr_free ha (by decide) (by decide)
    have h47 : (47 : UInt8) ∉ host := addr_free ha (by decide) (by decide)
    simp only [if_neg hh]
    by_cases ho : 0 < out
    · simp only [if_pos ho]
      refine ⟨?_, ?_⟩
      · unfold rest
        have e : host ++ [58] ++ dg 19 out.toNat [] ++ [58] ++ dg 19 inn.toNat [] = host ++ 58 :: (dg 19 out.toNat [] ++ 58 :: dg 19 inn.toNat []) := by simp
        rw [e, parts_app _ h58, parts_app _ o58, parts_none i58]
        simp only [if_neg hh, if_neg (dg_ne (by omega : 1 ≤ out) h4), num_dg h1 h2, num_dg (by omega : 1 ≤ out) h4]
        exact hfin
      · simp only [List.mem_append, List.mem_singleton, not_or]
        exact ⟨⟨⟨⟨h47, by decide⟩, o47⟩, by decide⟩, i47⟩
    · have ho0 : out = 0 := by omega
      subst ho0
      simp only [Int.lt_irrefl, if_false]
      refine ⟨?_, ?_⟩
      · unfold rest
        have e : host ++ [58] ++ [] ++ [58] ++ dg 19 inn.toNat [] = host ++ 58 :: ([] ++ 58 :: dg 19 inn.toNat []) := by simp
        rw [e, parts_app _ h58, parts_app _ (by simp), parts_none i58]
        simp only [if_neg hh, if_true, num_dg h1 h2]
        exact hfin
      · simp only [List.mem_append, List.mem_singleton, not_or, List.not_mem_nil, not_false_eq_true, and_true]
        exact ⟨⟨⟨h47, by decide⟩, by decide⟩, i47⟩
theorem parse_text {p : S_api_Port} (hr : right p = true) : parse (text p) = some p := by
  obtain ⟨h1, h2⟩ := body_rest hr
  obtain ⟨_, h5, _⟩ := right_rg hr
  unfold text
  rw [if_pos hr]
  by_cases hu : p.f_Proto = [117, 100, 112]
  · rw [if_pos hu, show ([47, 117, 100, 112] : BS) = 47 :: [117, 100, 112] from rfl, strip_parse (.inr rfl), ← hu]
    exact h1
  · have ht : p.f_Proto = [116, 99, 112] := h5.resolve_right hu
    rw [if_neg hu, List.append_nil]
    unfold parse
    rw [upto_none.2 h2, ← ht]
    exact h1
theorem text_len {p : S_api_Port} (hh : p.f_Host.length ≤ 1000) : (text p).length ≤ 1100 := by
  unfold text
  have hdO := dl p.f_Out.toNat
  have hdI := dl p.f_In.toNat
  split
  · unfold body
    have e1 : (if p.f_Host = [] then (if 0 < p.f_Out then dg 19 p.f_Out.toNat [] ++ [58] else []) else p.f_Host ++ [58] ++ (if 0 < p.f_Out then dg 19 p.f_Out.toNat [] else []) ++ [58]).length ≤ 1030 := by
      split
      · split
        · simp; omega
        · simp
      · split
        · simp; omega
        · simp; omega
    have e2 : (if p.f_Proto = [117, 100, 112] then ([47, 117, 100, 112] : BS) else []).length ≤ 4 := by split <;> simp
    simp only [List.length_append] at e1 e2 ⊢
    omega
  · exact Nat.zero_le _
theorem beq_port (p : S_api_Port) : ((p.f_Host == p.f_Host) && ((p.f_Out == p.f_Out) && ((p.f_In == p.f_In) && (p.f_Proto == p.f_Proto)))) = true := by simp
theorem law16_PortTexts_true (a0 : S_api_Port) (h : W_api_Port a0) : ∃ n, law16_PortTexts n a0 = some true := by
  refine ⟨2000000, ?_⟩
  generalize hn : 2000000 = n
  have hn' := hn.symm
  unfold law16_PortTexts
  rw [law16_awake_eq n hn']
  by_cases hl : (a0.f_Host.length : Int) > 100
  · rw [decide_eq_true hl]; rfl
  by_cases hl2 : (a0.f_Proto.length : Int) > 100
  · rw [decide_eq_false hl, decide_eq_true hl2]; rfl
  rw [decide_eq_false hl, decide_eq_false hl2, cond_false, if_neg Bool.false_ne_true, ptext_eq n a0 (by omega) (by omega), reftext_eq n a0 (by omega) (by omega), pright_eq n a0 (by omega) (by omega), rright_eq n a0 (by omega) (by omega)]
  have htl := text_len (p := a0) (by omega)
  simp only [Option.bind_some, beq_self_eq_true, Bool.not_true, if_true, cond_false, Bool.false_eq_true, if_false, pparse_eq n (text a0) (by omega) (by omega)]
  cases hr : right a0 with
  | false =>
    have ht : text a0 = [] := by unfold text; rw [hr]; rfl
    rw [ht]; rfl
  | true =>
    rw [parse_text hr]
    simp only [resP, beq_port, beq_self_eq_true, cond_true, Bool.not_true, Bool.false_eq_true, if_false, if_true, Option.bind_some, lett]
    rfl
end Go.Proofs.YtonjhkefnijlhaaDoor.M
