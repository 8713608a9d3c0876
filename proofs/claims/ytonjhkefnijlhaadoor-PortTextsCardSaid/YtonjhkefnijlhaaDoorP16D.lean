/-
  Chapter 16: Parse is the document's; the law PortParses. Over the printed models.
-/
import Derived.Test.YtonjhkefnijlhaaDoorP16C
namespace Go.Proofs.YtonjhkefnijlhaaDoor.M
open Go Go.Proofs.YtonjhkefnijlhaaDoor.RX Go.Proofs.YtonjhkefnijlhaaDoor.PL

theorem okc_slash {m : Nat} {x : BS} (h : (47 : UInt8) ∈ x) : okc m x = false := by
  unfold okc
  cases hN : isNum x with
  | false => rfl
  | true => exact absurd (isNum_all hN 47 h) (by decide)
theorem addr_slash {x : BS} (h : (47 : UInt8) ∈ x) : addr x = false := by
  obtain ⟨y, h1, h2⟩ := mem_parts (c := 46) (by decide) h
  unfold addr
  have : (parts 46 x).all (okc 255) = false := by
    rw [List.all_eq_false]
    exact ⟨y, h1, by rw [okc_slash h2]; decide⟩
  rw [this, Bool.and_false]
theorem rest_slash {s proto : BS} (h : (47 : UInt8) ∈ s) : rest s proto = none := by
  obtain ⟨x, h1, h2⟩ := mem_parts (c := 58) (by decide) h
  unfold rest
  generalize parts 58 s = l at *
  match l with
  | [] => rfl
  | [a] =>
    simp only [List.mem_singleton] at h1; subst h1
    simp only [num_bad (okc_slash h2), finP_in]
  | [a, b] =>
    simp only [List.mem_cons, List.not_mem_nil, or_false] at h1
    rcases h1 with rfl | rfl
    · simp only [num_bad (okc_slash h2), finP_out]
    · simp only [num_bad (okc_slash h2), finP_in]
  | [p, o, i] =>
    simp only [List.mem_cons, List.not_mem_nil, or_false] at h1
    have hx : x ≠ [] := by rintro rfl; simp at h2
    simp only
    split
    · rfl
    · rename_i hp
      rcases h1 with rfl | rfl | rfl
      · unfold finP
        have : ∀ a b, right ⟨x, a, b, proto⟩ = false := by
          intro a b
          unfold right
          have e : (x == []) = false := by simpa using hx
          simp only [e, addr_slash h2, Bool.or_self, Bool.and_false]
        rw [this]; rfl
      · rw [if_neg hx, num_bad (okc_slash h2), finP_out]
      · rw [num_bad (okc_slash h2), finP_in]
  | a :: b :: c :: d :: r => rfl
theorem finP_proto {h t : BS} {a b : Int} (h1 : t ≠ [116, 99, 112]) (h2 : t ≠ [117, 100, 112]) : finP ⟨h, a, b, t⟩ = none := by
  have : right ⟨h, a, b, t⟩ = false := by
    unfold right
    have e1 : (t == [116, 99, 112]) = false := by simpa using h1
    have e2 : (t == [117, 100, 112]) = false := by simpa using h2
    simp only [e1, e2, Bool.or_self, Bool.and_false, Bool.false_and]
  unfold finP; rw [this]; rfl
theorem rest_proto {s t : BS} (h1 : t ≠ [116, 99, 112]) (h2 : t ≠ [117, 100, 112]) : rest s t = none := by
  unfold rest
  split
  · exact finP_proto h1 h2
  · exact finP_proto h1 h2
  · split
    · rfl
    · exact finP_proto h1 h2
  · rfl
theorem rest_nil {t : BS} : rest [] t = none := by
  show finP ⟨[], 0, num [], t⟩ = none
  exact finP_in
def isP (t : BS) : Prop := t = [116, 99, 112] ∨ t = [117, 100, 112]
theorem isP_free {t : BS} (h : isP t) : (47 : UInt8) ∉ t := by rcases h with rfl | rfl <;> decide
theorem strip_parse {a t : BS} (ht : isP t) : parse (a ++ 47 :: t) = rest a t := by
  unfold parse
  by_cases h : (47 : UInt8) ∈ a
  · cases hu : upto 47 a with
    | none => exact absurd h (upto_none.1 hu)
    | some p =>
      obtain ⟨p, r⟩ := p
      obtain ⟨h1, h2⟩ := upto_some hu
      rw [rest_slash h, h1, List.append_assoc, List.cons_append, upto_app h2]
      refine rest_proto ?_ ?_
      · intro e
        have : (47 : UInt8) ∈ ([116, 99, 112] : BS) := by rw [← e]; simp
        revert this; decide
      · intro e
        have : (47 : UInt8) ∈ ([117, 100, 112] : BS) := by rw [← e]; simp
        revert this; decide
  · rw [upto_app h]
theorem nostrip_parse {s : BS} (h : ∀ a t, a ≠ [] → isP t → s ≠ a ++ 47 :: t) : parse s = rest s [116, 99, 112] := by
  unfold parse
  cases hu : upto 47 s with
  | none => rfl
  | some p =>
    obtain ⟨p, q⟩ := p
    obtain ⟨h1, h2⟩ := upto_some hu
    have hs : (47 : UInt8) ∈ s := by rw [h1]; simp
    rw [rest_slash hs]
    by_cases hq : isP q
    · by_cases hp : p = []
      · subst hp; exact rest_nil
      · exact absurd h1 (h p q hp hq)
    · exact rest_proto (fun e => hq (.inl e)) (fun e => hq (.inr e))

theorem rparse_eq (n : Nat) (s : BS) (hs : s.length ≤ 500000) (hn : 2000000 ≤ n) : ref16_Parse n s = some (resP (parse s)) := by
  unfold ref16_Parse
  by_cases h4 : 4 < s.length
  · have w4 : IntKind.wrap .i64 ((s.length : Int) - 4) = ((s.length - 4 : Nat) : Int) := by rw [wrap_id _ (by omega) (by omega)]; omega
    have e1 : decide (0 ≤ ((s.length - 4 : Nat) : Int) ∧ ((s.length - 4 : Nat) : Int) ≤ (s.length : Int)) = true := decide_eq_true (by omega)
    have e2 : decide ((s.length : Int) > 4) = true := decide_eq_true (by omega)
    rw [w4, e1, e2]
    simp only [Bool.or_true, if_true, lett, cond_true, tn]
    have hdl : (s.drop (s.length - 4)).length = 4 := by simp; omega
    by_cases hd : s.drop (s.length - 4) = [47, 116, 99, 112] ∨ s.drop (s.length - 4) = [47, 117, 100, 112]
    · have hx : (bif (s.drop (s.length - 4) == [47, 116, 99, 112]) then true else (s.drop (s.length - 4) == [47, 117, 100, 112])) = true := by
        rcases hd with hd | hd <;> rw [hd] <;> rfl
      have w3 : IntKind.wrap .i64 ((s.length : Int) - 3) = ((s.length - 3 : Nat) : Int) := by rw [wrap_id _ (by omega) (by omega)]; omega
      have hd3 : s.drop (s.length - 3) = (s.drop (s.length - 4)).drop 1 := by rw [List.drop_drop]; congr 1; omega
      have hp : ∃ t, isP t ∧ s.drop (s.length - 4) = 47 :: t ∧ s.drop (s.length - 3) = t := by
        rcases hd with hd | hd
        · exact ⟨_, .inl rfl, hd, by rw [hd3, hd]; rfl⟩
        · exact ⟨_, .inr rfl, hd, by rw [hd3, hd]; rfl⟩
      obtain ⟨t, ht, hdt, hdt3⟩ := hp
      have hsp : s = s.take (s.length - 4) ++ 47 :: t := by rw [← hdt, List.take_append_drop]
      rw [hx, ref16_Parse_j1, if_pos rfl, w3, w4, if_pos (le_i (by omega)), if_pos (le_i (by omega)), tn, tn, hdt3]
      have := rest_eq n (s.take (s.length - 4)) t (by simp; omega) hn
      rw [← strip_parse ht, ← hsp] at this
      exact this
    · have hx : (bif (s.drop (s.length - 4) == [47, 116, 99, 112]) then true else (s.drop (s.length - 4) == [47, 117, 100, 112])) = false := by
        have h1 : (s.drop (s.length - 4) == [47, 116, 99, 112]) = false := by simpa using fun e => hd (.inl e)
        have h2 : (s.drop (s.length - 4) == [47, 117, 100, 112]) = false := by simpa using fun e => hd (.inr e)
        rw [h1, h2]; rfl
      rw [hx, ref16_Parse_j1, if_neg Bool.false_ne_true]
      have := rest_eq n s [116, 99, 112] hs hn
      rw [nostrip_parse (s := s) fun a t ha ht e => hd ?_] at *
      · exact this
      · have hl : t.length = 3 := by rcases ht with rfl | rfl <;> rfl
        have e5 : s.drop (s.length - 4) = 47 :: t := by
          rw [e]
          have : (a ++ 47 :: t).length - 4 = a.length := by simp [hl]
          rw [this, List.drop_left]
        rcases ht with rfl | rfl
        · exact .inl e5
        · exact .inr e5
  · have e2 : decide ((s.length : Int) > 4) = false := decide_eq_false (by omega)
    rw [e2]
    simp only [cond_false, lett]
    have g1 : ((false == true) : Bool) = false := rfl
    simp only [g1, Bool.false_and, Bool.not_false, Bool.true_or, if_true]
    rw [ref16_Parse_j1, if_neg Bool.false_ne_true]
    have := rest_eq n s [116, 99, 112] hs hn
    rw [nostrip_parse (s := s) fun a t ha ht e => h4 ?_] at *
    · exact this
    · have hl : t.length = 3 := by rcases ht with rfl | rfl <;> rfl
      have := List.length_pos_iff.2 ha
      rw [e]; simp [hl]; omega

theorem rest_right {s t : BS} {p : S_api_Port} (h : rest s t = some p) : right p = true ∧ p.f_Host.length ≤ s.length := by
  have hf : ∀ q : S_api_Port, finP q = some p → right p = true ∧ p = q := by
    intro q hq
    unfold finP at hq
    split at hq
    · rename_i hr; cases hq; exact ⟨hr, rfl⟩
    · cases hq
  have hpp := parts_part_len 58 s
  unfold rest at h
  split at h
  · obtain ⟨h1, h2⟩ := hf _ h; exact ⟨h1, by rw [h2]; exact Nat.zero_le _⟩
  · obtain ⟨h1, h2⟩ := hf _ h; exact ⟨h1, by rw [h2]; exact Nat.zero_le _⟩
  · rename_i x o i hp
    split at h
    · cases h
    · obtain ⟨h1, h2⟩ := hf _ h
      refine ⟨h1, ?_⟩
      rw [h2]
      exact hpp x (by rw [hp]; simp)
  · cases h
theorem parse_right {s : BS} {p : S_api_Port} (h : parse s = some p) : right p = true ∧ p.f_Host.length ≤ s.length := by
  unfold parse at h
  split at h
  · exact rest_right h
  · rename_i q hu
    obtain ⟨h1, h2⟩ := rest_right h
    obtain ⟨h3, _⟩ := upto_some (p := q.1) (q := q.2) (by rw [hu])
    refine ⟨h1, ?_⟩
    have := congrArg List.length h3
    simp at this; omega

theorem law16_awake_eq (n : Nat) (hn : n = 2000000) : law16_awake n = some true := by
  unfold law16_awake
  rw [pparse_eq n _ (by simp) (by omega)]
  have e1 : parse [49, 50, 55, 46, 48, 46, 48, 46, 49, 58, 56, 48, 56, 48, 58, 56, 48, 47, 117, 100, 112] = some ⟨[49, 50, 55, 46, 48, 46, 48, 46, 49], 8080, 80, [117, 100, 112]⟩ := by kernel_rfl
  rw [e1]
  simp only [Option.bind_some, resP]
  have e2 : port_Text n ⟨[49, 50, 55, 46, 48, 46, 48, 46, 49], 8080, 80, [117, 100, 112]⟩ = some [49, 50, 55, 46, 48, 46, 48, 46, 49, 58, 56, 48, 56, 48, 58, 56, 48, 47, 117, 100, 112] := by
    subst hn; kernel_rfl
  have e3 : port_Right n ⟨[49, 50, 55, 46, 48, 46, 48, 46, 49], 8080, 80, [117, 100, 112]⟩ = some true := by
    subst hn; kernel_rfl
  rw [e2, e3]
  rfl
theorem law16_PortParses_true (a0 : BS) (h : a0.length ≤ maxLen) : ∃ n, law16_PortParses n a0 = some true := by
  refine ⟨2000000, ?_⟩
  generalize hn : 2000000 = n
  have hn' := hn.symm
  unfold law16_PortParses
  rw [law16_awake_eq n hn']
  by_cases hl : (a0.length : Int) > 500
  · rw [decide_eq_true hl]; rfl
  · rw [decide_eq_false hl, if_neg Bool.false_ne_true, pparse_eq n a0 (by omega) (by omega), rparse_eq n a0 (by omega) (by omega)]
    simp only [Option.bind_some, beq_self_eq_true, Bool.and_self, cond_true]
    cases hp : parse a0 with
    | none => rfl
    | some p =>
      obtain ⟨h1, h2⟩ := parse_right hp
      show (((if _ = true then port_Right n p else some false) : Option Bool).bind _) = _
      rw [pright_eq n p (by omega) (by omega), h1]
      rfl
end Go.Proofs.YtonjhkefnijlhaaDoor.M
