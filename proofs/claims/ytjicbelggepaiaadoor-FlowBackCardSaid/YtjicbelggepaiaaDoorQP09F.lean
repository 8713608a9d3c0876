/-
  Part of the proof of FlowBack: P09F.
-/
import Derived.Test.YtjicbelggepaiaaDoorQP09E
set_option linter.all false
namespace Go.Proofs.YtjicbelggepaiaaDoor.M
open Go Go.Proofs.YtjicbelggepaiaaDoor.RX Go.Proofs.YtjicbelggepaiaaDoor.PL
set_option maxRecDepth 100000
theorem blk9_rep (p : Nat) : ∀ r : BS, (∀ c r', r = c :: r' → c ≠ 32) → blk9 (List.replicate p 32 ++ r) = p := by
  intro r h
  induction p with
  | zero =>
    cases r with
    | nil => rfl
    | cons c r' =>
      show (if c = 32 then blk9 r' + 1 else 0) = 0
      rw [if_neg (h c r' rfl)]
  | succ p ih =>
    rw [List.replicate_succ]
    show (if (32 : UInt8) = 32 then blk9 (List.replicate p 32 ++ r) + 1 else 0) = p + 1
    rw [if_pos rfl, ih]
theorem drop_len {S : BS} {i : Nat} {u r : BS} (h : S.drop i = u ++ r) (hu : u ≠ []) : i + u.length + r.length = S.length ∧ i < S.length := by
  have h2 := congrArg List.length h
  rw [List.length_drop, List.length_append] at h2
  have := List.length_pos_iff.2 hu
  omega
theorem rowB_spec {s : BS} (h : rowB s = true) : ∃ hl : 0 < s.length, s ≠ [126] ∧ s ≠ [110, 117, 108, 108] ∧ s[0] ≠ 32 ∧ s[s.length - 1] ≠ 32 ∧ sp18.contains s[0] = false ∧ okFrom s 0 = true ∧ ∀ c ∈ s, sp5.contains c = false := by
  unfold rowB plainB at h
  by_cases hl : 0 < s.length
  · rw [dif_pos hl] at h
    simp only [Bool.and_eq_true, Bool.not_eq_true', List.any_eq_false, Bool.not_eq_true, beq_eq_false_iff_ne, ne_eq] at h
    obtain ⟨h1, ⟨⟨⟨⟨⟨h2, h3⟩, h4⟩, h5⟩, h6⟩, h7⟩, h8⟩ := h
    exact ⟨hl, h2, h3, h4, h5, h6, h8, h1⟩
  · rw [dif_neg hl] at h
    rw [Bool.and_false] at h; cases h
theorem pl9_row {s : BS} (h : rowB s = true) (r : BS) : pl9 (s ++ r) = s.length + pl9 r := by
  obtain ⟨hl, _, _, _, _, _, hok, hsp⟩ := rowB_spec h
  have : ∀ (m i : Nat), i + m = s.length → pl9 (s.drop i ++ r) = m + pl9 r := by
    intro m
    induction m with
    | zero => intro i hi; rw [List.drop_eq_nil_of_le (by omega)]; simp
    | succ m ih =>
      intro i hi
      have hi2 : i < s.length := by omega
      have h1 := okFrom_at hok (Nat.zero_le i) hi2
      unfold okAt at h1
      rw [dif_pos hi2] at h1
      simp only [Bool.and_eq_true, Bool.not_eq_true', Bool.and_eq_false_iff] at h1
      obtain ⟨⟨_, h2⟩, _⟩ := h1
      have hc := hsp s[i] (List.getElem_mem hi2)
      have hcond : (sp5.contains s[i] || (s[i] == 58 && (match s.drop (i + 1) ++ r with | [] => true | d :: _ => sp6.contains d))) = false := by
        rw [hc, Bool.false_or]
        rcases h2 with h2 | h2
        · rw [h2]; rfl
        · unfold blankN at h2
          by_cases h' : i + 1 < s.length
          · rw [dif_pos h'] at h2
            rw [drop_at h']
            have e : sp6.contains s[i + 1] = (s[i + 1] == 32 || sp5.contains s[i + 1]) := rfl
            show (s[i] == 58 && sp6.contains s[i + 1]) = false
            rw [e, h2, hsp _ (List.getElem_mem h')]
            simp
          · rw [dif_neg h'] at h2; cases h2
      rw [drop_at hi2]
      show (if (sp5.contains s[i] || (s[i] == 58 && (match s.drop (i + 1) ++ r with | [] => true | d :: _ => sp6.contains d))) = true then 0 else pl9 (s.drop (i + 1) ++ r) + 1) = _
      rw [hcond, if_neg Bool.false_ne_true, ih (i + 1) (by omega)]
      omega
  have := this s.length 0 (by omega)
  rwa [List.drop_zero] at this
theorem trim_row {s : BS} (hl : 0 < s.length) (h : s[s.length - 1] ≠ 32) : Lib.trimRightB s 32 = s ∧ Lib.trimRightB (s ++ [32]) 32 = s := by
  constructor
  · have := Lib.trimRightB_take s 32 s.length (Nat.le_refl _) (fun j b hj hb => by rw [List.getElem?_eq_none hj] at hb; cases hb) (fun b _ hb => by
      rw [List.getElem?_eq_getElem (by omega)] at hb; cases hb; exact h)
    rwa [List.take_length] at this
  · have := Lib.trimRightB_take (s ++ [32]) 32 s.length (by simp) (fun j b hj hb => by
      rw [List.getElem?_append_right hj] at hb
      cases hjs : j - s.length with
      | zero => rw [hjs] at hb; cases hb; rfl
      | succ m => rw [hjs] at hb; cases hb) (fun b _ hb => by
      rw [List.getElem?_append_left (by omega), List.getElem?_eq_getElem (by omega)] at hb; cases hb; exact h)
    rwa [List.take_left] at this
def Endy (r : BS) : Prop := r = [] ∨ r = [32] ∨ ∃ c r', r = c :: r' ∧ (c = 44 ∨ c = 93 ∨ c = 125)
theorem Endy.pl {r : BS} (h : Endy r) : (pl9 r = 0) ∨ (r = [32] ∧ pl9 r = 1) := by
  rcases h with rfl | rfl | ⟨c, r', rfl, h⟩
  · exact .inl rfl
  · exact .inr ⟨rfl, rfl⟩
  · left
    rcases h with rfl | rfl | rfl <;> rfl
def Behind (S : BS) (r : BS) (j : Nat) : Prop := j ≤ S.length ∧ (S.drop j = r ∨ (r = [32] ∧ S.drop j = []))
theorem plain_back (n : Nat) (S : BS) (i : Nat) (s r : BS) (hS : S.length ≤ 100000000) (hn : S.length < n) (hd : S.drop i = s ++ r) (hl : 0 < s.length) (h32 : s[s.length - 1] ≠ 32) (hpl : pl9 (s ++ r) = s.length + pl9 r) (hr : Endy r) :
    ∃ j, flow_reader_plain__o0 n (S_flow_reader.mk S (i : Int) false) = some (s, S_flow_reader.mk S ((j : Nat) : Int) false) ∧ Behind S r j := by
  have hne : s ≠ [] := List.length_pos_iff.1 hl
  obtain ⟨h1, h2⟩ := drop_len hd hne
  obtain ⟨t1, t2⟩ := trim_row hl h32
  refine ⟨i + pl9 (S.drop i), ?_, ?_⟩
  · rw [plain_read n S false i hS hn (by omega), hd, hpl]
    rcases hr.pl with e | ⟨rfl, e⟩
    · rw [e, Nat.add_zero, List.take_left, t1]
    · rw [e, show s.length + 1 = (s ++ [32]).length by simp, List.take_length, t2]
  · rw [hd, hpl]
    have hdd : S.drop (i + s.length) = r := by rw [← List.drop_drop, hd, List.drop_left]
    rcases hr.pl with e | ⟨rfl, e⟩
    · exact ⟨by omega, .inl (by rw [e, Nat.add_zero, hdd])⟩
    · simp only [List.length_cons, List.length_nil] at h1
      refine ⟨by omega, .inr ⟨rfl, List.drop_eq_nil_of_le (by omega)⟩⟩
theorem quoted_back (n : Nat) (S : BS) (i : Nat) (s r : BS) (hS : S.length ≤ 100000000) (hs : s.length ≤ 100000) (hn : S.length + 1 < n) (hn2 : 200000 ≤ n) (hd : S.drop i = dblq s ++ r) :
    ∃ j, flow_reader_quoted__o0 n (S_flow_reader.mk S (i : Int) false) = some (s, S_flow_reader.mk S ((j : Nat) : Int) false) ∧ j ≤ S.length ∧ S.drop j = r := by
  have hd0 : S.drop i = 34 :: (s.flatMap esc ++ 34 :: r) := by rw [hd]; unfold dblq; simp
  obtain ⟨hi, h1, h2⟩ := drop_cons hd0
  have hsc := scan_open n S i hS hi (.inl h1)
  rw [h1] at hsc
  have hb := back34 n S r hS s n (i + 1) [] (by omega) (by simp; omega) h2
  have h34 : quote_Scan_l1 n S ((34 : UInt8).toNat : Int) n ((i + 1 : Nat) : Int) [] = _ := hb
  rw [h34, Option.bind_some] at hsc
  unfold flow_reader_quoted__o0
  simp only
  rw [hsc]
  refine ⟨i + 1 + (s.flatMap esc).length + 1, rfl, ?_, ?_⟩
  · have := congrArg List.length h2
    rw [List.length_drop] at this
    simp only [List.length_append, List.length_cons] at this
    omega
  · have h3 : S.drop (i + 1) = (s.flatMap esc ++ [34]) ++ r := by rw [h2]; simp
    have := drop_more h3
    rw [show i + 1 + (s.flatMap esc).length + 1 = i + 1 + (s.flatMap esc ++ [34]).length by simp; omega]
    exact this
theorem take_yes (n : Nat) (S : BS) (i : Nat) (c : UInt8) (p : Nat) (r : BS) (hS : S.length ≤ 100000000) (hn : S.length < n) (hi : i ≤ S.length) (hc : c ≠ 32) (hd : S.drop i = List.replicate p 32 ++ c :: r) : flow_reader_take__o0 n (c.toNat : Int) (S_flow_reader.mk S (i : Int) false) = some (true, S_flow_reader.mk S ((i + p + 1 : Nat) : Int) false) ∧ i + p + 1 ≤ S.length ∧ S.drop (i + p + 1) = r := by
  have e : blk9 (S.drop i) = p := by rw [hd]; exact blk9_rep p _ fun c' r' h => by cases h; exact hc
  have h2 : S.drop (i + p) = c :: r := by
    have := drop_more hd
    rwa [List.length_replicate] at this
  obtain ⟨h3, h4, h5⟩ := drop_cons h2
  have hc : hd9 (c :: r) = (c.toNat : Int) := rfl
  rw [take_eq n S false i _ hS hn hi, e, h2, if_pos hc]
  exact ⟨rfl, by omega, h5⟩
theorem take_no (n : Nat) (S : BS) (i : Nat) (c d : UInt8) (r : BS) (hS : S.length ≤ 100000000) (hn : S.length < n) (hi : i ≤ S.length) (hc : d ≠ 32) (hcd : d ≠ c) (hd : S.drop i = d :: r) : flow_reader_take__o0 n (c.toNat : Int) (S_flow_reader.mk S (i : Int) false) = some (false, S_flow_reader.mk S (i : Int) false) := by
  have e : blk9 (S.drop i) = 0 := by rw [hd]; exact blk9_rep 0 _ fun c' r' h => by cases h; exact hc
  rw [take_eq n S false i _ hS hn hi, e, Nat.add_zero, hd, if_neg]
  intro h
  have h : ((d.toNat : Int) : Int) = (c.toNat : Int) := h
  exact hcd (UInt8.toNat_inj.1 (by omega))
theorem wr9_first {d : Nat} {t : Nd} (hF : Fit d t) : ∃ c r, wr9 d t = c :: r ∧ c ≠ 32 ∧ c ≠ 93 ∧ c ≠ 125 := by
  cases d with
  | zero => exact hF.elim
  | succ d =>
    unfold wr9
    split
    · unfold wtxt
      by_cases hr : (bif true then rowB t.f_Text else plainB t.f_Text) = true
      · rw [if_pos hr]
        obtain ⟨hl, _, _, h4, _, h6, _⟩ := rowB_spec hr
        cases ht : t.f_Text with
        | nil => rw [ht] at hl; exact absurd hl (Nat.lt_irrefl 0)
        | cons c r =>
          simp only [ht, List.getElem_cons_zero] at h4 h6
          refine ⟨c, r, rfl, h4, ?_, ?_⟩
          · intro e; rw [e] at h6; exact absurd h6 (by decide)
          · intro e; rw [e] at h6; exact absurd h6 (by decide)
      · rw [if_neg hr]
        exact ⟨34, _, rfl, by decide, by decide, by decide⟩
    · split
      · exact ⟨91, _, rfl, by decide, by decide, by decide⟩
      · split
        · exact ⟨123, _, rfl, by decide, by decide, by decide⟩
        · exact ⟨110, _, rfl, by decide, by decide, by decide⟩
theorem wtxt_first (s : BS) : ∃ c r, wtxt true s = c :: r ∧ c ≠ 32 ∧ c ≠ 125 ∧ (rowB s = true → wtxt true s = s ∧ c ≠ 34 ∧ c ≠ 39) ∧ (rowB s = false → wtxt true s = dblq s ∧ c = 34) := by
  unfold wtxt
  cases hr : rowB s with
  | true =>
    obtain ⟨hl, _, _, h4, _, h6, _⟩ := rowB_spec hr
    cases s with
    | nil => exact absurd hl (Nat.lt_irrefl 0)
    | cons c r =>
      simp only [List.getElem_cons_zero] at h4 h6
      refine ⟨c, r, rfl, h4, ?_, fun _ => ⟨rfl, ?_, ?_⟩, fun h => by cases h⟩
      · intro e; rw [e] at h6; exact absurd h6 (by decide)
      · intro e; rw [e] at h6; exact absurd h6 (by decide)
      · intro e; rw [e] at h6; exact absurd h6 (by decide)
  | false => exact ⟨34, _, rfl, by decide, by decide, fun h => (by cases h), fun _ => ⟨rfl, rfl⟩⟩
theorem hd_ne {c b : UInt8} {r : BS} (h : c ≠ b) : (hd9 (c :: r) == (b.toNat : Int)) = false := by
  show ((c.toNat : Int) == (b.toNat : Int)) = false
  rw [beq_bytes]; simpa using h
theorem key_back (n : Nat) (S : BS) (i p : Nat) (s r : BS) (hS : S.length ≤ 100000000) (hs : s.length ≤ 100000) (hn : S.length + 1 < n) (hn2 : 200000 ≤ n) (hi : i ≤ S.length) (hd : S.drop i = List.replicate p 32 ++ (wtxt true s ++ 58 :: 32 :: r)) :
    ∃ j, flow_reader_key__o0 n (S_flow_reader.mk S (i : Int) false) = some (s, S_flow_reader.mk S ((j : Nat) : Int) false) ∧ j ≤ S.length ∧ S.drop j = 32 :: r ∧ i < j := by
  obtain ⟨c, q, hw, c32, _, hr1, hr2⟩ := wtxt_first s
  have e : blk9 (S.drop i) = p := by rw [hd]; exact blk9_rep p _ fun c' r' h => by rw [hw] at h; cases h; exact c32
  have h2 : S.drop (i + p) = wtxt true s ++ 58 :: 32 :: r := by
    have := drop_more hd
    rwa [List.length_replicate] at this
  have hne : wtxt true s ≠ [] := by rw [hw]; exact fun h => by cases h
  obtain ⟨hlen, hlt⟩ := drop_len h2 hne
  unfold flow_reader_key__o0
  rw [next_eq n S false i hS (by omega) hi, Option.bind_some, e]
  simp only
  rw [h2]
  have hfirst : ∃ j, flow_reader_key__o0_j1 n (bif (hd9 (wtxt true s ++ 58 :: 32 :: r) == 34) then true else (hd9 (wtxt true s ++ 58 :: 32 :: r) == 39)) (S_flow_reader.mk S ((i + p : Nat) : Int) false) = some (s, S_flow_reader.mk S ((j : Nat) : Int) false) ∧ j ≤ S.length ∧ S.drop j = 58 :: 32 :: r := by
    unfold flow_reader_key__o0_j1
    cases hr : rowB s with
    | true =>
      obtain ⟨hws, c34, c39⟩ := hr1 hr
      rw [hw]
      have a1 : (hd9 ((c :: q) ++ 58 :: 32 :: r) == 34) = false := hd_ne (b := 34) c34
      have a2 : (hd9 ((c :: q) ++ 58 :: 32 :: r) == 39) = false := hd_ne (b := 39) c39
      rw [a1, a2, if_neg (by decide)]
      obtain ⟨hl, _, _, _, h5, _⟩ := rowB_spec hr
      rw [hws] at h2
      have hpl := pl9_row hr (58 :: 32 :: r)
      have hp0 : pl9 (58 :: 32 :: r) = 0 := rfl
      obtain ⟨t1, _⟩ := trim_row hl h5
      obtain ⟨r1, _⟩ := row_eq n s hs hn2
      rw [plain_read n S false (i + p) hS (by omega) (by omega), Option.bind_some, h2, hpl, hp0, Nat.add_zero, List.take_left, t1]
      simp only
      rw [r1, Option.bind_some, hr, if_neg (by decide)]
      refine ⟨i + p + s.length, rfl, ?_, drop_more h2⟩
      rw [hws] at hlen
      omega
    | false =>
      obtain ⟨hws, c34⟩ := hr2 hr
      have a1 : (hd9 (wtxt true s ++ 58 :: 32 :: r) == 34) = true := by
        rw [hw, c34]; rfl
      rw [a1, if_pos (by rfl)]
      rw [hws] at h2
      obtain ⟨j, g1, g2, g3⟩ := quoted_back n S (i + p) s (58 :: 32 :: r) hS hs hn hn2 h2
      rw [g1]
      exact ⟨j, rfl, g2, g3⟩
  obtain ⟨j, g1, g2, g3⟩ := hfirst
  rw [g1, Option.bind_some]
  simp only
  rw [if_pos (by rfl)]
  have hij : i ≤ j := by
    have := congrArg List.length g3
    rw [List.length_drop] at this
    simp only [List.length_cons] at this hlen
    omega
  obtain ⟨y1, y2, y3⟩ := take_yes n S j 58 0 (32 :: r) hS (by omega) g2 (by decide) g3
  have y1 : flow_reader_take__o0 n 58 (S_flow_reader.mk S (j : Int) false) = some (true, S_flow_reader.mk S ((j + 0 + 1 : Nat) : Int) false) := y1
  rw [y1, Option.bind_some]
  exact ⟨j + 0 + 1, rfl, y2, y3, by omega⟩
end Go.Proofs.YtjicbelggepaiaaDoor.M
