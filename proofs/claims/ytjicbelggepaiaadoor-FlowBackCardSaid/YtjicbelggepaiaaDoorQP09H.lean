/-
  Part of the proof of FlowBack: P09H.
-/
import Derived.Test.YtjicbelggepaiaaDoorQP09G
set_option linter.all false
namespace Go.Proofs.YtjicbelggepaiaaDoor.M
open Go Go.Proofs.YtjicbelggepaiaaDoor.RX Go.Proofs.YtjicbelggepaiaaDoor.PL
set_option maxRecDepth 100000
theorem same_self : ∀ (d n : Nat) (t : Nd), Fit d t → 100000 + d < n → ref08_Same n t t = some true
  | _, 0, _, _, h => by omega
  | 0, n + 1, t, h, _ => h.elim
  | d + 1, n + 1, t, hF, hn => by
    obtain ⟨f1, f2, _, _, _, _, _, f8⟩ := hF
    show ref08_Same_b (ref08_Same n) n t t = _
    unfold ref08_Same_b
    have e1 : (t.f_Kind != t.f_Kind) = false := by simp
    have e2 : (t.f_Text == t.f_Text) = true := by simp
    have e3 : ((List.length t.f_Kids : Int) != (List.length t.f_Kids : Int)) = false := by simp
    have l1 := scanL (L := ref08_Same_l1 (ref08_Same n) n t t) t.f_Kids (fun _ => (none : Option Bool)) 0 (by omega)
      (fun k i h _ => by
        rw [ref08_Same_l1, if_pos (lt_i h), if_pos (in_i h), if_pos (in_i h), at_i h, same_self d n _ (f8 _ (List.getElem_mem h)) (by omega)]
        rfl)
      (fun k => by rw [ref08_Same_l1, nlt_n]; rfl) n 0 (by omega) (by omega) (by omega)
    have l1 : ref08_Same_l1 (ref08_Same n) n t t n 0 = _ := l1
    have e4 : List.findSome? (fun _ : Nd => (none : Option Bool)) (t.f_Kids.drop 0) = none := by
      rw [List.findSome?_eq_none_iff]; intro x _; rfl
    rw [e1, e2, e3, ref02_Same_eq n t.f_Keys t.f_Keys (by omega) (by omega), l1, e4]
    simp [lett]
theorem left_fit_l (R : Nd → Int → Int → Option Int) (n d : Nat) (dep : Int) (t : Nd) (hdep : 0 ≤ dep ∧ dep < 100)
    (hR : ∀ x ∈ t.f_Kids, ∀ l : Nat, sz8 d x ≤ l → l ≤ 2000 → R x (dep + 1) (l : Int) = some ((l - sz8 d x : Nat) : Int)) :
    ∀ (k l i : Nat), l + 1 < k → i ≤ t.f_Kids.length → i + l ≤ 2000 → ((t.f_Kids.drop i).map (sz8 d)).sum ≤ l →
      ref08_Left_l1 R n dep t k (l : Int) (i : Int) = some (.inl ((l - ((t.f_Kids.drop i).map (sz8 d)).sum : Nat) : Int))
  | 0, l, i, h, _, _, _ => by omega
  | k + 1, l, i, hk, hi, hil, hs => by
    by_cases h : i < t.f_Kids.length
    · have e1 : IntKind.wrap .i64 (dep + 1) = dep + 1 := wrap_id _ (by omega) (by omega)
      rw [drop_at h, List.map_cons, List.sum_cons] at hs ⊢
      have hp := sz8_pos d t.f_Kids[i]
      rw [ref08_Left_l1, if_pos (lt_i h), if_pos (in_i h), at_i h, e1, hR _ (List.getElem_mem h) l (by omega) (by omega), Option.bind_some, if_neg (by simp), wrap_s i (by omega)]
      rw [left_fit_l R n d dep t hdep hR k (l - sz8 d t.f_Kids[i]) (i + 1) (by omega) (by omega) (by omega) (by omega)]
      congr 3
      omega
    · have : i = t.f_Kids.length := by omega
      subst this
      rw [ref08_Left_l1, nlt_n, List.drop_eq_nil_of_le (Nat.le_refl _)]
      simp
theorem left_fit : ∀ (d n : Nat) (t : Nd) (dep : Int) (l : Nat), dep + (d : Int) = 13 → 0 ≤ dep → l ≤ 2000 → Fit d t → sz8 d t ≤ l → 100000 + d < n → ref08_Left n t dep (l : Int) = some ((l - sz8 d t : Nat) : Int)
  | _, 0, _, _, _, _, _, _, _, _, h => by omega
  | 0, n + 1, t, dep, l, _, _, _, h, _, _ => h.elim
  | d + 1, n + 1, t, dep, l, hd, h0, hl, hF, hz, hn => by
    show ref08_Left_b (ref08_Left n) n t dep (l : Int) = _
    obtain ⟨f1, f2, f3, f4, f5, f6, f7, f8⟩ := hF
    have hs : sz8 (d + 1) t = 1 + (t.f_Kids.map (sz8 d)).sum := rfl
    have hsg := sum_ge (d := d) t.f_Kids
    obtain ⟨l, rfl⟩ : ∃ l', l = l' + 1 := ⟨l - 1, by omega⟩
    unfold ref08_Left_b
    have e1 : IntKind.wrap .i64 (((l + 1 : Nat) : Int) - 1) = (l : Int) := by rw [wrap_id _ (by omega) (by omega)]; omega
    simp only [lett, e1, bif_or, bif_and]
    have c1 : (decide ((l : Int) < 0) || decide (dep > 12) || decide (t.f_Kind < 0) || decide (t.f_Kind > 3)) = false := by
      simp only [Bool.or_eq_false_iff, decide_eq_false_iff_not]
      omega
    have c2 : ((t.f_Kind != 1 && decide ((List.length t.f_Text : Int) > 0)) || (t.f_Kind != 3 && decide ((List.length t.f_Keys : Int) > 0)) || (decide (t.f_Kind < 2) && decide ((List.length t.f_Kids : Int) > 0))) = false := by
      have a1 : (t.f_Kind != 1 && decide ((List.length t.f_Text : Int) > 0)) = false := by
        by_cases h : t.f_Kind = 1
        · rw [h]; rfl
        · rw [f3 h]; simp
      have a2 : (t.f_Kind != 3 && decide ((List.length t.f_Keys : Int) > 0)) = false := by
        by_cases h : t.f_Kind = 3
        · rw [h]; rfl
        · rw [f4 h]; simp
      have a3 : (decide (t.f_Kind < 2) && decide ((List.length t.f_Kids : Int) > 0)) = false := by
        by_cases h : t.f_Kind < 2
        · rw [f6 h]; simp
        · rw [decide_eq_false h]; rfl
      rw [a1, a2, a3]; rfl
    rw [c1, c2]
    simp only [Bool.false_eq_true, if_false]
    have loop := left_fit_l (ref08_Left n) n d dep t (by omega) (fun x hx l' g1 g2 => left_fit d n x (dep + 1) l' (by omega) (by omega) g2 (f8 x hx) g1 (by omega)) n l 0 (by omega) (Nat.zero_le _) (by omega) (by rw [List.drop_zero]; omega)
    have loop : ref08_Left_l1 (ref08_Left n) n dep t n (l : Int) 0 = _ := loop
    rw [List.drop_zero] at loop
    have fin : (l - (t.f_Kids.map (sz8 d)).sum : Nat) = l + 1 - sz8 (d + 1) t := by omega
    rw [loop, fin]
    by_cases h3 : t.f_Kind = 3
    · obtain ⟨g1, g2⟩ := f5 h3
      have e3 : (t.f_Kind == 3) = true := by rw [h3]; rfl
      have c3 : ((List.length t.f_Keys : Int) != (List.length t.f_Kids : Int) || decide ((List.length t.f_Kids : Int) > (l : Int))) = false := by
        rw [g1, decide_eq_false (by omega)]; simp
      have hso := ref02_Sorted_eq n t.f_Keys (by omega) (by omega)
      rw [e3, c3, hso]
      simp [srt_len g2]
    · have e3 : (t.f_Kind == 3) = false := by rw [beq_eq_false_iff_ne]; exact h3
      rw [e3]
      simp
theorem law09_FlowBack_true (a0 : Nd) (_ : W_api_Node a0) (a1 : BS) (_ : List.length a1 ≤ maxLen) : ∃ n, law09_FlowBack n a0 a1 = some true := by
  obtain ⟨n, hn⟩ : ∃ n, n = 60000000 := ⟨_, rfl⟩
  refine ⟨n, ?_⟩
  have haw := awake9 n (by omega)
  unfold law09_FlowBack
  obtain ⟨b, h1, h2⟩ := small_eq n a0 200 (by omega) (by omega)
  have h1 : ref08_Small n a0 200 = some b := h1
  rw [h1, Option.bind_some]
  by_cases c : (bif (!b) then true else (decide ((List.length a1 : Int) > 2000))) = true
  · rw [if_pos c, haw]; rfl
  rw [if_neg c]
  cases b with
  | false => exact absurd rfl c
  | true =>
    have c : decide ((List.length a1 : Int) > 2000) ≠ true := c
    have hl : a1.length ≤ 2000 := by
      have : ¬ ((List.length a1 : Int) > 2000) := by simpa using c
      omega
    obtain ⟨hF, hz, hS⟩ := h2 rfl
    have hS := hS.mono (c := 2000) (by omega)
    have hlen := wr9_len 12 a0 hF hS
    have pb := parse_back n a0 2 1 (by omega) (by omega) hF hS (by omega) (by omega)
    have e : (([32, 32] : BS) ++ wr9 12 a0) ++ [32] = List.replicate 2 32 ++ (wr9 12 a0 ++ List.replicate 1 32) := by simp [List.replicate]
    rw [flow_Write_eq 12 n a0 hF hS (by omega) (by omega), Option.bind_some, if_pos (le63 (by simp only [List.length_cons, List.length_nil]; omega)), if_pos (le63 (by simp only [List.length_append, List.length_cons, List.length_nil]; omega)), e, pb, Option.bind_some]
    simp only
    rw [if_pos (by rfl), same_self 12 n a0 hF (by omega), Option.bind_some, if_neg (by decide)]
    obtain ⟨x, er, p1, p2⟩ := parse_tot n a1 hl (by omega)
    rw [p1, Option.bind_some]
    simp only
    rcases p2 with ⟨rfl, q1, q2, q3⟩ | ⟨q1, rfl⟩
    · have pb2 := parse_back n x 0 0 (by omega) (by omega) q1 q3 q2 (by omega)
      have e2 : (List.replicate 0 32 ++ (wr9 12 x ++ List.replicate 0 32) : BS) = wr9 12 x := by simp
      rw [e2] at pb2
      rw [if_neg (by decide), flow_Write_eq 12 n x q1 q3 q2 (by omega), Option.bind_some, pb2, Option.bind_some]
      simp only
      rw [if_pos (by rfl), same_self 12 n x q1 (by omega), Option.bind_some]
      have rr : ref08_Right n x = some true := by
        unfold ref08_Right
        have := left_fit 12 n x 1 2000 (by decide) (by decide) (by decide) q1 q2 (by omega)
        have this : ref08_Left n x 1 2000 = some ((2000 - sz8 12 x : Nat) : Int) := this
        rw [this, Option.bind_some]
        exact congrArg some (decide_eq_true (by omega))
      rw [if_pos (by rfl), rr, haw]
      rfl
    · have hne : (er != 0) = true := by simpa using q1
      rw [hne, if_pos rfl, same_self 12 n Z8 (fit_null (d := 11)) (by omega), haw]
      rfl
end Go.Proofs.YtjicbelggepaiaaDoor.M
