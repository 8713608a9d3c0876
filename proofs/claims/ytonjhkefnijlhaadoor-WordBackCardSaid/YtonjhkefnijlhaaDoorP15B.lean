/-
  Chapter 15: the reference's words, joined words, and there and back. Over the printed models.
-/
import Derived.Test.YtonjhkefnijlhaaDoorP15
namespace Go.Proofs.YtonjhkefnijlhaaDoor.M
open Go Go.Proofs.YtonjhkefnijlhaaDoor.RX Go.Proofs.YtonjhkefnijlhaaDoor.PL

theorem findI_upto {ρ : Type} (c : UInt8) (G : Nat → ρ) : ∀ (l : BS) (i : Nat), findI (fun j x => if x = c then some (G j) else none) i l = (upto c l).map fun p => G (i + p.1.length)
  | [], i => rfl
  | b :: l, i => by
    rw [findI, upto]
    by_cases h : b = c
    · rw [if_pos h, if_pos h]; rfl
    · rw [if_neg h, if_neg h]
      simp only
      rw [findI_upto c G l (i + 1), Option.map_map]
      congr 1
      funext p
      show G (i + 1 + p.1.length) = G (i + (p.1.length + 1))
      rw [show i + 1 + p.1.length = i + (p.1.length + 1) by omega]

/-- A piece of a word, and what is behind it. -/
def dq (e : Bool) (w : BS) : BS → Option (BS × BS)
  | [] => none
  | c :: t =>
    if e = true then dq false (if c = 34 ∨ c = 92 then w ++ [c] else w ++ [92, c]) t
    else if c = 34 then some (w, t)
    else if c = 92 then dq true w t
    else dq false (w ++ [c]) t
def pc : BS → Option (BS × BS)
  | [] => none
  | c :: t =>
    if c = 92 then t.head?.map fun d => ([d], t.tail)
    else if c = 39 then upto 39 t
    else if c = 34 then dq false [] t
    else some ([c], t)
theorem run3_dq (out : List BS) (b : Bool) (w0 : BS) : ∀ (l : BS) (e : Bool) (w : BS), run (if e = true then 4 else 3) out (w0 ++ w) b l = match dq e w l with | none => none | some p => run 0 out (w0 ++ p.1) b p.2
  | [], e, w => by cases e <;> rfl
  | c :: t, true, w => by
    rw [dq, if_pos rfl, if_pos rfl, run4c]
    have := run3_dq out b w0 t false (if c = 34 ∨ c = 92 then w ++ [c] else w ++ [92, c])
    rw [if_neg Bool.false_ne_true] at this
    rw [← this]
    split <;> rw [List.append_assoc]
  | c :: t, false, w => by
    rw [dq, if_neg Bool.false_ne_true, if_neg Bool.false_ne_true, run3c]
    by_cases h : c = 34
    · rw [if_pos h, if_pos h]
    · rw [if_neg h, if_neg h]
      by_cases h' : c = 92
      · have := run3_dq out b w0 t true w
        rw [if_pos rfl] at this
        rw [if_pos h', if_pos h', this]
      · have := run3_dq out b w0 t false (w ++ [c])
        rw [if_neg Bool.false_ne_true] at this
        rw [if_neg h', if_neg h', ← this, List.append_assoc]
theorem run_pc (out : List BS) (w : BS) (b : Bool) (c : UInt8) (t : BS) (hb : ¬ (c = 32 ∨ c = 9)) : run 0 out w b (c :: t) = match pc (c :: t) with | none => none | some p => run 0 out (w ++ p.1) true p.2 := by
  rw [run0c, if_neg hb, pc]
  by_cases h39 : c = 39
  · subst h39
    rw [if_pos rfl, if_neg (by decide), if_pos rfl, run2]
    cases upto 39 t <;> rfl
  · rw [if_neg h39]
    by_cases h34 : c = 34
    · subst h34
      rw [if_pos rfl, if_neg (by decide), if_neg (by decide), if_pos rfl]
      have := run3_dq out true w t false []
      rwa [if_neg Bool.false_ne_true, List.append_nil] at this
    · rw [if_neg h34]
      by_cases h92 : c = 92
      · rw [if_pos h92, if_pos h92]
        cases t with
        | nil => rfl
        | cons d t => rw [run1c]; rfl
      · rw [if_neg h92, if_neg h92, if_neg h39, if_neg h34]
theorem dq_suf : ∀ (l : BS) (e : Bool) (w p q : BS), dq e w l = some (p, q) → ∃ pre, l = pre ++ q ∧ pre ≠ [] ∧ p.length ≤ w.length + pre.length + (if e = true then 1 else 0)
  | [], e, w, p, q, h => by cases h
  | c :: t, true, w, p, q, h => by
    rw [dq, if_pos rfl] at h
    obtain ⟨pre, h1, h2, h3⟩ := dq_suf t _ _ _ _ h
    refine ⟨c :: pre, by rw [h1]; rfl, by simp, ?_⟩
    rw [if_neg Bool.false_ne_true] at h3
    rw [if_pos rfl]
    split at h3 <;> simp at h3 ⊢ <;> omega
  | c :: t, false, w, p, q, h => by
    rw [dq, if_neg Bool.false_ne_true] at h
    rw [if_neg Bool.false_ne_true]
    split at h
    · cases h; exact ⟨[c], rfl, by simp, by simp⟩
    · split at h
      · obtain ⟨pre, h1, h2, h3⟩ := dq_suf t _ _ _ _ h
        rw [if_pos rfl] at h3
        exact ⟨c :: pre, by rw [h1]; rfl, by simp, by simp at h3 ⊢; omega⟩
      · obtain ⟨pre, h1, h2, h3⟩ := dq_suf t _ _ _ _ h
        rw [if_neg Bool.false_ne_true] at h3
        exact ⟨c :: pre, by rw [h1]; rfl, by simp, by simp at h3 ⊢; omega⟩
theorem pc_suf {l p q : BS} (h : pc l = some (p, q)) : ∃ pre, l = pre ++ q ∧ pre ≠ [] ∧ p.length ≤ pre.length := by
  cases l with
  | nil => cases h
  | cons c t =>
    rw [pc] at h
    split at h
    · cases t with
      | nil => cases h
      | cons d t => cases h; exact ⟨[c, d], rfl, by simp, by simp⟩
    · split at h
      · obtain ⟨h1, h2⟩ := upto_some h
        exact ⟨c :: (p ++ [39]), by rw [h1]; simp, by simp, by simp; omega⟩
      · split at h
        · obtain ⟨pre, h1, h2, h3⟩ := dq_suf _ _ _ _ _ h
          rw [if_neg Bool.false_ne_true] at h3
          exact ⟨c :: pre, by rw [h1]; rfl, by simp, by simp at h3 ⊢; omega⟩
        · cases h; exact ⟨[c], rfl, by simp, by simp⟩
/-- A piece as the reference gives it. -/
def pcr (S : BS) (o : Option (BS × BS)) : BS × Int := match o with | none => ([], -1) | some p => (p.1, ((S.length - p.2.length : Nat) : Int))
def endR : Sum Unit (BS × Int) → BS × Int | .inl _ => ([], -1) | .inr r => r
theorem pl2 (n : Nat) (S : BS) (hS : S.length ≤ 1000000) : ∀ (k i : Nat) (w : BS), i ≤ S.length → S.length - i < k → w.length ≤ i → ∃ r, ref15_piece_l2 n S k (i : Int) w = some r ∧ endR r = pcr S (dq false w (S.drop i))
  | 0, i, w, _, h, _ => by omega
  | k + 1, i, w, h1, h2, hw => by
    rw [ref15_piece_l2]
    by_cases h : i < S.length
    · have hs := wrap_s i (by omega)
      rw [if_pos (lt_i h), if_pos (in_i h), at_i h, drop_at h, dq, b34, b92, if_neg Bool.false_ne_true]
      by_cases h34 : S[i] = 34
      · rw [if_pos (decide_eq_true h34), if_pos h34, hs]
        have : (S.drop (i + 1)).length = S.length - (i + 1) := List.length_drop
        refine ⟨_, rfl, ?_⟩
        simp only [pcr, endR, this]
        rw [show S.length - (S.length - (i + 1)) = i + 1 by omega]
      · rw [if_neg (by simpa using h34), if_neg h34, if_pos (in_i h), ref15_piece_j3]
        have hfit : ∀ (u : BS) (x : UInt8), u.length ≤ 2000000 → decide (((List.length u + List.length ([x] : BS) : Nat) : Int) ≤ 9223372036854775807) = true := fun u x hu => str_fits (by simp; omega)
        by_cases h92 : S[i] = 92
        · rw [if_pos (decide_eq_true h92), if_pos h92, hs]
          by_cases hl : i + 1 < S.length
          · have hne' : (((i + 1 : Nat) : Int) == (S.length : Int)) = false := by rw [eq_i]; exact decide_eq_false (by omega)
            rw [hne', if_neg Bool.false_ne_true, if_pos (in_i hl), at_i hl, n34, n92, if_pos (by rw [in_i hl, Bool.or_true]), drop_at hl, dq, if_pos rfl]
            have hs2 := wrap_s (i + 1) (by omega)
            have ih : ∀ w' : BS, w'.length ≤ i + 1 + 1 → ∃ r, ref15_piece_l2 n S k ((i + 1 + 1 : Nat) : Int) w' = some r ∧ endR r = pcr S (dq false w' (S.drop (i + 1 + 1))) := fun w' hw' => pl2 n S hS k (i + 1 + 1) w' (by omega) (by omega) hw'
            simp only [lett, ref15_piece_j4]
            by_cases hc : S[i + 1] = 34 ∨ S[i + 1] = 92
            · have hx : (bif !decide (S[i + 1] = 34) then !decide (S[i + 1] = 92) else false) = false := by
                rcases hc with e | e <;> simp [e]
              rw [hx, if_neg Bool.false_ne_true, if_pos hc]
              simp only [Option.bind_some, Sum.elim_inl, hs2, le_i (show i + 1 + 1 ≤ S.length by omega), le_ij (show i + 1 ≤ i + 1 + 1 by omega), if_true, sub1 hl, hfit w _ (by omega)]
              exact ih _ (by simp; omega)
            · have hx : (bif !decide (S[i + 1] = 34) then !decide (S[i + 1] = 92) else false) = true := by
                simp only [not_or] at hc; simp [hc.1, hc.2]
              rw [hx, if_pos rfl, if_neg hc]
              simp only [hs, Option.bind_some, Sum.elim_inl, hs2, le_i (show i + 1 ≤ S.length by omega), le_ij (show i ≤ i + 1 by omega), le_i (show i + 1 + 1 ≤ S.length by omega), le_ij (show i + 1 ≤ i + 1 + 1 by omega), if_true, sub1 h, sub1 hl, hfit w _ (by omega)]
              simp only [h92, hfit (w ++ [92]) _ (by simp; omega), if_true]
              rw [show w ++ [92, S[i + 1]] = w ++ [92] ++ [S[i + 1]] by simp]
              exact ih _ (by simp; omega)
          · have hne' : (((i + 1 : Nat) : Int) == (S.length : Int)) = true := by rw [eq_i]; exact decide_eq_true (by omega)
            rw [hne', if_pos rfl, List.drop_eq_nil_of_le (by omega : S.length ≤ i + 1)]
            exact ⟨_, rfl, rfl⟩
        · rw [if_neg (by simpa using h92), if_neg h92]
          simp only [Option.bind_some, Sum.elim_inl, hs, le_i (show i + 1 ≤ S.length by omega), le_ij (show i ≤ i + 1 by omega), if_true, sub1 h, hfit w _ (by omega)]
          exact pl2 n S hS k (i + 1) _ (by omega) (by omega) (by simp; omega)
    · rw [if_neg (by rw [nlt_i (Nat.not_lt.1 h)]; exact Bool.false_ne_true), List.drop_eq_nil_of_le (by omega)]
      exact ⟨_, rfl, rfl⟩
theorem piece_eq (n : Nat) (S : BS) (i : Nat) (hS : S.length ≤ 1000000) (hn : 3000000 ≤ n) (h : i < S.length) : ref15_piece n S (i : Int) = some (pcr S (pc (S.drop i))) := by
  have hs := wrap_s i (by omega)
  have hs2 := wrap_s2 i (by omega)
  have hd1 : (S.drop (i + 1)).length = S.length - (i + 1) := List.length_drop
  unfold ref15_piece
  rw [if_pos (in_i h), at_i h, b92, b39, n34, drop_at h, pc, hs]
  by_cases h92 : S[i] = 92
  · rw [if_pos (decide_eq_true h92), if_pos h92]
    by_cases hl : i + 1 < S.length
    · have hne' : (((i + 1 : Nat) : Int) == (S.length : Int)) = false := by rw [eq_i]; exact decide_eq_false (by omega)
      rw [hne', if_neg Bool.false_ne_true, hs2, if_pos (le_i (by omega)), if_pos (le_ij (by omega))]
      have := sub1 hl
      rw [drop_at hl]
      simp only [lett]
      rw [show i + 2 = i + 1 + 1 by omega, this]
      have hd2 : (S.drop (i + 1 + 1)).length = S.length - (i + 1 + 1) := List.length_drop
      simp only [pcr, List.head?_cons, Option.map_some, List.tail_cons, hd2]
      rw [show S.length - (S.length - (i + 1 + 1)) = i + 1 + 1 by omega]
    · have hne' : (((i + 1 : Nat) : Int) == (S.length : Int)) = true := by rw [eq_i]; exact decide_eq_true (by omega)
      rw [hne', if_pos rfl, List.drop_eq_nil_of_le (by omega : S.length ≤ i + 1)]; rfl
  · rw [if_neg (by simpa using h92), if_neg h92]
    by_cases h39 : S[i] = 39
    · rw [if_pos (decide_eq_true h39), if_pos h39]
      have := scanI (L := ref15_piece_l1 n S (i : Int)) S (fun j x => if x = 39 then some ((S.drop (i + 1)).take (j - (i + 1)), ((j + 1 : Nat) : Int)) else none) (i + 1) (by omega)
        (fun k j hj hij => by
          rw [ref15_piece_l1, if_pos (lt_i hj), if_pos (in_i hj), at_i hj, b39, hs]
          by_cases hc : S[j] = 39
          · rw [if_pos (decide_eq_true hc), if_pos (le_i (by omega)), if_pos (le_ij hij), if_pos hc, wrap_s j (by omega), tn, tn]; rfl
          · rw [if_neg (by simpa using hc), if_neg hc])
        (fun k => by rw [ref15_piece_l1, nlt_n]; rfl) n (i + 1) (Nat.le_refl _) (by omega) (by omega)
      rw [this, findI_upto 39 (fun j => ((S.drop (i + 1)).take (j - (i + 1)), ((j + 1 : Nat) : Int)))]
      cases hu : upto 39 (S.drop (i + 1)) with
      | none => rfl
      | some p =>
        obtain ⟨p, q⟩ := p
        obtain ⟨e1, e2⟩ := upto_some hu
        have hlen := congrArg List.length e1
        rw [hd1] at hlen
        simp at hlen
        simp only [Option.map_some, outF_some, Option.bind_some, Sum.elim_inr, pcr, e1]
        rw [show i + 1 + p.length - (i + 1) = p.length by omega, List.take_left, show S.length - q.length = i + 1 + p.length + 1 by omega]
    · rw [if_neg (by simpa using h39), if_neg h39]
      by_cases h34 : S[i] = 34
      · rw [if_neg (by simp [h34]), if_pos h34]
        obtain ⟨r, hr, hr2⟩ := pl2 n S hS n (i + 1) [] (by omega) (by omega) (by simp)
        rw [hr, Option.bind_some, ← hr2]
        cases r <;> rfl
      · rw [if_pos (by simp [h34]), if_neg h34, if_pos (le_i (by omega)), if_pos (le_ij (by omega)), sub1 h]
        simp only [pcr, hd1]
        rw [show S.length - (S.length - (i + 1)) = i + 1 by omega]

/-! ### word by word -/
def endsAt (S : BS) (j : Nat) : Prop := ∀ h : j < S.length, S[j] = 32 ∨ S[j] = 9
theorem sl2 (n : Nat) (S : BS) (hS : S.length ≤ 1000000) (hn : 3000000 ≤ n) (out : List BS) : ∀ (k i : Nat) (w : BS), i ≤ S.length → S.length - i < k → w.length ≤ i → ∃ r, ref15_Split_l2 n S out k (i : Int) w = some r ∧
    match r with
    | .inl p => ∃ j : Nat, p.1 = (j : Int) ∧ i ≤ j ∧ j ≤ S.length ∧ p.2.length ≤ j ∧ (¬ endsAt S i → i < j) ∧ endsAt S j ∧ ∀ (o : List BS) (b : Bool), b = true ∨ ¬ endsAt S i → run 0 o w b (S.drop i) = run 0 o p.2 true (S.drop j)
    | .inr e => e = 3 ∧ ∀ (o : List BS) (b : Bool), run 0 o w b (S.drop i) = none
  | 0, i, w, _, h, _ => by omega
  | k + 1, i, w, h1, h2, hw => by
    rw [ref15_Split_l2]
    by_cases h : i < S.length
    · rw [if_pos (by rw [in_i h, Bool.or_true]), lt_i h, cond_true, at_i h, rblank_eq]
      by_cases hb : S[i] = 32 ∨ S[i] = 9
      · rw [if_neg (by simp [hb])]
        have he : endsAt S i := fun _ => hb
        exact ⟨_, rfl, i, rfl, Nat.le_refl _, h1, hw, (fun h => absurd he h), he, fun o b hbe => by
          rcases hbe with rfl | h
          · rfl
          · exact absurd he h⟩
      · rw [if_pos (by simp [hb]), piece_eq n S i hS hn h, Option.bind_some]
        have hne : ¬ endsAt S i := fun he => hb (he h)
        have hrun : ∀ (o : List BS) (b : Bool), run 0 o w b (S.drop i) = match pc (S.drop i) with | none => none | some p => run 0 o (w ++ p.1) true p.2 := fun o b => by rw [drop_at h]; exact run_pc o w b _ _ hb
        cases hp : pc (S.drop i) with
        | none =>
          refine ⟨.inr 3, rfl, rfl, fun o b => ?_⟩
          rw [hrun, hp]
        | some p =>
          obtain ⟨p, q⟩ := p
          obtain ⟨pre, e1, e2, e3⟩ := pc_suf hp
          have hpos : 0 < pre.length := List.length_pos_iff.2 e2
          have hlen : S.length - i = pre.length + q.length := by
            have := congrArg List.length e1
            rw [List.length_drop, List.length_append] at this; exact this
          have hj : S.length - q.length = i + pre.length := by omega
          have hq : S.drop (i + pre.length) = q := by rw [← List.drop_drop, e1, List.drop_left]
          simp only [pcr, hj]
          have hlt : decide (((i + pre.length : Nat) : Int) < 0) = false := decide_eq_false (by omega)
          rw [hlt, if_neg Bool.false_ne_true, if_pos (str_fits (by omega))]
          obtain ⟨r, hr, hr2⟩ := sl2 n S hS hn out k (i + pre.length) (w ++ p) (by omega) (by omega) (by rw [List.length_append]; omega)
          refine ⟨r, hr, ?_⟩
          cases r with
          | inr e => exact ⟨hr2.1, fun o b => by rw [hrun, hp]; simp only; rw [← hq]; exact hr2.2 o true⟩
          | inl r =>
            obtain ⟨j, f1, f2, f3, f4, _, f5, f6⟩ := hr2
            exact ⟨j, f1, by omega, f3, f4, fun _ => by omega, f5, fun o b _ => by rw [hrun, hp]; simp only; rw [← hq]; exact f6 o true (.inl rfl)⟩
    · have he : endsAt S i := fun h' => absurd h' h
      rw [nlt_i (Nat.not_lt.1 h)]
      refine ⟨.inl ((i : Int), w), rfl, i, rfl, Nat.le_refl _, h1, hw, (fun h => absurd he h), he, fun o b hbe => ?_⟩
      rcases hbe with rfl | h'
      · rfl
      · exact absurd he h'
theorem sl1 (n : Nat) (S : BS) (hS : S.length ≤ 1000000) (hn : 3000000 ≤ n) : ∀ (k i : Nat) (out : List BS), i ≤ S.length → S.length - i < k → out.length ≤ i → ref15_Split_l1 n S k out (i : Int) = some (match run 0 out [] false (S.drop i) with | some o => .inl o | none => .inr 3)
  | 0, i, out, _, h, _ => by omega
  | k + 1, i, out, h1, h2, ho => by
    rw [ref15_Split_l1]
    by_cases h : i < S.length
    · rw [if_pos (lt_i h), if_pos (in_i h), at_i h, rblank_eq]
      by_cases hb : S[i] = 32 ∨ S[i] = 9
      · rw [if_pos (decide_eq_true hb), wrap_s i (by omega), sl1 n S hS hn k (i + 1) out (by omega) (by omega) (by omega), drop_at h, run0c, if_pos hb, if_neg Bool.false_ne_true]
      · rw [if_neg (by simpa using hb)]
        have hne : ¬ endsAt S i := fun he => hb (he h)
        obtain ⟨r, hr, hr2⟩ := sl2 n S hS hn out n i [] h1 (by omega) (by simp)
        rw [hr, Option.bind_some]
        cases r with
        | inr e =>
          obtain ⟨rfl, hr2⟩ := hr2
          rw [hr2]; rfl
        | inl r =>
          obtain ⟨j, f1, f2, f3, f4, f5, f6, f7⟩ := hr2
          have hij := f5 hne
          have hc : decide ((List.length out + List.length ([r.2] : List BS)) * (16 + 1) ≤ limit) = true := cap1 (by omega)
          rw [f7 out false (.inr hne), Sum.elim_inl, f1, if_pos hc, sl1 n S hS hn k j (out ++ [r.2]) f3 (by omega) (by simp; omega)]
          congr 1
          have : run 0 (out ++ [r.2]) [] false (S.drop j) = run 0 out r.2 true (S.drop j) := by
            by_cases hj : j < S.length
            · rw [drop_at hj, run0c, run0c, if_pos (f6 hj), if_pos (f6 hj)]; rfl
            · rw [List.drop_eq_nil_of_le (by omega)]; rfl
          rw [this]
    · rw [if_neg (by rw [nlt_i (Nat.not_lt.1 h)]; exact Bool.false_ne_true), List.drop_eq_nil_of_le (by omega)]; rfl
theorem ref15_Split_eq (n : Nat) (S : BS) (hS : S.length ≤ 1000000) (hn : 3000000 ≤ n) : ref15_Split n S = some (res (run 0 [] [] false S)) := by
  unfold ref15_Split
  have := sl1 n S hS hn n 0 [] (by omega) (by omega) (by simp)
  have this : ref15_Split_l1 n S n [] 0 = _ := this
  rw [this, List.drop_zero]
  cases run 0 [] [] false S with
  | none => rfl
  | some l =>
    simp only [Option.bind_some, Sum.elim_inl]
    show _ = some (if 32 < l.length then ([], 9) else (l, 0))
    by_cases h : 32 < l.length
    · rw [if_pos (decide_eq_true (by omega)), if_pos h]
    · rw [if_neg (by simp; omega), if_neg h]

/-! ### bare words, joined words -/
def bareb (c : UInt8) : Bool := !(bif (bif (bif (bif (decide ((c.toNat : Int) < 97)) then true else (decide ((c.toNat : Int) > 122))) then (bif (decide ((c.toNat : Int) < 65)) then true else (decide ((c.toNat : Int) > 90))) else false) then (bif (decide ((c.toNat : Int) < 48)) then true else (decide ((c.toNat : Int) > 57))) else false) then (decide ((Lib.indexByte ([46, 95, 45, 47, 58, 61, 44, 43, 64, 37] : List UInt8) (Int.toNat (c.toNat : Int)).toUInt8) < 0)) else false)
def more : BS := [46, 95, 45, 47, 58, 61, 44, 43, 64, 37]
theorem bare_ref : ∀ c : UInt8, bareb c = (bif (bif (bif (bif (decide ((c.toNat : Int) ≥ 97)) then (decide ((c.toNat : Int) ≤ 122)) else false) then true else (bif (decide ((c.toNat : Int) ≥ 65)) then (decide ((c.toNat : Int) ≤ 90)) else false)) then true else (bif (decide ((c.toNat : Int) ≥ 48)) then (decide ((c.toNat : Int) ≤ 57)) else false)) then true else more.any fun x => ((x.toNat : Int) == (c.toNat : Int))) := byte_all (by decide +kernel)
theorem bare_not : ∀ c : UInt8, bareb c = true → c ≠ 32 ∧ c ≠ 9 ∧ c ≠ 39 ∧ c ≠ 34 ∧ c ≠ 92 := byte_all (by decide +kernel)
def bare (x : BS) : Bool := x.all bareb && !(x == [])
theorem findSome_anyF {α : Type} (p : α → Bool) : ∀ l : List α, l.findSome? (fun x => if p x = true then some false else none) = if l.any p = true then some false else none
  | [] => rfl
  | x :: l => by rw [List.findSome?_cons, List.any_cons, findSome_anyF p l]; cases p x <;> simp
theorem any_not {α : Type} (p : α → Bool) (l : List α) : l.any (fun x => !p x) = !l.all p := by induction l <;> simp_all
theorem word_Bare_eq (n : Nat) (x : BS) (hx : x.length ≤ 1000000) (hn : 3000000 ≤ n) : word_Bare n x = some (bare x) := by
  unfold word_Bare
  have := scanL (L := word_Bare_l1 n x (List.length x : Int)) x (fun c => if (!bareb c) = true then some false else none) 0 (by omega)
    (fun k i h _ => by
      rw [word_Bare_l1, if_pos (lt_i h), if_pos (in_i h), at_i h]
      simp only [bareb, Bool.not_not, lett]
      split <;> rfl)
    (fun k => by rw [word_Bare_l1, nlt_n]; rfl) n 0 (by omega) (by omega) (by omega)
  have this : word_Bare_l1 n x (List.length x : Int) n 0 = _ := this
  rw [this, List.drop_zero, findSome_anyF, any_not]
  unfold bare
  cases x.all bareb <;> rfl
theorem foldl_or (p : UInt8 → Bool) : ∀ (l : BS) (b : Bool), l.foldl (fun b x => bif b then true else p x) b = (bif b then true else l.any p)
  | [], b => by cases b <;> rfl
  | x :: l, b => by
    rw [List.foldl_cons, foldl_or p l, List.any_cons]
    cases b <;> cases p x <;> rfl
theorem ref15_Bare_eq (n : Nat) (x : BS) (hx : x.length ≤ 1000000) (hn : 3000000 ≤ n) : ref15_Bare n x = some (bare x) := by
  unfold ref15_Bare
  have inner : ∀ (i : Int) (c : UInt8) (b : Bool), ref15_Bare_l2 n x more i (c.toNat : Int) n b 0 = some (bif b then true else more.any fun y => ((y.toNat : Int) == (c.toNat : Int))) := by
    intro i c b
    have := (gather (L := ref15_Bare_l2 n x more i (c.toNat : Int)) more (fun b y => bif b then true else ((y.toNat : Int) == (c.toNat : Int))) id (fun _ _ => True) (by decide)
      (fun k b j h _ => by rw [ref15_Bare_l2, if_pos (lt_i h), if_pos (by rw [in_i h, Bool.or_true]), at_i h]) (fun _ _ _ _ => trivial) (fun k b _ => by rw [ref15_Bare_l2, nlt_n]; rfl) n 0 b (by omega) (by have : more.length = 10 := rfl; omega) trivial).1
    rw [List.drop_zero, foldl_or] at this
    exact this
  have := scanL (L := ref15_Bare_l1 n x more) x (fun c => if (!bareb c) = true then some false else none) 0 (by omega)
    (fun k i h _ => by
      rw [ref15_Bare_l1, if_pos (lt_i h), if_pos (in_i h), at_i h]
      simp only [lett]
      rw [inner, Option.bind_some, ← bare_ref]
      cases bareb x[i] <;> rfl)
    (fun k => by rw [ref15_Bare_l1, nlt_n]; rfl) n 0 (by omega) (by omega) (by omega)
  have this : ref15_Bare_l1 n x [46, 95, 45, 47, 58, 61, 44, 43, 64, 37] n 0 = _ := this
  rw [this, List.drop_zero, findSome_anyF, any_not]
  unfold bare
  have hl : decide ((x.length : Int) > 0) = !(x == []) := by
    cases x with
    | nil => rfl
    | cons c t => simp
  cases x.all bareb
  · rfl
  · simp only [Bool.not_true, Bool.false_eq_true, if_false, outF_none, Option.bind_some, Sum.elim_inl, Bool.true_and, hl]
def esc (c : UInt8) : BS := sub 39 [39, 92, 39, 39] c
theorem esc_len (c : UInt8) : (esc c).length ≤ 4 := by unfold esc sub; split <;> simp
def qw (x : BS) : BS := if bare x = true then x else [39] ++ x.flatMap esc ++ [39]
theorem qw_len (x : BS) : (qw x).length ≤ 4 * x.length + 2 := by
  have := flatMap_len esc_len x
  unfold qw; split <;> (try simp only [List.length_append, List.length_cons, List.length_nil]) <;> omega
theorem replace_esc (x : BS) : Lib.replaceAll x [39] [39, 92, 39, 39] = x.flatMap esc := replaceAll_eq 39 _ x (by decide)
theorem map_flat (f : BS → BS) : ∀ l : List BS, l.flatMap (fun x => [f x]) = l.map f
  | [] => rfl
  | x :: l => by rw [List.flatMap_cons, map_flat f l]; rfl
theorem lim_le {a : Nat} (h : a ≤ 100000000000) : a ≤ limit := by show a ≤ 140737488355328; omega
theorem word_Join_eq (n : Nat) (l : List BS) (hl : l.length ≤ 1000) (hx : ∀ x ∈ l, x.length ≤ 10000) (hn : 3000000 ≤ n) : word_Join n l = some (Lib.join (l.map qw) [32]) := by
  unfold word_Join
  have := (gather (L := word_Join_l1 n l (List.length l : Int)) l (fun acc x => acc ++ [qw x]) id (fun i s => s.length ≤ i) (by omega)
    (fun k s i h hs => by
      have hxi := hx l[i] (List.getElem_mem h)
      rw [word_Join_l1, if_pos (lt_i h), word_Join_j2, if_pos (in_i h), at_i h, word_Bare_eq n _ (by omega) hn, Option.bind_some, word_Join_j3]
      have hfl := flatMap_len esc_len l[i]
      have hcb := countB_le 39 l[i]
      have c1 : decide (List.length l[i] < 4294967281 ∧ 1 ≤ List.length ([39] : List UInt8) ∧ List.length l[i] + Lib.countB ⟨List.toArray l[i]⟩ ⟨List.toArray ([39] : List UInt8)⟩ * List.length ([39, 92, 39, 39] : List UInt8) ≤ limit) = true := decide_eq_true ⟨by omega, by simp, lim_le (by simp only [List.length_cons, List.length_nil]; omega)⟩
      have hcap : ∀ o : BS, decide ((List.length s + List.length ([o] : List BS)) * (16 + 1) ≤ limit) = true := fun o => cap1 (by omega)
      rw [if_pos c1, replace_esc, if_pos (str_fits (by simp only [List.length_append, List.length_cons, List.length_nil]; omega)), if_pos (str_fits (by simp only [List.length_append, List.length_cons, List.length_nil]; omega))]
      unfold qw
      cases hb : bare l[i] with
      | true => simp only [Bool.not_true, Bool.false_eq_true, if_false, if_true, Option.bind_some, hcap]
      | false => simp only [Bool.not_false, Bool.false_eq_true, if_false, if_true, Option.bind_some, hcap])
    (fun s i h hs => by simp; omega) (fun k s _ => by rw [word_Join_l1, nlt_n]; rfl) n 0 [] (by omega) (by omega) (by simp)).1
  have this : word_Join_l1 n l (List.length l : Int) n [] 0 = _ := this
  rw [this, List.drop_zero, foldl_app (fun x => [qw x]), map_flat]
  simp only [id, List.nil_append, Option.bind_some, List.length_map]
  have hj := join_len [32] 40003 (l.map qw) (fun x hx' => by
    obtain ⟨y, hy, rfl⟩ := List.mem_map.1 hx'
    have := qw_len y; have := hx y hy
    simp; omega)
  rw [List.length_map] at hj
  rw [if_pos (decide_eq_true ⟨lim_le (by omega), lim_le (Nat.le_trans hj (Nat.le_trans (Nat.mul_le_mul_right _ hl) (by decide)))⟩)]
theorem rj_word (n : Nat) (l : List BS) (hl : l.length ≤ 1000) (hx : ∀ x ∈ l, x.length ≤ 10000) (hn : 3000000 ≤ n) : ∀ (i : Nat) (h : i < l.length) (s : BS), s.length ≤ 50000000 → (if decide (0 ≤ (i : Int) ∧ (i : Int) < (List.length l : Int)) = true then ((ref15_Bare n ((l)[Int.toNat (i : Int)]?.getD [])).bind fun r2 =>
    if r2 = true then (if (decide (0 ≤ (i : Int) ∧ (i : Int) < (List.length l : Int))) = true then (if (decide (((List.length s + List.length ((l)[Int.toNat (i : Int)]?.getD []) : Nat) : Int) ≤ 9223372036854775807)) = true then (some (s ++ ((l)[Int.toNat (i : Int)]?.getD []))) else none) else none)
    else (if (decide (((List.length s + List.length ([39] : List UInt8) : Nat) : Int) ≤ 9223372036854775807)) = true then ((ref15_Join_l4 n l (i : Int) n (s ++ [39]) 0).bind fun o5 =>
    if (decide (((List.length o5 + List.length ([39] : List UInt8) : Nat) : Int) ≤ 9223372036854775807)) = true then (some (o5 ++ [39])) else none) else none)) else none) = some (s ++ qw l[i]) := by
  intro i h s hs
  have hxi := hx l[i] (List.getElem_mem h)
  have hfl := flatMap_len esc_len l[i]
  rw [if_pos (in_i h), at_i h, ref15_Bare_eq n _ (by omega) hn, Option.bind_some, if_pos (in_i h), if_pos (str_fits (by omega)), if_pos (str_fits (by simp only [List.length_append, List.length_cons, List.length_nil]; omega))]
  have := (gather (L := ref15_Join_l4 n l (i : Int)) l[i] (fun acc c => acc ++ esc c) id (fun j u => u.length ≤ s.length + 1 + 4 * j) (by omega)
    (fun k u j hj hu => by
      have hc1 : decide (((List.length u + List.length ([39, 92, 39] : List UInt8) : Nat) : Int) ≤ 9223372036854775807) = true := str_fits (by simp only [List.length_append, List.length_cons, List.length_nil]; omega)
      rw [ref15_Join_l4, if_pos (in_i h), at_i h, if_pos (lt_i hj), ref15_Join_j5, if_pos (in_i h), at_i h, if_pos (in_i hj), ref15_Join_j6, if_pos hc1, at_i hj, b39, wrap_s j (by omega)]
      unfold esc sub
      have hc2 : ∀ v : BS, v.length ≤ u.length + 3 → decide (((List.length v + List.length ([l[i][j]] : List UInt8) : Nat) : Int) ≤ 9223372036854775807) = true := fun v hv => str_fits (by simp only [List.length_append, List.length_cons, List.length_nil]; omega)
      by_cases hc : l[i][j] = 39
      · have hc3 := hc2 (u ++ [39, 92, 39]) (by rw [List.length_append]; exact Nat.le_refl _)
        rw [if_pos (decide_eq_true hc), if_pos hc, Option.bind_some, if_pos (in_i h), if_pos (le_i (by omega)), if_pos (le_ij (by omega)), sub1 hj, if_pos hc3]
        show Option.bind (some (u ++ [39, 92, 39] ++ [l[i][j]])) _ = _
        rw [Option.bind_some, hc, List.append_assoc]
        rfl
      · rw [if_neg (by simpa using hc), if_neg hc, Option.bind_some, if_pos (in_i h), if_pos (le_i (by omega)), if_pos (le_ij (by omega)), sub1 hj, if_pos (hc2 u (by omega))]
        show Option.bind (some (u ++ [l[i][j]])) _ = _
        rw [Option.bind_some])
    (fun u j hj hu => by have := esc_len l[i][j]; simp only [List.length_append]; omega) (fun k u _ => by
      rw [ref15_Join_l4, if_pos (in_i h), at_i h, nlt_n]; rfl) n 0 (s ++ [39]) (by omega) (by omega) (by simp)).1
  rw [List.drop_zero, foldl_app esc] at this
  have this : ref15_Join_l4 n l (i : Int) n (s ++ [39]) 0 = some (s ++ [39] ++ l[i].flatMap esc) := this
  rw [this]
  unfold qw
  cases hb : bare l[i] with
  | true => rw [if_pos rfl, if_pos rfl]
  | false =>
    rw [if_neg Bool.false_ne_true, if_neg Bool.false_ne_true, Option.bind_some, if_pos (str_fits (by simp only [List.length_append, List.length_cons, List.length_nil]; omega)), List.append_assoc, List.append_assoc, List.append_assoc]
theorem rj_spc (n : Nat) (l : List BS) : ∀ (i : Nat) (s : BS), s.length ≤ 50000000 → ref15_Join_j3 n l s (i : Int) (decide ((i : Int) > 0)) = some (if 0 < i then s ++ [32] else s) := by
  intro i s hs
  have hc : decide (((List.length s + List.length ([32] : List UInt8) : Nat) : Int) ≤ 9223372036854775807) = true := str_fits (by simp only [List.length_append, List.length_cons, List.length_nil]; omega)
  rw [ref15_Join_j3, if_pos hc]
  by_cases h : 0 < i
  · rw [if_pos (decide_eq_true (by omega)), if_pos h]
  · rw [if_neg (by simp; omega), if_neg h]
theorem rj_round (n : Nat) (l : List BS) (hl : l.length ≤ 1000) (hx : ∀ x ∈ l, x.length ≤ 10000) (hn : 3000000 ≤ n) : ∀ (k i : Nat) (h : i < l.length) (s : BS), s.length ≤ 45000 * i → ref15_Join_l1 n l (k + 1) s (i : Int) = ref15_Join_l1 n l k ((if 0 < i then s ++ [32] else s) ++ qw l[i]) (IntKind.wrap .i64 ((i : Int) + 1)) := by
  intro k i h s hs
  have hs' : s.length ≤ 45000 * 1000 := Nat.le_trans hs (Nat.mul_le_mul_left _ (by omega))
  rw [ref15_Join_l1, if_pos (lt_i h), ref15_Join_j2, rj_spc n l i s (by omega), Option.bind_some, rj_word n l hl hx hn i h _ (by split <;> (try simp only [List.length_append, List.length_cons, List.length_nil]) <;> omega), Option.bind_some]
theorem ref15_Join_eq (n : Nat) (l : List BS) (hl : l.length ≤ 1000) (hx : ∀ x ∈ l, x.length ≤ 10000) (hn : 3000000 ≤ n) : ref15_Join n l = some (Lib.join (l.map qw) [32]) := by
  unfold ref15_Join
  cases l with
  | nil =>
    obtain ⟨k, rfl⟩ : ∃ k', n = k' + 1 := ⟨n - 1, by omega⟩
    rw [ref15_Join_l1]; rfl
  | cons x r =>
    obtain ⟨k, rfl⟩ : ∃ k', n = k' + 1 := ⟨n - 1, by omega⟩
    have h0 := rj_round (k + 1) (x :: r) hl hx hn k 0 (by simp) [] (by simp)
    rw [if_neg (Nat.lt_irrefl 0), List.nil_append, List.getElem_cons_zero, show IntKind.wrap .i64 (((0 : Nat) : Int) + 1) = ((1 : Nat) : Int) from by decide] at h0
    have h0 : ref15_Join_l1 (k + 1) (x :: r) (k + 1) [] 0 = ref15_Join_l1 (k + 1) (x :: r) k (qw x) ((1 : Nat) : Int) := h0
    have hx0 := hx x (by simp)
    have hq0 := qw_len x
    have hl2 : r.length + 1 ≤ 1000 := by simpa using hl
    have := (gather (L := ref15_Join_l1 (k + 1) (x :: r)) (x :: r) (fun acc y => acc ++ ([32] ++ qw y)) id (fun i s => 1 ≤ i ∧ s.length ≤ 45000 * i) (by simp; omega)
      (fun k' s i h hs => by rw [rj_round (k + 1) (x :: r) hl hx hn k' i h s hs.2, if_pos (by omega), List.append_assoc])
      (fun s i h hs => by
        have := hx (x :: r)[i] (List.getElem_mem h); have := qw_len (x :: r)[i]
        refine ⟨by omega, ?_⟩
        simp only [List.length_append, List.length_cons, List.length_nil]; omega)
      (fun k' s _ => by rw [ref15_Join_l1, nlt_n]; rfl) k 1 (qw x) (by simp) (by simp; omega) ⟨by omega, by omega⟩).1
    rw [h0, this, List.drop_one, List.tail_cons, foldl_app (fun y => [32] ++ qw y), List.map_cons, Lib.join_cons, Option.bind_some]
    simp only [id, Lib.joinTail, List.map_map]
    rw [List.flatMap_def]
    rfl
end Go.Proofs.YtonjhkefnijlhaaDoor.M
