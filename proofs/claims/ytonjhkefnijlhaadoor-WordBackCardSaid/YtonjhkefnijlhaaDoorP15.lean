/-
  Chapter 15: splitting words, said plainly. Over the printed models.
-/
import Derived.Test.YtonjhkefnijlhaaDoorM15
import Derived.Test.YtonjhkefnijlhaaDoorStr
namespace Go.Proofs.YtonjhkefnijlhaaDoor.M
open Go Go.Proofs.YtonjhkefnijlhaaDoor.RX Go.Proofs.YtonjhkefnijlhaaDoor.PL

theorem eq_drop {l m : List BS} {i : Nat} (h1 : i < l.length) (h2 : i < m.length) : (l.drop i = m.drop i) ↔ l[i] = m[i] ∧ l.drop (i + 1) = m.drop (i + 1) := by
  rw [drop_at h1, drop_at h2, List.cons.injEq]
theorem same_l {L : Nat → Int → Option (Sum Unit Bool)} (l m : List BS) (hlm : l.length = m.length) (hl : l.length < 10000)
    (hs : ∀ k i (h : i < l.length) (h' : i < m.length), L (k + 1) (i : Int) = if (!(l[i] == m[i])) = true then some (.inr false) else L k (IntKind.wrap .i64 ((i : Int) + 1)))
    (he : ∀ k, L (k + 1) (l.length : Int) = some (.inl ())) : ∀ k i, i ≤ l.length → l.length - i < k → L k (i : Int) = some (if l.drop i = m.drop i then .inl () else .inr false)
  | 0, i, _, h => by omega
  | k + 1, i, h1, h2 => by
    by_cases h : i < l.length
    · have h' : i < m.length := by omega
      rw [hs k i h h']
      simp only [eq_drop h h']
      by_cases e : l[i] = m[i]
      · simp only [e, beq_self_eq_true, Bool.not_true, Bool.false_eq_true, if_false, true_and]
        rw [wrap_s i (by omega)]
        exact same_l l m hlm hl hs he k (i + 1) (by omega) (by omega)
      · simp [e]
    · have : i = l.length := by omega
      subst this
      rw [he, List.drop_eq_nil_of_le (Nat.le_refl _), List.drop_eq_nil_of_le (by omega), if_pos rfl]
theorem ref02_Same_eq (n : Nat) (l m : List BS) (hl : l.length < 10000) (hn : 100000 ≤ n) : ref02_Same n l m = some (decide (l = m)) := by
  unfold ref02_Same
  by_cases hlm : l.length = m.length
  · have e : ((List.length l : Int) != (List.length m : Int)) = false := by simp [hlm]
    have := same_l (L := ref02_Same_l1 n l m) l m hlm hl
      (fun k i h h' => by rw [ref02_Same_l1, if_pos (lt_i h), if_pos (in_i h), if_pos (in_i h'), at_i h, at_i h'])
      (fun k => by rw [ref02_Same_l1, nlt_n]; rfl) n 0 (by omega) (by omega)
    rw [e, if_neg Bool.false_ne_true, show (0 : Int) = ((0 : Nat) : Int) from rfl, this, List.drop_zero, List.drop_zero]
    by_cases h : l = m
    · rw [if_pos h, decide_eq_true h]; rfl
    · rw [if_neg h, decide_eq_false h]; rfl
  · have e : ((List.length l : Int) != (List.length m : Int)) = true := by simpa using fun h => hlm (by omega)
    rw [e, if_pos rfl, decide_eq_false (fun h => hlm (congrArg List.length h))]

theorem few_eq (n : Nat) (l : List BS) (m : Nat) (hm : m ≤ 1000) (hn : 100000 ≤ n) : ∃ b, law02_Few n l (m : Int) = some b ∧ (b = true → l.length ≤ m) := by
  unfold law02_Few
  by_cases h : (l.length : Int) > (m : Int)
  · exact ⟨false, by rw [if_pos (decide_eq_true h)], fun h => by cases h⟩
  · rw [if_neg (by simpa using h)]
    have := scanL (L := law02_Few_l1 n l) l (fun x => if decide ((x.length : Int) > 100) = true then some false else none) 0 (by omega)
      (fun k i h _ => by
        rw [law02_Few_l1, if_pos (lt_i h), if_pos (in_i h), at_i h]
        cases decide ((l[i].length : Int) > 100) <;> rfl)
      (fun k => by rw [law02_Few_l1, nlt_n]; rfl) n 0 (by omega) (by omega) (by omega)
    have this : law02_Few_l1 n l n 0 = _ := this
    rw [this]
    generalize List.findSome? _ _ = o
    cases o with
    | none => exact ⟨true, rfl, fun _ => by omega⟩
    | some r => exact ⟨r, rfl, fun _ => by omega⟩

theorem blank_eq : ∀ c : UInt8, word_blank (c.toNat : Int) = decide (c = 32 ∨ c = 9) := byte_all (by decide +kernel)
theorem rblank_eq : ∀ c : UInt8, ref15_blank (c.toNat : Int) = decide (c = 32 ∨ c = 9) := byte_all (by decide +kernel)
theorem b34 (c : UInt8) : ((c.toNat : Int) == 34) = decide (c = 34) := beq_byte c 34 (by decide)
theorem b92 (c : UInt8) : ((c.toNat : Int) == 92) = decide (c = 92) := beq_byte c 92 (by decide)
theorem b39 (c : UInt8) : ((c.toNat : Int) == 39) = decide (c = 39) := beq_byte c 39 (by decide)
theorem n34 (c : UInt8) : ((c.toNat : Int) != 34) = !decide (c = 34) := by rw [← b34]; rfl
theorem n92 (c : UInt8) : ((c.toNat : Int) != 92) = !decide (c = 92) := by rw [← b92]; rfl

def fin (out : List BS) (w : BS) (b : Bool) : List BS := if b = true then out ++ [w] else out
/-- What the words are, byte by byte: 0 between quotes and words, 1 behind a backslash, 2 in single quotes, 3 in double ones, 4 there behind a backslash. -/
def run (m : Nat) (out : List BS) (w : BS) (b : Bool) : BS → Option (List BS)
  | [] => if m = 0 then some (fin out w b) else none
  | c :: t =>
    if m = 0 then
      if c = 32 ∨ c = 9 then (if b = true then run 0 (out ++ [w]) [] false t else run 0 out w false t)
      else if c = 39 then run 2 out w true t
      else if c = 34 then run 3 out w true t
      else if c = 92 then run 1 out w b t
      else run 0 out (w ++ [c]) true t
    else if m = 1 then run 0 out (w ++ [c]) true t
    else if m = 2 then (if c = 39 then run 0 out w b t else run 2 out (w ++ [c]) b t)
    else if m = 3 then (if c = 34 then run 0 out w b t else if c = 92 then run 4 out w b t else run 3 out (w ++ [c]) b t)
    else run 3 out (if c = 34 ∨ c = 92 then w ++ [c] else w ++ [92, c]) b t
def res (o : Option (List BS)) : List BS × Int := match o with | none => ([], 3) | some l => if 32 < l.length then ([], 9) else (l, 0)
theorem run0c (out : List BS) (w : BS) (b : Bool) (c : UInt8) (t : BS) : run 0 out w b (c :: t) = if c = 32 ∨ c = 9 then (if b = true then run 0 (out ++ [w]) [] false t else run 0 out w false t) else if c = 39 then run 2 out w true t else if c = 34 then run 3 out w true t else if c = 92 then run 1 out w b t else run 0 out (w ++ [c]) true t := by rw [run, if_pos rfl]
theorem run1c (out : List BS) (w : BS) (b : Bool) (c : UInt8) (t : BS) : run 1 out w b (c :: t) = run 0 out (w ++ [c]) true t := by rw [run, if_neg (by decide), if_pos rfl]
theorem run2c (out : List BS) (w : BS) (b : Bool) (c : UInt8) (t : BS) : run 2 out w b (c :: t) = if c = 39 then run 0 out w b t else run 2 out (w ++ [c]) b t := by rw [run, if_neg (by decide), if_neg (by decide), if_pos rfl]
theorem run3c (out : List BS) (w : BS) (b : Bool) (c : UInt8) (t : BS) : run 3 out w b (c :: t) = if c = 34 then run 0 out w b t else if c = 92 then run 4 out w b t else run 3 out (w ++ [c]) b t := by rw [run, if_neg (by decide), if_neg (by decide), if_neg (by decide), if_pos rfl]
theorem run4c (out : List BS) (w : BS) (b : Bool) (c : UInt8) (t : BS) : run 4 out w b (c :: t) = run 3 out (if c = 34 ∨ c = 92 then w ++ [c] else w ++ [92, c]) b t := by rw [run, if_neg (by decide), if_neg (by decide), if_neg (by decide), if_neg (by decide)]
theorem run2 (out : List BS) (b : Bool) : ∀ (l w : BS), run 2 out w b l = match upto 39 l with | none => none | some p => run 0 out (w ++ p.1) b p.2
  | [], w => rfl
  | c :: t, w => by
    rw [run2c, upto]
    by_cases h : c = 39
    · rw [if_pos h, if_pos h]; simp
    · rw [if_neg h, if_neg h, run2 out b t]
      cases upto 39 t with
      | none => rfl
      | some p => simp
theorem cap1 {a : Nat} (h : a ≤ 1000000) : decide ((a + 1) * (16 + 1) ≤ limit) = true := decide_eq_true (by show (a + 1) * (16 + 1) ≤ 140737488355328; omega)

theorem g0_eq (n k : Nat) (out : List BS) (w : BS) (b : Bool) (ho : out.length ≤ 1000000) : word_Split_g1_0 n (k + 1) out w b = some (res (some (fin out w b))) := by
  rw [word_Split_g1_0, word_Split_j4]
  have hc : decide ((List.length out + List.length ([w] : List BS)) * (16 + 1) ≤ limit) = true := cap1 ho
  have hr : ∀ l : List BS, (if decide ((List.length l : Int) > 32) = true then some (([] : List BS), (9 : Int)) else some (l, 0)) = some (res (some l)) := by
    intro l
    show _ = some (if 32 < l.length then ([], 9) else (l, 0))
    by_cases h : 32 < l.length
    · rw [if_pos (decide_eq_true (by omega)), if_pos h]
    · rw [if_neg (by simp; omega), if_neg h]
  rw [if_pos hc]
  cases b with
  | true => simpa [fin] using hr (out ++ [w])
  | false => simpa [fin] using hr out
theorem g_all (n : Nat) (S : BS) (hS : S.length ≤ 1000000) : ∀ (k i : Nat) (out : List BS) (w : BS) (b : Bool), i ≤ S.length → S.length - i + 2 ≤ k → out.length ≤ i → w.length ≤ i →
    word_Split_g1_1 n k S out w (i : Int) b = some (res (run 0 out w b (S.drop i))) ∧ word_Split_g1_2 n k S out w (i : Int) b = some (res (run 2 out w b (S.drop i))) ∧ word_Split_g1_3 n k S out w (i : Int) b = some (res (run 3 out w b (S.drop i)))
  | 0, i, out, w, b, hi, hk, ho, hw => by omega
  | k + 1, i, out, w, b, hi, hk, ho, hw => by
    have hfit : ∀ (u : BS) (x : UInt8), u.length ≤ 2000000 → decide ((List.length u + List.length ([x] : List UInt8)) * (1 + 1) ≤ limit) = true := fun u x hu => fits (by simp; omega)
    by_cases h : i < S.length
    · have hne : ((i : Int) == (S.length : Int)) = false := by rw [eq_i]; exact decide_eq_false (by omega)
      have hs := wrap_s i (by omega)
      rw [drop_at h]
      have ih := fun out' w' b' h1 h2 => g_all n S hS k (i + 1) out' w' b' (by omega) (by omega) h1 h2
      refine ⟨?_, ?_, ?_⟩
      · rw [word_Split_g1_1, word_Split_j5, run0c]
        simp only [hne, Bool.false_eq_true, if_false, in_i h, if_true, at_i h, blank_eq, b39, b34, b92, hs]
        by_cases hb : S[i] = 32 ∨ S[i] = 9
        · rw [if_pos (decide_eq_true hb), if_pos hb, word_Split_j6]
          have hc : decide ((List.length out + List.length ([w] : List BS)) * (16 + 1) ≤ limit) = true := cap1 (by omega)
          rw [if_pos hc]
          cases b with
          | true =>
            simp only [if_true, Option.bind_some, Sum.elim_inl, Sum.elim_inr]
            exact (ih _ _ _ (by simp; omega) (by simp)).1
          | false =>
            simp only [Bool.false_eq_true, if_false, Option.bind_some, Sum.elim_inl, Sum.elim_inr]
            exact (ih _ _ _ (by omega) (by omega)).1
        · rw [if_neg (by simpa using hb), if_neg hb]
          by_cases h39 : S[i] = 39
          · simp only [h39, decide_true, if_true, eq_self, Option.bind_some, Sum.elim_inl, Sum.elim_inr]
            exact (ih _ _ _ (by omega) (by omega)).2.1
          · rw [if_neg (by simpa using h39), if_neg h39]
            by_cases h34 : S[i] = 34
            · simp only [h34, decide_true, if_true, eq_self, Option.bind_some, Sum.elim_inl, Sum.elim_inr]
              exact (ih _ _ _ (by omega) (by omega)).2.2
            · rw [if_neg (by simpa using h34), if_neg h34]
              by_cases h92 : S[i] = 92
              · simp only [h92, decide_true, if_true]
                by_cases hl : i + 1 < S.length
                · have hne' : (((i + 1 : Nat) : Int) == (S.length : Int)) = false := by rw [eq_i]; exact decide_eq_false (by omega)
                  simp only [hne', Bool.false_eq_true, if_false, Option.bind_some, Sum.elim_inl, in_i hl, if_true, at_i hl, hfit w _ (by omega)]
                  rw [wrap_s (i + 1) (by omega), drop_at hl, run1c]
                  exact (g_all n S hS k (i + 1 + 1) _ _ _ (by omega) (by omega) (by omega) (by simp; omega)).1
                · have hne' : (((i + 1 : Nat) : Int) == (S.length : Int)) = true := by rw [eq_i]; exact decide_eq_true (by omega)
                  simp only [hne', if_true, Option.bind_some, Sum.elim_inl, Sum.elim_inr]
                  rw [List.drop_eq_nil_of_le (by omega)]; rfl
              · rw [if_neg (by simpa using h92), if_neg h92]
                simp only [Option.bind_some, Sum.elim_inl, in_i h, if_true, at_i h, hfit w _ (by omega), hs]
                exact (ih _ _ _ (by omega) (by simp; omega)).1
      · rw [word_Split_g1_2, run2, ← drop_at h]
        simp only [show (Int.toNat 39).toUInt8 = 39 from rfl, tn, ib_eq, le_i hi, if_true]
        cases hu : upto 39 (S.drop i) with
        | none => rfl
        | some p =>
          obtain ⟨p, q⟩ := p
          obtain ⟨h1, h2⟩ := upto_some hu
          have hlen : S.length = i + p.length + 1 + q.length := by
            have := congrArg List.length h1
            simp at this; omega
          have hq : S.drop (i + p.length + 1) = q := by
            rw [show i + p.length + 1 = i + (p.length + 1) by omega, ← List.drop_drop, h1, ← List.drop_drop, List.drop_left]; rfl
          have e1 := PL.wrap_add i p.length (by omega)
          have e2 : IntKind.wrap .i64 ((p.length : Int) + 1) = ((p.length + 1 : Nat) : Int) := wrap_s _ (by omega)
          have e3 := PL.wrap_add i (p.length + 1) (by omega)
          have ht : List.take (i + p.length - i) (List.drop i S) = p := by rw [show i + p.length - i = p.length by omega, h1, List.take_left]
          have g1 : decide ((p.length : Int) ≥ 0) = true := decide_eq_true (by omega)
          have g2 : decide (0 ≤ ((i + p.length : Nat) : Int) ∧ ((i + p.length : Nat) : Int) ≤ (S.length : Int)) = true := le_i (by omega)
          have g3 : decide (0 ≤ (i : Int) ∧ (i : Int) ≤ ((i + p.length : Nat) : Int)) = true := le_ij (by omega)
          have g4 : decide ((List.length w + List.length p) * (1 + 1) ≤ limit) = true := fits (by omega)
          simp only [e1, e2, e3, g1, g2, g3, if_true, tn, ht, g4, lett]
          rw [← hq, show i + (p.length + 1) = i + p.length + 1 by omega]
          exact (g_all n S hS k (i + p.length + 1) _ _ _ (by omega) (by omega) (by omega) (by simp; omega)).1
      · rw [word_Split_g1_3, word_Split_j7, run3c]
        simp only [hne, in_i h, at_i h, Bool.or_true, if_true, cond_false, lett, hs, b34, b92]
        by_cases h34 : S[i] = 34
        · have hx : (bif (((i + 1 : Nat) : Int) == (S.length : Int)) then decide (S[i] = 92) else false) = false := by
            rw [decide_eq_false (by rw [h34]; decide)]; cases (((i + 1 : Nat) : Int) == (S.length : Int)) <;> rfl
          simp only [hx, Bool.false_eq_true, if_false]
          simp only [h34, decide_true, if_true, eq_self, Option.bind_some, Sum.elim_inl, Sum.elim_inr]
          exact (ih _ _ _ (by omega) (by omega)).1
        · by_cases h92 : S[i] = 92
          · by_cases hl : i + 1 < S.length
            · have hne' : (((i + 1 : Nat) : Int) == (S.length : Int)) = false := by rw [eq_i]; exact decide_eq_false (by omega)
              have h9234 : decide ((92 : UInt8) = 34) = false := by decide
              simp only [hne', cond_false, Bool.false_eq_true, if_false, h92, h9234, decide_true, if_true, in_i hl, at_i hl, Bool.or_true, n34, n92]
              rw [if_neg (by decide : ¬ (92 : UInt8) = 34), drop_at hl, run4c]
              have ih2 : ∀ (w' : BS) (b' : Bool), w'.length ≤ i + 1 + 1 → word_Split_g1_3 n k S out w' ((i + 1 + 1 : Nat) : Int) b' = some (res (run 3 out w' b' (S.drop (i + 1 + 1)))) := fun w' b' h2 => (g_all n S hS k (i + 1 + 1) out w' b' (by omega) (by omega) (by omega) h2).2.2
              have hs2 := wrap_s (i + 1) (by omega)
              by_cases hc : S[i + 1] = 34 ∨ S[i + 1] = 92
              · have hx : (bif !decide (S[i + 1] = 34) then !decide (S[i + 1] = 92) else false) = false := by
                  rcases hc with e | e <;> simp [e]
                simp only [hx, Bool.false_eq_true, if_false, Option.bind_some, Sum.elim_inl, in_i hl, at_i hl, if_true, hfit w _ (by omega), hs2]
                rw [if_pos hc]
                exact ih2 _ _ (by simp; omega)
              · have hx : (bif !decide (S[i + 1] = 34) then !decide (S[i + 1] = 92) else false) = true := by
                  simp only [not_or] at hc; simp [hc.1, hc.2]
                simp only [hx, if_true, hfit w _ (by omega), Option.bind_some, Sum.elim_inl, in_i hl, at_i hl, hfit (w ++ [92]) _ (by simp; omega), hs2]
                rw [if_neg hc, show w ++ [92, S[i + 1]] = w ++ [92] ++ [S[i + 1]] by simp]
                exact ih2 _ _ (by simp; omega)
            · have hne' : (((i + 1 : Nat) : Int) == (S.length : Int)) = true := by rw [eq_i]; exact decide_eq_true (by omega)
              simp only [hne', cond_true, h92, decide_true, if_true, eq_self, Option.bind_some, Sum.elim_inl, Sum.elim_inr]
              rw [List.drop_eq_nil_of_le (by omega)]; rfl
          · have hx : (bif (((i + 1 : Nat) : Int) == (S.length : Int)) then decide (S[i] = 92) else false) = false := by
              rw [decide_eq_false h92]; cases (((i + 1 : Nat) : Int) == (S.length : Int)) <;> rfl
            simp only [hx, Bool.false_eq_true, if_false]
            simp only [decide_eq_false h34, decide_eq_false h92, Bool.false_eq_true, if_false, Option.bind_some, Sum.elim_inl, in_i h, at_i h, if_true, hfit w _ (by omega), hs]
            rw [if_neg h34, if_neg h92]
            exact (ih _ _ _ (by omega) (by simp; omega)).2.2
    · have hi' : i = S.length := by omega
      have hd : S.drop i = [] := List.drop_eq_nil_of_le (by omega)
      have heq : ((i : Int) == (S.length : Int)) = true := by rw [eq_i]; exact decide_eq_true hi'
      obtain ⟨k, rfl⟩ : ∃ k', k = k' + 1 := ⟨k - 1, by omega⟩
      rw [hd]
      refine ⟨?_, ?_, ?_⟩
      · rw [word_Split_g1_1, word_Split_j5, heq, if_pos rfl]
        exact g0_eq n k out w b (by omega)
      · rw [word_Split_g1_2]
        simp only [tn, le_i hi, if_true, hd]
        rfl
      · rw [word_Split_g1_3, word_Split_j7]
        simp only [heq, cond_true, lett, if_true]
        simp [run, res]
theorem word_Split_eq (n : Nat) (S : BS) (hS : S.length ≤ 1000000) (hn : 3000000 ≤ n) : word_Split n S = some (res (run 0 [] [] false S)) := by
  have key : word_Split_g1_e n n S = some (res (run 0 [] [] false S)) := by
    obtain ⟨k, rfl⟩ : ∃ k', n = k' + 1 := ⟨n - 1, by omega⟩
    rw [word_Split_g1_e, word_Split_j2]
    cases S with
    | nil =>
      obtain ⟨k, rfl⟩ : ∃ k', k = k' + 1 := ⟨k - 1, by omega⟩
      exact g0_eq (k + 1 + 1) k [] [] false (by simp)
    | cons c t =>
      have hl : 0 < (c :: t).length := by simp
      have hne : ((0 : Int) == (List.length (c :: t) : Int)) = false := by rw [beq_eq_false_iff_ne]; simp; omega
      have hin : decide (0 ≤ (0 : Int) ∧ (0 : Int) < (List.length (c :: t) : Int)) = true := in_i hl
      have h0 : ((c :: t)[Int.toNat 0]?.getD 0) = c := rfl
      have hs : IntKind.wrap .i64 ((0 : Int) + 1) = ((1 : Nat) : Int) := by decide
      have ih := fun out' w' b' h1 h2 => g_all (k + 1) (c :: t) hS k 1 out' w' b' (by simp) (by simp at hS ⊢; omega) h1 h2
      simp only [List.drop_one, List.tail_cons] at ih
      simp only [hne, Bool.false_eq_true, if_false, hin, if_true, h0, blank_eq, b39, b34, b92, hs]
      rw [run0c]
      by_cases hb : c = 32 ∨ c = 9
      · rw [if_pos (decide_eq_true hb), if_pos hb, word_Split_j3]
        simp only [Bool.false_eq_true, if_false, Option.bind_some, Sum.elim_inl, Sum.elim_inr]
        exact (ih _ _ _ (by simp) (by simp)).1
      · rw [if_neg (by simpa using hb), if_neg hb]
        by_cases h39 : c = 39
        · simp only [h39, decide_true, if_true, eq_self, Option.bind_some, Sum.elim_inl, Sum.elim_inr]
          subst h39
          exact (ih _ _ _ (by simp) (by simp)).2.1
        · rw [if_neg (by simpa using h39), if_neg h39]
          by_cases h34 : c = 34
          · simp only [h34, decide_true, if_true, eq_self, Option.bind_some, Sum.elim_inl, Sum.elim_inr]
            subst h34
            exact (ih _ _ _ (by simp) (by simp)).2.2
          · rw [if_neg (by simpa using h34), if_neg h34]
            by_cases h92 : c = 92
            · simp only [h92, decide_true, if_true]
              subst h92
              cases t with
              | nil => rfl
              | cons d t =>
                have hne' : (((1 : Nat) : Int) == (List.length (92 :: d :: t) : Int)) = false := by rw [beq_eq_false_iff_ne]; simp; omega
                have hl1 : 1 < (92 :: d :: t).length := by simp
                have hin1 := in_i hl1
                have h1 : ((92 :: d :: t)[Int.toNat ((1 : Nat) : Int)]?.getD 0) = d := rfl
                have hc : decide (List.length ([d] : List UInt8) * (1 + 1) ≤ limit) = true := by rfl
                simp only [hne', Bool.false_eq_true, if_false, Option.bind_some, Sum.elim_inl, hin1, if_true, h1, hc]
                rw [wrap_s 1 (by omega), run1c]
                have := (g_all (k + 1) (92 :: d :: t) hS k 2 [] [d] true (by simp) (by simp at hS ⊢; omega) (by simp) (by simp)).1
                simpa using this
            · rw [if_neg (by simpa using h92), if_neg h92]
              have hc : decide (List.length ([c] : List UInt8) * (1 + 1) ≤ limit) = true := by rfl
              simp only [Option.bind_some, Sum.elim_inl, hin, if_true, h0, hc, hs]
              exact (ih _ _ _ (by simp) (by simp)).1
  unfold word_Split
  rw [key]; rfl
end Go.Proofs.YtonjhkefnijlhaaDoor.M
