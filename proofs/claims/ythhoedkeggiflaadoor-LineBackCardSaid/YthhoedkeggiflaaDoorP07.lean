/-
  Chapter 7: lines split and cut, said plainly. Over the printed models.
-/
import Derived.Test.YthhoedkeggiflaaDoorP07Q
namespace Go.Proofs.YthhoedkeggiflaaDoor.M
open Go Go.Proofs.YthhoedkeggiflaaDoor.RX Go.Proofs.YthhoedkeggiflaaDoor.PL

/-! ### blanks at both ends -/
theorem trimL (l : BS) : Lib.trimLeftB l 32 = l.dropWhile (· == 32) := rfl
/-- How many blanks a line begins with. -/
def ind (l : BS) : Nat := (l.takeWhile (· == 32)).length
theorem ind_le (l : BS) : ind l ≤ l.length := by
  unfold ind
  have := List.takeWhile_append_dropWhile (p := fun c : UInt8 => c == 32) (l := l)
  have h := congrArg List.length this
  rw [List.length_append] at h; omega
theorem drop_ind (l : BS) : l.drop (ind l) = l.dropWhile (· == 32) := by
  have := List.takeWhile_append_dropWhile (p := fun c : UInt8 => c == 32) (l := l)
  have h2 : (l.takeWhile (· == 32) ++ l.dropWhile (· == 32)).drop (ind l) = l.dropWhile (· == 32) := List.drop_left
  rwa [this] at h2
theorem len_trim (l : BS) : (Lib.trimLeftB l 32).length = l.length - ind l := by
  rw [trimL, ← drop_ind, List.length_drop]
theorem ind_cons (c : UInt8) (l : BS) : ind (c :: l) = if c = 32 then ind l + 1 else 0 := by
  unfold ind
  by_cases h : c = 32
  · subst h; simp
  · rw [if_neg h, List.takeWhile_cons]; simp [h]
/-- Without the blanks at its end. -/
def trimR (l : BS) : BS := (l.reverse.dropWhile (· == 32)).reverse
theorem trimR_nil : trimR [] = [] := rfl
theorem trimR_snoc (l : BS) (c : UInt8) : trimR (l ++ [c]) = if c = 32 then trimR l else l ++ [c] := by
  unfold trimR
  rw [List.reverse_append, List.reverse_singleton, List.singleton_append, List.dropWhile_cons]
  by_cases h : c = 32
  · rw [if_pos h, if_pos (by simp [h])]
  · rw [if_neg h, if_neg (by simpa using h), List.reverse_cons, List.reverse_reverse]
theorem say_l2 (n : Nat) : ∀ (k : Nat) (s : BS), s.length < k → s.length ≤ 100000 → ref07_Say_l2 n k s = some (trimR s)
  | 0, s, h, _ => by omega
  | k + 1, s, h, hs => by
    rw [ref07_Say_l2]
    rcases List.eq_nil_or_concat s with rfl | ⟨l, c, rfl⟩
    · rfl
    · rw [List.concat_eq_append] at h hs ⊢
      have hl : (l ++ [c]).length = l.length + 1 := by simp
      have hw : IntKind.wrap .i64 (((l ++ [c]).length : Int) - 1) = (l.length : Int) := by rw [wrap_p _ (by omega) (by omega), hl]; rfl
      have hi : l.length < (l ++ [c]).length := by omega
      have hg : decide (((l ++ [c]).length : Int) > 0) = true := decide_eq_true (by omega)
      have hat : (l ++ [c])[l.length] = c := by simp
      rw [hw, in_i hi, Bool.or_true, if_pos rfl, hg, cond_true, at_i hi, hat, le_i (by omega), tn, List.take_left, trimR_snoc]
      have hb : ((c.toNat : Int) == 32) = decide (c = 32) := beq_byte c 32 (by decide)
      simp only [lett, hb, if_true]
      by_cases hc : c = 32
      · rw [if_pos (decide_eq_true hc), if_pos hc]
        exact say_l2 n k l (by omega) (by omega)
      · rw [if_neg (by simpa using hc), if_neg hc]

/-! ### what a line says -/
/-- The byte before a place: a blank before the first. -/
def bef (s : BS) (i : Nat) : UInt8 := if 0 < i then (s[i - 1]?.getD 0) else 32
theorem b123 (c : UInt8) : ((c.toNat : Int) == 123) = decide (c = 123) := beq_byte c 123 (by decide)
theorem b91 (c : UInt8) : ((c.toNat : Int) == 91) = decide (c = 91) := beq_byte c 91 (by decide)
theorem b44 (c : UInt8) : ((c.toNat : Int) == 44) = decide (c = 44) := beq_byte c 44 (by decide)
theorem m34 (c : UInt8) : ((c.toNat : Int) != 34) = !decide (c = 34) := by rw [← b34]; rfl
theorem m39 (c : UInt8) : ((c.toNat : Int) != 39) = !decide (c = 39) := by rw [← b39]; rfl
def quo (c b : UInt8) : Bool := (decide (c = 34) || decide (c = 39)) && (decide (b = 32) || decide (b = 91) || decide (b = 123) || decide (b = 44))
def rem (c b : UInt8) : Bool := decide (c = 35) && decide (b = 32)
theorem prev_in {s : BS} {i : Nat} (h : i < s.length) (h0 : 0 < i) (hs : s.length ≤ 100000) : (decide (0 ≤ (IntKind.wrap .i64 ((i : Int) - 1)) ∧ (IntKind.wrap .i64 ((i : Int) - 1)) < (List.length s : Int))) = true ∧ (s[Int.toNat (IntKind.wrap .i64 ((i : Int) - 1))]?.getD 0) = bef s i := by
  rw [wrap_p i (by omega) h0]
  refine ⟨in_i (by omega), ?_⟩
  unfold bef; rw [if_pos h0, tn]
theorem begins_eq (n : Nat) (s : BS) (i : Nat) (h : i < s.length) (hs : s.length ≤ 100000) : ref07_begins n s (i : Int) = some (if rem s[i] (bef s i) = true then 2 else if quo s[i] (bef s i) = true then 1 else 0) := by
  have h1 : ref07_begins_j1 n s (i : Int) 32 (decide ((i : Int) > 0)) = some ((bef s i).toNat : Int) := by
    unfold ref07_begins_j1
    by_cases h0 : 0 < i
    · rw [if_pos (decide_eq_true (by omega)), if_pos (prev_in h h0 hs).1, (prev_in h h0 hs).2]
    · rw [if_neg (by simp; omega), bef, if_neg h0]; rfl
  unfold ref07_begins
  rw [h1, Option.bind_some, in_i h, at_i h]
  generalize bef s i = b
  generalize s[i] = c
  simp only [Bool.or_true, if_true, lett, b35, b32, b91, b123, b44, m34, m39, rem, quo]
  by_cases c35 : c = 35
  · subst c35
    by_cases h32 : b = 32
    · simp [h32]
    · simp [h32]
  · by_cases c34 : c = 34
    · subst c34
      by_cases h32 : b = 32 <;> by_cases h91 : b = 91 <;> by_cases h123 : b = 123 <;> by_cases h44 : b = 44 <;> simp [h32, h91, h123, h44]
    · by_cases c39 : c = 39
      · subst c39
        by_cases h32 : b = 32 <;> by_cases h91 : b = 91 <;> by_cases h123 : b = 123 <;> by_cases h44 : b = 44 <;> simp [h32, h91, h123, h44]
      · simp [c35, c34, c39]
/-- Is it a byte to be said? -/
theorem low_good : ∀ c : UInt8, (bif (decide ((c.toNat : Int) < 32)) then true else ((c.toNat : Int) == 127)) = !good c := byte_all (by decide +kernel)
theorem ne32 (c : UInt8) : ((c.toNat : Int) != 32) = !decide (c = 32) := by rw [← b32]; rfl
theorem ibq : ∀ b : UInt8, decide ((Lib.indexByte ([91, 123, 44] : List UInt8) (Int.toNat (b.toNat : Int)).toUInt8) ≥ 0) = (decide (b = 91) || decide (b = 123) || decide (b = 44)) := byte_all (by decide +kernel)
theorem good_quote : ∀ c : UInt8, (c = 34 ∨ c = 39 ∨ c = 35) → good c = true := byte_all (by decide +kernel)
/-- What a step of the program does at place i, if a row's text so far ends at e. -/
inductive Stp where
  | stop | wrong | go (j e : Nat)
theorem j3_eq (n : Nat) (s : BS) (i e : Nat) (hn : 20000 ≤ n) (h : i < s.length) (hs : s.length ≤ 10000) (he : e ≤ i) : ∃ r, quote_Scan n s (i : Int) = some r ∧ ref06_Scan n s (i : Int) = some r ∧ Nx s i r ∧
    line_say_j3 n s (i : Int) (e : Int) (bif ((i : Int) == 0) then true else (((s[Int.toNat (IntKind.wrap .i64 ((i : Int) - 1))]?.getD 0).toNat : Int) == 32)) (s[i].toNat : Int) =
      some (if rem s[i] (bef s i) = true then .inr (.inr (s.take e, true)) else if quo s[i] (bef s i) = true then (if (r.2.2 != 0) = true then .inr (.inr ([], false)) else .inr (.inl (r.2.1, r.2.1)))
        else if good s[i] = false then .inr (.inr ([], false)) else if s[i] = 32 then .inl ((i : Int), (e : Int)) else .inl ((i : Int), ((i + 1 : Nat) : Int))) := by
  obtain ⟨r, h1, h2, h3⟩ := scan_eq n s (i : Int) hs hn ⟨by show -9223372036854775808 ≤ (i : Int); omega, by show (i : Int) ≤ 9223372036854775807; omega⟩
  rw [tn] at h3
  refine ⟨r, h1, h2, h3, ?_⟩
  have hfirst : (bif ((i : Int) == 0) then true else (((s[Int.toNat (IntKind.wrap .i64 ((i : Int) - 1))]?.getD 0).toNat : Int) == 32)) = decide (bef s i = 32) := by
    by_cases h0 : 0 < i
    · have : ((i : Int) == 0) = false := by rw [beq_eq_false_iff_ne]; omega
      rw [this, cond_false, (prev_in h h0 (by omega)).2, b32]
    · have : i = 0 := by omega
      subst this; rfl
  rw [hfirst, line_say_j3]
  have hchk : ((!((decide (bef s i = 32) == false) && ((bif ((s[i].toNat : Int) == 34) then true else ((s[i].toNat : Int) == 39)) == true)) || decide (0 ≤ (IntKind.wrap .i64 ((i : Int) - 1)) ∧ (IntKind.wrap .i64 ((i : Int) - 1)) < (List.length s : Int)))) = true := by
    by_cases h0 : 0 < i
    · rw [(prev_in h h0 (by omega)).1, Bool.or_true]
    · have : bef s i = 32 := by unfold bef; rw [if_neg h0]
      simp [this]
  have hlast : decide (bef s i = 32) = false → decide ((Lib.indexByte ([91, 123, 44] : List UInt8) (Int.toNat ((s[Int.toNat (IntKind.wrap .i64 ((i : Int) - 1))]?.getD 0).toNat : Int)).toUInt8) ≥ 0) = (decide (bef s i = 91) || decide (bef s i = 123) || decide (bef s i = 44)) := by
    intro hf
    have h0 : 0 < i := by
      rcases Nat.eq_zero_or_pos i with h0 | h0
      · subst h0; cases hf
      · exact h0
    rw [(prev_in h h0 (by omega)).2, ibq]
  simp only [tn] at hlast
  rw [hchk, h1, wrap_s i (by omega)]
  have hle : decide (0 ≤ (e : Int) ∧ (e : Int) ≤ (List.length s : Int)) = true := le_i (by omega)
  simp only [b35, b34, b39, low_good, ne32, hle, if_true, lett, Option.bind_some, tn]
  generalize hb : bef s i = b at hlast ⊢
  generalize hc : s[i] = c
  unfold rem quo
  by_cases c35 : c = 35
  · subst c35
    by_cases h32 : b = 32
    · simp [h32]
    · have hg : good 35 = true := by decide
      simp [h32, hg]
  · by_cases cq : c = 34 ∨ c = 39
    · have hq : (bif decide (c = 34) then true else decide (c = 39)) = true := by rcases cq with e | e <;> simp [e]
      have hq2 : (decide (c = 34) || decide (c = 39)) = true := by rcases cq with e | e <;> simp [e]
      have hg : good c = true := good_quote c (by rcases cq with e | e <;> simp [e])
      have hn32 : c ≠ 32 := by rcases cq with e | e <;> rw [e] <;> decide
      rw [decide_eq_false c35, hq, hq2]
      by_cases h32 : b = 32
      · simp only [decide_eq_true h32, cond_true, cond_false, Bool.false_and, Bool.false_eq_true, if_false, if_true, Bool.true_or, Bool.true_and]
        cases (r.2.2 != 0) <;> rfl
      · rw [decide_eq_false h32] at hlast ⊢
        have hlast := hlast rfl
        simp only [cond_true, cond_false, hlast, Bool.false_and, Bool.false_or, Bool.true_and, Bool.false_eq_true, if_false]
        by_cases hx : (decide (b = 91) || decide (b = 123) || decide (b = 44)) = true
        · rw [hx]
          simp only [if_true]
          cases (r.2.2 != 0) <;> rfl
        · have hx : (decide (b = 91) || decide (b = 123) || decide (b = 44)) = false := by simpa using hx
          rw [hx]
          simp [hg, hn32]
    · simp only [not_or] at cq
      have hq : (bif decide (c = 34) then true else decide (c = 39)) = false := by simp [cq.1, cq.2]
      have hq2 : (decide (c = 34) || decide (c = 39)) = false := by simp [cq.1, cq.2]
      rw [decide_eq_false c35, hq, hq2]
      cases hg : good c
      · simp
      · by_cases hc32 : c = 32
        · simp [hc32]
        · simp [hc32]
theorem take_succ_at {s : BS} {i : Nat} (h : i < s.length) : s.take (i + 1) = s.take i ++ [s[i]] := List.take_succ_eq_append_getElem h
theorem say_all (n : Nat) (s : BS) (hn : 20000 ≤ n) (hs : s.length ≤ 10000) : ∀ (k i e : Nat), i ≤ s.length → s.length - i < k → e ≤ i → s.take e = trimR (s.take i) → ∃ t, line_say_g1_0 n k s (i : Int) (e : Int) = some t ∧ t.1.length ≤ s.length ∧ ∃ r, ref07_Say_l1 n k s (i : Int) = some r ∧
    match r with | .inl s' => t = (trimR s', true) ∧ s'.length ≤ s.length | .inr r => t = r
  | 0, i, e, _, h, _, _ => by omega
  | k + 1, i, e, h1, h2, he, hinv => by
    rw [line_say_g1_0, ref07_Say_l1]
    have hte : (s.take e).length ≤ s.length := by rw [List.length_take]; omega
    by_cases h : i < s.length
    · have hne : ((i : Int) == (s.length : Int)) = false := by rw [eq_i]; exact decide_eq_false (by omega)
      obtain ⟨r, q1, q2, q3, q4⟩ := j3_eq n s i e hn h hs he
      have hchk : (!(((i : Int) == 0) == false) || decide (0 ≤ (IntKind.wrap .i64 ((i : Int) - 1)) ∧ (IntKind.wrap .i64 ((i : Int) - 1)) < (List.length s : Int))) = true := by
        by_cases h0 : 0 < i
        · rw [(prev_in h h0 (by omega)).1, Bool.or_true]
        · have : i = 0 := by omega
          subst this; rfl
      rw [hne, if_neg Bool.false_ne_true, if_pos hchk, if_pos (in_i h), at_i h, q4, lt_i h, if_pos rfl, begins_eq n s i h (by omega), Option.bind_some, Option.bind_some]
      by_cases hr : rem s[i] (bef s i) = true
      · rw [if_pos hr, if_pos hr, if_pos (by decide : ((2 : Int) == 2) = true), if_pos (le_i (by omega)), tn]
        exact ⟨_, rfl, hte, _, rfl, by rw [hinv], by rw [List.length_take]; omega⟩
      · rw [if_neg hr, if_neg hr]
        by_cases hq : quo s[i] (bef s i) = true
        · rw [if_pos hq, if_pos hq, if_neg (by decide : ¬ ((1 : Int) == 2) = true), if_pos (by decide : ((1 : Int) == 1) = true), q2, Option.bind_some]
          by_cases hz : r.2.2 = 0
          · have hz' : (r.2.2 != 0) = false := by rw [hz]; rfl
            obtain ⟨j, f1, f2, f3, f4⟩ := q3 hz
            rw [hz', if_neg Bool.false_ne_true, if_neg Bool.false_ne_true, f1]
            have hj : j - 1 < s.length := by omega
            rw [List.getElem?_eq_getElem hj, Option.getD_some] at f4
            refine say_all n s hn hs k j j f3 (by omega) (Nat.le_refl _) ?_
            rw [show j = (j - 1) + 1 by omega, take_succ_at hj, trimR_snoc, if_neg f4]
          · have hz' : (r.2.2 != 0) = true := by simpa using hz
            rw [hz', if_pos rfl, if_pos rfl]
            exact ⟨_, rfl, by simp, _, rfl, rfl⟩
        · rw [if_neg hq, if_neg hq, if_neg (by decide : ¬ ((0 : Int) == 2) = true), if_neg (by decide : ¬ ((0 : Int) == 1) = true), if_pos (in_i h), Good_good]
          cases hg : good s[i] with
          | false => exact ⟨_, rfl, by simp, _, rfl, rfl⟩
          | true =>
            rw [if_neg (by decide : ¬ true = false), if_neg (by decide : ¬ (!true) = true), wrap_s i (by omega)]
            by_cases hb : s[i] = 32
            · rw [if_pos hb]
              show ∃ t, line_say_g1_0 n k s (IntKind.wrap .i64 ((i : Int) + 1)) (e : Int) = some t ∧ _
              rw [wrap_s i (by omega)]
              exact say_all n s hn hs k (i + 1) e (by omega) (by omega) (by omega) (by rw [take_succ_at h, trimR_snoc, if_pos hb]; exact hinv)
            · rw [if_neg hb]
              show ∃ t, line_say_g1_0 n k s (IntKind.wrap .i64 ((i : Int) + 1)) ((i + 1 : Nat) : Int) = some t ∧ _
              rw [wrap_s i (by omega)]
              exact say_all n s hn hs k (i + 1) (i + 1) (by omega) (by omega) (by omega) (by rw [take_succ_at h, trimR_snoc, if_neg hb])
    · have hi : i = s.length := by omega
      have heq : ((i : Int) == (s.length : Int)) = true := by rw [eq_i]; exact decide_eq_true hi
      rw [heq, if_pos rfl, if_pos (le_i (by omega)), nlt_i (Nat.not_lt.1 h), if_neg Bool.false_ne_true, tn]
      exact ⟨_, rfl, hte, _, rfl, by rw [hinv, hi, List.take_length], Nat.le_refl _⟩
theorem say_eq (n : Nat) (s : BS) (hn : 20000 ≤ n) (hs : s.length ≤ 10000) : ∃ t, line_say n s = some t ∧ ref07_Say n s = some t ∧ t.1.length ≤ s.length := by
  obtain ⟨t, h1, h2, r, h3, h4⟩ := say_all n s hn hs n 0 0 (by omega) (by omega) (by omega) rfl
  refine ⟨t, ?_, ?_, h2⟩
  · unfold line_say
    obtain ⟨k, rfl⟩ : ∃ k, n = k + 1 := ⟨n - 1, by omega⟩
    have : line_say_g1_e (k + 1) (k + 1) s = line_say_g1_0 (k + 1) (k + 1) s 0 0 := by
      rw [line_say_g1_e, line_say_g1_0]; rfl
    have h1 : line_say_g1_0 (k + 1) (k + 1) s 0 0 = some t := h1
    rw [this, h1]; rfl
  · unfold ref07_Say
    have h3 : ref07_Say_l1 n n s 0 = some r := h3
    rw [h3, Option.bind_some]
    cases r with
    | inl s' =>
      rw [Sum.elim_inl, say_l2 n n s' (by have := h4.2; omega) (by have := h4.2; omega), h4.1]; rfl
    | inr r => rw [h4]; rfl

/-! ### line by line -/
def rowOf (s : BS) : BS × BS := match upto 10 s with | none => (s, []) | some p => p
theorem rowOf_cons (c : UInt8) (s : BS) : rowOf (c :: s) = if c = 10 then ([], s) else (c :: (rowOf s).1, (rowOf s).2) := by
  unfold rowOf
  rw [upto]
  by_cases h : c = 10
  · rw [if_pos h, if_pos h]
  · rw [if_neg h, if_neg h]
    cases upto 10 s <;> rfl
theorem rowOf_len (s : BS) : (rowOf s).1.length ≤ s.length ∧ (s ≠ [] → (rowOf s).2.length < s.length) ∧ (rowOf s).2.length ≤ s.length := by
  unfold rowOf
  cases h : upto 10 s with
  | none => exact ⟨Nat.le_refl _, fun hs => List.length_pos_iff.2 hs, Nat.zero_le _⟩
  | some p =>
    obtain ⟨p, q⟩ := p
    have := congrArg List.length (upto_some h).1
    simp at this
    exact ⟨by simp; omega, fun _ => by simp; omega, by simp; omega⟩
theorem rowOf_take (s : BS) : s.take (rowOf s).1.length = (rowOf s).1 ∧ (if (rowOf s).1.length < s.length then s.drop ((rowOf s).1.length + 1) else []) = (rowOf s).2 := by
  unfold rowOf
  cases h : upto 10 s with
  | none => exact ⟨List.take_length, by simp⟩
  | some p =>
    obtain ⟨p, q⟩ := p
    have hs := (upto_some h).1
    simp only
    rw [hs]
    refine ⟨List.take_left, ?_⟩
    rw [if_pos (by simp), ← List.drop_drop, List.drop_left]; rfl
theorem b10' (c : UInt8) : ((c.toNat : Int) != 10) = !decide (c = 10) := by rw [← b10]; rfl
theorem sl2 (n : Nat) (s : BS) (out : List S_line_Line) (no : Int) (hs : s.length ≤ 10000) : ∀ (k i : Nat), i ≤ s.length → s.length - i < k → ref07_Split_l2 n s out no k (i : Int) = some ((i + (rowOf (s.drop i)).1.length : Nat) : Int)
  | 0, i, _, h => by omega
  | k + 1, i, h1, h2 => by
    rw [ref07_Split_l2]
    by_cases h : i < s.length
    · rw [if_pos (by rw [in_i h, Bool.or_true]), lt_i h, cond_true, at_i h, b10', drop_at h, rowOf_cons]
      by_cases hc : s[i] = 10
      · rw [if_neg (by simp [hc]), if_pos hc]; rfl
      · rw [if_pos (by simp [hc]), if_neg hc, wrap_s i (by omega), sl2 n s out no hs k (i + 1) (by omega) (by omega)]
        simp only [List.length_cons]
        rw [show i + 1 + (rowOf (List.drop (i + 1) s)).1.length = i + ((rowOf (List.drop (i + 1) s)).1.length + 1) by omega]
    · rw [if_pos (by rw [nlt_i (Nat.not_lt.1 h)]; rfl), nlt_i (Nat.not_lt.1 h), cond_false, if_neg Bool.false_ne_true, List.drop_eq_nil_of_le (by omega)]; rfl
theorem sl4 (n : Nat) (s : BS) (out : List S_line_Line) (no : Int) (row : BS) (hs : row.length ≤ 10000) : ∀ (k i : Nat), i ≤ row.length → row.length - i < k → ref07_Split_l4 n s out no row k (i : Int) = some ((i + ind (row.drop i) : Nat) : Int)
  | 0, i, _, h => by omega
  | k + 1, i, h1, h2 => by
    rw [ref07_Split_l4]
    by_cases h : i < row.length
    · rw [if_pos (by rw [in_i h, Bool.or_true]), lt_i h, cond_true, at_i h, b32, drop_at h, ind_cons]
      by_cases hc : row[i] = 32
      · rw [if_pos (decide_eq_true hc), if_pos hc, wrap_s i (by omega), sl4 n s out no row hs k (i + 1) (by omega) (by omega)]
        rw [show i + 1 + ind (List.drop (i + 1) row) = i + (ind (List.drop (i + 1) row) + 1) by omega]
      · rw [if_neg (by simpa using hc), if_neg hc]; rfl
    · rw [if_pos (by rw [nlt_i (Nat.not_lt.1 h)]; rfl), nlt_i (Nat.not_lt.1 h), cond_false, if_neg Bool.false_ne_true, List.drop_eq_nil_of_le (by omega)]; rfl
theorem cap33 {a : Nat} (h : a ≤ 1000000) : decide ((a + 1) * (32 + 1) ≤ limit) = true := decide_eq_true (by show (a + 1) * (32 + 1) ≤ 140737488355328; omega)
theorem split_l (n : Nat) (hn : 20000 ≤ n) : ∀ (k : Nat) (s : BS) (out : List S_line_Line) (no : Nat), s.length < k → s.length ≤ 10000 → out.length ≤ no → no + s.length ≤ 10000 → ∃ r, line_Split_l1 n k s out ((no + 1 : Nat) : Int) = some r ∧ ref07_Split_l1 n k s out (no : Int) = some r ∧ (∀ o, r = .inl o → o.length ≤ 10000)
  | 0, s, out, no, h, _, _, _ => by omega
  | k + 1, s, out, no, h1, h2, h3, h4 => by
    rw [line_Split_l1, ref07_Split_l1]
    by_cases hs : s = []
    · subst hs
      exact ⟨.inl out, rfl, rfl, fun o e => by cases e; omega⟩
    · have hpos : 0 < s.length := List.length_pos_iff.2 hs
      obtain ⟨g1, g2, g3⟩ := rowOf_len s
      have g2 := g2 hs
      obtain ⟨g4, g5⟩ := rowOf_take s
      have e1 : (s == []) = false := by simpa using hs
      have e2 : decide ((s.length : Int) > 0) = true := decide_eq_true (by omega)
      have hw := wrap_s no (by omega)
      have hcut : (Lib.cut s [10]).1 = (rowOf s).1 ∧ (Lib.cut s [10]).2.1 = (rowOf s).2 := by
        rw [cut_eq]; unfold rowOf
        cases upto 10 s <;> exact ⟨rfl, rfl⟩
      have l2 := sl2 n s out ((no + 1 : Nat) : Int) h2 n 0 (by omega) (by omega)
      have l2 : ref07_Split_l2 n s out ((no + 1 : Nat) : Int) n 0 = some (((rowOf s).1.length : Nat) : Int) := by rw [show (0 : Int) = ((0 : Nat) : Int) from rfl, l2, List.drop_zero, Nat.zero_add]
      rw [e1, e2, if_pos rfl, if_pos (by decide), hw, l2, Option.bind_some, if_pos (le_i g1), tn, g4]
      have j3 : ref07_Split_j3 n s out ((no + 1 : Nat) : Int) (((rowOf s).1.length : Nat) : Int) (rowOf s).1 (decide ((((rowOf s).1.length : Nat) : Int) < (s.length : Int))) = some (rowOf s).2 := by
        rw [ref07_Split_j3, wrap_s _ (by omega)]
        by_cases hl : (rowOf s).1.length < s.length
        · rw [if_pos hl] at g5
          rw [if_pos (lt_i hl), if_pos (le_i (by omega)), tn, g5]
        · rw [if_neg hl] at g5
          rw [if_neg (by rw [nlt_i (Nat.not_lt.1 hl)]; exact Bool.false_ne_true), ← g5]
      have hil := ind_le (rowOf s).1
      have l4 : ref07_Split_l4 n (rowOf s).2 out ((no + 1 : Nat) : Int) (rowOf s).1 n 0 = some ((ind (rowOf s).1 : Nat) : Int) := by
        have := sl4 n (rowOf s).2 out ((no + 1 : Nat) : Int) (rowOf s).1 (by omega) n 0 (by omega) (by omega)
        rw [show (0 : Int) = ((0 : Nat) : Int) from rfl, this, List.drop_zero, Nat.zero_add]
      rw [j3, Option.bind_some, l4, Option.bind_some, if_pos (le_i hil), tn]
      obtain ⟨t, t1, t2, t3⟩ := say_eq n ((rowOf s).1.drop (ind (rowOf s).1)) hn (by rw [List.length_drop]; omega)
      rw [List.length_drop] at t3
      have hx : IntKind.wrap .i64 (((rowOf s).1.length : Int) - ((Lib.trimLeftB (rowOf s).1 32).length : Int)) = ((ind (rowOf s).1 : Nat) : Int) := by rw [len_trim, wrap_id _ (by omega) (by omega)]; omega
      have j2 : line_Split_j2 n s out ((no + 1 : Nat) : Int) = some (if (bif (!t.2) then true else (bif (((ind (rowOf s).1 : Nat) : Int) == 0) then (bif (t.1 == [45, 45, 45]) then true else (t.1 == [46, 46, 46])) else false)) = true then .inr (((no + 1 : Nat) : Int), 3)
          else if (!(t.1 == [])) = true then .inl ((rowOf s).2, out ++ [S_line_Line.mk ((no + 1 : Nat) : Int) ((ind (rowOf s).1 : Nat) : Int) t.1]) else .inl ((rowOf s).2, out)) := by
        rw [line_Split_j2, if_pos (decide_eq_true (by omega)), hcut.1, hcut.2, hx]
        simp only [lett]
        have hcap : decide ((List.length out + List.length ([S_line_Line.mk ((no + 1 : Nat) : Int) ((ind (rowOf s).1 : Nat) : Int) t.1] : List S_line_Line)) * (32 + 1) ≤ limit) = true := cap33 (by omega)
        rw [if_pos (le_i hil), tn, t1, Option.bind_some, if_pos hcap]
        split
        · rfl
        · split <;> rfl
      rw [j2, t2, Option.bind_some, Option.bind_some]
      simp only [lett]
      by_cases hbad : (bif (!t.2) then true else (bif (((ind (rowOf s).1 : Nat) : Int) == 0) then (bif (t.1 == [45, 45, 45]) then true else (t.1 == [46, 46, 46])) else false)) = true
      · rw [if_pos hbad, if_pos hbad]
        exact ⟨.inr (((no + 1 : Nat) : Int), 3), rfl, rfl, fun o e => by cases e⟩
      · rw [if_neg hbad, if_neg hbad]
        have hcap : decide ((List.length out + List.length ([S_line_Line.mk ((no + 1 : Nat) : Int) ((ind (rowOf s).1 : Nat) : Int) t.1] : List S_line_Line)) * (32 + 1) ≤ limit) = true := cap33 (by omega)
        by_cases ht : t.1 = []
        · have ht1 : (t.1 == []) = true := by simpa using ht
          have ht2 : decide ((t.1.length : Int) > 0) = false := by rw [ht]; rfl
          rw [ht1, ht2, if_neg (by decide), if_neg Bool.false_ne_true, Sum.elim_inl]
          simp only
          rw [wrap_s (no + 1) (by omega)]
          exact split_l n hn k (rowOf s).2 out (no + 1) (by omega) (by omega) (by omega) (by omega)
        · have ht1 : (t.1 == []) = false := by simpa using ht
          have ht2 : decide ((t.1.length : Int) > 0) = true := decide_eq_true (by have := List.length_pos_iff.2 ht; omega)
          rw [ht1, ht2, if_pos (by decide), if_pos rfl, if_pos hcap, Sum.elim_inl]
          simp only
          rw [wrap_s (no + 1) (by omega)]
          exact split_l n hn k (rowOf s).2 _ (no + 1) (by omega) (by omega) (by simp; omega) (by omega)
theorem Split_eq (n : Nat) (s : BS) (hn : 20000 ≤ n) : ∃ r, line_Split n s = some r ∧ ref07_Split n s = some r ∧ r.1.length ≤ 10000 := by
  unfold line_Split ref07_Split
  by_cases h : (s.length : Int) > 8192
  · rw [if_pos (decide_eq_true h), if_pos (decide_eq_true h)]
    exact ⟨_, rfl, rfl, by simp⟩
  · rw [if_neg (by simpa using h), if_neg (by simpa using h)]
    obtain ⟨r, h1, h2, h3⟩ := split_l n hn n s [] 0 (by omega) (by omega) (by simp) (by omega)
    have h1 : line_Split_l1 n n s [] 1 = some r := h1
    have h2 : ref07_Split_l1 n n s [] 0 = some r := h2
    rw [h1, h2, Option.bind_some]
    cases r with
    | inl o => exact ⟨_, rfl, rfl, h3 o rfl⟩
    | inr o => exact ⟨_, rfl, rfl, by simp⟩

/-! ### the statements -/
theorem taken_eq (n : Nat) (l : List S_line_Line) (hl : l.length ≤ 10000) (hn : 20000 ≤ n) : law07_taken n l = some l := by
  unfold law07_taken
  have := (gather (L := law07_taken_l1 n l) l (fun acc x => acc ++ [x]) id (fun i s => s.length ≤ i) (by omega)
    (fun k s i h hs => by
      have hcap : decide ((List.length s + List.length ([l[i]] : List S_line_Line)) * (32 + 1) ≤ limit) = true := cap33 (by omega)
      rw [law07_taken_l1, if_pos (lt_i h), if_pos (in_i h), at_i h, if_pos hcap]; rfl)
    (fun s i h hs => by simp; omega) (fun k s _ => by rw [law07_taken_l1, nlt_n]; rfl) n 0 [] (by omega) (by omega) (by simp)).1
  rw [List.drop_zero, foldl_app (fun x => [x])] at this
  have hf : ∀ l : List S_line_Line, l.flatMap (fun x => [x]) = l := fun l => by induction l <;> simp_all
  rw [hf] at this
  have this : law07_taken_l1 n l n [] 0 = some l := this
  rw [this]; rfl
theorem same_refl (n : Nat) (l : List S_line_Line) (hl : l.length ≤ 10000) (hn : 20000 ≤ n) : ref07_Same n l l true = some true := by
  unfold ref07_Same
  have := scanL (L := ref07_Same_l1 n l l true) l (fun _ => (none : Option Bool)) 0 (by omega)
    (fun k i h _ => by
      rw [ref07_Same_l1, if_pos (lt_i h), if_pos (in_i h), in_i h, at_i h]
      simp [lett])
    (fun k => by rw [ref07_Same_l1, nlt_n]; rfl) n 0 (by omega) (by omega) (by omega)
  have hno : ∀ l : List S_line_Line, l.findSome? (fun _ => (none : Option Bool)) = none := fun l => by induction l <;> simp_all
  rw [hno] at this
  have this : ref07_Same_l1 n l l true n 0 = some (.inl ()) := this
  rw [this, if_neg (by simp)]; rfl
theorem awake07 : law07_awake 20000 = some true := by kernel_rfl
theorem law07_LineSplits_true (a0 : List UInt8) (_ : List.length a0 ≤ maxLen) : ∃ n, law07_LineSplits n a0 = some true := by
  refine ⟨20000, ?_⟩
  unfold law07_LineSplits
  rw [awake07]
  by_cases h : (a0.length : Int) > 9000
  · rw [if_pos (decide_eq_true h)]; rfl
  · obtain ⟨r, h1, h2, h3⟩ := Split_eq 20000 a0 (Nat.le_refl _)
    rw [if_neg (by simpa using h), h1, h2, Option.bind_some, Option.bind_some, taken_eq _ _ h3 (Nat.le_refl _), Option.bind_some, same_refl _ _ h3 (Nat.le_refl _), Option.bind_some]
    simp
theorem cl1 (n : Nat) (x y : S_line_Line) (hx : x.f_Text.length ≤ 10000) : ∀ (k i : Nat), i ≤ x.f_Text.length → x.f_Text.length - i < k → ref07_Cut_l1 n x y k (i : Int) = some ((i + ind (x.f_Text.drop i) : Nat) : Int)
  | 0, i, _, h => by omega
  | k + 1, i, h1, h2 => by
    rw [ref07_Cut_l1]
    by_cases h : i < x.f_Text.length
    · rw [if_pos (by rw [in_i h, Bool.or_true]), lt_i h, cond_true, at_i h, b32, drop_at h, ind_cons]
      simp only [lett]
      by_cases hc : x.f_Text[i] = 32
      · rw [if_pos (decide_eq_true hc), if_pos hc, wrap_s i (by omega), cl1 n x y hx k (i + 1) (by omega) (by omega)]
        rw [show i + 1 + ind (List.drop (i + 1) x.f_Text) = i + (ind (List.drop (i + 1) x.f_Text) + 1) by omega]
      · rw [if_neg (by simpa using hc), if_neg hc]; rfl
    · rw [if_pos (by rw [nlt_i (Nat.not_lt.1 h)]; rfl), nlt_i (Nat.not_lt.1 h), cond_false, List.drop_eq_nil_of_le (by omega)]; rfl
theorem law07_LineCuts_true (a0 : S_line_Line) (_ : W_line_Line a0) (a1 : Int) (_ : IntKind.min .i64 ≤ a1 ∧ a1 ≤ IntKind.max .i64) : ∃ n, law07_LineCuts n a0 a1 = some true := by
  refine ⟨20000, ?_⟩
  unfold law07_LineCuts
  rw [awake07]
  by_cases hb : (a0.f_Text.length : Int) > 3000 ∨ a0.f_Indent < 0 ∨ a0.f_Indent > 10000
  · have : (bif (bif (decide ((List.length a0.f_Text : Int) > 3000)) then true else (decide (a0.f_Indent < 0))) then true else (decide (a0.f_Indent > 10000))) = true := by
      rcases hb with h | h | h <;> simp [h]
    rw [this]; rfl
  · have h1 : ¬ (a0.f_Text.length : Int) > 3000 := fun h => hb (.inl h)
    have h2 : ¬ a0.f_Indent < 0 := fun h => hb (.inr (.inl h))
    have h3 : ¬ a0.f_Indent > 10000 := fun h => hb (.inr (.inr h))
    rw [decide_eq_false h1, decide_eq_false h2, decide_eq_false h3]
    obtain ⟨m, hm⟩ : ∃ m : Nat, a0.f_Indent = (m : Int) := ⟨a0.f_Indent.toNat, by omega⟩
    have e0 : ∃ r, line_Cut 20000 a0 a1 = some r ∧ ref07_Cut 20000 a0 a1 = some r ∧ IntKind.wrap .i64 (r.f_Indent + (List.length r.f_Text : Int)) = IntKind.wrap .i64 (a0.f_Indent + (List.length a0.f_Text : Int)) := by
      unfold line_Cut ref07_Cut
      by_cases hr : 0 ≤ a1 ∧ a1 ≤ (a0.f_Text.length : Int)
      · obtain ⟨i, rfl⟩ : ∃ i : Nat, a1 = (i : Int) := ⟨a1.toNat, by omega⟩
        have d1 : decide ((i : Int) < 0) = false := decide_eq_false (by omega)
        have d2 : decide ((i : Int) > (a0.f_Text.length : Int)) = false := decide_eq_false (by omega)
        have hil := ind_le (a0.f_Text.drop i)
        rw [List.length_drop] at hil
        rw [d1, d2, cond_false, if_neg Bool.false_ne_true, if_neg Bool.false_ne_true, if_pos (le_i (by omega)), cl1 _ a0 _ (by omega) 20000 i (by omega) (by omega), Option.bind_some, if_pos (le_i (by omega)), tn, tn, hm, PL.wrap_add m _ (by omega), PL.wrap_add m _ (by omega), len_trim, List.length_drop]
        simp only [lett]
        have hx : IntKind.wrap .i64 (((m + a0.f_Text.length : Nat) : Int) - ((a0.f_Text.length - i - ind (a0.f_Text.drop i) : Nat) : Int)) = ((m + (i + ind (a0.f_Text.drop i)) : Nat) : Int) := by rw [wrap_id _ (by omega) (by omega)]; omega
        have ht : Lib.trimLeftB (a0.f_Text.drop i) 32 = a0.f_Text.drop (i + ind (a0.f_Text.drop i)) := by rw [trimL, ← drop_ind, List.drop_drop]
        rw [hx, ht]
        refine ⟨_, rfl, rfl, ?_⟩
        simp only [List.length_drop]
        rw [PL.wrap_add _ _ (by omega)]
        rw [show m + (i + ind (a0.f_Text.drop i)) + (a0.f_Text.length - (i + ind (a0.f_Text.drop i))) = m + a0.f_Text.length by omega]
      · have d : (bif (decide (a1 < 0)) then true else (decide (a1 > (List.length a0.f_Text : Int)))) = true := by
          by_cases h0 : a1 < 0
          · simp [h0]
          · have : a1 > (a0.f_Text.length : Int) := by omega
            simp [h0, this]
        rw [d]
        exact ⟨a0, rfl, rfl, rfl⟩
    obtain ⟨r, r1, r2, r3⟩ := e0
    simp only [cond_false, lett, Bool.false_eq_true, if_false, r1, r2, r3, Option.bind_some, beq_self_eq_true, Bool.and_self, cond_true, if_true]
end Go.Proofs.YthhoedkeggiflaaDoor.M
