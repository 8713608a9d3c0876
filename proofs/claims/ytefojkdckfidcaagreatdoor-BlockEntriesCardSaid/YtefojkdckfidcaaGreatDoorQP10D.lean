import Derived.Test.YtefojkdckfidcaaGreatDoorQP10C
set_option linter.all false
namespace Go.Proofs.YtefojkdckfidcaaGreatDoor.M
open Go Go.Proofs.YtefojkdckfidcaaGreatDoor.RX Go.Proofs.YtefojkdckfidcaaGreatDoor.PL
set_option maxRecDepth 100000
theorem plain_q (n : Nat) (s : List UInt8) (hs : s.length ≤ 100000) (hn : 200000 ≤ n) : quote_Plain n s = some (plainB s) ∧ True := ⟨(plain_eq n s hs hn).1, trivial⟩
abbrev Ln := S_line_Line
def rowQ : BS → Bool
  | [] => false
  | [c] => c == 45
  | c :: d :: _ => c == 45 && d == 32
theorem bRow (s : BS) : block_Row s = rowQ s := by
  unfold block_Row Lib.hasPrefix
  match s with
  | [] => rfl
  | [c] =>
    show (bif ([c] == [45]) then true else ((45 == c) && false)) = (c == 45)
    rw [Bool.and_false]
    by_cases h : c = 45
    · subst h; rfl
    · have h1 : ([c] == [45]) = false := by simpa using h
      have h2 : (c == 45) = false := by simpa using h
      rw [h1, h2]; rfl
  | c :: d :: r =>
    have h1 : ((c :: d :: r) == [45]) = false := by simp
    rw [h1]
    show ((45 == c) && ((32 == d) && true)) = (c == 45 && d == 32)
    rw [Bool.and_true, Bool.beq_comm (a := c), Bool.beq_comm (a := d)]
def mkQ (s : BS) (i : Nat) : Bool := if h : i < s.length then s[i] == 58 && blankN s (i + 1) else false
def nxB : BS → Bool
  | [] => true
  | d :: _ => d == 32
def mk9 : BS → Nat
  | [] => 0
  | c :: r => if (c == 58 && nxB r) = true then 0 else mk9 r + 1
theorem mk9_cons (c : UInt8) (r : BS) : mk9 (c :: r) = if (c == 58 && nxB r) = true then 0 else mk9 r + 1 := rfl
theorem mkQ_at {s : BS} {i : Nat} (h : i < s.length) : mkQ s i = (s[i] == 58 && nxB (s.drop (i + 1))) := by
  unfold mkQ blankN
  rw [dif_pos h]
  by_cases h1 : i + 1 < s.length
  · rw [dif_pos h1, drop_at h1]; rfl
  · rw [dif_neg h1, List.drop_eq_nil_of_le (by omega)]; rfl
theorem mk9_le : ∀ l : BS, mk9 l ≤ l.length
  | [] => Nat.le_refl 0
  | c :: r => by
    have := mk9_le r
    unfold mk9
    exact ite_le (Nat.zero_le _) (by rw [List.length_cons]; omega)
theorem bmark (n : Nat) (s : BS) (i : Nat) (hs : s.length ≤ 100000) (hi : i ≤ s.length) : block_mark n s (i : Int) = some (mkQ s i) := by
  unfold block_mark
  by_cases h : i < s.length
  · rw [lt_i h, in_i h, at_i h, wrap_s i (by omega), b58, mkQ_at h, if_pos (by rfl)]
    simp only [lett, cond_true]
    by_cases h1 : i + 1 < s.length
    · have e0 : (((i + 1 : Nat) : Int) == (s.length : Int)) = false := by rw [eq_i]; exact decide_eq_false (by omega)
      simp only [in_i h1, Bool.or_true, if_true]
      rw [at_i h1, e0, b32, drop_at h1]
      congr 1
      show (bif decide (s[i] = 58) then decide (s[i + 1] = 32) else false) = (s[i] == 58 && s[i + 1] == 32)
      rw [byte_eq, byte_eq]
      cases (s[i] == 58) <;> rfl
    · have he : i + 1 = s.length := by omega
      have e0 : (((i + 1 : Nat) : Int) == (s.length : Int)) = true := by rw [eq_i]; exact decide_eq_true he
      rw [e0, if_pos (by rfl), List.drop_eq_nil_of_le (by omega)]
      congr 1
      show (bif decide (s[i] = 58) then true else false) = (s[i] == 58 && true)
      rw [byte_eq]
      cases (s[i] == 58) <;> rfl
  · have hi' : i = s.length := by omega
    unfold mkQ
    rw [dif_neg h, nlt_i (by omega), if_pos (by rfl)]
    simp only [lett, cond_false]
    rw [if_pos (by cases ((IntKind.wrap .i64 ((i : Int) + 1) == (s.length : Int))) <;> rfl)]
theorem bEntry_l2 (n : Nat) (s : BS) (hs : s.length ≤ 100000) : ∀ (k i : Nat), i ≤ s.length → s.length - i < k → block_Entry_l2 n s k (i : Int) = some ((i + mk9 (s.drop i) : Nat) : Int)
  | 0, i, _, h => by omega
  | k + 1, i, h1, h2 => by
    rw [block_Entry_l2]
    by_cases h : i < s.length
    · rw [lt_i h, if_pos (by rfl : ((true : Bool) == true) = true), bmark n s i hs h1]
      simp only [Option.bind_some, cond_true]
      rw [mkQ_at h, drop_at h, mk9_cons]
      by_cases hc : (s[i] == 58 && nxB (s.drop (i + 1))) = true
      · rw [if_pos hc, hc, if_neg (by decide)]; rfl
      · have hc' : (s[i] == 58 && nxB (s.drop (i + 1))) = false := by simpa using hc
        rw [if_neg hc, hc', if_pos (by decide), wrap_s i (by omega), bEntry_l2 n s hs k (i + 1) (by omega) (by omega)]
        congr 2; omega
    · have : i = s.length := by omega
      subst this
      rw [nlt_n, List.drop_eq_nil_of_le (Nat.le_refl _)]; rfl
def entS (n : Nat) (s : BS) : BS × BS × Int :=
  match s with
  | [] => ([], [], 0)
  | c :: _ =>
    if (rowQ s || c == 91 || c == 123) = true then ([], [], 0)
    else if (c == 34 || c == 39) = true then
      match quote_Scan n s 0 with
      | some (k, nx, e) => if e = 0 ∧ mkQ s nx.toNat = true then (k, (s.drop (nx.toNat + 1)).dropWhile (· == 32), 1) else ([], [], 0)
      | none => ([], [], 0)
    else if mk9 s = s.length then ([], [], 0)
    else if (!plainB (s.take (mk9 s)) || s.take (mk9 s) == [60, 60]) = true then ([], [], -1)
    else (s.take (mk9 s), (s.drop (mk9 s + 1)).dropWhile (· == 32), 1)
theorem bEntry (n : Nat) (s : BS) (hs : s.length ≤ 10000) (hn : 300000 ≤ n) : block_Entry n s = some (entS n s) := by
  unfold block_Entry
  cases s with
  | nil => rfl
  | cons c t =>
    generalize hS : c :: t = S at hs ⊢
    have hlen : 0 < S.length := by rw [← hS]; simp
    have h0 : S[0] = c := by subst hS; rfl
    have e1 : (S == []) = false := by rw [← hS]; rfl
    have z0 : decide (0 ≤ (0 : Int) ∧ (0 : Int) < (List.length S : Int)) = true := in_i hlen
    have z1 : (S[Int.toNat 0]?.getD 0) = S[0] := at_i hlen
    have hent : entS n S = (if (rowQ S || c == 91 || c == 123) = true then ([], [], 0)
      else if (c == 34 || c == 39) = true then
        match quote_Scan n S 0 with
        | some (k, nx, e) => if e = 0 ∧ mkQ S nx.toNat = true then (k, (S.drop (nx.toNat + 1)).dropWhile (· == 32), 1) else ([], [], 0)
        | none => ([], [], 0)
      else if mk9 S = S.length then ([], [], 0)
      else if (!plainB (S.take (mk9 S)) || S.take (mk9 S) == [60, 60]) = true then ([], [], -1)
      else (S.take (mk9 S), (S.drop (mk9 S + 1)).dropWhile (· == 32), 1) : BS × BS × Int) := by subst hS; rfl
    rw [hent, e1, z0, z1, h0, bRow, Bool.or_true, Bool.or_true, if_pos rfl, if_pos rfl]
    simp only [lett, cond_false]
    have hc1 : (bif (bif rowQ S then true else ((c.toNat : Int) == 91)) then true else ((c.toNat : Int) == 123)) = (rowQ S || c == 91 || c == 123) := by
      rw [show ((c.toNat : Int) == 91) = (c == 91) from beq_bytes c 91, show ((c.toNat : Int) == 123) = (c == 123) from beq_bytes c 123]
      cases rowQ S <;> cases (c == 91) <;> rfl
    rw [hc1]
    by_cases g1 : (rowQ S || c == 91 || c == 123) = true
    · rw [if_pos g1, if_pos g1]
    rw [if_neg g1, if_neg g1]
    simp only [Bool.or_true, if_true]
    have hc2 : (bif ((c.toNat : Int) == 34) then true else ((c.toNat : Int) == 39)) = (c == 34 || c == 39) := by
      rw [show ((c.toNat : Int) == 34) = (c == 34) from beq_bytes c 34, show ((c.toNat : Int) == 39) = (c == 39) from beq_bytes c 39]
      cases (c == 34) <;> rfl
    rw [hc2]
    unfold block_Entry_j1
    by_cases g2 : (c == 34 || c == 39) = true
    · rw [if_pos g2, if_pos g2]
      have hq : S[0] = 34 ∨ S[0] = 39 := by rw [h0]; simpa using g2
      rcases Scan_tot n S 0 (by omega) (by omega) hlen hq with q1 | ⟨k, j, q1, q2, q3, q4⟩
      · have q1 : quote_Scan n S 0 = some ([], 0, 3) := q1
        rw [q1]; rfl
      · have q1 : quote_Scan n S 0 = some (k, (j : Int), 0) := q1
        rw [q1]
        simp only [Option.bind_some]
        rw [if_pos (by rfl), bmark n S j (by omega) q3]
        simp only [Option.bind_some, tn]
        by_cases g3 : mkQ S j = true
        · have hj : j < S.length := by
            rcases Nat.lt_or_ge j S.length with h | h
            · exact h
            · unfold mkQ at g3; rw [dif_neg (by omega)] at g3; cases g3
          rw [g3, if_neg (by decide), if_pos (by simp)]
          simp only [Option.bind_some, Sum.elim_inl]
          rw [wrap_s j (by omega), if_pos (le_i (by omega)), tn]; rfl
        · have g3' : mkQ S j = false := by simpa using g3
          rw [g3', if_pos (by decide), if_neg (by simp)]; rfl
    · rw [if_neg g2, if_neg g2]
      have hl2 : block_Entry_l2 n S n 0 = some ((0 + mk9 (S.drop 0) : Nat) : Int) := bEntry_l2 n S (by omega) n 0 (Nat.zero_le _) (by omega)
      rw [List.drop_zero, Nat.zero_add] at hl2
      rw [hl2]
      simp only [Option.bind_some]
      have hle := mk9_le S
      by_cases g3 : mk9 S = S.length
      · rw [if_pos g3, if_pos (by rw [eq_i]; exact decide_eq_true g3)]; rfl
      · rw [if_neg g3, if_neg (by rw [eq_i]; simpa using g3), if_pos (le_i hle), tn]
        obtain ⟨p1, _⟩ := plain_q n (S.take (mk9 S)) (by rw [List.length_take]; omega) (by omega)
        rw [p1]
        simp only [Option.bind_some]
        have hc3 : (bif (!plainB (S.take (mk9 S))) then true else (S.take (mk9 S) == [60, 60])) = (!plainB (S.take (mk9 S)) || S.take (mk9 S) == [60, 60]) := by
          cases plainB (S.take (mk9 S)) <;> rfl
        rw [hc3]
        by_cases g4 : (!plainB (S.take (mk9 S)) || S.take (mk9 S) == [60, 60]) = true
        · rw [if_pos g4, if_pos g4]; rfl
        · rw [if_neg g4, if_neg g4]
          simp only [Option.bind_some, Sum.elim_inl]
          rw [wrap_s _ (by omega), if_pos (le_i (by omega)), tn]; rfl
abbrev Rs := Sum (Int × Int) (Nd × List Ln)
theorem Red.mono {a b : Nat} {v : Nd} (h : Red a v) (hab : a ≤ b) : Red b v := fun d => ⟨(h d).1, (h d).2.mono hab⟩
def PR (len at0 : Nat) (o : Rs) (p : Nd × S_block_reader) : Prop :=
  match o with
  | .inl e => e.2 ≠ 0 ∧ p.2.f_e = e.2 ∧ p.2.f_no = e.1
  | .inr w => p.1 = w.1 ∧ p.2.f_e = 0 ∧ p.2.f_l.length = len ∧ ∃ at' : Nat, p.2.f_at = (at' : Int) ∧ at' ≤ len ∧ p.2.f_l.drop at' = w.2 ∧ at0 ≤ at'
theorem PR.mono {len a b : Nat} {o : Rs} {p : Nd × S_block_reader} (h : PR len b o p) (hab : a ≤ b) : PR len a o p := by
  unfold PR at h ⊢
  cases o with
  | inl e => exact h
  | inr w =>
    obtain ⟨h1, h2, h3, at', h4, h5, h6, h7⟩ := h
    exact ⟨h1, h2, h3, at', h4, h5, h6, by omega⟩
end Go.Proofs.YtefojkdckfidcaaGreatDoor.M
