import Derived.Test.YtefojkdckfidcaaGreatDoorQP10D
set_option linter.all false
namespace Go.Proofs.YtefojkdckfidcaaGreatDoor.M
open Go Go.Proofs.YtefojkdckfidcaaGreatDoor.RX Go.Proofs.YtefojkdckfidcaaGreatDoor.PL
set_option maxRecDepth 100000
theorem rRow (n : Nat) (s : BS) : ref10_Row n s = some (rowQ s) := by
  unfold ref10_Row
  match s with
  | [] => rfl
  | [c] =>
    have h1 : decide ((List.length [c] : Int) > 0) = true := rfl
    have h2 : ((List.length [c] : Int) == 1) = true := rfl
    have z0 : decide (0 ≤ (0 : Int) ∧ (0 : Int) < (List.length [c] : Int)) = true := rfl
    have z1 : ([c][Int.toNat 0]?.getD 0) = c := rfl
    rw [h1, h2, z0, z1, b45, if_pos (by rfl), if_pos (by rfl)]
    simp only [lett, cond_true]
    rw [byte_eq]
    show some (bif (c == 45) then true else false) = some (c == 45)
    cases (c == 45) <;> rfl
  | c :: d :: r =>
    have hl : ((List.length (c :: d :: r) : Nat) : Int) = (r.length : Int) + 2 := by simp only [List.length_cons]; omega
    have h1 : decide ((List.length (c :: d :: r) : Int) > 0) = true := decide_eq_true (by rw [hl]; omega)
    have h2 : ((List.length (c :: d :: r) : Int) == 1) = false := by rw [hl]; simp; omega
    have z0 : decide (0 ≤ (0 : Int) ∧ (0 : Int) < (List.length (c :: d :: r) : Int)) = true := decide_eq_true (by rw [hl]; omega)
    have z2 : decide (0 ≤ (1 : Int) ∧ (1 : Int) < (List.length (c :: d :: r) : Int)) = true := decide_eq_true (by rw [hl]; omega)
    have z1 : ((c :: d :: r)[Int.toNat 0]?.getD 0) = c := rfl
    have z3 : ((c :: d :: r)[Int.toNat 1]?.getD 0) = d := rfl
    rw [h1, h2, z0, z1, z2, z3, b45, b32, Bool.or_true, if_pos rfl, Bool.or_true, if_pos rfl]
    simp only [lett, cond_true, cond_false]
    rw [byte_eq, byte_eq]
    show some (bif (c == 45) then (d == 32) else false) = some (c == 45 && d == 32)
    cases (c == 45) <;> rfl
theorem rmarked (n : Nat) (s : BS) (i : Nat) (hs : s.length ≤ 100000) (hi : i ≤ s.length) : ref10_marked n s (i : Int) = some (mkQ s i) := by
  have h := bmark n s i hs hi
  unfold block_mark at h
  unfold ref10_marked
  exact h
theorem rbehind_l (n : Nat) (s : BS) (hs : s.length ≤ 100000) : ∀ (k i : Nat), i ≤ s.length → s.length - i < k → ref10_behind_l1 n s k (i : Int) = some ((i + ind (s.drop i) : Nat) : Int)
  | 0, i, _, h => by omega
  | k + 1, i, h1, h2 => by
    rw [ref10_behind_l1]
    by_cases h : i < s.length
    · rw [if_pos (by rw [in_i h, Bool.or_true]), lt_i h, cond_true, at_i h, b32, drop_at h, ind_cons]
      by_cases hc : s[i] = 32
      · rw [if_pos (decide_eq_true hc), if_pos hc, wrap_s i (by omega), rbehind_l n s hs k (i + 1) (by omega) (by omega)]
        rw [show i + 1 + ind (List.drop (i + 1) s) = i + (ind (List.drop (i + 1) s) + 1) by omega]
      · rw [if_neg (by simpa using hc), if_neg hc]; rfl
    · rw [if_pos (by rw [nlt_i (Nat.not_lt.1 h)]; rfl), nlt_i (Nat.not_lt.1 h), cond_false, List.drop_eq_nil_of_le (by omega)]; rfl
theorem rbehind (n : Nat) (s : BS) (i : Nat) (hs : s.length ≤ 10000) (hi : i < s.length) (hn : 200000 ≤ n) : ref10_behind n s (i : Int) = some ((s.drop (i + 1)).dropWhile (· == 32)) := by
  unfold ref10_behind
  have hil := ind_le (s.drop (i + 1))
  rw [List.length_drop] at hil
  rw [wrap_s i (by omega), rbehind_l n s (by omega) n (i + 1) (by omega) (by omega)]
  simp only [Option.bind_some]
  rw [if_pos (le_i (by omega)), tn, ← List.drop_drop, drop_ind]
theorem rEntry_l1 (n : Nat) (s : BS) (hs : s.length ≤ 10000) (hn : 300000 ≤ n) : ∀ (k i : Nat), i ≤ s.length → s.length - i < k → ref10_Entry_l1 n s k (i : Int) = some (if i + mk9 (s.drop i) = s.length then .inl () else
      if (!plainB (s.take (i + mk9 (s.drop i))) || s.take (i + mk9 (s.drop i)) == [60, 60]) = true then .inr ([], [], -1) else .inr (s.take (i + mk9 (s.drop i)), (s.drop (i + mk9 (s.drop i) + 1)).dropWhile (· == 32), 1))
  | 0, i, _, h => by omega
  | k + 1, i, h1, h2 => by
    rw [ref10_Entry_l1]
    by_cases h : i < s.length
    · rw [if_pos (lt_i h), rmarked n s i (by omega) h1]
      simp only [Option.bind_some]
      rw [mkQ_at h, drop_at h, mk9_cons]
      by_cases hc : (s[i] == 58 && nxB (s.drop (i + 1))) = true
      · obtain ⟨_, p2⟩ := plain_eq n (s.take i) (by rw [List.length_take]; omega) (by omega)
        rw [if_pos hc, if_pos hc, if_pos (le_i h1), tn, p2, Nat.add_zero, if_neg (by omega : ¬ i = s.length)]
        simp only [Option.bind_some]
        have hc3 : (bif (!plainB (s.take i)) then true else (s.take i == [60, 60])) = (!plainB (s.take i) || s.take i == [60, 60]) := by
          cases plainB (s.take i) <;> rfl
        rw [if_pos (by rw [le_i h1, Bool.or_true]), hc3]
        by_cases g4 : (!plainB (s.take i) || s.take i == [60, 60]) = true
        · rw [if_pos g4, if_pos g4]
        · rw [if_neg g4, if_neg g4, if_pos (le_i h1), rbehind n s i hs h (by omega)]; rfl
      · have hc' : (s[i] == 58 && nxB (s.drop (i + 1))) = false := by simpa using hc
        rw [if_neg hc, if_neg hc, wrap_s i (by omega), rEntry_l1 n s hs hn k (i + 1) (by omega) (by omega)]
        rw [show i + 1 + mk9 (s.drop (i + 1)) = i + (mk9 (s.drop (i + 1)) + 1) by omega]
    · have : i = s.length := by omega
      subst this
      rw [nlt_n, List.drop_eq_nil_of_le (Nat.le_refl _), if_neg Bool.false_ne_true, if_pos (by rfl)]
theorem rEntry (n : Nat) (s : BS) (hs : s.length ≤ 10000) (hn : 300000 ≤ n) : ref10_Entry n s = some (entS n s) := by
  unfold ref10_Entry
  cases s with
  | nil => rfl
  | cons c t =>
    generalize hS : c :: t = S at hs ⊢
    have hlen : 0 < S.length := by rw [← hS]; simp
    have h0 : S[0] = c := by subst hS; rfl
    have e1 : ((List.length S : Int) == 0) = false := by
      have : ¬ (List.length S : Int) = 0 := by omega
      simpa using this
    have z0 : decide (0 ≤ (0 : Int) ∧ (0 : Int) < (List.length S : Int)) = true := in_i hlen
    have z1 : (S[Int.toNat 0]?.getD 0) = S[0] := at_i hlen
    have hent : entS n S = (if (rowQ S || c == 91 || c == 123) = true then ([], [], 0)
      else if (c == 34 || c == 39) = true then
        match quote_Scan n S 0 with
        | some (k, nx, e) => if e = 0 ∧ mkQ S nx.toNat = true then (k, (S.drop (nx.toNat + 1)).dropWhile (· == 32), 1) else ([], [], 0)
        | none => ([], [], 0)
      else if mk9 S = S.length then ([], [], 0)
      else if (!plainB (S.take (mk9 S)) || S.take (mk9 S) == [60, 60]) = true then ([], [], -1)
      else (S.take (mk9 S), (S.drop (mk9 S + 1)).dropWhile (· == 32), 1) : BS × BS × Int) := by subst hS; rfl
    rw [hent, e1, if_pos (by rfl), rRow]
    simp only [Option.bind_some]
    rw [z0, z1, h0, Bool.or_true, if_pos rfl, Bool.or_true, if_pos rfl]
    simp only [lett, cond_false]
    have hc1 : (bif (bif rowQ S then true else ((c.toNat : Int) == 91)) then true else ((c.toNat : Int) == 123)) = (rowQ S || c == 91 || c == 123) := by
      rw [show ((c.toNat : Int) == 91) = (c == 91) from beq_bytes c 91, show ((c.toNat : Int) == 123) = (c == 123) from beq_bytes c 123]
      cases rowQ S <;> cases (c == 91) <;> rfl
    rw [hc1]
    by_cases g1 : (rowQ S || c == 91 || c == 123) = true
    · rw [if_pos g1, if_pos g1]
    rw [if_neg g1, if_neg g1]
    simp only [Bool.or_true, if_true]
    have hc2 : (bif ((c.toNat : Int) == 34) then true else ((c.toNat : Int) == 39)) = (c == 34 || c == 39) := by
      rw [show ((c.toNat : Int) == 34) = (c == 34) from beq_bytes c 34, show ((c.toNat : Int) == 39) = (c == 39) from beq_bytes c 39]
      cases (c == 34) <;> rfl
    rw [hc2]
    by_cases g2 : (c == 34 || c == 39) = true
    · rw [if_pos g2, if_pos g2]
      have hq : S[0] = 34 ∨ S[0] = 39 := by rw [h0]; simpa using g2
      obtain ⟨tx, e, s1, s2, s3⟩ := scan_both n S 0 hs (by omega) hlen hq
      have s1 : quote_Scan n S 0 = some (tx, e) := s1
      have s2 : ref06_Scan n S 0 = some (tx, e) := s2
      rw [s1, s2]
      obtain ⟨x1, x2⟩ := e
      simp only [Option.bind_some] at s3 ⊢
      rcases s3 with ⟨h0', rfl⟩ | ⟨h0', _, j, rfl, q2, q3⟩
      · have : (x2 == 0) = false := by simpa using h0'
        rw [this, if_neg (by decide), if_neg (fun h => h0' h.1)]
        rfl
      · subst h0'
        rw [if_pos (by rfl), rmarked n S j (by omega) q3]
        simp only [Option.bind_some, tn]
        by_cases g3 : mkQ S j = true
        · have hj : j < S.length := by
            rcases Nat.lt_or_ge j S.length with h | h
            · exact h
            · unfold mkQ at g3; rw [dif_neg (by omega)] at g3; cases g3
          rw [g3, if_pos (by decide), if_pos (by simp), rbehind n S j hs hj (by omega)]; rfl
        · have g3' : mkQ S j = false := by simpa using g3
          rw [g3', if_neg (by decide), if_neg (by simp)]
    · rw [if_neg g2, if_neg g2]
      have hl2 := rEntry_l1 n S hs hn n 0 (Nat.zero_le _) (by omega)
      have hl2 : ref10_Entry_l1 n S n 0 = _ := hl2
      rw [hl2, List.drop_zero, Nat.zero_add]
      by_cases g3 : mk9 S = S.length
      · rw [if_pos g3, if_pos g3]; rfl
      · rw [if_neg g3, if_neg g3]
        by_cases g4 : (!plainB (S.take (mk9 S)) || S.take (mk9 S) == [60, 60]) = true
        · rw [if_pos g4, if_pos g4]; rfl
        · rw [if_neg g4, if_neg g4]; rfl
def QR (l : List Ln) (at0 : Nat) (o : Rs) (f : S_ref10_Found) : Prop :=
  match o with
  | .inl e => e.2 ≠ 0 ∧ f.f_E = e.2 ∧ f.f_No = e.1
  | .inr w => f.f_N = w.1 ∧ f.f_E = 0 ∧ ∃ a' : Nat, f.f_Next = (a' : Int) ∧ a' ≤ l.length ∧ l.drop a' = w.2 ∧ at0 ≤ a'
theorem QR.mono {l : List Ln} {a b : Nat} {o : Rs} {p : S_ref10_Found} (h : QR l b o p) (hab : a ≤ b) : QR l a o p := by
  unfold QR at h ⊢
  cases o with
  | inl e => exact h
  | inr w =>
    obtain ⟨h1, h2, at', h4, h5, h6, h7⟩ := h
    exact ⟨h1, h2, at', h4, h5, h6, by omega⟩
end Go.Proofs.YtefojkdckfidcaaGreatDoor.M
