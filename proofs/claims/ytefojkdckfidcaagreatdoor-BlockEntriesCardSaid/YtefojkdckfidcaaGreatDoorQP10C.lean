import Derived.Test.YtefojkdckfidcaaGreatDoorQP10B
set_option linter.all false
namespace Go.Proofs.YtefojkdckfidcaaGreatDoor.M
open Go Go.Proofs.YtefojkdckfidcaaGreatDoor.RX Go.Proofs.YtefojkdckfidcaaGreatDoor.PL
set_option maxRecDepth 100000
theorem scan_tot (n : Nat) (S : BS) (hS : S.length ≤ 100000000) (q : Int) (hq : q = 34 ∨ q = 39) : ∀ (k i : Nat) (acc : BS), S.length < k + i → acc.length ≤ i → acc.length ≤ S.length → ∃ r, quote_Scan_l1 n S q (k + 1) (i : Int) acc = some r ∧ (r = .inl () ∨ r = .inr ([], 0, 3) ∨ ∃ (t : BS) (j : Nat), r = .inr (t, (j : Int), 0) ∧ i < j ∧ j ≤ S.length ∧ t.length ≤ S.length)
  | k, i, acc, h1, h2, h3 => by
    by_cases h : i < S.length
    · obtain ⟨k, rfl⟩ : ∃ m, k = m + 1 := ⟨k - 1, by omega⟩
      rcases hq with rfl | rfl
      · rw [q34 n (k + 1) S acc i hS (by omega) h]
        split
        · exact ⟨_, rfl, .inl rfl⟩
        split
        · exact ⟨_, rfl, .inr (.inr ⟨acc, i + 1, rfl, by omega, by omega, h3⟩)⟩
        split
        · cases hu : uesc (S.drop (i + 1)) with
          | none => exact ⟨_, rfl, .inr (.inl rfl)⟩
          | some p =>
            obtain ⟨b, l⟩ := p
            have hl := uesc_len hu
            rw [List.length_drop] at hl
            obtain ⟨r, g1, g2⟩ := scan_tot n S hS 34 (.inl rfl) k (i + l) (acc ++ [b]) (by omega) (by simp; omega) (by simp; omega)
            refine ⟨r, g1, ?_⟩
            rcases g2 with g2 | g2 | ⟨t, j, g2, g3, g4⟩
            · exact .inl g2
            · exact .inr (.inl g2)
            · exact .inr (.inr ⟨t, j, g2, by omega, g4⟩)
        · obtain ⟨r, g1, g2⟩ := scan_tot n S hS 34 (.inl rfl) k (i + 1) (acc ++ [S[i]]) (by omega) (by simp; omega) (by simp; omega)
          refine ⟨r, g1, ?_⟩
          rcases g2 with g2 | g2 | ⟨t, j, g2, g3, g4⟩
          · exact .inl g2
          · exact .inr (.inl g2)
          · exact .inr (.inr ⟨t, j, g2, by omega, g4⟩)
      · rw [q39 n (k + 1) S acc i hS (by omega) h]
        split
        · exact ⟨_, rfl, .inl rfl⟩
        split
        · by_cases hx : (if h' : i + 1 < S.length then S[i + 1] == 39 else false) = true
          · rw [if_pos hx]
            have hi2 : i + 1 < S.length := by
              by_cases h' : i + 1 < S.length
              · exact h'
              · rw [dif_neg h'] at hx; cases hx
            obtain ⟨r, g1, g2⟩ := scan_tot n S hS 39 (.inr rfl) k (i + 2) (acc ++ [39]) (by omega) (by simp; omega) (by simp; omega)
            refine ⟨r, g1, ?_⟩
            rcases g2 with g2 | g2 | ⟨t, j, g2, g3, g4⟩
            · exact .inl g2
            · exact .inr (.inl g2)
            · exact .inr (.inr ⟨t, j, g2, by omega, g4⟩)
          · rw [if_neg hx]
            exact ⟨_, rfl, .inr (.inr ⟨acc, i + 1, rfl, by omega, by omega, h3⟩)⟩
        · obtain ⟨r, g1, g2⟩ := scan_tot n S hS 39 (.inr rfl) k (i + 1) (acc ++ [S[i]]) (by omega) (by simp; omega) (by simp; omega)
          refine ⟨r, g1, ?_⟩
          rcases g2 with g2 | g2 | ⟨t, j, g2, g3, g4⟩
          · exact .inl g2
          · exact .inr (.inl g2)
          · exact .inr (.inr ⟨t, j, g2, by omega, g4⟩)
    · rw [q_end n k S acc q i (by omega)]
      exact ⟨_, rfl, .inl rfl⟩
theorem Scan_tot (n : Nat) (S : BS) (i : Nat) (hS : S.length ≤ 100000000) (hn : S.length + 1 < n) (h : i < S.length) (hc : S[i] = 34 ∨ S[i] = 39) : quote_Scan n S (i : Int) = some ([], 0, 3) ∨ ∃ (t : BS) (j : Nat), quote_Scan n S (i : Int) = some (t, (j : Int), 0) ∧ i < j ∧ j ≤ S.length ∧ t.length ≤ S.length := by
  obtain ⟨m, rfl⟩ : ∃ m, n = m + 1 := ⟨n - 1, by omega⟩
  rw [scan_open (m + 1) S i hS h hc]
  have hq : (S[i].toNat : Int) = 34 ∨ (S[i].toNat : Int) = 39 := by
    rcases hc with hc | hc <;> rw [hc]
    · exact .inl rfl
    · exact .inr rfl
  obtain ⟨r, g1, g2⟩ := scan_tot (m + 1) S hS _ hq m (i + 1) [] (by omega) (Nat.zero_le _) (Nat.zero_le _)
  rw [g1, Option.bind_some]
  rcases g2 with rfl | rfl | ⟨t, j, rfl, g3, g4⟩
  · exact .inl rfl
  · exact .inl rfl
  · exact .inr ⟨t, j, rfl, by omega, g4⟩
theorem ite_le {c : Prop} [Decidable c] {a b m : Nat} (h1 : a ≤ m) (h2 : b ≤ m) : (if c then a else b) ≤ m := by split <;> assumption
def Red (m : Nat) (v : Nd) : Prop := ∀ d, Wide d v ∧ Shk m d v
theorem Red.leaf {m : Nat} {t : BS} (h : t.length ≤ m) : Red m (S_api_Node.mk 1 t [] []) := fun d => by
  cases d with
  | zero => exact ⟨trivial, trivial⟩
  | succ d => exact ⟨⟨by simp, by simp, fun x hx => (by cases hx)⟩, ⟨h, fun k hk => (by cases hk), fun x hx => (by cases hx)⟩⟩
theorem scan_both (n : Nat) (S : BS) (j : Nat) (hS : S.length ≤ 10000) (hn : 20000 ≤ n) (hj : j < S.length) (hq : S[j] = 34 ∨ S[j] = 39) : ∃ t e, quote_Scan n S (j : Int) = some (t, e) ∧ ref06_Scan n S (j : Int) = some (t, e) ∧ ((e.2 ≠ 0 ∧ t = []) ∨ (e.2 = 0 ∧ t.length ≤ S.length ∧ ∃ m : Nat, e.1 = (m : Int) ∧ j < m ∧ m ≤ S.length)) := by
  obtain ⟨r, q1, q2, _⟩ := scan_eq n S (j : Int) hS hn ⟨Int.le_trans (by decide) (Int.natCast_nonneg _), by show (j : Int) ≤ 9223372036854775807; omega⟩
  rcases Scan_tot n S j (by omega) (by omega) hj hq with g1 | ⟨t, m, g1, g2, g3, g4⟩
  · rw [q1] at g1; cases g1
    exact ⟨[], (0, 3), q1, q2, .inl ⟨by decide, rfl⟩⟩
  · rw [q1] at g1; cases g1
    exact ⟨t, ((m : Int), 0), q1, q2, .inr ⟨rfl, g4, m, rfl, g2, g3⟩⟩
end Go.Proofs.YtefojkdckfidcaaGreatDoor.M
