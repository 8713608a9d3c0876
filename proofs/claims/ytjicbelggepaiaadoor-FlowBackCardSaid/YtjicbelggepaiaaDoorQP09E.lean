/-
  Part of the proof of FlowBack: P09E.
-/
import Derived.Test.YtjicbelggepaiaaDoorQP09D
set_option linter.all false
namespace Go.Proofs.YtjicbelggepaiaaDoor.M
open Go Go.Proofs.YtjicbelggepaiaaDoor.RX Go.Proofs.YtjicbelggepaiaaDoor.PL
set_option maxRecDepth 100000
def Red (m : Nat) (v : Nd) : Prop := ∀ d, Wide d v ∧ Shk m d v
theorem Red.leaf {m : Nat} {t : BS} (h : t.length ≤ m) : Red m (S_api_Node.mk 1 t [] []) := fun d => by
  cases d with
  | zero => exact ⟨trivial, trivial⟩
  | succ d => exact ⟨⟨by simp, by simp, fun x hx => (by cases hx)⟩, ⟨h, fun k hk => (by cases hk), fun x hx => (by cases hx)⟩⟩
theorem Red.null {m : Nat} : Red m Z8 := fun d => by
  cases d with
  | zero => exact ⟨trivial, trivial⟩
  | succ d => exact ⟨⟨by simp, by simp, fun x hx => (by cases hx)⟩, ⟨by simp, fun k hk => (by cases hk), fun x hx => (by cases hx)⟩⟩
theorem Red.node {m : Nat} {k : Int} {ks : List BS} {xs : List Nd} (h1 : xs.length ≤ 1000000) (h2 : ks.length ≤ 1000000) (h3 : ∀ k ∈ ks, k.length ≤ m) (h4 : ∀ x ∈ xs, Red m x) : Red m (S_api_Node.mk k [] ks xs) := fun d => by
  cases d with
  | zero => exact ⟨trivial, trivial⟩
  | succ d => exact ⟨⟨h1, h2, fun x hx => (h4 x hx d).1⟩, ⟨Nat.zero_le _, h3, fun x hx => (h4 x hx d).2⟩⟩
theorem quoted_tot (n : Nat) (S : BS) (bad : Bool) (i : Nat) (hS : S.length ≤ 100000000) (hn : S.length + 1 < n) (h : i < S.length) (hc : S[i] = 34 ∨ S[i] = 39) : ∃ t j bad', flow_reader_quoted__o0 n (S_flow_reader.mk S (i : Int) bad) = some (t, S_flow_reader.mk S ((j : Nat) : Int) bad') ∧ i ≤ j ∧ j ≤ S.length ∧ t.length ≤ S.length := by
  unfold flow_reader_quoted__o0
  simp only
  rcases Scan_tot n S i hS hn h hc with h1 | ⟨t, j, h1, h2, h3, h4⟩
  · rw [h1]
    exact ⟨[], i, true, rfl, Nat.le_refl _, by omega, Nat.zero_le _⟩
  · rw [h1]
    exact ⟨t, j, bad, rfl, by omega, h3, h4⟩
theorem hd_byte {S : BS} {j : Nat} {c : UInt8} (hj : j < S.length) : (hd9 (S.drop j) == (c.toNat : Int)) = decide (S[j] = c) := by
  rw [drop_at hj]
  show ((S[j].toNat : Int) == (c.toNat : Int)) = _
  rw [beq_bytes, byte_eq]
theorem scalar_tot (n : Nat) (s : BS) (m : Nat) (hs : s.length ≤ m) (hm : m ≤ 100000) (hn : 200000 ≤ n) : ∃ x e, flow_Scalar n s true = some (x, e) ∧ Red m x := by
  unfold flow_Scalar
  by_cases hw : s = [] ∨ s = [126] ∨ s = [110, 117, 108, 108]
  · refine ⟨Z8, 0, ?_, Red.null⟩
    rcases hw with rfl | rfl | rfl <;> rfl
  · have hne : s ≠ [] := fun e => hw (.inl e)
    have hlen : 0 < s.length := List.length_pos_iff.2 hne
    have e1 : (s == []) = false := by simpa using hne
    have e2 : (s == [126]) = false := by simp; exact fun e => hw (.inr (.inl e))
    have e3 : (s == [110, 117, 108, 108]) = false := by simp; exact fun e => hw (.inr (.inr e))
    have z0 : decide (0 ≤ (0 : Int) ∧ (0 : Int) < (List.length s : Int)) = true := in_i hlen
    have z1 : (s[Int.toNat 0]?.getD 0) = s[0] := at_i hlen
    obtain ⟨r1, _⟩ := row_eq n s (by omega) hn
    rw [e1, e2, e3, z0, z1, b34, b39]
    simp only [Bool.or_true, if_true, cond_false, Bool.false_eq_true, if_false]
    by_cases hq : (bif decide (s[0] = 34) then true else decide (s[0] = 39)) = true
    · rw [if_pos hq]
      have hq : s[0] = 34 ∨ s[0] = 39 := by
        by_cases h4 : s[0] = 34
        · exact .inl h4
        · rw [decide_eq_false h4] at hq
          exact .inr (of_decide_eq_true hq)
      rcases Scan_tot n s 0 (by omega) (by omega) hlen hq with h1 | ⟨t, j, h1, h2, h3, h4⟩
      · have h1 : quote_Scan n s 0 = some ([], 0, 3) := h1
        rw [h1]
        exact ⟨Z8, 3, rfl, Red.null⟩
      · have h1 : quote_Scan n s 0 = some (t, (j : Int), 0) := h1
        rw [h1, Option.bind_some]
        by_cases hb : (bif ((0 : Int) != 0) then true else ((j : Int) != (List.length s : Int))) = true
        · exact ⟨Z8, 3, by rw [if_pos hb], Red.null⟩
        · exact ⟨_, 0, by rw [if_neg hb]; rfl, Red.leaf (t := t) (by omega)⟩
    · rw [if_neg hq, if_pos (by rfl), r1, Option.bind_some]
      cases rowB s with
      | true => exact ⟨_, 0, rfl, Red.leaf hs⟩
      | false => exact ⟨Z8, 3, rfl, Red.null⟩
theorem key_tot (n : Nat) (S : BS) (bad : Bool) (i : Nat) (hS : S.length ≤ 100000) (hn : 300000 ≤ n) (hi : i ≤ S.length) : ∃ k j bad', flow_reader_key__o0 n (S_flow_reader.mk S (i : Int) bad) = some (k, S_flow_reader.mk S ((j : Nat) : Int) bad') ∧ i ≤ j ∧ j ≤ S.length ∧ k.length ≤ S.length := by
  have hb := blk9_drop S i hi
  unfold flow_reader_key__o0
  rw [next_eq n S bad i (by omega) (by omega) hi, Option.bind_some]
  simp only
  generalize hj : i + blk9 (S.drop i) = j at hb ⊢
  have hij : i ≤ j := by omega
  have hfirst : ∃ k j2 bad2, flow_reader_key__o0_j1 n (bif (hd9 (S.drop j) == 34) then true else (hd9 (S.drop j) == 39)) (S_flow_reader.mk S (j : Int) bad) = some (k, S_flow_reader.mk S ((j2 : Nat) : Int) bad2) ∧ j ≤ j2 ∧ j2 ≤ S.length ∧ k.length ≤ S.length := by
    unfold flow_reader_key__o0_j1
    by_cases hq : (bif (hd9 (S.drop j) == 34) then true else (hd9 (S.drop j) == 39)) = true
    · rw [if_pos hq]
      have hjl : j < S.length := by
        rcases Nat.lt_or_ge j S.length with h1 | h1
        · exact h1
        · rw [List.drop_eq_nil_of_le h1] at hq; exact absurd hq (by decide)
      have a1 : (hd9 (S.drop j) == 34) = decide (S[j] = 34) := hd_byte (c := 34) hjl
      have a2 : (hd9 (S.drop j) == 39) = decide (S[j] = 39) := hd_byte (c := 39) hjl
      rw [a1, a2] at hq
      have hq : S[j] = 34 ∨ S[j] = 39 := by
        by_cases h4 : S[j] = 34
        · exact .inl h4
        · rw [decide_eq_false h4] at hq
          exact .inr (of_decide_eq_true hq)
      obtain ⟨t, j2, b2, h1, h2, h3, h4⟩ := quoted_tot n S bad j (by omega) (by omega) hjl hq
      rw [h1]
      exact ⟨t, j2, b2, rfl, h2, h3, h4⟩
    · rw [if_neg hq, plain_read n S bad j (by omega) (by omega) hb, Option.bind_some]
      have hp := pl9_le (S.drop j)
      rw [List.length_drop] at hp
      have ht := trim_le ((S.drop j).take (pl9 (S.drop j))) 32
      rw [List.length_take, List.length_drop] at ht
      obtain ⟨r1, _⟩ := row_eq n (Lib.trimRightB ((S.drop j).take (pl9 (S.drop j))) 32) (by omega) (by omega)
      simp only
      rw [r1, Option.bind_some]
      split
      · exact ⟨_, _, _, rfl, by omega, by omega, by omega⟩
      · exact ⟨_, _, _, rfl, by omega, by omega, by omega⟩
  obtain ⟨k, j2, bad2, h1, h2, h3, h4⟩ := hfirst
  rw [h1, Option.bind_some]
  simp only
  cases bad2 with
  | true => exact ⟨k, j2, true, rfl, by omega, h3, h4⟩
  | false =>
    obtain ⟨b, j3, g1, ⟨g2, g3⟩, _⟩ := take_tot n S false j2 58 (by decide) (by omega) (by omega) h3
    rw [if_pos (by rfl), g1, Option.bind_some]
    exact ⟨k, j3, _, rfl, by omega, g3, h4⟩
abbrev Rv := S_flow_reader → Option (S_api_Node × Bool × S_flow_reader)
theorem seq_loop (R : Rv) (n : Nat) (S : BS) (i0 : Nat) (hS : S.length ≤ 100000) (hn : 300000 ≤ n)
    (hR : ∀ i bad, i0 < i → i ≤ S.length → ∃ v sm j bad', R (S_flow_reader.mk S ((i : Nat) : Int) bad) = some (v, sm, S_flow_reader.mk S ((j : Nat) : Int) bad') ∧ i ≤ j ∧ j ≤ S.length ∧ Red S.length v) :
    ∀ (k i : Nat) (bad : Bool) (z : Nd) (xs : List Nd), i0 < i → i ≤ S.length → S.length - i < k → xs.length ≤ i → (∀ x ∈ xs, Red S.length x) →
      ∃ v j bad', flow_reader_seq__o0_g1_0 R n k z (S_api_Node.mk 2 [] [] xs) (S_flow_reader.mk S (i : Int) bad) = some (v, S_flow_reader.mk S ((j : Nat) : Int) bad') ∧ i ≤ j ∧ j ≤ S.length ∧ Red S.length v
  | 0, i, _, _, _, _, _, h, _, _ => by omega
  | k + 1, i, bad, z, xs, h0, hi, hk, hx, hr => by
    obtain ⟨v, sm, j, bad', r1, r2, r3, r4⟩ := hR i bad h0 hi
    rw [flow_reader_seq__o0_g1_0, r1, Option.bind_some]
    simp only
    split
    · exact ⟨_, j, _, rfl, r2, r3, Red.node (by omega) (by simp) (fun k hk => by cases hk) hr⟩
    · have hl : (xs ++ [v]).length = xs.length + 1 := by simp
      have hrx : ∀ x ∈ xs ++ [v], Red S.length x := fun x hx => by
        rcases List.mem_append.1 hx with hx | hx
        · exact hr x hx
        · rw [List.mem_singleton] at hx; subst hx; exact r4
      rw [if_pos (decide_eq_true (by show (xs.length + 1) * (72 + 1) ≤ 140737488355328; omega))]
      obtain ⟨b, j2, g1, ⟨g2, g3⟩, g4⟩ := take_tot n S (bif bad' then true else (!sm)) j 44 (by decide) (by omega) (by omega) r3
      rw [g1, Option.bind_some]
      cases b with
      | true =>
        have := g4 rfl
        obtain ⟨w, j3, b3, w1, w2, w3, w4⟩ := seq_loop R n S i0 hS hn hR k j2 _ z (xs ++ [v]) (by omega) g3 (by omega) (by omega) hrx
        exact ⟨w, j3, b3, by rw [if_pos rfl]; exact w1, by omega, w3, w4⟩
      | false =>
        obtain ⟨b2, j3, q1, ⟨q2, q3⟩, _⟩ := take_tot n S (bif bad' then true else (!sm)) j2 93 (by decide) (by omega) (by omega) g3
        rw [if_neg Bool.false_ne_true]
        simp only
        rw [q1, Option.bind_some]
        exact ⟨_, j3, _, rfl, by omega, q3, Red.node (by omega) (by simp) (fun k hk => by cases hk) hrx⟩
theorem seq_tot (R : Rv) (n : Nat) (S : BS) (i : Nat) (bad : Bool) (hS : S.length ≤ 100000) (hn : 300000 ≤ n) (hi : i < S.length)
    (hR : ∀ i' bad, i < i' → i' ≤ S.length → ∃ v sm j bad', R (S_flow_reader.mk S ((i' : Nat) : Int) bad) = some (v, sm, S_flow_reader.mk S ((j : Nat) : Int) bad') ∧ i' ≤ j ∧ j ≤ S.length ∧ Red S.length v) :
    ∃ v j bad', flow_reader_seq__o0 R n (S_flow_reader.mk S (i : Int) bad) = some (v, S_flow_reader.mk S ((j : Nat) : Int) bad') ∧ i ≤ j ∧ j ≤ S.length ∧ Red S.length v := by
  suffices hg : ∃ v j bad', flow_reader_seq__o0_g1_e R n n (S_api_Node.mk 0 [] [] []) (S_flow_reader.mk S (i : Int) bad) = some (v, S_flow_reader.mk S ((j : Nat) : Int) bad') ∧ i ≤ j ∧ j ≤ S.length ∧ Red S.length v by
    obtain ⟨v, j, b, h1, h2⟩ := hg
    unfold flow_reader_seq__o0
    rw [h1]
    exact ⟨v, j, b, rfl, h2⟩
  have hrec : ∀ k z i' bad', S.length < k → i < i' → i' ≤ S.length → ∀ v, Red S.length v → ∃ w j bad'', flow_reader_seq__o0_g1_0 R n k z (S_api_Node.mk 2 [] [] [v]) (S_flow_reader.mk S ((i' : Nat) : Int) bad') = some (w, S_flow_reader.mk S ((j : Nat) : Int) bad'') ∧ i' ≤ j ∧ j ≤ S.length ∧ Red S.length w := by
    intro k z i' bad' hk h1 h2 v hv
    refine seq_loop R n S i hS hn hR k i' bad' z [v] h1 h2 (by omega) (by simp; omega) fun x hx => ?_
    rw [List.mem_singleton] at hx; subst hx; exact hv
  obtain ⟨m, hm⟩ : ∃ m, n = m + 1 := ⟨n - 1, by omega⟩
  rw [show flow_reader_seq__o0_g1_e R n n = flow_reader_seq__o0_g1_e R n (m + 1) by rw [← hm]]
  rw [flow_reader_seq__o0_g1_e]
  simp only
  rw [wrap_s i (by omega)]
  obtain ⟨b, j, g1, ⟨g2, g3⟩, g4⟩ := take_tot n S bad (i + 1) 93 (by decide) (by omega) (by omega) (by omega)
  rw [g1, Option.bind_some]
  cases b with
  | true => exact ⟨_, j, _, rfl, by omega, g3, Red.node (by simp) (by simp) (fun k hk => by cases hk) (fun x hx => by cases hx)⟩
  | false =>
    rw [if_neg Bool.false_ne_true]
    obtain ⟨v, sm, j2, bad2, r1, r2, r3, r4⟩ := hR j bad (by omega) g3
    simp only
    rw [r1, Option.bind_some]
    simp only
    split
    · exact ⟨_, j2, _, rfl, by omega, r3, Red.node (by simp) (by simp) (fun k hk => by cases hk) (fun x hx => by cases hx)⟩
    · rw [if_pos (by rfl)]
      obtain ⟨b3, j3, q1, ⟨q2, q3⟩, q4⟩ := take_tot n S (bif bad2 then true else (!sm)) j2 44 (by decide) (by omega) (by omega) r3
      rw [q1, Option.bind_some]
      cases b3 with
      | true =>
        obtain ⟨w, j4, b4, w1, w2, w3, w4⟩ := hrec m (S_api_Node.mk 0 [] [] []) j3 (bif bad2 then true else (!sm)) (by omega) (by omega) q3 v r4
        exact ⟨w, j4, b4, w1, by omega, w3, w4⟩
      | false =>
        obtain ⟨b4, j4, p1, ⟨p2, p3⟩, _⟩ := take_tot n S (bif bad2 then true else (!sm)) j3 93 (by decide) (by omega) (by omega) q3
        rw [if_neg Bool.false_ne_true]
        simp only
        rw [p1, Option.bind_some]
        exact ⟨_, j4, _, rfl, by omega, p3, Red.node (by simp) (by simp) (fun k hk => by cases hk) (fun x hx => by
          have hx : x ∈ [v] := hx
          rw [List.mem_singleton] at hx; subst hx; exact r4)⟩
theorem mlook_mput {α : Type} (x y : MK) (v : α) : ∀ l : List (MK × α), mlook (mput l x v) y = if x = y then some v else mlook l y
  | [] => by unfold mput mlook; simp [mlook]
  | p :: r => by
    unfold mput
    by_cases h1 : p.1 = x
    · rw [if_pos h1]
      unfold mlook
      by_cases h2 : x = y
      · rw [if_pos h2, if_pos h2]
      · rw [if_neg h2, if_neg h2, if_neg (by rw [h1]; exact h2)]
    · rw [if_neg h1]
      unfold mlook
      rw [mlook_mput x y v r]
      by_cases h2 : p.1 = y
      · rw [if_pos h2, if_pos h2, if_neg (fun e => h1 (by rw [h2, e]))]
      · rw [if_neg h2, if_neg h2]
def Onc (b : List (MK × Int)) : Prop := ∀ x, mlook b x = none ∨ mlook b x = some 1
theorem onc_step {b : List (MK × Int)} {x : MK} (h : Onc b) : (mlook b x = none → Onc (mput b x (IntKind.wrap .i64 (((mlook b x).getD 0) + 1))) ∧ (mlook (mput b x (IntKind.wrap .i64 (((mlook b x).getD 0) + 1))) x).getD 0 = 1) ∧ (mlook b x ≠ none → (mlook (mput b x (IntKind.wrap .i64 (((mlook b x).getD 0) + 1))) x).getD 0 = 2) := by
  have w1 : IntKind.wrap .i64 ((0 : Int) + 1) = 1 := by decide
  have w2 : IntKind.wrap .i64 ((1 : Int) + 1) = 2 := by decide
  constructor
  · intro e
    rw [e]
    show Onc (mput b x (IntKind.wrap .i64 ((0 : Int) + 1))) ∧ (mlook (mput b x (IntKind.wrap .i64 ((0 : Int) + 1))) x).getD 0 = 1
    rw [w1]
    refine ⟨fun y => ?_, by rw [mlook_mput, if_pos rfl]; rfl⟩
    rw [mlook_mput]
    split
    · exact .inr rfl
    · exact h y
  · intro e
    rcases h x with h1 | h1
    · exact (e h1).elim
    · rw [h1]
      show (mlook (mput b x (IntKind.wrap .i64 ((1 : Int) + 1))) x).getD 0 = 2
      rw [w2, mlook_mput, if_pos rfl]; rfl
theorem pairs_loop (R : Rv) (n : Nat) (S : BS) (i0 : Nat) (hS : S.length ≤ 100000) (hn : 300000 ≤ n)
    (hR : ∀ i bad, i0 < i → i ≤ S.length → ∃ v sm j bad', R (S_flow_reader.mk S ((i : Nat) : Int) bad) = some (v, sm, S_flow_reader.mk S ((j : Nat) : Int) bad') ∧ i ≤ j ∧ j ≤ S.length ∧ Red S.length v) :
    ∀ (k i : Nat) (bad : Bool) (z : Nd) (b : List (MK × Int)) (ks : List BS) (xs : List Nd), i0 < i → i ≤ S.length → S.length - i < k → ks.length ≤ i → xs.length ≤ i → (∀ k ∈ ks, k.length ≤ S.length) → (∀ x ∈ xs, Red S.length x) → Onc b →
      ∃ v j bad', flow_reader_pairs__o0_g1_0 R n k z (S_api_Node.mk 3 [] ks xs) b (S_flow_reader.mk S (i : Int) bad) = some (v, S_flow_reader.mk S ((j : Nat) : Int) bad') ∧ i ≤ j ∧ j ≤ S.length ∧ Red S.length v
  | 0, i, _, _, _, _, _, _, _, h, _, _, _, _, _ => by omega
  | k + 1, i, bad, z, b, ks, xs, h0, hi, hk, hkl, hxl, hkr, hxr, hb => by
    obtain ⟨key, j, bad1, k1, k2, k3, k4⟩ := key_tot n S bad i hS hn hi
    rw [flow_reader_pairs__o0_g1_0, k1, Option.bind_some]
    simp only [lett]
    obtain ⟨o1, o2⟩ := onc_step (x := .inl key) hb
    split
    · exact ⟨_, j, _, rfl, k2, k3, Red.node (by omega) (by omega) hkr hxr⟩
    · rename_i hc
      have hnone : mlook b (.inl key) = none := by
        rcases hb (.inl key) with h1 | h1
        · exact h1
        · exfalso
          apply hc
          rw [o2 (by rw [h1]; simp)]
          cases bad1 <;> rfl
      obtain ⟨o3, _⟩ := o1 hnone
      obtain ⟨v, sm, j2, bad2, r1, r2, r3, r4⟩ := hR j bad1 (by omega) k3
      rw [r1, Option.bind_some]
      simp only
      rw [if_pos (capS (by simp only [List.length_cons, List.length_nil]; omega)), if_pos (decide_eq_true (by show (xs.length + 1) * (72 + 1) ≤ 140737488355328; omega))]
      have hl : (xs ++ [v]).length = xs.length + 1 := by simp
      have hl2 : (ks ++ [key]).length = ks.length + 1 := by simp
      have hrx : ∀ x ∈ xs ++ [v], Red S.length x := fun x hx => by
        rcases List.mem_append.1 hx with hx | hx
        · exact hxr x hx
        · rw [List.mem_singleton] at hx; subst hx; exact r4
      have hrk : ∀ x ∈ ks ++ [key], x.length ≤ S.length := fun x hx => by
        rcases List.mem_append.1 hx with hx | hx
        · exact hkr x hx
        · rw [List.mem_singleton] at hx; subst hx; exact k4
      split
      · exact ⟨_, j2, _, rfl, by omega, r3, Red.node (by omega) (by omega) hrk hrx⟩
      · obtain ⟨b3, j3, q1, ⟨q2, q3⟩, q4⟩ := take_tot n S bad2 j2 44 (by decide) (by omega) (by omega) r3
        rw [q1, Option.bind_some]
        cases b3 with
        | true =>
          have := q4 rfl
          obtain ⟨w, j4, b4, w1, w2, w3, w4⟩ := pairs_loop R n S i0 hS hn hR k j3 bad2 z _ (ks ++ [key]) (xs ++ [v]) (by omega) q3 (by omega) (by omega) (by omega) hrk hrx o3
          exact ⟨w, j4, b4, w1, by omega, w3, w4⟩
        | false =>
          obtain ⟨b4, j4, p1, ⟨p2, p3⟩, _⟩ := take_tot n S bad2 j3 125 (by decide) (by omega) (by omega) q3
          rw [if_neg Bool.false_ne_true]
          simp only
          rw [p1, Option.bind_some]
          exact ⟨_, j4, _, rfl, by omega, p3, Red.node (by omega) (by omega) hrk hrx⟩
theorem pairs_tot (R : Rv) (n : Nat) (S : BS) (i : Nat) (bad : Bool) (hS : S.length ≤ 100000) (hn : 300000 ≤ n) (hi : i < S.length)
    (hR : ∀ i' bad, i < i' → i' ≤ S.length → ∃ v sm j bad', R (S_flow_reader.mk S ((i' : Nat) : Int) bad) = some (v, sm, S_flow_reader.mk S ((j : Nat) : Int) bad') ∧ i' ≤ j ∧ j ≤ S.length ∧ Red S.length v) :
    ∃ v j bad', flow_reader_pairs__o0 R n (S_flow_reader.mk S (i : Int) bad) = some (v, S_flow_reader.mk S ((j : Nat) : Int) bad') ∧ i ≤ j ∧ j ≤ S.length ∧ Red S.length v := by
  suffices hg : ∃ v j bad', flow_reader_pairs__o0_g1_e R n n (S_api_Node.mk 0 [] [] []) (S_flow_reader.mk S (i : Int) bad) = some (v, S_flow_reader.mk S ((j : Nat) : Int) bad') ∧ i ≤ j ∧ j ≤ S.length ∧ Red S.length v by
    obtain ⟨v, j, b, h1, h2⟩ := hg
    unfold flow_reader_pairs__o0
    rw [h1]
    exact ⟨v, j, b, rfl, h2⟩
  have hone : Onc [] := fun x => .inl rfl
  obtain ⟨m, hm⟩ : ∃ m, n = m + 1 := ⟨n - 1, by omega⟩
  rw [show flow_reader_pairs__o0_g1_e R n n = flow_reader_pairs__o0_g1_e R n (m + 1) by rw [← hm]]
  rw [flow_reader_pairs__o0_g1_e]
  simp only
  rw [wrap_s i (by omega)]
  obtain ⟨b, j, g1, ⟨g2, g3⟩, g4⟩ := take_tot n S bad (i + 1) 125 (by decide) (by omega) (by omega) (by omega)
  rw [g1, Option.bind_some]
  cases b with
  | true => exact ⟨_, j, _, rfl, by omega, g3, Red.node (by simp) (by simp) (fun k hk => by cases hk) (fun x hx => by cases hx)⟩
  | false =>
    rw [if_neg Bool.false_ne_true]
    obtain ⟨key, j1, bad1, k1, k2, k3, k4⟩ := key_tot n S bad j hS hn g3
    simp only
    rw [k1, Option.bind_some]
    simp only [lett]
    obtain ⟨o1, _⟩ := onc_step (x := .inl key) hone
    obtain ⟨o3, _⟩ := o1 rfl
    split
    · exact ⟨_, j1, _, rfl, by omega, k3, Red.node (by simp) (by simp) (fun k hk => by cases hk) (fun x hx => by cases hx)⟩
    · obtain ⟨v, sm, j2, bad2, r1, r2, r3, r4⟩ := hR j1 bad1 (by omega) k3
      rw [r1, Option.bind_some]
      simp only
      rw [if_pos (by rfl), if_pos (by rfl)]
      have hrx : ∀ x ∈ [v], Red S.length x := fun x hx => by rw [List.mem_singleton] at hx; subst hx; exact r4
      have hrk : ∀ x ∈ [key], x.length ≤ S.length := fun x hx => by rw [List.mem_singleton] at hx; subst hx; exact k4
      split
      · exact ⟨_, j2, _, rfl, by omega, r3, Red.node (by simp) (by simp) hrk hrx⟩
      · obtain ⟨b3, j3, q1, ⟨q2, q3⟩, q4⟩ := take_tot n S bad2 j2 44 (by decide) (by omega) (by omega) r3
        rw [q1, Option.bind_some]
        cases b3 with
        | true =>
          obtain ⟨w, j4, b4, w1, w2, w3, w4⟩ := pairs_loop R n S i hS hn hR m j3 bad2 (S_api_Node.mk 0 [] [] []) _ [key] [v] (by omega) q3 (by omega) (by simp; omega) (by simp; omega) hrk hrx o3
          exact ⟨w, j4, b4, w1, by omega, w3, w4⟩
        | false =>
          obtain ⟨b4, j4, p1, ⟨p2, p3⟩, _⟩ := take_tot n S bad2 j3 125 (by decide) (by omega) (by omega) q3
          rw [if_neg Bool.false_ne_true]
          simp only
          rw [p1, Option.bind_some]
          exact ⟨_, j4, _, rfl, by omega, p3, Red.node (by simp) (by simp) hrk hrx⟩
theorem value_tot (S : BS) (hS : S.length ≤ 100000) : ∀ (q n i : Nat) (bad : Bool), i ≤ S.length → S.length - i < q → 300000 + q < n →
    ∃ v sm j bad', flow_reader_value__o0 n (S_flow_reader.mk S (i : Int) bad) = some (v, sm, S_flow_reader.mk S ((j : Nat) : Int) bad') ∧ i ≤ j ∧ j ≤ S.length ∧ Red S.length v
  | 0, _, _, _, _, h, _ => by omega
  | q + 1, 0, _, _, _, _, h => by omega
  | q + 1, n + 1, i, bad, hi, hq, hn => by
    show ∃ v sm j bad', flow_reader_value__o0_b (flow_reader_value__o0 n) n (S_flow_reader.mk S (i : Int) bad) = some (v, sm, S_flow_reader.mk S ((j : Nat) : Int) bad') ∧ _
    have hb := blk9_drop S i hi
    have hR : ∀ i' bad, i < i' → i' ≤ S.length → ∃ v sm j bad', flow_reader_value__o0 n (S_flow_reader.mk S ((i' : Nat) : Int) bad) = some (v, sm, S_flow_reader.mk S ((j : Nat) : Int) bad') ∧ i' ≤ j ∧ j ≤ S.length ∧ Red S.length v :=
      fun i' bad h1 h2 => value_tot S hS q n i' bad h2 (by omega) (by omega)
    unfold flow_reader_value__o0_b
    rw [next_eq n S bad i (by omega) (by omega) hi, Option.bind_some]
    simp only
    generalize hj : i + blk9 (S.drop i) = j at hb ⊢
    have hij : i ≤ j := by omega
    unfold flow_reader_value__o0_j1
    by_cases c1 : hd9 (S.drop j) = 91
    · rw [if_pos (by rw [c1]; rfl)]
      have hjl := hd_in c1 (by decide)
      obtain ⟨v, j2, b2, h1, h2, h3, h4⟩ := seq_tot (flow_reader_value__o0 n) n S j bad hS (by omega) hjl (fun i' b g1 g2 => hR i' b (by omega) g2)
      rw [h1]
      exact ⟨v, true, j2, b2, rfl, by omega, h3, h4⟩
    rw [if_neg (by simpa using c1)]
    by_cases c2 : hd9 (S.drop j) = 123
    · rw [if_pos (by rw [c2]; rfl)]
      have hjl := hd_in c2 (by decide)
      obtain ⟨v, j2, b2, h1, h2, h3, h4⟩ := pairs_tot (flow_reader_value__o0 n) n S j bad hS (by omega) hjl (fun i' b g1 g2 => hR i' b (by omega) g2)
      rw [h1]
      exact ⟨v, true, j2, b2, rfl, by omega, h3, h4⟩
    rw [if_neg (by simpa using c2)]
    have hj2 : flow_reader_value__o0_j2 (flow_reader_value__o0 n) n (hd9 (S.drop j)) (hd9 (S.drop j) == 34) (S_api_Node.mk 0 [] [] []) (S_flow_reader.mk S (j : Int) bad) = some (decide (hd9 (S.drop j) = 34 ∨ hd9 (S.drop j) = 39)) := by
      unfold flow_reader_value__o0_j2
      by_cases h1 : hd9 (S.drop j) = 34
      · rw [if_pos (by rw [h1]; rfl), h1]; rfl
      · have : (hd9 (S.drop j) == 34) = false := by simpa using h1
        rw [this, if_neg Bool.false_ne_true]
        congr 1
        rw [Bool.eq_iff_iff, beq_iff_eq, decide_eq_true_eq]
        exact ⟨fun h => .inr h, fun h => h.resolve_left h1⟩
    rw [hj2, Option.bind_some]
    by_cases c3 : hd9 (S.drop j) = 34 ∨ hd9 (S.drop j) = 39
    · rw [if_pos (decide_eq_true c3)]
      have hjl : j < S.length := by
        rcases c3 with h | h
        · exact hd_in h (by decide)
        · exact hd_in h (by decide)
      have hq : S[j] = 34 ∨ S[j] = 39 := by
        have a1 : (hd9 (S.drop j) == 34) = decide (S[j] = 34) := hd_byte (c := 34) hjl
        have a2 : (hd9 (S.drop j) == 39) = decide (S[j] = 39) := hd_byte (c := 39) hjl
        rcases c3 with h | h
        · rw [h] at a1; exact .inl (of_decide_eq_true a1.symm)
        · rw [h] at a2; exact .inr (of_decide_eq_true a2.symm)
      obtain ⟨t, j2, b2, h1, h2, h3, h4⟩ := quoted_tot n S bad j (by omega) (by omega) hjl hq
      rw [h1]
      exact ⟨_, true, j2, b2, rfl, by omega, h3, Red.leaf h4⟩
    · rw [if_neg (by simpa using c3)]
      simp only [Option.bind_some, Sum.elim_inl]
      rw [plain_read n S bad j (by omega) (by omega) hb, Option.bind_some]
      have hp := pl9_le (S.drop j)
      rw [List.length_drop] at hp
      have ht := trim_le ((S.drop j).take (pl9 (S.drop j))) 32
      rw [List.length_take, List.length_drop] at ht
      obtain ⟨x, e, h1, h2⟩ := scalar_tot n (Lib.trimRightB ((S.drop j).take (pl9 (S.drop j))) 32) S.length (by omega) hS (by omega)
      simp only
      rw [h1, Option.bind_some]
      exact ⟨x, _, _, _, rfl, by omega, by omega, h2⟩
theorem parse_tot (n : Nat) (s : BS) (hs : s.length ≤ 2000) (hn : 400000 ≤ n) : ∃ x e, flow_Parse n s = some (x, e) ∧ ((e = 0 ∧ Fit 12 x ∧ sz8 12 x ≤ 2000 ∧ Shk 2000 12 x) ∨ (e ≠ 0 ∧ x = Z8)) := by
  obtain ⟨v, sm, j, bad, h1, _, h3, h4⟩ := value_tot s (by omega) (s.length + 1) n 0 false (by omega) (by omega) (by omega)
  have h1 : flow_reader_value__o0 n (S_flow_reader.mk s 0 false) = some (v, sm, S_flow_reader.mk s (j : Int) bad) := h1
  unfold flow_Parse
  rw [h1, Option.bind_some]
  simp only
  have hx : ∃ (c : Int) (r : S_flow_reader), (if (bad == false) = true then flow_reader_next__o0 n (S_flow_reader.mk s (j : Int) bad) else some (0, S_flow_reader.mk s (j : Int) bad)) = some (c, r) := by
    cases bad with
    | true => exact ⟨_, _, rfl⟩
    | false => exact ⟨_, _, (if_pos rfl).trans (next_eq n s false j (by omega) (by omega) h3)⟩
  obtain ⟨c, r, hx⟩ := hx
  rw [hx, Option.bind_some]
  split
  · exact ⟨Z8, 3, rfl, .inr ⟨by decide, rfl⟩⟩
  · obtain ⟨b, g1, g2⟩ := node_Right_eq n v (h4 12).1 (by omega)
    rw [g1, Option.bind_some]
    cases b with
    | false => exact ⟨Z8, 9, rfl, .inr ⟨by decide, rfl⟩⟩
    | true =>
      obtain ⟨g3, g4⟩ := g2.1 rfl
      refine ⟨v, 0, rfl, .inl ⟨rfl, g3, g4, (h4 12).2.mono hs⟩⟩
end Go.Proofs.YtjicbelggepaiaaDoor.M
