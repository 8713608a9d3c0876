/-
  Part of the proof of FlowBack: P09G.
-/
import Derived.Test.YtjicbelggepaiaaDoorQP09F
set_option linter.all false
namespace Go.Proofs.YtjicbelggepaiaaDoor.M
open Go Go.Proofs.YtjicbelggepaiaaDoor.RX Go.Proofs.YtjicbelggepaiaaDoor.PL
set_option maxRecDepth 100000
theorem tail_cons (x : BS) (r : List BS) : Lib.joinTail [44, 32] (x :: r) = 44 :: 32 :: (x ++ Lib.joinTail [44, 32] r) := by
  unfold Lib.joinTail
  simp
def KidR (R : Rv) (S : BS) (d : Nat) (x : Nd) : Prop := ∀ (i p : Nat) (r : BS), p ≤ 1 → i ≤ S.length → S.drop i = List.replicate p 32 ++ (wr9 d x ++ r) → (∃ c r', r = c :: r' ∧ (c = 44 ∨ c = 93 ∨ c = 125)) →
  ∃ j : Nat, R (S_flow_reader.mk S (i : Int) false) = some (x, true, S_flow_reader.mk S (j : Int) false) ∧ j ≤ S.length ∧ S.drop j = r
theorem seq_back_l (R : Rv) (n d : Nat) (S rest : BS) (hS : S.length ≤ 100000000) (hn : S.length < n) : ∀ (ys : List Nd) (y z : Nd) (xs : List Nd) (k i : Nat), ys.length < k → (∀ x ∈ y :: ys, KidR R S d x) → xs.length + ys.length ≤ 1000000 → i ≤ S.length →
    S.drop i = 32 :: (wr9 d y ++ (Lib.joinTail [44, 32] (ys.map (wr9 d)) ++ 93 :: rest)) →
    ∃ j : Nat, flow_reader_seq__o0_g1_0 R n k z (S_api_Node.mk 2 [] [] xs) (S_flow_reader.mk S (i : Int) false) = some (S_api_Node.mk 2 [] [] (xs ++ y :: ys), S_flow_reader.mk S (j : Int) false) ∧ j ≤ S.length ∧ S.drop j = rest
  | ys, y, z, xs, 0, i, h, _, _, _, _ => by omega
  | [], y, z, xs, k + 1, i, hk, hR, hl, hi, hd => by
    have hd : S.drop i = List.replicate 1 32 ++ (wr9 d y ++ 93 :: rest) := hd
    obtain ⟨j, r1, r2, r3⟩ := hR y List.mem_cons_self i 1 _ (Nat.le_refl _) hi hd ⟨93, rest, rfl, .inr (.inl rfl)⟩
    have t1 := take_no n S j 44 93 rest hS hn r2 (by decide) (by decide) r3
    have t1 : flow_reader_take__o0 n 44 (S_flow_reader.mk S (j : Int) false) = _ := t1
    obtain ⟨t2, t3, t4⟩ := take_yes n S j 93 0 rest hS hn r2 (by decide) r3
    have t2 : flow_reader_take__o0 n 93 (S_flow_reader.mk S (j : Int) false) = _ := t2
    rw [flow_reader_seq__o0_g1_0, r1, Option.bind_some]
    simp only
    rw [if_neg (by decide), if_pos (decide_eq_true (by show (xs.length + 1) * (72 + 1) ≤ 140737488355328; simp only [List.length_nil] at hl; omega))]
    show ∃ j2 : Nat, ((flow_reader_take__o0 n 44 (S_flow_reader.mk S (j : Int) false)).bind _) = _ ∧ _
    rw [t1, Option.bind_some]
    simp only
    rw [if_neg Bool.false_ne_true, t2]
    exact ⟨j + 0 + 1, rfl, t3, t4⟩
  | y2 :: ys, y, z, xs, k + 1, i, hk, hR, hl, hi, hd => by
    simp only [List.length_cons] at hk hl
    rw [List.map_cons, tail_cons] at hd
    have hd : S.drop i = List.replicate 1 32 ++ (wr9 d y ++ 44 :: 32 :: (wr9 d y2 ++ (Lib.joinTail [44, 32] (ys.map (wr9 d)) ++ 93 :: rest))) := by rw [hd]; simp
    obtain ⟨j, r1, r2, r3⟩ := hR y List.mem_cons_self i 1 _ (Nat.le_refl _) hi hd ⟨44, _, rfl, .inl rfl⟩
    obtain ⟨t2, t3, t4⟩ := take_yes n S j 44 0 _ hS hn r2 (by decide) r3
    have t2 : flow_reader_take__o0 n 44 (S_flow_reader.mk S (j : Int) false) = _ := t2
    obtain ⟨j2, w1, w2, w3⟩ := seq_back_l R n d S rest hS hn ys y2 z (xs ++ [y]) k (j + 0 + 1) (by omega) (fun x hx => hR x (List.mem_cons_of_mem _ hx)) (by simp; omega) t3 t4
    rw [flow_reader_seq__o0_g1_0, r1, Option.bind_some]
    simp only
    rw [if_neg (by decide), if_pos (decide_eq_true (by show (xs.length + 1) * (72 + 1) ≤ 140737488355328; omega))]
    show ∃ j2 : Nat, ((flow_reader_take__o0 n 44 (S_flow_reader.mk S (j : Int) false)).bind _) = _ ∧ _
    rw [t2, Option.bind_some]
    simp only
    rw [if_pos trivial]
    refine ⟨j2, ?_, w2, w3⟩
    rw [List.append_assoc] at w1
    exact w1
theorem seq_back (R : Rv) (n d : Nat) (S rest : BS) (hS : S.length ≤ 100000000) (hn : S.length + 300000 < n) (xs : List Nd) (i : Nat) (hR : ∀ x ∈ xs, KidR R S d x) (hW : ∀ x ∈ xs, Fit d x) (hl : xs.length ≤ 2000) (hi : i ≤ S.length)
    (hd : S.drop i = 91 :: (Lib.join (xs.map (wr9 d)) [44, 32] ++ 93 :: rest)) :
    ∃ j : Nat, flow_reader_seq__o0 R n (S_flow_reader.mk S (i : Int) false) = some (S_api_Node.mk 2 [] [] xs, S_flow_reader.mk S (j : Int) false) ∧ j ≤ S.length ∧ S.drop j = rest := by
  suffices hg : ∃ j : Nat, flow_reader_seq__o0_g1_e R n n (S_api_Node.mk 0 [] [] []) (S_flow_reader.mk S (i : Int) false) = some (S_api_Node.mk 2 [] [] xs, S_flow_reader.mk S (j : Int) false) ∧ j ≤ S.length ∧ S.drop j = rest by
    obtain ⟨j, h1, h2⟩ := hg
    unfold flow_reader_seq__o0
    rw [h1]
    exact ⟨j, rfl, h2⟩
  obtain ⟨hi', _, hd1⟩ := drop_cons hd
  obtain ⟨m, hm⟩ : ∃ m, n = m + 1 := ⟨n - 1, by omega⟩
  rw [show flow_reader_seq__o0_g1_e R n n = flow_reader_seq__o0_g1_e R n (m + 1) by rw [← hm]]
  rw [flow_reader_seq__o0_g1_e]
  simp only
  rw [wrap_s i (by omega)]
  cases xs with
  | nil =>
    have hd1 : S.drop (i + 1) = 93 :: rest := hd1
    obtain ⟨t2, t3, t4⟩ := take_yes n S (i + 1) 93 0 _ hS (by omega) (by omega) (by decide) hd1
    have t2 : flow_reader_take__o0 n 93 (S_flow_reader.mk S ((i + 1 : Nat) : Int) false) = _ := t2
    rw [t2]
    exact ⟨_, rfl, t3, t4⟩
  | cons y ys =>
    rw [List.map_cons, Lib.join_cons, List.append_assoc] at hd1
    obtain ⟨c, q, hw, c32, c93, _⟩ := wr9_first (hW y List.mem_cons_self)
    have t0 := take_no n S (i + 1) 93 c _ hS (by omega) (by omega) c32 c93 (by rw [hd1, hw]; rfl)
    have t0 : flow_reader_take__o0 n 93 (S_flow_reader.mk S ((i + 1 : Nat) : Int) false) = _ := t0
    rw [t0, Option.bind_some]
    simp only
    rw [if_neg Bool.false_ne_true]
    cases ys with
    | nil =>
      have hd1 : S.drop (i + 1) = List.replicate 0 32 ++ (wr9 d y ++ 93 :: rest) := hd1
      obtain ⟨j, r1, r2, r3⟩ := hR y List.mem_cons_self (i + 1) 0 _ (Nat.zero_le _) (by omega) hd1 ⟨93, rest, rfl, .inr (.inl rfl)⟩
      have t1 := take_no n S j 44 93 rest hS (by omega) r2 (by decide) (by decide) r3
      have t1 : flow_reader_take__o0 n 44 (S_flow_reader.mk S (j : Int) false) = _ := t1
      obtain ⟨t2, t3, t4⟩ := take_yes n S j 93 0 rest hS (by omega) r2 (by decide) r3
      have t2 : flow_reader_take__o0 n 93 (S_flow_reader.mk S (j : Int) false) = _ := t2
      rw [r1, Option.bind_some]
      simp only
      rw [if_neg (by decide), if_pos (by rfl)]
      show ∃ j2 : Nat, ((flow_reader_take__o0 n 44 (S_flow_reader.mk S (j : Int) false)).bind _) = _ ∧ _
      rw [t1, Option.bind_some]
      simp only
      rw [if_neg Bool.false_ne_true, t2]
      exact ⟨j + 0 + 1, rfl, t3, t4⟩
    | cons y2 ys =>
      rw [List.map_cons, tail_cons] at hd1
      have hd1 : S.drop (i + 1) = List.replicate 0 32 ++ (wr9 d y ++ 44 :: 32 :: (wr9 d y2 ++ (Lib.joinTail [44, 32] (ys.map (wr9 d)) ++ 93 :: rest))) := by rw [hd1]; simp
      obtain ⟨j, r1, r2, r3⟩ := hR y List.mem_cons_self (i + 1) 0 _ (Nat.zero_le _) (by omega) hd1 ⟨44, _, rfl, .inl rfl⟩
      obtain ⟨t2, t3, t4⟩ := take_yes n S j 44 0 _ hS (by omega) r2 (by decide) r3
      have t2 : flow_reader_take__o0 n 44 (S_flow_reader.mk S (j : Int) false) = _ := t2
      simp only [List.length_cons] at hl
      obtain ⟨j2, w1, w2, w3⟩ := seq_back_l R n d S rest hS (by omega) ys y2 (S_api_Node.mk 0 [] [] []) [y] m (j + 0 + 1) (by omega) (fun x hx => hR x (List.mem_cons_of_mem _ hx)) (by simp; omega) t3 t4
      rw [r1, Option.bind_some]
      simp only
      rw [if_neg (by decide), if_pos (by rfl)]
      show ∃ j2 : Nat, ((flow_reader_take__o0 n 44 (S_flow_reader.mk S (j : Int) false)).bind _) = _ ∧ _
      rw [t2, Option.bind_some]
      simp only
      rw [if_pos trivial]
      exact ⟨j2, w1, w2, w3⟩
def Has (b : List (MK × Int)) (ks : List BS) : Prop := ∀ k : BS, mlook b (.inl k) = if k ∈ ks then some 1 else none
theorem has_step {b : List (MK × Int)} {ks : List BS} {x : BS} (h : Has b ks) (hx : x ∉ ks) : Has (mput b (.inl x) (IntKind.wrap .i64 (((mlook b (.inl x)).getD 0) + 1))) (ks ++ [x]) ∧ decide (((mlook (mput b (.inl x) (IntKind.wrap .i64 (((mlook b (.inl x)).getD 0) + 1))) (.inl x)).getD 0) > 1) = false := by
  have w1 : IntKind.wrap .i64 ((0 : Int) + 1) = 1 := by decide
  rw [h x, if_neg hx]
  show Has (mput b (.inl x) (IntKind.wrap .i64 ((0 : Int) + 1))) (ks ++ [x]) ∧ decide (((mlook (mput b (.inl x) (IntKind.wrap .i64 ((0 : Int) + 1))) (.inl x)).getD 0) > 1) = false
  rw [w1]
  constructor
  · intro k
    rw [mlook_mput, h k]
    by_cases e : x = k
    · subst e; simp
    · have : (Sum.inl x : MK) ≠ Sum.inl k := fun h => e (Sum.inl.inj h)
      rw [if_neg this]
      have : (k ∈ ks ++ [x]) ↔ k ∈ ks := by simp [show k ≠ x from fun h => e h.symm]
      simp only [this]
  · rw [mlook_mput, if_pos rfl]; rfl
abbrev ents (d : Nat) (l : List (BS × Nd)) : List BS := l.map (ent9 (wr9 d))
theorem ent_app (d : Nat) (p : BS × Nd) (r : BS) : ent9 (wr9 d) p ++ r = wtxt true p.1 ++ 58 :: 32 :: (wr9 d p.2 ++ r) := by unfold ent9; simp
theorem pairs_back_l (R : Rv) (n d : Nat) (S rest : BS) (hS : S.length ≤ 100000000) (hn : S.length + 300000 < n) : ∀ (es : List (BS × Nd)) (e : BS × Nd) (z : Nd) (b : List (MK × Int)) (ks : List BS) (xs : List Nd) (k i : Nat), es.length < k → (∀ x ∈ e :: es, KidR R S d x.2 ∧ x.1.length ≤ 100000) → ks.length + es.length ≤ 1000000 → xs.length + es.length ≤ 1000000 → i ≤ S.length → Has b ks → (ks ++ (e :: es).map (·.1)).Nodup →
    S.drop i = 32 :: (ent9 (wr9 d) e ++ (Lib.joinTail [44, 32] (ents d es) ++ 125 :: rest)) →
    ∃ j : Nat, flow_reader_pairs__o0_g1_0 R n k z (S_api_Node.mk 3 [] ks xs) b (S_flow_reader.mk S (i : Int) false) = some (S_api_Node.mk 3 [] (ks ++ (e :: es).map (·.1)) (xs ++ (e :: es).map (·.2)), S_flow_reader.mk S (j : Int) false) ∧ j ≤ S.length ∧ S.drop j = rest
  | es, e, z, b, ks, xs, 0, i, h, _, _, _, _, _, _, _ => by omega
  | es, e, z, b, ks, xs, k + 1, i, hk, hR, hl1, hl2, hi, hb, hnd, hd => by
    have hd : S.drop i = List.replicate 1 32 ++ (ent9 (wr9 d) e ++ (Lib.joinTail [44, 32] (ents d es) ++ 125 :: rest)) := hd
    rw [ent_app] at hd
    obtain ⟨hRe, hke⟩ := hR e List.mem_cons_self
    obtain ⟨j, k1, k2, k3, _⟩ := key_back n S i 1 e.1 _ hS hke (by omega) (by omega) hi hd
    have hnk : e.1 ∉ ks := by
      rw [List.map_cons] at hnd
      intro hm
      exact (List.nodup_append.1 hnd).2.2 _ hm _ List.mem_cons_self rfl
    obtain ⟨b1, b2⟩ := has_step hb hnk
    rw [flow_reader_pairs__o0_g1_0, k1, Option.bind_some]
    simp only [lett]
    rw [b2, if_neg (by decide)]
    cases es with
    | nil =>
      have k3 : S.drop j = List.replicate 1 32 ++ (wr9 d e.2 ++ 125 :: rest) := k3
      obtain ⟨j2, r1, r2, r3⟩ := hRe j 1 _ (Nat.le_refl _) k2 k3 ⟨125, rest, rfl, .inr (.inr rfl)⟩
      have t1 := take_no n S j2 44 125 rest hS (by omega) r2 (by decide) (by decide) r3
      have t1 : flow_reader_take__o0 n 44 (S_flow_reader.mk S (j2 : Int) false) = _ := t1
      obtain ⟨t2, t3, t4⟩ := take_yes n S j2 125 0 rest hS (by omega) r2 (by decide) r3
      have t2 : flow_reader_take__o0 n 125 (S_flow_reader.mk S (j2 : Int) false) = _ := t2
      simp only [List.length_nil] at hl1 hl2
      rw [r1, Option.bind_some]
      simp only
      rw [if_pos (capS (by simp only [List.length_cons, List.length_nil]; omega)), if_pos (decide_eq_true (by show (xs.length + 1) * (72 + 1) ≤ 140737488355328; omega)), if_neg Bool.false_ne_true, t1, Option.bind_some]
      simp only
      rw [if_neg Bool.false_ne_true, t2]
      exact ⟨j2 + 0 + 1, rfl, t3, t4⟩
    | cons e2 es =>
      simp only [List.length_cons] at hk hl1 hl2
      have k3 : S.drop j = List.replicate 1 32 ++ (wr9 d e.2 ++ 44 :: 32 :: (ent9 (wr9 d) e2 ++ (Lib.joinTail [44, 32] (ents d es) ++ 125 :: rest))) := by
        rw [k3, show ents d (e2 :: es) = ent9 (wr9 d) e2 :: ents d es from rfl, tail_cons]; simp
      obtain ⟨j2, r1, r2, r3⟩ := hRe j 1 _ (Nat.le_refl _) k2 k3 ⟨44, _, rfl, .inl rfl⟩
      obtain ⟨t2, t3, t4⟩ := take_yes n S j2 44 0 _ hS (by omega) r2 (by decide) r3
      have t2 : flow_reader_take__o0 n 44 (S_flow_reader.mk S (j2 : Int) false) = _ := t2
      obtain ⟨j3, w1, w2, w3⟩ := pairs_back_l R n d S rest hS hn es e2 z _ (ks ++ [e.1]) (xs ++ [e.2]) k (j2 + 0 + 1) (by omega) (fun x hx => hR x (List.mem_cons_of_mem _ hx)) (by simp; omega) (by simp; omega) t3 b1 (by rw [List.append_assoc]; exact hnd) t4
      rw [r1, Option.bind_some]
      simp only
      rw [if_pos (capS (by simp only [List.length_cons, List.length_nil]; omega)), if_pos (decide_eq_true (by show (xs.length + 1) * (72 + 1) ≤ 140737488355328; omega)), if_neg Bool.false_ne_true, t2, Option.bind_some]
      simp only
      rw [if_pos trivial]
      refine ⟨j3, ?_, w2, w3⟩
      rw [List.append_assoc, List.append_assoc] at w1
      exact w1
theorem ent_first (d : Nat) (p : BS × Nd) : ∃ c r, ent9 (wr9 d) p = c :: r ∧ c ≠ 32 ∧ c ≠ 125 := by
  obtain ⟨c, r, h1, h2, h3, _⟩ := wtxt_first p.1
  refine ⟨c, r ++ [58, 32] ++ wr9 d p.2, ?_, h2, h3⟩
  unfold ent9
  rw [h1]; simp
theorem zip_fst : ∀ (ks : List BS) (xs : List Nd), ks.length = xs.length → (ks.zip xs).map (·.1) = ks ∧ (ks.zip xs).map (·.2) = xs
  | [], [], _ => ⟨rfl, rfl⟩
  | k :: ks, x :: xs, h => by
    obtain ⟨h1, h2⟩ := zip_fst ks xs (Nat.succ.inj h)
    rw [List.zip_cons_cons, List.map_cons, List.map_cons, h1, h2]; exact ⟨rfl, rfl⟩
theorem pairs_back (R : Rv) (n d : Nat) (S rest : BS) (hS : S.length ≤ 100000000) (hn : S.length + 300000 < n) (es : List (BS × Nd)) (i : Nat) (hR : ∀ x ∈ es, KidR R S d x.2 ∧ x.1.length ≤ 100000) (hl : es.length ≤ 2000) (hi : i ≤ S.length) (hnd : (es.map (·.1)).Nodup)
    (hd : S.drop i = 123 :: (Lib.join (ents d es) [44, 32] ++ 125 :: rest)) :
    ∃ j : Nat, flow_reader_pairs__o0 R n (S_flow_reader.mk S (i : Int) false) = some (S_api_Node.mk 3 [] (es.map (·.1)) (es.map (·.2)), S_flow_reader.mk S (j : Int) false) ∧ j ≤ S.length ∧ S.drop j = rest := by
  suffices hg : ∃ j : Nat, flow_reader_pairs__o0_g1_e R n n (S_api_Node.mk 0 [] [] []) (S_flow_reader.mk S (i : Int) false) = some (S_api_Node.mk 3 [] (es.map (·.1)) (es.map (·.2)), S_flow_reader.mk S (j : Int) false) ∧ j ≤ S.length ∧ S.drop j = rest by
    obtain ⟨j, h1, h2⟩ := hg
    unfold flow_reader_pairs__o0
    rw [h1]
    exact ⟨j, rfl, h2⟩
  obtain ⟨hi', _, hd1⟩ := drop_cons hd
  obtain ⟨m, hm⟩ : ∃ m, n = m + 1 := ⟨n - 1, by omega⟩
  rw [show flow_reader_pairs__o0_g1_e R n n = flow_reader_pairs__o0_g1_e R n (m + 1) by rw [← hm]]
  rw [flow_reader_pairs__o0_g1_e]
  simp only
  rw [wrap_s i (by omega)]
  cases es with
  | nil =>
    have hd1 : S.drop (i + 1) = 125 :: rest := hd1
    obtain ⟨t2, t3, t4⟩ := take_yes n S (i + 1) 125 0 _ hS (by omega) (by omega) (by decide) hd1
    have t2 : flow_reader_take__o0 n 125 (S_flow_reader.mk S ((i + 1 : Nat) : Int) false) = _ := t2
    rw [t2]
    exact ⟨_, rfl, t3, t4⟩
  | cons e es =>
    rw [show ents d (e :: es) = ent9 (wr9 d) e :: ents d es from rfl, Lib.join_cons, List.append_assoc] at hd1
    obtain ⟨c, q, hw, c32, c125⟩ := ent_first d e
    have t0 := take_no n S (i + 1) 125 c _ hS (by omega) (by omega) c32 c125 (by rw [hd1, hw]; rfl)
    have t0 : flow_reader_take__o0 n 125 (S_flow_reader.mk S ((i + 1 : Nat) : Int) false) = _ := t0
    rw [t0, Option.bind_some]
    simp only
    rw [if_neg Bool.false_ne_true]
    obtain ⟨hRe, hke⟩ := hR e List.mem_cons_self
    have hd2 : S.drop (i + 1) = List.replicate 0 32 ++ (ent9 (wr9 d) e ++ (Lib.joinTail [44, 32] (ents d es) ++ 125 :: rest)) := hd1
    rw [ent_app] at hd2
    obtain ⟨j, k1, k2, k3, _⟩ := key_back n S (i + 1) 0 e.1 _ hS hke (by omega) (by omega) (by omega) hd2
    have hb : Has [] [] := fun k => rfl
    obtain ⟨b1, b2⟩ := has_step (x := e.1) hb (by simp)
    rw [k1, Option.bind_some]
    simp only [lett]
    rw [b2, if_neg (by decide)]
    cases es with
    | nil =>
      have k3 : S.drop j = List.replicate 1 32 ++ (wr9 d e.2 ++ 125 :: rest) := k3
      obtain ⟨j2, r1, r2, r3⟩ := hRe j 1 _ (Nat.le_refl _) k2 k3 ⟨125, rest, rfl, .inr (.inr rfl)⟩
      have t1 := take_no n S j2 44 125 rest hS (by omega) r2 (by decide) (by decide) r3
      have t1 : flow_reader_take__o0 n 44 (S_flow_reader.mk S (j2 : Int) false) = _ := t1
      obtain ⟨t2, t3, t4⟩ := take_yes n S j2 125 0 rest hS (by omega) r2 (by decide) r3
      have t2 : flow_reader_take__o0 n 125 (S_flow_reader.mk S (j2 : Int) false) = _ := t2
      rw [r1, Option.bind_some]
      simp only
      rw [if_pos (by rfl), if_pos (by rfl), if_neg Bool.false_ne_true, t1, Option.bind_some]
      simp only
      rw [if_neg Bool.false_ne_true, t2]
      exact ⟨j2 + 0 + 1, rfl, t3, t4⟩
    | cons e2 es =>
      simp only [List.length_cons] at hl
      have k3 : S.drop j = List.replicate 1 32 ++ (wr9 d e.2 ++ 44 :: 32 :: (ent9 (wr9 d) e2 ++ (Lib.joinTail [44, 32] (ents d es) ++ 125 :: rest))) := by
        rw [k3, show ents d (e2 :: es) = ent9 (wr9 d) e2 :: ents d es from rfl, tail_cons]; simp
      obtain ⟨j2, r1, r2, r3⟩ := hRe j 1 _ (Nat.le_refl _) k2 k3 ⟨44, _, rfl, .inl rfl⟩
      obtain ⟨t2, t3, t4⟩ := take_yes n S j2 44 0 _ hS (by omega) r2 (by decide) r3
      have t2 : flow_reader_take__o0 n 44 (S_flow_reader.mk S (j2 : Int) false) = _ := t2
      obtain ⟨j3, w1, w2, w3⟩ := pairs_back_l R n d S rest hS hn es e2 (S_api_Node.mk 0 [] [] []) _ [e.1] [e.2] m (j2 + 0 + 1) (by omega) (fun x hx => hR x (List.mem_cons_of_mem _ hx)) (by simp; omega) (by simp; omega) t3 b1 hnd t4
      rw [r1, Option.bind_some]
      simp only
      rw [if_pos (by rfl), if_pos (by rfl), if_neg Bool.false_ne_true, t2, Option.bind_some]
      simp only
      rw [if_pos trivial]
      exact ⟨j3, w1, w2, w3⟩
theorem scalar_row (n : Nat) (s : BS) (hs : s.length ≤ 100000) (hn : 200000 ≤ n) (h : rowB s = true) : flow_Scalar n s true = some (S_api_Node.mk 1 s [] [], 0) := by
  obtain ⟨hl, h1, h2, _, _, h6, _⟩ := rowB_spec h
  obtain ⟨r1, _⟩ := row_eq n s hs hn
  have e1 : (s == []) = false := by simpa using List.length_pos_iff.1 hl
  have e2 : (s == [126]) = false := by simpa using h1
  have e3 : (s == [110, 117, 108, 108]) = false := by simpa using h2
  have z0 : decide (0 ≤ (0 : Int) ∧ (0 : Int) < (List.length s : Int)) = true := in_i hl
  have z1 : (s[Int.toNat 0]?.getD 0) = s[0] := at_i hl
  have c34 : decide (s[0] = 34) = false := by rw [decide_eq_false_iff_not]; intro e; rw [e] at h6; exact absurd h6 (by decide)
  have c39 : decide (s[0] = 39) = false := by rw [decide_eq_false_iff_not]; intro e; rw [e] at h6; exact absurd h6 (by decide)
  unfold flow_Scalar
  rw [e1, e2, e3, z0, z1, b34, b39, c34, c39, r1, h]
  rfl
theorem eta1 {d : Nat} {t : Nd} (hF : Fit (d + 1) t) (h : t.f_Kind = 1) : t = S_api_Node.mk 1 t.f_Text [] [] := by
  obtain ⟨_, _, _, f4, _, f6, _, _⟩ := hF
  have h4 := f4 (by omega); have h6 := f6 (by omega)
  cases t
  simp_all
theorem eta0 {d : Nat} {t : Nd} (hF : Fit (d + 1) t) (h : t.f_Kind = 0) : t = Z8 := by
  obtain ⟨_, _, f3, f4, _, f6, _, _⟩ := hF
  have h3 := f3 (by omega); have h4 := f4 (by omega); have h6 := f6 (by omega)
  cases t
  simp_all
theorem eta2 {d : Nat} {t : Nd} (hF : Fit (d + 1) t) (h : t.f_Kind = 2) : t = S_api_Node.mk 2 [] [] t.f_Kids := by
  obtain ⟨_, _, f3, f4, _, _, _, _⟩ := hF
  have h3 := f3 (by omega); have h4 := f4 (by omega)
  cases t
  simp_all
theorem eta3 {d : Nat} {t : Nd} (hF : Fit (d + 1) t) (h : t.f_Kind = 3) : t = S_api_Node.mk 3 [] t.f_Keys t.f_Kids := by
  obtain ⟨_, _, f3, _, _, _, _, _⟩ := hF
  have h3 := f3 (by omega)
  cases t
  simp_all
theorem j2_eq (R : Rv) (n : Nat) (c : Int) (b : Nd) (r : S_flow_reader) : flow_reader_value__o0_j2 R n c (c == 34) b r = some (decide (c = 34 ∨ c = 39)) := by
  unfold flow_reader_value__o0_j2
  by_cases h1 : c = 34
  · rw [if_pos (by rw [h1]; rfl), h1]; rfl
  · have : (c == 34) = false := by simpa using h1
    rw [this, if_neg Bool.false_ne_true]
    congr 1
    rw [Bool.eq_iff_iff, beq_iff_eq, decide_eq_true_eq]
    exact ⟨fun h => .inr h, fun h => h.resolve_left h1⟩
theorem value_back (S : BS) (hS : S.length ≤ 100000000) : ∀ (d n : Nat) (t : Nd), Fit d t → Shk 2000 d t → S.length + 300000 + d < n → ∀ (i p : Nat) (r : BS), i ≤ S.length → S.drop i = List.replicate p 32 ++ (wr9 d t ++ r) → Endy r →
    ∃ j : Nat, flow_reader_value__o0 n (S_flow_reader.mk S (i : Int) false) = some (t, true, S_flow_reader.mk S (j : Int) false) ∧ Behind S r j
  | 0, _, _, h, _, _, _, _, _, _, _, _ => h.elim
  | d + 1, 0, _, _, _, h, _, _, _, _, _, _ => by omega
  | d + 1, n + 1, t, hF, hSh, hn, i, p, r, hi, hd, hr => by
    show ∃ j : Nat, flow_reader_value__o0_b (flow_reader_value__o0 n) n (S_flow_reader.mk S (i : Int) false) = _ ∧ _
    obtain ⟨c, q, hw, c32, _⟩ := wr9_first hF
    have e : blk9 (S.drop i) = p := by rw [hd]; exact blk9_rep p _ fun c' r' h => by rw [hw] at h; cases h; exact c32
    have h2 : S.drop (i + p) = wr9 (d + 1) t ++ r := by
      have := drop_more hd
      rwa [List.length_replicate] at this
    have hne : wr9 (d + 1) t ≠ [] := by rw [hw]; exact fun h => by cases h
    obtain ⟨hlen, hlt⟩ := drop_len h2 hne
    have hF0 := hF
    obtain ⟨f1, f2, _, _, hk, _, f7, f8⟩ := hF
    obtain ⟨s1, s2, s3⟩ := hSh
    have hR : ∀ x ∈ t.f_Kids, KidR (flow_reader_value__o0 n) S d x := by
      intro x hx i' p' r' _ hi' hd' ⟨c', q', hr', hc'⟩
      obtain ⟨j, g1, g2, g3⟩ := value_back S hS d n x (f8 x hx) (s3 x hx) (by omega) i' p' r' hi' hd' (.inr (.inr ⟨c', q', hr', hc'⟩))
      refine ⟨j, g1, g2, ?_⟩
      rcases g3 with g3 | ⟨g3, _⟩
      · exact g3
      · rw [hr'] at g3
        obtain ⟨e1, _⟩ := List.cons.inj g3
        rw [e1] at hc'
        exact absurd hc' (by decide)
    unfold flow_reader_value__o0_b
    rw [next_eq n S false i hS (by omega) hi, Option.bind_some, e]
    simp only
    rw [h2]
    unfold flow_reader_value__o0_j1
    unfold wr9 at h2 ⊢
    by_cases k1 : t.f_Kind = 1
    · rw [if_pos k1] at h2 ⊢
      obtain ⟨c, q, hw, _, _, hr1, hr2⟩ := wtxt_first t.f_Text
      cases hrow : rowB t.f_Text with
      | true =>
        obtain ⟨hws, c34, c39⟩ := hr1 hrow
        obtain ⟨hl, _, _, _, h5, h6, _⟩ := rowB_spec hrow
        have hc0 : t.f_Text[0] = c := by
          rw [hws] at hw
          simp [hw]
        rw [hc0] at h6
        rw [hw]
        have a1 : (hd9 ((c :: q) ++ r) == 91) = false := hd_ne (b := 91) (fun e => by rw [e] at h6; exact absurd h6 (by decide))
        have a2 : (hd9 ((c :: q) ++ r) == 123) = false := hd_ne (b := 123) (fun e => by rw [e] at h6; exact absurd h6 (by decide))
        have a3 : (hd9 ((c :: q) ++ r) == 34) = false := hd_ne (b := 34) c34
        have a4 : (hd9 ((c :: q) ++ r) == 39) = false := hd_ne (b := 39) c39
        rw [a1, a2, if_neg Bool.false_ne_true, if_neg Bool.false_ne_true, j2_eq, Option.bind_some, if_neg (by
          intro h
          rcases of_decide_eq_true h with h | h
          · rw [h] at a3; exact absurd a3 (by decide)
          · rw [h] at a4; exact absurd a4 (by decide))]
        rw [hws] at h2
        obtain ⟨j, g1, g2⟩ := plain_back n S (i + p) t.f_Text r hS (by omega) h2 hl h5 (pl9_row hrow r) hr
        simp only [Option.bind_some, Sum.elim_inl]
        rw [g1, Option.bind_some]
        simp only
        rw [scalar_row n t.f_Text (by omega) (by omega) hrow, Option.bind_some]
        have e1 : (t.f_Text == []) = false := by simpa using List.length_pos_iff.1 hl
        refine ⟨j, ?_, g2⟩
        simp only [e1]
        rw [← eta1 hF0 k1]; rfl
      | false =>
        obtain ⟨hws, c34⟩ := hr2 hrow
        rw [hw, c34]
        have a1 : (hd9 (((34 : UInt8) :: q) ++ r) == 91) = false := rfl
        have a2 : (hd9 (((34 : UInt8) :: q) ++ r) == 123) = false := rfl
        rw [a1, a2, if_neg Bool.false_ne_true, if_neg Bool.false_ne_true, j2_eq, Option.bind_some, if_pos (decide_eq_true (.inl rfl))]
        rw [hws] at h2
        obtain ⟨j, g1, g2, g3⟩ := quoted_back n S (i + p) t.f_Text r hS (by omega) (by omega) (by omega) h2
        rw [g1]
        refine ⟨j, ?_, g2, .inl g3⟩
        show some (S_api_Node.mk 1 t.f_Text [] [], true, S_flow_reader.mk S (j : Int) false) = _
        rw [← eta1 hF0 k1]
    rw [if_neg k1] at h2 ⊢
    by_cases k2 : t.f_Kind = 2
    · rw [if_pos k2] at h2 ⊢
      have h2 : S.drop (i + p) = 91 :: (Lib.join (t.f_Kids.map (wr9 d)) [44, 32] ++ 93 :: r) := by rw [h2]; simp
      obtain ⟨j, g1, g2, g3⟩ := seq_back (flow_reader_value__o0 n) n d S r hS (by omega) t.f_Kids (i + p) hR f8 f1 (by omega) h2
      have a1 : (hd9 ([91] ++ Lib.join (t.f_Kids.map (wr9 d)) [44, 32] ++ [93] ++ r) == 91) = true := rfl
      rw [a1, if_pos rfl, g1]
      refine ⟨j, ?_, g2, .inl g3⟩
      show some (S_api_Node.mk 2 [] [] t.f_Kids, true, S_flow_reader.mk S (j : Int) false) = _
      rw [← eta2 hF0 k2]
    rw [if_neg k2] at h2 ⊢
    by_cases k3 : t.f_Kind = 3
    · rw [if_pos k3] at h2 ⊢
      obtain ⟨hl, hnd⟩ := hk k3
      obtain ⟨z1, z2⟩ := zip_fst t.f_Keys t.f_Kids hl
      have h2 : S.drop (i + p) = 123 :: (Lib.join (ents d (t.f_Keys.zip t.f_Kids)) [44, 32] ++ 125 :: r) := by rw [h2]; simp
      obtain ⟨j, g1, g2, g3⟩ := pairs_back (flow_reader_value__o0 n) n d S r hS (by omega) (t.f_Keys.zip t.f_Kids) (i + p) (fun x hx => ⟨hR x.2 (List.of_mem_zip hx).2, by have := s2 x.1 (List.of_mem_zip hx).1; omega⟩) (by rw [List.length_zip]; omega) (by omega) (by rw [z1]; exact hnd) h2
      have a0 : (hd9 ([123] ++ Lib.join ((t.f_Keys.zip t.f_Kids).map (ent9 (wr9 d))) [44, 32] ++ [125] ++ r) == 91) = false := rfl
      have a1 : (hd9 ([123] ++ Lib.join ((t.f_Keys.zip t.f_Kids).map (ent9 (wr9 d))) [44, 32] ++ [125] ++ r) == 123) = true := rfl
      rw [a0, a1, if_neg Bool.false_ne_true, if_pos rfl, g1, z1, z2]
      refine ⟨j, ?_, g2, .inl g3⟩
      show some (S_api_Node.mk 3 [] t.f_Keys t.f_Kids, true, S_flow_reader.mk S (j : Int) false) = _
      rw [← eta3 hF0 k3]
    rw [if_neg k3] at h2 ⊢
    have k0 : t.f_Kind = 0 := by omega
    have hpl : pl9 (([110, 117, 108, 108] : BS) ++ r) = ([110, 117, 108, 108] : BS).length + pl9 r := by
      show pl9 r + 1 + 1 + 1 + 1 = 4 + pl9 r
      omega
    obtain ⟨j, g1, g2⟩ := plain_back n S (i + p) [110, 117, 108, 108] r hS (by omega) h2 (by decide) (by show (108 : UInt8) ≠ 32; decide) hpl hr
    have a1 : (hd9 (([110, 117, 108, 108] : BS) ++ r) == 91) = false := rfl
    have a2 : (hd9 (([110, 117, 108, 108] : BS) ++ r) == 123) = false := rfl
    have a3 : ¬ decide (hd9 (([110, 117, 108, 108] : BS) ++ r) = 34 ∨ hd9 (([110, 117, 108, 108] : BS) ++ r) = 39) = true := by
      show ¬ decide ((110 : Int) = 34 ∨ (110 : Int) = 39) = true
      decide
    rw [a1, a2, if_neg Bool.false_ne_true, if_neg Bool.false_ne_true, j2_eq, Option.bind_some, if_neg a3]
    simp only [Option.bind_some, Sum.elim_inl]
    rw [g1]
    refine ⟨j, ?_, g2⟩
    rw [eta0 hF0 k0]; rfl
theorem parse_back (n : Nat) (t : Nd) (p q : Nat) (hp : p ≤ 10) (hq : q ≤ 1) (hF : Fit 12 t) (hSh : Shk 2000 12 t) (hz : sz8 12 t ≤ 2000) (hn : 50000000 ≤ n) : flow_Parse n (List.replicate p 32 ++ (wr9 12 t ++ List.replicate q 32)) = some (t, 0) := by
  have hlen := wr9_len 12 t hF hSh
  have hr : Endy (List.replicate q 32) := by
    rcases Nat.lt_or_ge 0 q with h | h
    · obtain rfl : q = 1 := by omega
      exact .inr (.inl rfl)
    · obtain rfl : q = 0 := by omega
      exact .inl rfl
  generalize hS : List.replicate p 32 ++ (wr9 12 t ++ List.replicate q 32) = S
  have hSl : S.length ≤ 40000000 := by
    rw [← hS]
    simp only [List.length_append, List.length_replicate]
    omega
  obtain ⟨j, g1, g2, g3⟩ := value_back S (by omega) 12 n t hF hSh (by omega) 0 p (List.replicate q 32) (Nat.zero_le _) (by rw [List.drop_zero, ← hS]) hr
  have g1 : flow_reader_value__o0 n (S_flow_reader.mk S 0 false) = _ := g1
  unfold flow_Parse
  rw [g1, Option.bind_some]
  simp only
  have hx : flow_reader_next__o0 n (S_flow_reader.mk S (j : Int) false) = some (0, S_flow_reader.mk S (S.length : Int) false) := by
    rw [next_eq n S false j (by omega) (by omega) g2]
    have hb : j + blk9 (S.drop j) = S.length := by
      have hz : ∀ q, blk9 (List.replicate q 32) = q := fun q => by
        have := blk9_rep q [] (fun c r' h => by cases h)
        rwa [List.append_nil] at this
      rcases g3 with g3 | ⟨_, g3⟩
      · have := congrArg List.length g3
        rw [List.length_drop, List.length_replicate] at this
        rw [g3, hz]; omega
      · have := congrArg List.length g3
        rw [List.length_drop, List.length_nil] at this
        rw [g3]
        show j + 0 = _
        omega
    rw [hb, List.drop_eq_nil_of_le (Nat.le_refl _)]; rfl
  rw [if_pos (by rfl), hx, Option.bind_some]
  simp only
  rw [nlt_n, if_neg (by decide), node_Right_yes n t hF hz (by omega)]
  rfl
end Go.Proofs.YtjicbelggepaiaaDoor.M
