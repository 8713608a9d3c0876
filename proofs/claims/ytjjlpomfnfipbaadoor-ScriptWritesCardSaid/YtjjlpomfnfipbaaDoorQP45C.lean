import Derived.Test.YtjjlpomfnfipbaaDoorQP45B
set_option linter.all false
namespace Go.Proofs.YtjjlpomfnfipbaaDoor.M
open Go Go.Proofs.YtjjlpomfnfipbaaDoor.RX Go.Proofs.YtjjlpomfnfipbaaDoor.PL
def endB {α : Type} (sp : Option (α × List BS)) : Option α := match sp with | some (x, []) => some x | _ => none
def Ends {α : Type} (o : Option (α × Bool)) (sp : Option (α × List BS)) : Prop := ∃ y b, o = some (y, b) ∧ (b = true → endB sp = some y) ∧ (b = false → endB sp = none)
theorem Ends.yes {α : Type} {y : α} {sp : Option (α × List BS)} (h : endB sp = some y) : Ends (some (y, true)) sp := ⟨y, true, rfl, fun _ => h, fun h => by cases h⟩
theorem Ends.no {α : Type} {y : α} {sp : Option (α × List BS)} (h : endB sp = none) : Ends (some (y, false)) sp := ⟨y, false, rfl, fun h => (by cases h), fun _ => h⟩
theorem b32 (c : UInt8) : ((c.toNat : Int) == 32) = decide (c = 32) := beq_byte c 32 (by decide)
theorem split_l (n : Nat) (s : BS) (hs : s.length ≤ 100000) : ∀ (k i f : Nat) (acc : List BS), i ≤ s.length → s.length - i < k → f ≤ i → acc.length ≤ f → (32 : UInt8) ∉ (s.drop f).take (i - f) →
    ∃ acc' f', ref45_Split_l1 n s k acc (f : Int) (i : Int) = some (acc', ((f' : Nat) : Int)) ∧ f' ≤ s.length ∧ acc'.length ≤ f' ∧ acc' ++ [s.drop f'] = acc ++ parts 32 (s.drop f)
  | 0, i, f, acc, _, h, _, _, _ => by omega
  | k + 1, i, f, acc, h1, h2, h3, h4, h5 => by
    rw [ref45_Split_l1]
    by_cases h : i < s.length
    · rw [if_pos (lt_i h)]
      unfold ref45_Split_j2
      rw [if_pos (in_i h), at_i h, b32]
      have hsplit : s.drop f = (s.drop f).take (i - f) ++ s[i] :: s.drop (i + 1) := by
        conv => lhs; rw [← List.take_append_drop (i - f) (s.drop f)]
        rw [List.drop_drop, show f + (i - f) = i by omega, drop_at h]
      by_cases hc : s[i] = 32
      · rw [if_pos (decide_eq_true hc), if_pos (le_i (by omega)), if_pos (le_ij h3), tn, tn, if_pos (cap_add (by simp; omega)), Option.bind_some, wrap_s i (by omega)]
        simp only
        obtain ⟨acc', f', q1, q2, q3, q4⟩ := split_l n s hs k (i + 1) (i + 1) (acc ++ [(s.drop f).take (i - f)]) (by omega) (by omega) (Nat.le_refl _) (by simp; omega) (by simp)
        refine ⟨acc', f', q1, q2, q3, ?_⟩
        rw [q4]
        conv => rhs; rw [hsplit, hc, parts_app _ h5]
        simp
      · rw [if_neg (by simpa using hc), Option.bind_some, wrap_s i (by omega)]
        simp only
        refine split_l n s hs k (i + 1) f acc (by omega) (by omega) (by omega) h4 ?_
        have : (s.drop f).take (i + 1 - f) = (s.drop f).take (i - f) ++ [s[i]] := by
          have hi : i - f < (s.drop f).length := by rw [List.length_drop]; omega
          rw [show i + 1 - f = (i - f) + 1 by omega, List.take_succ_eq_append_getElem hi, List.getElem_drop]
          congr 2
          congr 1
          omega
        rw [this]
        intro hm
        rcases List.mem_append.1 hm with hm | hm
        · exact h5 hm
        · exact hc (List.mem_singleton.1 hm).symm
    · have hi : i = s.length := by omega
      subst hi
      rw [nlt_n, if_neg Bool.false_ne_true]
      refine ⟨acc, f, rfl, h3, h4, ?_⟩
      rw [List.take_of_length_le (by rw [List.length_drop]; exact Nat.le_refl _)] at h5
      rw [parts_none h5]
theorem Split_eq45 (n : Nat) (s : BS) (hs : s.length ≤ 100000) (hn : 200000 ≤ n) : ref45_Split n s = some (parts 32 s) := by
  unfold ref45_Split
  obtain ⟨acc', f', q1, q2, q3, q4⟩ := split_l n s hs n 0 0 [] (by omega) (by omega) (by omega) (by simp) (by simp)
  have q1 : ref45_Split_l1 n s n [] 0 0 = _ := q1
  rw [q1, Option.bind_some]
  simp only
  rw [if_pos (le_i q2), tn, if_pos (cap_add (by simp; omega)), q4]
  simp
def nv (s : BS) : Int := if (ncount s MOST).2 = 0 then (ncount s MOST).1 else -1
theorem rnumber_eq (n : Nat) (s : BS) (hs : s.length ≤ 100000) (hn : 200000 ≤ n) : ref45_number n s = some (nv s) := by
  unfold ref45_number nv
  rw [rcount_eq45 n s hs hn, Option.bind_some]
  by_cases h : (ncount s MOST).2 = 0
  · rw [if_neg (by simp [h]), if_pos h]
  · rw [if_pos (by simpa using h), if_neg h]
theorem nv_some {s : BS} {v : Int} (h : numV s = some v) : nv s = v ∧ 0 ≤ v := by
  unfold numV at h
  unfold nv
  split at h
  · rename_i hz
    rw [if_pos hz]
    cases h
    exact ⟨rfl, ncount_nn s⟩
  · cases h
theorem nv_none {s : BS} (h : numV s = none) : nv s = -1 := by
  unfold numV at h
  unfold nv
  split at h
  · cases h
  · rename_i hz; rw [if_neg hz]
theorem fst0 (a : BS) (l : List BS) : (a :: l)[Int.toNat 0]?.getD [] = a := rfl
theorem fst1 (a b : BS) (l : List BS) : (a :: b :: l)[Int.toNat 1]?.getD [] = b := rfl
theorem fst2 (a b c : BS) (l : List BS) : (a :: b :: c :: l)[Int.toNat 2]?.getD [] = c := rfl
theorem in0 (a : BS) (l : List BS) : decide (0 ≤ (0 : Int) ∧ (0 : Int) < (List.length (a :: l) : Int)) = true := decide_eq_true (by rw [List.length_cons]; omega)
theorem in1 (a b : BS) (l : List BS) : decide (0 ≤ (1 : Int) ∧ (1 : Int) < (List.length (a :: b :: l) : Int)) = true := decide_eq_true (by rw [List.length_cons, List.length_cons]; omega)
theorem in2 (a b c : BS) (l : List BS) : decide (0 ≤ (2 : Int) ∧ (2 : Int) < (List.length (a :: b :: c :: l) : Int)) = true := decide_eq_true (by rw [List.length_cons, List.length_cons, List.length_cons]; omega)
theorem len_ne3 {l : List BS} (h : l.length ≠ 3) : ((List.length l : Int) == 3) = false := by rw [beq_eq_false_iff_ne]; omega
theorem len_ne2 {l : List BS} (h : l.length ≠ 2) : ((List.length l : Int) != 2) = true := by simp; omega
abbrev MN : BS := [109, 97, 107, 101, 45, 110, 101, 116]
abbrev MV : BS := [109, 97, 107, 101, 45, 118, 111, 108]
abbrev DN : BS := [100, 114, 111, 112, 45, 110, 101, 116]
abbrev DV : BS := [100, 114, 111, 112, 45, 118, 111, 108]
def one1 {α : Type} (f : Int → α) (l : List BS) : Option α := match l with | [a] => (numV a).map f | _ => none
theorem numP_bind_end {α : Type} (f : Int → α) (l : List BS) : endB ((numP l).bind fun p => some (f p.1, p.2)) = one1 f l := by
  cases l with
  | nil => rfl
  | cons a t =>
    cases t with
    | nil =>
      show _ = (numV a).map f
      simp only [numP]
      cases numV a <;> rfl
    | cons b t =>
      show _ = none
      simp only [numP]
      cases numV a <;> rfl
theorem callP_len {l : List BS} (h2 : l.length ≠ 2) (h3 : l.length ≠ 3) : endB (callP l) = none := by
  have hk : ∀ (k : Int) (t : List BS), t.length ≠ 2 → endB (keptP k t) = none := by
    intro k t ht
    unfold keptP
    cases t with
    | nil => rfl
    | cons a t =>
      simp only [keyP]
      split
      · cases t with
        | nil => rfl
        | cons b t =>
          simp only [Option.bind_some, pjP]
          split
          · cases t with
            | nil => exact absurd rfl ht
            | cons c t => rfl
          · rfl
      · rfl
  have hn : ∀ (k : Int) (t : List BS), t.length ≠ 1 → endB (nameP k t) = none := by
    intro k t ht
    unfold nameP
    cases t with
    | nil => rfl
    | cons a t =>
      simp only [keyP]
      split
      · cases t with
        | nil => exact absurd rfl ht
        | cons b t => rfl
      · rfl
  have hi : ∀ (k : Int) (t : List BS), t.length ≠ 1 → endB (idP k t) = none := by
    intro k t ht
    unfold idP
    rw [numP_bind_end (fun v => callOf k [] v [])]
    cases t with
    | nil => rfl
    | cons a t =>
      cases t with
      | nil => exact absurd rfl ht
      | cons b t => rfl
  cases l with
  | nil => rfl
  | cons h t =>
    have e1 : t.length ≠ 1 := by simpa using h2
    have e2 : t.length ≠ 2 := by simpa using h3
    simp only [callP]
    repeat' split
    all_goals first
      | exact hk _ _ e2
      | exact hn _ _ e1
      | exact hi _ _ e1
      | rfl
theorem call_l3 (n : Nat) (a b : BS) (b2 : Cl) (hb : b.length ≤ 100000) (hn : 200000 ≤ n) (k : Nat) : ref45_call_l3 n [a, b] [[115, 116, 97, 114, 116], [115, 116, 111, 112], [100, 114, 111, 112]] (k + 4) 0 b2 =
    some (if a = [115, 116, 97, 114, 116] then .inr (decide (nv b ≥ 0), callOf 6 [] (nv b) []) else if a = [115, 116, 111, 112] then .inr (decide (nv b ≥ 0), callOf 7 [] (nv b) []) else if a = [100, 114, 111, 112] then .inr (decide (nv b ≥ 0), callOf 8 [] (nv b) []) else .inl b2) := by
  have hr := rnumber_eq n b hb hn
  have s0 : ∀ (k i : Nat) (c : BS), i < 3 → ([[115, 116, 97, 114, 116], [115, 116, 111, 112], [100, 114, 111, 112]] : List BS)[i]? = some c → ref45_call_l3 n [a, b] [[115, 116, 97, 114, 116], [115, 116, 111, 112], [100, 114, 111, 112]] (k + 1) (i : Int) b2 =
      if a = c then some (.inr (decide (nv b ≥ 0), callOf ((6 + i : Nat) : Int) [] (nv b) [])) else ref45_call_l3 n [a, b] [[115, 116, 97, 114, 116], [115, 116, 111, 112], [100, 114, 111, 112]] k ((i + 1 : Nat) : Int) b2 := by
    intro k i c hi hc
    rw [ref45_call_l3, if_pos (decide_eq_true (by omega)), if_pos (in0 _ _), if_pos (decide_eq_true (by show 0 ≤ (i : Int) ∧ (i : Int) < ((3 : Nat) : Int); omega)), fst0, tn, hc, Option.getD_some]
    by_cases e : a = c
    · rw [if_pos (beq_iff_eq.2 e), if_pos e, if_pos (in1 _ _ _), fst1, hr, Option.bind_some, Option.bind_some]
      have hw : IntKind.wrap .i64 (6 + (i : Int)) = ((6 + i : Nat) : Int) := by rw [wrap_id _ (by omega) (by omega)]; omega
      rw [hw]; rfl
    · rw [if_neg (fun h => e (beq_iff_eq.1 h)), if_neg e, wrap_s i (by omega)]
  have h0 := s0 (k + 3) 0 _ (by decide) rfl
  have h0 : ref45_call_l3 n [a, b] [[115, 116, 97, 114, 116], [115, 116, 111, 112], [100, 114, 111, 112]] (k + 4) 0 b2 = _ := h0
  rw [h0]
  by_cases e1 : a = [115, 116, 97, 114, 116]
  · rw [if_pos e1, if_pos e1]; rfl
  rw [if_neg e1, if_neg e1, s0 (k + 2) 1 _ (by decide) rfl]
  by_cases e2 : a = [115, 116, 111, 112]
  · rw [if_pos e2, if_pos e2]; rfl
  rw [if_neg e2, if_neg e2, s0 (k + 1) 2 _ (by decide) rfl]
  by_cases e3 : a = [100, 114, 111, 112]
  · rw [if_pos e3, if_pos e3]; rfl
  rw [if_neg e3, if_neg e3, ref45_call_l3]
  rfl
theorem call_end (n : Nat) (l : List BS) (hl : Small l) (hn : 200000 ≤ n) : Ends (ref45_call n l) (callP l) := by
  by_cases h3 : l.length = 3
  · obtain ⟨a, b, c, rfl⟩ : ∃ a b c, l = [a, b, c] := by
      match l, h3 with
      | [a, b, c], _ => exact ⟨a, b, c, rfl⟩
    have hb := hl b (by simp)
    have hc := hl c (by simp)
    have hkb := rname_eq n b hb hn
    have hpc : ref02_Project n c = some (pjB c) := ref02_Project_eq n c (by omega)
    have e3 : ((List.length [a, b, c] : Int) == 3) = true := rfl
    have e2 : ((List.length [a, b, c] : Int) != 2) = true := rfl
    unfold ref45_call
    simp only [e3, e2, in0, in1, in2, fst0, fst1, fst2, Bool.or_true, if_true, cond_true, hkb, hpc, lett]
    by_cases hm : a = MN ∨ a = MV
    · have hx : (bif (a == [109, 97, 107, 101, 45, 110, 101, 116]) then true else (a == [109, 97, 107, 101, 45, 118, 111, 108])) = true := by
        rcases hm with e | e
        · subst e; rfl
        · subst e; rfl
      have hsp : callP [a, b, c] = keptP (if a = MV then 2 else 1) [b, c] := by
        rcases hm with e | e <;> subst e <;> rfl
      rw [hx, hsp]
      simp only [beq_self_eq_true, if_true, Option.bind_some, cond_true]
      cases hk : keyB b with
      | false =>
        simp only [cond_false, Bool.false_eq_true, if_false, Option.bind_some, show (false == true) = false from rfl]
        exact .no (by simp [keptP, keyP, hk, endB])
      | true =>
        simp only [cond_true, beq_self_eq_true, if_true, Option.bind_some]
        cases hp : pjB c with
        | false => exact .no (by simp [keptP, keyP, pjP, hk, hp, endB])
        | true =>
          simp only [if_true]
          unfold ref45_call_j1
          by_cases hv : a = MV
          · rw [if_pos (beq_iff_eq.2 hv), Option.bind_some, if_pos hv]
            exact .yes (by simp [keptP, keyP, pjP, hk, hp, endB, callOf])
          · rw [if_neg (fun h => hv (beq_iff_eq.1 h)), Option.bind_some, if_neg hv]
            exact .yes (by simp [keptP, keyP, pjP, hk, hp, endB, callOf])
    · have hx : (bif (a == [109, 97, 107, 101, 45, 110, 101, 116]) then true else (a == [109, 97, 107, 101, 45, 118, 111, 108])) = false := by
        have e1 : (a == [109, 97, 107, 101, 45, 110, 101, 116]) = false := by rw [beq_eq_false_iff_ne]; exact fun e => hm (.inl e)
        have e2 : (a == [109, 97, 107, 101, 45, 118, 111, 108]) = false := by rw [beq_eq_false_iff_ne]; exact fun e => hm (.inr e)
        rw [e1, e2]; rfl
      rw [hx]
      simp only [cond_false, Bool.false_eq_true, if_false, Option.bind_some, show (false == true) = false from rfl]
      refine .no ?_
      simp only [not_or] at hm
      have i1 : a ≠ [109, 97, 107, 101, 45, 110, 101, 116] := hm.1
      have i2 : a ≠ [109, 97, 107, 101, 45, 118, 111, 108] := hm.2
      simp only [callP, i1, i2, if_false]
      have hnm : ∀ k, endB (nameP k [b, c]) = none := by intro k; simp only [nameP, keyP]; split <;> rfl
      have hid : ∀ k, endB (idP k [b, c]) = none := by intro k; unfold idP; rw [numP_bind_end (fun v => callOf k [] v [])]; rfl
      repeat' split
      all_goals first
        | exact hnm _
        | exact hid _
        | rfl
  · have e3 := len_ne3 h3
    by_cases h2 : l.length = 2
    · obtain ⟨a, b, rfl⟩ : ∃ a b, l = [a, b] := by
        match l, h2 with
        | [a, b], _ => exact ⟨a, b, rfl⟩
      have hb := hl b (by simp)
      have hkb := rname_eq n b hb hn
      have e2 : ((List.length [a, b] : Int) != 2) = false := rfl
      unfold ref45_call
      simp only [e3, e2, in0, in1, fst0, fst1, Bool.or_true, if_true, cond_false, hkb, lett, Bool.false_eq_true, if_false, Option.bind_some, show (false == true) = false from rfl, Bool.not_false, Bool.true_or]
      have hmk : ∀ k, endB (keptP k [b]) = none := by intro k; simp only [keptP, keyP]; split <;> rfl
      by_cases hd : a = DN ∨ a = DV
      · have hx : (bif (a == [100, 114, 111, 112, 45, 110, 101, 116]) then true else (a == [100, 114, 111, 112, 45, 118, 111, 108])) = true := by
          rcases hd with e | e
          · subst e; rfl
          · subst e; rfl
        have hsp : callP [a, b] = nameP (if a = DV then 4 else 3) [b] := by
          rcases hd with e | e <;> subst e <;> rfl
        rw [hx, hsp, if_pos rfl]
        unfold ref45_call_j2
        have fin : ∀ k : Int, Ends (some (S_api_Call.mk k b 0 (S_api_Spec.mk [] [] [] 0 [] [] [] (S_api_Check.mk [] 0 0 0) 0 0), keyB b)) (nameP k [b]) := by
          intro k
          cases hk : keyB b with
          | true => exact .yes (by simp [nameP, keyP, hk, endB, callOf])
          | false => exact .no (by simp [nameP, keyP, hk, endB])
        by_cases hv : a = DV
        · rw [if_pos (beq_iff_eq.2 hv), Option.bind_some, if_pos hv]; exact fin 4
        · rw [if_neg (fun h => hv (beq_iff_eq.1 h)), Option.bind_some, if_neg hv]; exact fin 3
      · have hx : (bif (a == [100, 114, 111, 112, 45, 110, 101, 116]) then true else (a == [100, 114, 111, 112, 45, 118, 111, 108])) = false := by
          have e1 : (a == [100, 114, 111, 112, 45, 110, 101, 116]) = false := by rw [beq_eq_false_iff_ne]; exact fun e => hd (.inl e)
          have e2 : (a == [100, 114, 111, 112, 45, 118, 111, 108]) = false := by rw [beq_eq_false_iff_ne]; exact fun e => hd (.inr e)
          rw [e1, e2]; rfl
        rw [hx, if_neg Bool.false_ne_true]
        obtain ⟨k, rfl⟩ : ∃ k, n = k + 4 := ⟨n - 4, by omega⟩
        rw [call_l3 (k + 4) a b _ hb hn k, Option.bind_some]
        simp only [not_or] at hd
        have i3 : a ≠ [100, 114, 111, 112, 45, 110, 101, 116] := hd.1
        have i4 : a ≠ [100, 114, 111, 112, 45, 118, 111, 108] := hd.2
        have fin : ∀ c : Int, Ends (some (callOf c [] (nv b) [], decide (nv b ≥ 0))) (idP c [b]) := by
          intro c
          have he : endB (idP c [b]) = (numV b).map fun v => callOf c [] v [] := by unfold idP; rw [numP_bind_end (fun v => callOf c [] v [])]; rfl
          cases hv : numV b with
          | none =>
            rw [nv_none hv, show decide ((-1 : Int) ≥ 0) = false from rfl]
            exact .no (by rw [he, hv]; rfl)
          | some v =>
            obtain ⟨q1, q2⟩ := nv_some hv
            rw [q1, decide_eq_true (show v ≥ 0 from q2)]
            exact .yes (by rw [he, hv]; rfl)
        simp only [callP, i3, i4, if_false]
        by_cases j1 : a = [109, 97, 107, 101, 45, 110, 101, 116]
        · subst j1
          exact .no (hmk 1)
        by_cases j2 : a = [109, 97, 107, 101, 45, 118, 111, 108]
        · subst j2
          exact .no (hmk 2)
        rw [if_neg j1, if_neg j2]
        by_cases e1 : a = [115, 116, 97, 114, 116]
        · rw [if_pos e1, if_pos e1]; exact fin 6
        rw [if_neg e1, if_neg e1]
        by_cases e2 : a = [115, 116, 111, 112]
        · rw [if_pos e2, if_pos e2]; exact fin 7
        rw [if_neg e2, if_neg e2]
        by_cases e3 : a = [100, 114, 111, 112]
        · rw [if_pos e3, if_pos e3]; exact fin 8
        rw [if_neg e3, if_neg e3]
        exact .no rfl
    · have e2 := len_ne2 h2
      unfold ref45_call
      simp only [e3, e2, cond_false, Bool.false_eq_true, if_false, Option.bind_some, show (false == true) = false from rfl, Bool.not_false, Bool.true_or, if_true, lett, Bool.and_false]
      exact .no (callP_len h2 h3)
end Go.Proofs.YtjjlpomfnfipbaaDoor.M
