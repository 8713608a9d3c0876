import Derived.Test.YtjjlpomfnfipbaaDoorQP45G
set_option linter.all false
namespace Go.Proofs.YtjjlpomfnfipbaaDoor.M
open Go Go.Proofs.YtjjlpomfnfipbaaDoor.RX Go.Proofs.YtjjlpomfnfipbaaDoor.PL
theorem stOf_in (k a b : Int) (h : 1 ≤ k ∧ k ≤ 8) : In9 (stOf k a b) := ⟨h.1, by show k ≤ 9; omega, fun e => by have e : k = 9 := e; omega⟩
theorem callP_in {l : List BS} {x : Cl} {r : List BS} (h : callP l = some (x, r)) : 1 ≤ x.f_Kind := by
  have hk : ∀ (k : Int) (t : List BS), 1 ≤ k → keptP k t = some (x, r) → 1 ≤ x.f_Kind := by
    intro k t h1 h
    unfold keptP at h
    obtain ⟨p, _, h⟩ := Option.bind_eq_some_iff.1 h
    obtain ⟨q, _, h⟩ := Option.bind_eq_some_iff.1 h
    cases h
    exact h1
  have hn : ∀ (k : Int) (t : List BS), 1 ≤ k → nameP k t = some (x, r) → 1 ≤ x.f_Kind := by
    intro k t h1 h
    unfold nameP at h
    obtain ⟨p, _, h⟩ := Option.bind_eq_some_iff.1 h
    cases h
    exact h1
  have hi : ∀ (k : Int) (t : List BS), 1 ≤ k → idP k t = some (x, r) → 1 ≤ x.f_Kind := by
    intro k t h1 h
    unfold idP at h
    obtain ⟨p, _, h⟩ := Option.bind_eq_some_iff.1 h
    cases h
    exact h1
  cases l with
  | nil => cases h
  | cons a t =>
    simp only [callP] at h
    repeat' split at h
    all_goals first
      | exact hk _ _ (by decide) h
      | exact hn _ _ (by decide) h
      | exact hi _ _ (by decide) h
      | cases h
theorem lineP_in {l : List BS} {x : St} {r : List BS} (h : lineP l = some (x, r)) : In9 x := by
  have h1 : ∀ (k : Int) (t : List BS), (1 ≤ k ∧ k ≤ 8) → oneP k t = some (x, r) → In9 x := by
    intro k t hk h
    unfold oneP at h
    obtain ⟨p, _, h⟩ := Option.bind_eq_some_iff.1 h
    cases h
    exact stOf_in _ _ _ hk
  have h2 : ∀ (k : Int) (t : List BS), (1 ≤ k ∧ k ≤ 8) → twoP k t = some (x, r) → In9 x := by
    intro k t hk h
    unfold twoP at h
    obtain ⟨p, _, h⟩ := Option.bind_eq_some_iff.1 h
    obtain ⟨q, _, h⟩ := Option.bind_eq_some_iff.1 h
    cases h
    exact stOf_in _ _ _ hk
  have h3 : ∀ (t : List BS), ((callP t).bind fun p => some (S_ref45_Step.mk 9 0 0 zCm p.1, p.2)) = some (x, r) → In9 x := by
    intro t h
    obtain ⟨p, hp, h⟩ := Option.bind_eq_some_iff.1 h
    have := callP_in (x := p.1) (r := p.2) (by rw [hp])
    cases h
    exact ⟨by show (1 : Int) ≤ 9; decide, by show (9 : Int) ≤ 9; decide, fun _ => this⟩
  have h4 : ∀ (k : Int) (t : List BS), cmdP k t = some (x, r) → In9 x := by
    intro k t h
    unfold cmdP at h
    obtain ⟨p, _, h⟩ := Option.bind_eq_some_iff.1 h
    obtain ⟨q, _, h⟩ := Option.bind_eq_some_iff.1 h
    obtain ⟨u, _, h⟩ := Option.bind_eq_some_iff.1 h
    obtain ⟨v, _, h⟩ := Option.bind_eq_some_iff.1 h
    cases h
    exact ⟨by show (1 : Int) ≤ 1; decide, by show (1 : Int) ≤ 9; decide, fun e => by have e : (1 : Int) = 9 := e; omega⟩
  cases l with
  | nil => cases h
  | cons a t =>
    simp only [lineP] at h
    repeat' split at h
    all_goals first
      | exact h4 _ _ h
      | exact h1 _ _ (by decide) h
      | exact h2 _ _ (by decide) h
      | exact h3 _ h
      | (cases h; exact stOf_in _ _ _ (by decide))
      | cases h
theorem lineR_some {s : BS} {x : St} (h : lineR s = some x) : lineP (parts 32 s) = some (x, []) := by
  unfold lineR lineL at h
  cases hp : lineP (parts 32 s) with
  | none => rw [hp] at h; cases h
  | some p =>
    obtain ⟨y, r⟩ := p
    rw [hp] at h
    cases r with
    | nil => cases h; rfl
    | cons a t => cases h
theorem sameR_iff {x y : St} (h : sameR x y = true) : x = y := by
  obtain ⟨k, n, m, ⟨c1, c2, c3, c4, c5, c6, c7⟩, ⟨l1, l2, l3, ⟨s1, s2, s3, s4, s5, s6, s7, ⟨t1, t2, t3, t4⟩, s9, s10⟩⟩⟩ := x
  obtain ⟨k', n', m', ⟨c1', c2', c3', c4', c5', c6', c7'⟩, ⟨l1', l2', l3', ⟨s1', s2', s3', s4', s5', s6', s7', ⟨t1', t2', t3', t4'⟩, s9', s10'⟩⟩⟩ := y
  simp only [sameR, clB, alB, hlB, Bool.and_eq_true, beq_iff_eq, decide_eq_true_eq] at h
  obtain ⟨⟨⟨⟨rfl, rfl⟩, rfl⟩, ⟨⟨⟨rfl, rfl⟩, rfl⟩, ⟨⟨⟨⟨⟨⟨⟨⟨⟨rfl, rfl⟩, rfl⟩, rfl⟩, rfl⟩, rfl⟩, rfl⟩, ⟨rfl, rfl, rfl, rfl⟩⟩, rfl⟩, rfl⟩⟩⟩, ⟨⟨⟨⟨⟨⟨rfl, rfl⟩, rfl⟩, rfl⟩, rfl⟩, rfl⟩, rfl⟩⟩ := h
  rfl
def finT (x : St) (s : BS) : BS := if (lineR s).any (fun y => sameR x y) = true then s else []
theorem finT_out {x : St} {s : BS} (h : ¬ In9 x) : finT x s = [] := by
  unfold finT
  cases hl : lineR s with
  | none => rfl
  | some y =>
    rw [if_neg]
    intro e
    have e : sameR x y = true := e
    exact h (by rw [sameR_iff e]; exact lineP_in (lineR_some hl))
theorem finT_len (x : St) (s : BS) : (finT x s).length ≤ s.length := by
  unfold finT; split
  · exact Nat.le_refl _
  · exact Nat.zero_le _
theorem ptext_eq (n : Nat) (x : St) (h : Bd x) (hw : (wr x).length ≤ 100000) (hk : Okk x) (hn : 2000000 ≤ n) : script_Text n x = some (finT x (wr x)) := by
  unfold script_Text finT
  rw [write_eq n x h (by omega), Option.bind_some, Line_eq n _ hw hn, Option.bind_some]
  cases hl : lineR (wr x) with
  | none => rfl
  | some y =>
    have e := pSame_eq n x y hk (by omega)
    show ((if (((0 : Int) != 0) == false) = true then script_Same n x y else some false).bind fun r3 => if (bif ((0 : Int) != 0) then true else (!r3)) = true then some [] else some (wr x)) = some (if sameR x y = true then wr x else [])
    rw [e]
    cases sameR x y <;> rfl
theorem rtext45_eq (n : Nat) (x : St) (h : Bd x) (hw : (wr x).length ≤ 100000) (hk : Okk x) (hn : 2000000 ≤ n) : ref45_Text n x = some (finT x (wr x)) := by
  obtain ⟨m, rfl⟩ : ∃ m, n = m + 10 := ⟨n - 10, by omega⟩
  obtain ⟨s, h1, h2, h3⟩ := rwritten_eq m x h (by omega)
  have hs : s.length ≤ 100000 := by
    by_cases hi : In9 x
    · rw [h2 hi]; exact hw
    · exact h3 hi
  have hf : finT x (wr x) = finT x s := by
    by_cases hi : In9 x
    · rw [h2 hi]
    · rw [finT_out hi, finT_out hi]
  unfold ref45_Text
  rw [hf, h1, Option.bind_some, rLine_eq _ s hs hn, Option.bind_some]
  unfold finT
  cases hl : lineR s with
  | none => rfl
  | some y =>
    have e := rSame_eq (m + 10) x y hk (by omega)
    show ((if ((!true) == false) = true then ref45_Same (m + 10) x y else some false).bind fun r3 => if (bif (!true) then true else (!r3)) = true then some [] else some s) = some (if sameR x y = true then s else [])
    rw [e]
    cases sameR x y <;> rfl
theorem few45 (n : Nat) (l : List BS) (m : Nat) (hm : m ≤ 1000) (hn : 100000 ≤ n) : ∃ b, law02_Few n l (m : Int) = some b ∧ (b = true → l.length ≤ m ∧ ∀ x ∈ l, x.length ≤ 100) := by
  unfold law02_Few
  by_cases h : (l.length : Int) > (m : Int)
  · exact ⟨false, by rw [if_pos (decide_eq_true h)], fun h => by cases h⟩
  · rw [if_neg (by simpa using h)]
    have := scanL (L := law02_Few_l1 n l) l (fun x => if decide ((x.length : Int) > 100) = true then some false else none) 0 (by omega)
      (fun k i h _ => by
        rw [law02_Few_l1, if_pos (lt_i h), if_pos (in_i h), at_i h]
        cases decide ((l[i].length : Int) > 100) <;> rfl)
      (fun k => by rw [law02_Few_l1, nlt_n]; rfl) n 0 (by omega) (by omega) (by omega)
    have this : law02_Few_l1 n l n 0 = _ := this
    rw [this, findSome_anyF (fun x : BS => decide ((x.length : Int) > 100)), List.drop_zero]
    cases ha : l.any (fun x : BS => decide ((x.length : Int) > 100)) with
    | true => exact ⟨false, rfl, fun h => by cases h⟩
    | false =>
      refine ⟨true, rfl, fun _ => ⟨by omega, fun x hx => ?_⟩⟩
      have := List.any_eq_false.1 ha x hx
      simp only [decide_eq_true_eq] at this
      omega
structure Fw (x : St) : Prop where
  sl : x.f_Command.f_Services.length ≤ 20
  s : ∀ w ∈ x.f_Command.f_Services, w.length ≤ 100
  nm : x.f_Call.f_Name.length ≤ 200
  sn : x.f_Call.f_Spec.f_Name.length ≤ 200
  pj : x.f_Call.f_Spec.f_Project.length ≤ 200
  nt : x.f_Call.f_Spec.f_Nets.length ≤ 10
  vl : x.f_Call.f_Spec.f_Vols.length ≤ 10
theorem Few_eq (n : Nat) (x : St) (hn : 100000 ≤ n) : ∃ b, law45_Few n x = some b ∧ (b = true → Fw x) := by
  obtain ⟨b, h1, h2⟩ := few45 n x.f_Command.f_Services 20 (by decide) hn
  have h1 : law02_Few n x.f_Command.f_Services 20 = some b := h1
  unfold law45_Few
  rw [h1, Option.bind_some]
  simp only [lett]
  refine ⟨_, rfl, fun h => ?_⟩
  simp only [Bool.cond_false_right, Bool.and_eq_true, decide_eq_true_eq] at h
  obtain ⟨⟨⟨⟨⟨a1, a2⟩, a3⟩, a4⟩, a5⟩, a6⟩ := h
  obtain ⟨s1, s2⟩ := h2 a1
  exact ⟨s1, s2, by omega, by omega, by omega, by omega, by omega⟩
theorem Fw.okk {x : St} (h : Fw x) : Okk x := ⟨by have := h.sl; omega, by have := h.nt; omega, by have := h.vl; omega⟩
theorem Fw.bd {x : St} (h : Fw x) (hx : W_ref45_Step x) : Bd x := by
  obtain ⟨k1, k2, k3, k4, k5⟩ := hx
  have e1 : IntKind.min .i64 = -9223372036854775808 := rfl
  have e2 : IntKind.max .i64 = 9223372036854775807 := rfl
  obtain ⟨c1, c2, c3, _, _, c4, c5⟩ := k4
  obtain ⟨d1, d2, d3, d4⟩ := k5
  simp only [e1, e2] at k2 k3 c3 c4 c5 d3
  refine ⟨k2, k3, c3, ?_, ?_, ?_, by have := h.sl; omega, fun w hw => by have := h.s w hw; omega, by have := h.nm; omega, by have := h.sn; omega, by have := h.pj; omega⟩
  · exact c4
  · exact c5
  · exact d3
theorem Fw.len {x : St} (h : Fw x) : (wr x).length ≤ 3900 := by
  have hN := txI_len x.f_N
  have hM := txI_len x.f_M
  have hI := txI_len x.f_Call.f_Id
  have h1 := h.nm
  have h2 := h.sn
  have h3 := h.pj
  have ho1 : ∀ (a : BS) (v : Int), a.length ≤ 10 → (tl (optW a v)).length ≤ 50 := by
    intro a v ha
    have := txI_len v
    unfold optW
    split
    · simp [tl]
    · simp [tl]; omega
  have ho2 : ∀ (a : BS) (v : Bool), a.length ≤ 10 → (tl (flgW a v)).length ≤ 50 := by
    intro a v ha
    unfold flgW
    split
    · simp [tl]; omega
    · simp [tl]
  have o1 := ho1 [45, 110] x.f_Command.f_Count (by decide)
  have o2 := ho2 [45, 111] x.f_Command.f_Orphans (by decide)
  have o3 := ho2 [45, 118] x.f_Command.f_Volumes (by decide)
  have o4 := ho1 [45, 116] x.f_Command.f_Timeout (by decide)
  have o5 := ho1 [45, 114] x.f_Command.f_Retries (by decide)
  have hwl : (cmdW x.f_Command.f_Kind).length ≤ 10 := by
    unfold cmdW
    split
    · rename_i hk
      have : x.f_Command.f_Kind = 1 ∨ x.f_Command.f_Kind = 2 ∨ x.f_Command.f_Kind = 3 ∨ x.f_Command.f_Kind = 4 ∨ x.f_Command.f_Kind = 5 ∨ x.f_Command.f_Kind = 6 := by omega
      rcases this with e | e | e | e | e | e <;> rw [e] <;> decide
    · exact Nat.zero_le _
  have hsv := tl_len 100 _ h.s
  have hmul : x.f_Command.f_Services.length * 101 ≤ 20 * 101 := Nat.mul_le_mul_right _ h.sl
  unfold wr wds
  by_cases k2 : x.f_Kind = 2
  · rw [if_pos k2]; decide
  rw [if_neg k2]
  by_cases k8 : x.f_Kind = 8
  · rw [if_pos k8]; decide
  rw [if_neg k8]
  by_cases k3 : x.f_Kind = 3
  · rw [if_pos k3]; simp [jw, tl]; omega
  rw [if_neg k3]
  by_cases k5 : x.f_Kind = 5
  · rw [if_pos k5]; simp [jw, tl]; omega
  rw [if_neg k5]
  by_cases k6 : x.f_Kind = 6
  · rw [if_pos k6]; simp [jw, tl]; omega
  rw [if_neg k6]
  by_cases k4 : x.f_Kind = 4
  · rw [if_pos k4]; simp [jw, tl]; omega
  rw [if_neg k4]
  by_cases k7 : x.f_Kind = 7
  · rw [if_pos k7]; simp [jw, tl]; omega
  rw [if_neg k7]
  by_cases k9 : x.f_Kind = 9
  · rw [if_pos k9]
    unfold callW
    repeat' split
    all_goals (simp [jw, tl]; try omega)
  rw [if_neg k9]
  unfold svW
  simp only [jw, tl_cons, tl_app, List.length_append, List.length_cons]
  omega
def tx (x : St) : BS := finT x (wr x)
theorem show_l (n : Nat) (l : List St) (hb : ∀ x ∈ l, script_Text n x = some (tx x) ∧ (tx x).length ≤ 10000) (hl : l.length ≤ 900) : ∀ (k i : Nat) (acc : BS), i ≤ l.length → l.length - i < k → acc.length ≤ i * 10001 → script_Show_l1 n l (l.length : Int) k (i : Int) acc = some (acc ++ (l.drop i).flatMap fun x => tx x ++ [10])
  | 0, i, acc, _, h, _ => by omega
  | k + 1, i, acc, h1, h2, h3 => by
    rw [script_Show_l1]
    by_cases hi : i < l.length
    · obtain ⟨e1, e2⟩ := hb _ (List.getElem_mem hi)
      rw [if_pos (lt_i hi), if_pos (in_i hi), at_i hi, e1, Option.bind_some, if_pos (fits (by omega)), if_pos (by have := fits (a := (acc ++ tx l[i]).length) (b := 1) (by simp; omega); exact this), wrap_s i (by omega), show_l n l hb hl k (i + 1) _ (by omega) (by omega) (by simp; omega), drop_at hi]
      simp only [List.flatMap_cons, List.append_assoc]
    · have : i = l.length := by omega
      subst this
      rw [nlt_n, if_neg Bool.false_ne_true]
      simp
theorem Show_eq (n : Nat) (l : List St) (hb : ∀ x ∈ l, script_Text n x = some (tx x) ∧ (tx x).length ≤ 10000) (hl : l.length ≤ 900) (hn : 2000 ≤ n) : script_Show n l = some (l.flatMap fun x => tx x ++ [10]) := by
  unfold script_Show
  have h := show_l n l hb hl n 0 [] (by omega) (by omega) (by simp)
  have h : script_Show_l1 n l (l.length : Int) n 0 [] = _ := h
  rw [h, Option.bind_some]
  simp
theorem writes_end {u0 u1 : BS} {q : Bool} {k0 k1 : Nat} (l0 : k0 ≤ 3900) (l1 : k1 ≤ 3900) (m0 : u0.length ≤ k0) (m1 : u1.length ≤ k1) :
    (some u0).bind (fun r4 => (some u0).bind fun r5 =>
  ((if ((r4 == r5) == true) = true then some q else some false)).bind fun r6 =>
  ((if ((r4 == r5) == true) = true then some q else some false)).bind fun r7 =>
  ((if ((bif (r4 == r5) then (r6 == r7) else false) == true) = true then some (((u0 ++ [10]) ++ u1) ++ [10]) else some [])).bind fun r8 =>
  ((if ((bif (r4 == r5) then (r6 == r7) else false) == true) = true then some u0 else some [])).bind fun r9 =>
  if ((!((bif (r4 == r5) then (r6 == r7) else false) == true) || decide (((List.length r9 + List.length ([10] : List UInt8) : Nat) : Int) ≤ 9223372036854775807))) = true then (((if ((bif (r4 == r5) then (r6 == r7) else false) == true) = true then some u1 else some [])).bind fun r10 =>
  if ((!((bif (r4 == r5) then (r6 == r7) else false) == true) || decide (((List.length (r9 ++ [10]) + List.length r10 : Nat) : Int) ≤ 9223372036854775807))) = true then (if ((!((bif (r4 == r5) then (r6 == r7) else false) == true) || decide (((List.length ((r9 ++ [10]) ++ r10) + List.length ([10] : List UInt8) : Nat) : Int) ≤ 9223372036854775807))) = true then (((if ((bif (bif (r4 == r5) then (r6 == r7) else false) then (r8 == (((r9 ++ [10]) ++ r10) ++ [10])) else false) == true) = true then some true else some false)).bind fun r11 =>
  lett ((bif (bif (bif (r4 == r5) then (r6 == r7) else false) then (r8 == (((r9 ++ [10]) ++ r10) ++ [10])) else false) then r11 else false) : Bool) fun x12 =>
  some x12) else none) else none) else none) = some true := by
  have f : ∀ {a b : Nat} {z : Bool}, a ≤ 100000 → b ≤ 100000 → (z || decide (((a + b : Nat) : Int) ≤ 9223372036854775807)) = true := fun h1 h2 => by rw [str_fits (by omega), Bool.or_true]
  rw [Option.bind_some, Option.bind_some, beq_self_eq_true u0, beq_self_eq_true true, if_pos rfl, Option.bind_some, Option.bind_some, beq_self_eq_true q, cond_true, beq_self_eq_true true, if_pos rfl, Option.bind_some, if_pos rfl, Option.bind_some,
    if_pos (f (by omega) (by simp)), if_pos rfl, Option.bind_some, if_pos (f (by simp; omega) (by omega)), if_pos (f (by simp; omega) (by simp)), beq_self_eq_true (((u0 ++ [10]) ++ u1) ++ [10]), cond_true]
  rfl
theorem writes_n (n : Nat) (hn : 2000000 ≤ n) (hA : law45_awake n = some true) (a0 : S_ref45_Step) (h0 : W_ref45_Step a0) (a1 : S_ref45_Step) (h1 : W_ref45_Step a1) : law45_ScriptWrites n a0 a1 = some true := by
  unfold law45_ScriptWrites
  rw [hA]
  obtain ⟨b0, f0, g0⟩ := Few_eq n a0 (by omega)
  obtain ⟨b1, f1, g1⟩ := Few_eq n a1 (by omega)
  rw [f0, f1, Option.bind_some]
  cases b0 with
  | false => rfl
  | true =>
    rw [if_pos (by rfl), Option.bind_some]
    cases b1 with
    | false => rfl
    | true =>
      have w0 := g0 rfl
      have w1 := g1 rfl
      have l0 := w0.len
      have l1 := w1.len
      have t0 := ptext_eq n a0 (w0.bd h0) (by omega) w0.okk hn
      have r0 := rtext45_eq n a0 (w0.bd h0) (by omega) w0.okk hn
      have t1 := ptext_eq n a1 (w1.bd h1) (by omega) w1.okk hn
      have r1 := rtext45_eq n a1 (w1.bd h1) (by omega) w1.okk hn
      have m0 := finT_len a0 (wr a0)
      have m1 := finT_len a1 (wr a1)
      have hs := Show_eq n [a0, a1] (fun x hx => by
        simp only [List.mem_cons, List.not_mem_nil, or_false] at hx
        rcases hx with rfl | rfl
        · exact ⟨t0, by show (finT _ _).length ≤ _; omega⟩
        · exact ⟨t1, by show (finT _ _).length ≤ _; omega⟩) (by simp) (by omega)
      have hs : script_Show n [a0, a1] = some (((finT a0 (wr a0) ++ [10]) ++ finT a1 (wr a1)) ++ [10]) := by
        rw [hs]; simp [tx]
      rw [if_neg (by exact Bool.false_ne_true), t0, r0, r1, pSame_eq _ a0 a1 w0.okk (by omega), rSame_eq _ a0 a1 w0.okk (by omega), hs]
      generalize finT a0 (wr a0) = u0 at m0
      generalize finT a1 (wr a1) = u1 at m1
      generalize sameR a0 a1 = q
      exact writes_end l0 l1 m0 m1
theorem law45_ScriptWrites_true (a0 : S_ref45_Step) (h0 : W_ref45_Step a0) (a1 : S_ref45_Step) (h1 : W_ref45_Step a1) : ∃ n, law45_ScriptWrites n a0 a1 = some true := ⟨2000000, writes_n 2000000 (Nat.le_refl _) awake45 a0 h0 a1 h1⟩
end Go.Proofs.YtjjlpomfnfipbaaDoor.M
