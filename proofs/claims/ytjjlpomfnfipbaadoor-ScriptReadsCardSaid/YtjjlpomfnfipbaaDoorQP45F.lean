/-
  Part of the proof of ScriptReads: P45F.
-/
import Derived.Test.YtjjlpomfnfipbaaDoorQP45E
set_option linter.all false
namespace Go.Proofs.YtjjlpomfnfipbaaDoor.M
open Go Go.Proofs.YtjjlpomfnfipbaaDoor.RX Go.Proofs.YtjjlpomfnfipbaaDoor.PL
theorem b10 (c : UInt8) : ((c.toNat : Int) == 10) = decide (c = 10) := beq_byte c 10 (by decide)
def rowOf (s : BS) : BS × BS := match upto 10 s with | none => (s, []) | some p => p
theorem rowOf_cons (c : UInt8) (s : BS) : rowOf (c :: s) = if c = 10 then ([], s) else (c :: (rowOf s).1, (rowOf s).2) := by
  unfold rowOf
  rw [upto]
  by_cases h : c = 10
  · rw [if_pos h, if_pos h]
  · rw [if_neg h, if_neg h]
    cases upto 10 s <;> rfl
theorem rowOf_len (s : BS) : (rowOf s).1.length ≤ s.length ∧ (s ≠ [] → (rowOf s).2.length < s.length) ∧ (rowOf s).2.length ≤ s.length := by
  unfold rowOf
  cases h : upto 10 s with
  | none => exact ⟨Nat.le_refl _, fun hs => List.length_pos_iff.2 hs, Nat.zero_le _⟩
  | some p =>
    obtain ⟨p, q⟩ := p
    have := congrArg List.length (upto_some h).1
    simp at this
    exact ⟨by simp; omega, fun _ => by simp; omega, by simp; omega⟩
theorem rowOf_take (s : BS) : s.take (rowOf s).1.length = (rowOf s).1 ∧ (if (rowOf s).1.length < s.length then s.drop ((rowOf s).1.length + 1) else []) = (rowOf s).2 := by
  unfold rowOf
  cases h : upto 10 s with
  | none => exact ⟨List.take_length, by simp⟩
  | some p =>
    obtain ⟨p, q⟩ := p
    have hs := (upto_some h).1
    simp only
    rw [hs]
    refine ⟨List.take_left, ?_⟩
    rw [if_pos (by simp), ← List.drop_drop, List.drop_left]; rfl
theorem b10' (c : UInt8) : ((c.toNat : Int) != 10) = !decide (c = 10) := by rw [← b10]; rfl
def hlB (a b : S_api_Check) : Bool := (a.f_Test == b.f_Test) && ((a.f_Every == b.f_Every) && ((a.f_Start == b.f_Start) && (a.f_Retries == b.f_Retries)))
def alB (a b : S_api_Spec) : Bool := decide (a.f_Nets = b.f_Nets) && decide (a.f_Vols = b.f_Vols) && (a.f_Name == b.f_Name) && (a.f_Project == b.f_Project) && (a.f_Service == b.f_Service) && (a.f_Number == b.f_Number) && (a.f_Hash == b.f_Hash) && hlB a.f_Health b.f_Health && (a.f_Restart == b.f_Restart) && (a.f_Tries == b.f_Tries)
def clB (a b : Cl) : Bool := (a.f_Kind == b.f_Kind) && (a.f_Name == b.f_Name) && (a.f_Id == b.f_Id) && alB a.f_Spec b.f_Spec
def sameR (a b : St) : Bool := (a.f_Kind == b.f_Kind) && (a.f_N == b.f_N) && (a.f_M == b.f_M) && clB a.f_Call b.f_Call && ((a.f_Command.f_Kind == b.f_Command.f_Kind) && decide (a.f_Command.f_Services = b.f_Command.f_Services) && (a.f_Command.f_Count == b.f_Command.f_Count) && (a.f_Command.f_Orphans == b.f_Command.f_Orphans) && (a.f_Command.f_Volumes == b.f_Command.f_Volumes) && (a.f_Command.f_Timeout == b.f_Command.f_Timeout) && (a.f_Command.f_Retries == b.f_Command.f_Retries))
def Okk (a : St) : Prop := a.f_Command.f_Services.length < 10000 ∧ a.f_Call.f_Spec.f_Nets.length < 10000 ∧ a.f_Call.f_Spec.f_Vols.length < 10000
theorem alike_eq (n : Nat) (a b : S_api_Spec) (h1 : a.f_Nets.length < 10000) (h2 : a.f_Vols.length < 10000) (hn : 100000 ≤ n) : ref27_Alike n a b = some (alB a b) := by
  unfold ref27_Alike alB hlB
  simp only [ref02_Same_eq n _ _ h1 hn, ref02_Same_eq n _ _ h2 hn, lett, Option.bind_some]
  generalize (a.f_Name == b.f_Name) = q4
  generalize (a.f_Project == b.f_Project) = q5
  generalize (a.f_Service == b.f_Service) = q6
  generalize (a.f_Number == b.f_Number) = q7
  generalize (a.f_Hash == b.f_Hash) = q8
  generalize decide (a.f_Nets = b.f_Nets) = q9
  generalize decide (a.f_Vols = b.f_Vols) = q10
  generalize ((a.f_Health.f_Test == b.f_Health.f_Test) && ((a.f_Health.f_Every == b.f_Health.f_Every) && ((a.f_Health.f_Start == b.f_Health.f_Start) && (a.f_Health.f_Retries == b.f_Health.f_Retries)))) = q11
  generalize (a.f_Restart == b.f_Restart) = q12
  generalize (a.f_Tries == b.f_Tries) = q13
  cases q9; · rfl
  cases q10; · rfl
  cases q4; · rfl
  cases q5; · rfl
  cases q6; · rfl
  cases q7; · rfl
  cases q8; · rfl
  cases q11; · rfl
  cases q12; · rfl
  cases q13; · rfl
  rfl
theorem sameCall_eq (n : Nat) (a b : Cl) (h1 : a.f_Spec.f_Nets.length < 10000) (h2 : a.f_Spec.f_Vols.length < 10000) (hn : 100000 ≤ n) : ref40_SameCall n a b = some (clB a b) := by
  unfold ref40_SameCall clB
  simp only [alike_eq n _ _ h1 h2 hn, lett]
  generalize (a.f_Kind == b.f_Kind) = q1
  generalize (a.f_Name == b.f_Name) = q2
  generalize (a.f_Id == b.f_Id) = q3
  generalize alB a.f_Spec b.f_Spec = q4
  cases q1; · rfl
  cases q2; · rfl
  cases q3; · rfl
  cases q4; · rfl
  rfl
theorem rSame_eq (n : Nat) (a b : St) (ha : Okk a) (hn : 100000 ≤ n) : ref45_Same n a b = some (sameR a b) := by
  unfold ref45_Same sameR
  simp only [ref02_Same_eq n _ _ ha.1 hn, sameCall_eq n _ _ ha.2.1 ha.2.2 hn, bne, lett]
  generalize (a.f_Kind == b.f_Kind) = p1
  generalize (a.f_N == b.f_N) = p2
  generalize (a.f_M == b.f_M) = p3
  generalize clB a.f_Call b.f_Call = q
  generalize (a.f_Command.f_Kind == b.f_Command.f_Kind) = p4
  generalize (a.f_Command.f_Count == b.f_Command.f_Count) = p5
  generalize (a.f_Command.f_Orphans == b.f_Command.f_Orphans) = p6
  generalize (a.f_Command.f_Volumes == b.f_Command.f_Volumes) = p7
  generalize (a.f_Command.f_Timeout == b.f_Command.f_Timeout) = p8
  generalize (a.f_Command.f_Retries == b.f_Command.f_Retries) = p9
  generalize decide (a.f_Command.f_Services = b.f_Command.f_Services) = p10
  cases p1; · rfl
  cases p2; · rfl
  cases p3; · rfl
  cases q; · rfl
  cases p4; · rfl
  cases p10; · rfl
  cases p5; · rfl
  cases p6; · rfl
  cases p7; · rfl
  cases p8; · rfl
  cases p9; · rfl
  rfl
theorem sameR_refl (a : St) : sameR a a = true := by
  unfold sameR clB alB hlB; simp
theorem svcs_len : ∀ l : List BS, (svcs l).1.length ≤ l.length
  | [] => Nat.le_refl _
  | s :: t => by
    unfold svcs
    split
    · have := svcs_len t; simp; omega
    · exact Nat.zero_le _
theorem cmdP_ok {k : Int} {l : List BS} {x : St} {r : List BS} (hl : l.length < 10000) (h : cmdP k l = some (x, r)) : Okk x := by
  unfold cmdP at h
  obtain ⟨p, hp, h⟩ := Option.bind_eq_some_iff.1 h
  obtain ⟨q, hq, h⟩ := Option.bind_eq_some_iff.1 h
  obtain ⟨u, hu, h⟩ := Option.bind_eq_some_iff.1 h
  obtain ⟨t, ht, h⟩ := Option.bind_eq_some_iff.1 h
  cases h
  have hpl : p.2.length ≤ l.length := by
    cases l with
    | nil => cases hp
    | cons s t =>
      simp only [numP] at hp
      obtain ⟨v, _, e⟩ := Option.map_eq_some_iff.1 hp
      cases e
      simp
  have := svcs_len p.2
  exact ⟨by show (svcs p.2).1.length < 10000; omega, by show ([] : List BS).length < 10000; decide, by show ([] : List BS).length < 10000; decide⟩
theorem stOf_ok (k a b : Int) : Okk (stOf k a b) := ⟨by show ([] : List BS).length < 10000; decide, by show ([] : List BS).length < 10000; decide, by show ([] : List BS).length < 10000; decide⟩
theorem callP_ok {l : List BS} {x : Cl} {r : List BS} (h : callP l = some (x, r)) : ∃ k nm id pj, x = callOf k nm id pj := by
  have hk : ∀ (k : Int) (t : List BS), keptP k t = some (x, r) → ∃ k nm id pj, x = callOf k nm id pj := by
    intro k t h
    unfold keptP at h
    obtain ⟨p, _, h⟩ := Option.bind_eq_some_iff.1 h
    obtain ⟨q, _, h⟩ := Option.bind_eq_some_iff.1 h
    cases h
    exact ⟨_, _, _, _, rfl⟩
  have hn : ∀ (k : Int) (t : List BS), nameP k t = some (x, r) → ∃ k nm id pj, x = callOf k nm id pj := by
    intro k t h
    unfold nameP at h
    obtain ⟨p, _, h⟩ := Option.bind_eq_some_iff.1 h
    cases h
    exact ⟨_, _, _, _, rfl⟩
  have hi : ∀ (k : Int) (t : List BS), idP k t = some (x, r) → ∃ k nm id pj, x = callOf k nm id pj := by
    intro k t h
    unfold idP at h
    obtain ⟨p, _, h⟩ := Option.bind_eq_some_iff.1 h
    cases h
    exact ⟨_, _, _, _, rfl⟩
  cases l with
  | nil => cases h
  | cons a t =>
    simp only [callP] at h
    repeat' split at h
    all_goals first
      | exact hk _ _ h
      | exact hn _ _ h
      | exact hi _ _ h
      | cases h
theorem lineP_ok {l : List BS} {x : St} {r : List BS} (hl : l.length < 10000) (h : lineP l = some (x, r)) : Okk x := by
  have h1 : ∀ (k : Int) (t : List BS), oneP k t = some (x, r) → Okk x := by
    intro k t h
    unfold oneP at h
    obtain ⟨p, _, h⟩ := Option.bind_eq_some_iff.1 h
    cases h
    exact stOf_ok _ _ _
  have h2 : ∀ (k : Int) (t : List BS), twoP k t = some (x, r) → Okk x := by
    intro k t h
    unfold twoP at h
    obtain ⟨p, _, h⟩ := Option.bind_eq_some_iff.1 h
    obtain ⟨q, _, h⟩ := Option.bind_eq_some_iff.1 h
    cases h
    exact stOf_ok _ _ _
  have h3 : ∀ (t : List BS), ((callP t).bind fun p => some (S_ref45_Step.mk 9 0 0 zCm p.1, p.2)) = some (x, r) → Okk x := by
    intro t h
    obtain ⟨p, hp, h⟩ := Option.bind_eq_some_iff.1 h
    obtain ⟨k, nm, id, pj, e⟩ := callP_ok (x := p.1) (r := p.2) (by rw [hp])
    cases h
    rw [e]
    exact ⟨by show ([] : List BS).length < 10000; decide, by show ([] : List BS).length < 10000; decide, by show ([] : List BS).length < 10000; decide⟩
  cases l with
  | nil => cases h
  | cons a t =>
    simp only [lineP] at h
    simp only [List.length_cons] at hl
    repeat' split at h
    all_goals first
      | exact cmdP_ok (by omega) h
      | exact h1 _ _ h
      | exact h2 _ _ h
      | exact h3 _ h
      | (cases h; exact stOf_ok _ _ _)
      | cases h
theorem lineR_ok {s : BS} {x : St} (hs : s.length ≤ 9000) (h : lineR s = some x) : Okk x := by
  unfold lineR lineL at h
  have hpl := parts_len 32 s
  cases hp : lineP (parts 32 s) with
  | none => rw [hp] at h; cases h
  | some p =>
    obtain ⟨y, r⟩ := p
    rw [hp] at h
    cases r with
    | nil =>
      cases h
      exact lineP_ok (by omega) hp
    | cons a t => cases h
theorem zSt_ok : Okk zSt := ⟨by show ([] : List BS).length < 10000; decide, by show ([] : List BS).length < 10000; decide, by show ([] : List BS).length < 10000; decide⟩
theorem okR_ok {s : BS} (hs : s.length ≤ 9000) : Okk (okR (lineR s)).2 := by
  cases h : lineR s with
  | none => exact zSt_ok
  | some x => exact lineR_ok hs h
theorem b35 (c : UInt8) : ((c.toNat : Int) == 35) = decide (c = 35) := beq_byte c 35 (by decide)
theorem rl2 (n : Nat) (s : BS) (out : List St) (no : Int) (hs : s.length ≤ 10000) : ∀ (k i : Nat), i ≤ s.length → s.length - i < k → ref45_Read_l2 n s out no k (i : Int) = some ((i + (rowOf (s.drop i)).1.length : Nat) : Int)
  | 0, i, _, h => by omega
  | k + 1, i, h1, h2 => by
    rw [ref45_Read_l2]
    by_cases h : i < s.length
    · rw [if_pos (by rw [in_i h, Bool.or_true]), lt_i h, cond_true, at_i h, b10', drop_at h, rowOf_cons]
      by_cases hc : s[i] = 10
      · rw [if_neg (by simp [hc]), if_pos hc]; rfl
      · rw [if_pos (by simp [hc]), if_neg hc, wrap_s i (by omega), rl2 n s out no hs k (i + 1) (by omega) (by omega)]
        simp only [List.length_cons]
        rw [show i + 1 + (rowOf (List.drop (i + 1) s)).1.length = i + ((rowOf (List.drop (i + 1) s)).1.length + 1) by omega]
    · rw [if_pos (by rw [nlt_i (Nat.not_lt.1 h)]; rfl), nlt_i (Nat.not_lt.1 h), cond_false, if_neg Bool.false_ne_true, List.drop_eq_nil_of_le (by omega)]; rfl
def idle (t : BS) : Bool := (t == []) || decide (t[0]?.getD 0 = 35)
theorem cap297 {a : Nat} (h : a ≤ 1000000) : decide ((a + 1) * (296 + 1) ≤ limit) = true := decide_eq_true (by show (a + 1) * (296 + 1) ≤ 140737488355328; omega)
theorem idle_eq (t : BS) : ((!((t == []) == false) || decide (0 ≤ (0 : Int) ∧ (0 : Int) < (List.length t : Int)))) = true ∧ (bif (t == []) then true else (((t[Int.toNat 0]?.getD 0).toNat : Int) == 35)) = idle t := by
  cases t with
  | nil => exact ⟨rfl, rfl⟩
  | cons c t =>
    refine ⟨?_, ?_⟩
    · rw [decide_eq_true (by rw [List.length_cons]; omega), Bool.or_true]
    · have : ((c :: t) == []) = false := rfl
      unfold idle
      rw [this, cond_false, Bool.false_or, b35]; rfl
theorem idle_eq2 (t : BS) : ((!(((List.length t : Int) == 0) == false) || decide (0 ≤ (0 : Int) ∧ (0 : Int) < (List.length t : Int)))) = true ∧ (bif ((List.length t : Int) == 0) then true else (((t[Int.toNat 0]?.getD 0).toNat : Int) == 35)) = idle t := by
  cases t with
  | nil => exact ⟨rfl, rfl⟩
  | cons c t =>
    refine ⟨?_, ?_⟩
    · rw [decide_eq_true (by rw [List.length_cons]; omega), Bool.or_true]
    · have : ((List.length (c :: t) : Int) == 0) = false := by rw [beq_eq_false_iff_ne]; simp; omega
      unfold idle
      rw [this, cond_false, b35]; rfl
def rowR (s : BS) (out : List St) : Option (BS × List St) := if idle (rowOf s).1 = true then some ((rowOf s).2, out) else (lineR (rowOf s).1).map fun x => ((rowOf s).2, out ++ [x])
theorem pRead_s (n : Nat) (hn : 2000000 ≤ n) (k : Nat) (s : BS) (out : List St) (no : Nat) (hs : s ≠ []) (h2 : s.length ≤ 10000) (h3 : out.length ≤ no) (h4 : no ≤ 10000) :
    script_Read_l1 n (k + 1) s out ((no + 1 : Nat) : Int) = (rowR s out).elim (some (.inr (((no + 1 : Nat) : Int), 18))) (fun p => script_Read_l1 n k p.1 p.2 ((no + 1 + 1 : Nat) : Int)) := by
  obtain ⟨g1, g2, g3⟩ := rowOf_len s
  have e1 : (s == []) = false := by simpa using hs
  have hcut : (Lib.cut s [10]).1 = (rowOf s).1 ∧ (Lib.cut s [10]).2.1 = (rowOf s).2 := by
    rw [cut_eq]; unfold rowOf
    cases upto 10 s <;> exact ⟨rfl, rfl⟩
  obtain ⟨i1, i2⟩ := idle_eq (rowOf s).1
  rw [script_Read_l1, e1, if_pos (by decide)]
  unfold script_Read_j2
  rw [if_pos (decide_eq_true (by omega)), hcut.1, hcut.2, if_pos i1]
  simp only [i2, lett]
  unfold rowR
  by_cases hi : idle (rowOf s).1 = true
  · rw [if_pos hi, if_pos hi, Option.bind_some, Sum.elim_inl]
    simp only [Option.elim_some]
    rw [wrap_s (no + 1) (by omega)]
  · rw [if_neg hi, if_neg hi, Line_eq n _ (by omega) hn, Option.bind_some]
    cases hl : lineR (rowOf s).1 with
    | none => rfl
    | some x =>
      have hcap : decide ((List.length out + List.length ([x] : List St)) * (296 + 1) ≤ limit) = true := cap297 (by omega)
      simp only [okR, Option.map_some, Option.elim_some]
      have h0 : ¬ ((0 : Int) != 0) = true := by decide
      simp only [if_neg h0, hcap, if_true, Option.bind_some, Sum.elim_inl]
      rw [wrap_s (no + 1) (by omega)]
theorem rRead_s (n : Nat) (hn : 2000000 ≤ n) (k : Nat) (s : BS) (out : List St) (no : Nat) (hs : s ≠ []) (h2 : s.length ≤ 10000) (h3 : out.length ≤ no) (h4 : no ≤ 10000) :
    ref45_Read_l1 n (k + 1) s out (no : Int) = (rowR s out).elim (some (.inr (((no + 1 : Nat) : Int), 18))) (fun p => ref45_Read_l1 n k p.1 p.2 ((no + 1 : Nat) : Int)) := by
  have hpos := List.length_pos_iff.2 hs
  obtain ⟨g1, g2, g3⟩ := rowOf_len s
  obtain ⟨g4, g5⟩ := rowOf_take s
  obtain ⟨i1, i2⟩ := idle_eq2 (rowOf s).1
  have l2 := rl2 n s out ((no + 1 : Nat) : Int) h2 n 0 (by omega) (by omega)
  have l2 : ref45_Read_l2 n s out ((no + 1 : Nat) : Int) n 0 = some (((rowOf s).1.length : Nat) : Int) := by rw [show (0 : Int) = ((0 : Nat) : Int) from rfl, l2, List.drop_zero, Nat.zero_add]
  have hj : ∃ e : Nat, ref45_Read_j3 n s out ((no + 1 : Nat) : Int) (((rowOf s).1.length : Nat) : Int) (rowOf s).1 (decide ((((rowOf s).1.length : Nat) : Int) < (s.length : Int))) = some (e : Int) ∧ e ≤ s.length ∧ s.drop e = (rowOf s).2 := by
    unfold ref45_Read_j3
    rw [wrap_s _ (by omega)]
    by_cases hl : (rowOf s).1.length < s.length
    · rw [if_pos hl] at g5
      exact ⟨(rowOf s).1.length + 1, by rw [if_pos (lt_i hl)], by omega, g5⟩
    · rw [if_neg hl] at g5
      exact ⟨(rowOf s).1.length, by rw [if_neg (by rw [nlt_i (Nat.not_lt.1 hl)]; exact Bool.false_ne_true)], g1, by rw [← g5, List.drop_eq_nil_of_le (by omega)]⟩
  obtain ⟨e, j1, j2, j3⟩ := hj
  rw [ref45_Read_l1, if_pos (decide_eq_true (by omega)), wrap_s no (by omega), l2, Option.bind_some, if_pos (le_i g1), tn, g4, j1, Option.bind_some, if_pos (le_i j2), tn, j3, if_pos i1]
  simp only [i2, lett]
  unfold rowR
  by_cases hi : idle (rowOf s).1 = true
  · rw [if_pos hi, if_pos hi]; rfl
  · rw [if_neg hi, if_neg hi, rLine_eq n _ (by omega) hn, Option.bind_some]
    cases hl : lineR (rowOf s).1 with
    | none => rfl
    | some x =>
      have hcap : decide ((List.length out + List.length ([x] : List St)) * (296 + 1) ≤ limit) = true := cap297 (by omega)
      simp only [okR, Option.map_some, Option.elim_some]
      rw [if_neg (by decide), if_pos hcap]
theorem read_l (n : Nat) (hn : 2000000 ≤ n) : ∀ (k : Nat) (s : BS) (out : List St) (no : Nat), s.length < k → out.length ≤ no → no + s.length ≤ 9000 → (∀ x ∈ out, Okk x) → ∃ r, script_Read_l1 n k s out ((no + 1 : Nat) : Int) = some r ∧ ref45_Read_l1 n k s out (no : Int) = some r ∧ (∀ o, r = .inl o → o.length ≤ 9000 ∧ ∀ x ∈ o, Okk x)
  | 0, s, out, no, h, _, _, _ => by omega
  | k + 1, s, out, no, h1, h3, h4, h5 => by
    by_cases hs : s = []
    · subst hs
      exact ⟨.inl out, rfl, rfl, fun o e => by cases e; exact ⟨by omega, h5⟩⟩
    · have hpos := List.length_pos_iff.2 hs
      obtain ⟨g1, g2, g3⟩ := rowOf_len s
      have g2 := g2 hs
      rw [pRead_s n hn k s out no hs (by omega) h3 (by omega), rRead_s n hn k s out no hs (by omega) h3 (by omega)]
      unfold rowR
      by_cases hi : idle (rowOf s).1 = true
      · rw [if_pos hi]
        exact read_l n hn k (rowOf s).2 out (no + 1) (by omega) (by omega) (by omega) h5
      · rw [if_neg hi]
        cases hl : lineR (rowOf s).1 with
        | none => exact ⟨.inr (((no + 1 : Nat) : Int), 18), rfl, rfl, fun o e => by cases e⟩
        | some x =>
          refine read_l n hn k (rowOf s).2 (out ++ [x]) (no + 1) (by omega) (by simp; omega) (by omega) fun y hy => ?_
          rcases List.mem_append.1 hy with hy | hy
          · exact h5 y hy
          · rw [List.mem_singleton.1 hy]; exact lineR_ok (by omega) hl
theorem Read_eq (n : Nat) (s : BS) (hn : 2000000 ≤ n) : ∃ r, script_Read n s = some r ∧ ref45_Read n s = some r ∧ r.1.length ≤ 9000 ∧ ∀ x ∈ r.1, Okk x := by
  unfold script_Read ref45_Read
  by_cases h : (s.length : Int) > 8192
  · rw [if_pos (decide_eq_true h), if_pos (decide_eq_true h)]
    exact ⟨_, rfl, rfl, by simp, fun x hx => by cases hx⟩
  · rw [if_neg (by simpa using h), if_neg (by simpa using h)]
    obtain ⟨r, h1, h2, h3⟩ := read_l n hn n s [] 0 (by omega) (by simp) (by omega) (fun x hx => by cases hx)
    have h1 : script_Read_l1 n n s [] 1 = some r := h1
    have h2 : ref45_Read_l1 n n s [] 0 = some r := h2
    rw [h1, h2, Option.bind_some]
    cases r with
    | inl o =>
      simp only [Sum.elim_inl, Option.bind_some]
      by_cases h400 : (o.length : Int) > 400
      · rw [if_pos (decide_eq_true h400)]
        exact ⟨_, rfl, rfl, by simp, fun x hx => by cases hx⟩
      · rw [if_neg (by simpa using h400)]
        exact ⟨_, rfl, rfl, (h3 o rfl).1, (h3 o rfl).2⟩
    | inr o => exact ⟨_, rfl, rfl, by simp, fun x hx => by cases hx⟩
theorem steps_eq (n : Nat) (l : List St) (hl : l.length ≤ 10000) (hn : 20000 ≤ n) : law45_steps n l = some l := by
  unfold law45_steps
  have := (gather (L := law45_steps_l1 n l) l (fun acc x => acc ++ [x]) id (fun i s => s.length ≤ i) (by omega)
    (fun k s i h hs => by
      have hcap : decide ((List.length s + List.length ([l[i]] : List St)) * (296 + 1) ≤ limit) = true := cap297 (by omega)
      rw [law45_steps_l1, if_pos (lt_i h), if_pos (in_i h), at_i h, if_pos hcap])
    (fun s i h hs => by simp; omega) (fun k s _ => by rw [law45_steps_l1, nlt_n]; rfl) n 0 [] (by omega) (by omega) (by simp)).1
  rw [List.drop_zero, foldl_app (fun x => [x])] at this
  have hf : ∀ l : List St, l.flatMap (fun x => [x]) = l := fun l => by induction l <;> simp_all
  rw [hf] at this
  have this : law45_steps_l1 n l n [] 0 = some l := this
  rw [this]; rfl
theorem lsame_refl (n : Nat) (l : List St) (hl : l.length ≤ 10000) (hok : ∀ x ∈ l, Okk x) (hn : 100000 ≤ n) : law45_same n l l = some true := by
  unfold law45_same
  have := scanL (L := law45_same_l1 n l l) l (fun _ => (none : Option Bool)) 0 (by omega)
    (fun k i h _ => by
      rw [law45_same_l1, if_pos (lt_i h), if_pos (in_i h), if_pos (in_i h), at_i h, rSame_eq n _ _ (hok _ (List.getElem_mem h)) hn, sameR_refl]
      rfl)
    (fun k => by rw [law45_same_l1, nlt_n]; rfl) n 0 (by omega) (by omega) (by omega)
  have hno : ∀ l : List St, l.findSome? (fun _ => (none : Option Bool)) = none := fun l => by induction l <;> simp_all
  rw [hno] at this
  have this : law45_same_l1 n l l n 0 = some (.inl ()) := this
  rw [this, if_neg (by simp)]; rfl
theorem awake45 : law45_awake 2000000 = some true := by kernel_rfl
theorem law45_ScriptReads_true (a0 : List UInt8) (_ : List.length a0 ≤ maxLen) : ∃ n, law45_ScriptReads n a0 = some true := by
  refine ⟨2000000, ?_⟩
  unfold law45_ScriptReads
  rw [awake45]
  by_cases h : (a0.length : Int) > 3000
  · rw [if_pos (decide_eq_true h)]; rfl
  · obtain ⟨r, h1, h2, h3, h4⟩ := Read_eq 2000000 a0 (Nat.le_refl _)
    rw [if_neg (by simpa using h), Line_eq _ a0 (by omega) (Nat.le_refl _), rLine_eq _ a0 (by omega) (Nat.le_refl _), h1, h2]
    simp only [Option.bind_some, rSame_eq _ _ _ (okR_ok (s := a0) (by omega)) (by decide : 100000 ≤ 2000000), sameR_refl, steps_eq _ _ (by omega : r.1.length ≤ 10000) (by decide : 20000 ≤ 2000000), lett]
    have e1 : ((okR (lineR a0)).1 == 0) = decide ((okR (lineR a0)).1 = 0) := by
      by_cases h : (okR (lineR a0)).1 = 0 <;> simp [h]
    have e2 : (bif decide ((okR (lineR a0)).1 = 0) then true else ((okR (lineR a0)).1 == 18)) = true := by
      cases lineR a0 <;> rfl
    simp only [e1, e2, beq_self_eq_true, cond_true, if_true, Option.bind_some, lsame_refl _ _ (by omega : r.1.length ≤ 10000) h4 (by decide : 100000 ≤ 2000000)]
end Go.Proofs.YtjjlpomfnfipbaaDoor.M
