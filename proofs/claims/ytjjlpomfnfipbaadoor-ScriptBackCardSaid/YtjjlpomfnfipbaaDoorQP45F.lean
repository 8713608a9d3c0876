/-
  Part of the proof of ScriptBack: P45F.
-/
import Derived.Test.YtjjlpomfnfipbaaDoorQP45E
set_option linter.all false
namespace Go.Proofs.YtjjlpomfnfipbaaDoor.M
open Go Go.Proofs.YtjjlpomfnfipbaaDoor.RX Go.Proofs.YtjjlpomfnfipbaaDoor.PL
def rowOf (s : BS) : BS × BS := match upto 10 s with | none => (s, []) | some p => p
theorem rowOf_len (s : BS) : (rowOf s).1.length ≤ s.length ∧ (s ≠ [] → (rowOf s).2.length < s.length) ∧ (rowOf s).2.length ≤ s.length := by
  unfold rowOf
  cases h : upto 10 s with
  | none => exact ⟨Nat.le_refl _, fun hs => List.length_pos_iff.2 hs, Nat.zero_le _⟩
  | some p =>
    obtain ⟨p, q⟩ := p
    have := congrArg List.length (upto_some h).1
    simp at this
    exact ⟨by simp; omega, fun _ => by simp; omega, by simp; omega⟩
theorem slicesEq (n : Nat) (l m : List BS) (hl : l.length < 10000) (hn : 100000 ≤ n) : slices_Equal_string_string n l m = some (decide (l = m)) := by
  unfold slices_Equal_string_string
  by_cases hlm : l.length = m.length
  · have e : ((List.length l : Int) != (List.length m : Int)) = false := by simp [hlm]
    have := same_l (L := slices_Equal_string_string_l1 n l m (l.length : Int)) l m hlm hl
      (fun k i h h' => by rw [slices_Equal_string_string_l1, if_pos (lt_i h), if_pos (in_i h), if_pos (in_i h'), at_i h, at_i h'])
      (fun k => by rw [slices_Equal_string_string_l1, nlt_n]; rfl) n 0 (by omega) (by omega)
    rw [e, if_neg Bool.false_ne_true, show (0 : Int) = ((0 : Nat) : Int) from rfl, this, List.drop_zero, List.drop_zero]
    by_cases h : l = m
    · rw [if_pos h, decide_eq_true h]; rfl
    · rw [if_neg h, decide_eq_false h]; rfl
  · have e : ((List.length l : Int) != (List.length m : Int)) = true := by simpa using fun h => hlm (by omega)
    rw [e, if_pos rfl, decide_eq_false (fun h => hlm (congrArg List.length h))]
def hlB (a b : S_api_Check) : Bool := (a.f_Test == b.f_Test) && ((a.f_Every == b.f_Every) && ((a.f_Start == b.f_Start) && (a.f_Retries == b.f_Retries)))
def sameA (a b : St) : Bool := (a.f_Kind == b.f_Kind) && (a.f_N == b.f_N) && (a.f_M == b.f_M) && (a.f_Command.f_Kind == b.f_Command.f_Kind) && (a.f_Command.f_Count == b.f_Command.f_Count) && (a.f_Command.f_Orphans == b.f_Command.f_Orphans) && (a.f_Command.f_Volumes == b.f_Command.f_Volumes) && (a.f_Command.f_Timeout == b.f_Command.f_Timeout) && (a.f_Command.f_Retries == b.f_Command.f_Retries) && decide (a.f_Command.f_Services = b.f_Command.f_Services)
  && (a.f_Call.f_Kind == b.f_Call.f_Kind) && (a.f_Call.f_Name == b.f_Call.f_Name) && (a.f_Call.f_Id == b.f_Call.f_Id) && (a.f_Call.f_Spec.f_Name == b.f_Call.f_Spec.f_Name) && (a.f_Call.f_Spec.f_Project == b.f_Call.f_Spec.f_Project) && (a.f_Call.f_Spec.f_Service == b.f_Call.f_Spec.f_Service) && (a.f_Call.f_Spec.f_Number == b.f_Call.f_Spec.f_Number) && (a.f_Call.f_Spec.f_Hash == b.f_Call.f_Spec.f_Hash)
  && decide (a.f_Call.f_Spec.f_Nets = b.f_Call.f_Spec.f_Nets) && decide (a.f_Call.f_Spec.f_Vols = b.f_Call.f_Spec.f_Vols) && hlB a.f_Call.f_Spec.f_Health b.f_Call.f_Spec.f_Health && (a.f_Call.f_Spec.f_Restart == b.f_Call.f_Spec.f_Restart) && (a.f_Call.f_Spec.f_Tries == b.f_Call.f_Spec.f_Tries)
def alB (a b : S_api_Spec) : Bool := decide (a.f_Nets = b.f_Nets) && decide (a.f_Vols = b.f_Vols) && (a.f_Name == b.f_Name) && (a.f_Project == b.f_Project) && (a.f_Service == b.f_Service) && (a.f_Number == b.f_Number) && (a.f_Hash == b.f_Hash) && hlB a.f_Health b.f_Health && (a.f_Restart == b.f_Restart) && (a.f_Tries == b.f_Tries)
def clB (a b : Cl) : Bool := (a.f_Kind == b.f_Kind) && (a.f_Name == b.f_Name) && (a.f_Id == b.f_Id) && alB a.f_Spec b.f_Spec
def sameR (a b : St) : Bool := (a.f_Kind == b.f_Kind) && (a.f_N == b.f_N) && (a.f_M == b.f_M) && clB a.f_Call b.f_Call && ((a.f_Command.f_Kind == b.f_Command.f_Kind) && decide (a.f_Command.f_Services = b.f_Command.f_Services) && (a.f_Command.f_Count == b.f_Command.f_Count) && (a.f_Command.f_Orphans == b.f_Command.f_Orphans) && (a.f_Command.f_Volumes == b.f_Command.f_Volumes) && (a.f_Command.f_Timeout == b.f_Command.f_Timeout) && (a.f_Command.f_Retries == b.f_Command.f_Retries))
theorem sameA_eq (a b : St) : sameA a b = sameR a b := by
  unfold sameA sameR clB alB
  ac_rfl
def Okk (a : St) : Prop := a.f_Command.f_Services.length < 10000 ∧ a.f_Call.f_Spec.f_Nets.length < 10000 ∧ a.f_Call.f_Spec.f_Vols.length < 10000
theorem pSame_eq (n : Nat) (a b : St) (ha : Okk a) (hn : 100000 ≤ n) : script_Same n a b = some (sameR a b) := by
  rw [← sameA_eq]
  unfold script_Same sameA
  simp only [slicesEq n _ _ ha.1 hn, slicesEq n _ _ ha.2.1 hn, slicesEq n _ _ ha.2.2 hn, bne, lett]
  show _ = some ((a.f_Kind == b.f_Kind) && (a.f_N == b.f_N) && (a.f_M == b.f_M) && (a.f_Command.f_Kind == b.f_Command.f_Kind) && (a.f_Command.f_Count == b.f_Command.f_Count) && (a.f_Command.f_Orphans == b.f_Command.f_Orphans) && (a.f_Command.f_Volumes == b.f_Command.f_Volumes) && (a.f_Command.f_Timeout == b.f_Command.f_Timeout) && (a.f_Command.f_Retries == b.f_Command.f_Retries) && decide (a.f_Command.f_Services = b.f_Command.f_Services)
    && (a.f_Call.f_Kind == b.f_Call.f_Kind) && (a.f_Call.f_Name == b.f_Call.f_Name) && (a.f_Call.f_Id == b.f_Call.f_Id) && (a.f_Call.f_Spec.f_Name == b.f_Call.f_Spec.f_Name) && (a.f_Call.f_Spec.f_Project == b.f_Call.f_Spec.f_Project) && (a.f_Call.f_Spec.f_Service == b.f_Call.f_Spec.f_Service) && (a.f_Call.f_Spec.f_Number == b.f_Call.f_Spec.f_Number) && (a.f_Call.f_Spec.f_Hash == b.f_Call.f_Spec.f_Hash)
    && decide (a.f_Call.f_Spec.f_Nets = b.f_Call.f_Spec.f_Nets) && decide (a.f_Call.f_Spec.f_Vols = b.f_Call.f_Spec.f_Vols) && ((a.f_Call.f_Spec.f_Health.f_Test == b.f_Call.f_Spec.f_Health.f_Test) && ((a.f_Call.f_Spec.f_Health.f_Every == b.f_Call.f_Spec.f_Health.f_Every) && ((a.f_Call.f_Spec.f_Health.f_Start == b.f_Call.f_Spec.f_Health.f_Start) && (a.f_Call.f_Spec.f_Health.f_Retries == b.f_Call.f_Spec.f_Health.f_Retries)))) && (a.f_Call.f_Spec.f_Restart == b.f_Call.f_Spec.f_Restart) && (a.f_Call.f_Spec.f_Tries == b.f_Call.f_Spec.f_Tries))
  generalize (a.f_Kind == b.f_Kind) = p1
  generalize (a.f_N == b.f_N) = p2
  generalize (a.f_M == b.f_M) = p3
  generalize (a.f_Command.f_Kind == b.f_Command.f_Kind) = p4
  generalize (a.f_Command.f_Count == b.f_Command.f_Count) = p5
  generalize (a.f_Command.f_Orphans == b.f_Command.f_Orphans) = p6
  generalize (a.f_Command.f_Volumes == b.f_Command.f_Volumes) = p7
  generalize (a.f_Command.f_Timeout == b.f_Command.f_Timeout) = p8
  generalize (a.f_Command.f_Retries == b.f_Command.f_Retries) = p9
  generalize decide (a.f_Command.f_Services = b.f_Command.f_Services) = p10
  generalize (a.f_Call.f_Kind == b.f_Call.f_Kind) = q1
  generalize (a.f_Call.f_Name == b.f_Call.f_Name) = q2
  generalize (a.f_Call.f_Id == b.f_Call.f_Id) = q3
  generalize (a.f_Call.f_Spec.f_Name == b.f_Call.f_Spec.f_Name) = q4
  generalize (a.f_Call.f_Spec.f_Project == b.f_Call.f_Spec.f_Project) = q5
  generalize (a.f_Call.f_Spec.f_Service == b.f_Call.f_Spec.f_Service) = q6
  generalize (a.f_Call.f_Spec.f_Number == b.f_Call.f_Spec.f_Number) = q7
  generalize (a.f_Call.f_Spec.f_Hash == b.f_Call.f_Spec.f_Hash) = q8
  generalize decide (a.f_Call.f_Spec.f_Nets = b.f_Call.f_Spec.f_Nets) = q9
  generalize decide (a.f_Call.f_Spec.f_Vols = b.f_Call.f_Spec.f_Vols) = q10
  generalize ((a.f_Call.f_Spec.f_Health.f_Test == b.f_Call.f_Spec.f_Health.f_Test) && ((a.f_Call.f_Spec.f_Health.f_Every == b.f_Call.f_Spec.f_Health.f_Every) && ((a.f_Call.f_Spec.f_Health.f_Start == b.f_Call.f_Spec.f_Health.f_Start) && (a.f_Call.f_Spec.f_Health.f_Retries == b.f_Call.f_Spec.f_Health.f_Retries)))) = q11
  generalize (a.f_Call.f_Spec.f_Restart == b.f_Call.f_Spec.f_Restart) = q12
  generalize (a.f_Call.f_Spec.f_Tries == b.f_Call.f_Spec.f_Tries) = q13
  cases p1; · rfl
  cases p2; · rfl
  cases p3; · rfl
  cases p4; · rfl
  cases p5; · rfl
  cases p6; · rfl
  cases p7; · rfl
  cases p8; · rfl
  cases p9; · rfl
  cases p10; · rfl
  cases q1; · rfl
  cases q2; · rfl
  cases q3; · rfl
  cases q4; · rfl
  cases q5; · rfl
  cases q6; · rfl
  cases q7; · rfl
  cases q8; · rfl
  cases q9; · rfl
  cases q10; · rfl
  cases q11; · rfl
  cases q12; · rfl
  cases q13; · rfl
  rfl
theorem alike_eq (n : Nat) (a b : S_api_Spec) (h1 : a.f_Nets.length < 10000) (h2 : a.f_Vols.length < 10000) (hn : 100000 ≤ n) : ref27_Alike n a b = some (alB a b) := by
  unfold ref27_Alike alB hlB
  simp only [ref02_Same_eq n _ _ h1 hn, ref02_Same_eq n _ _ h2 hn, lett, Option.bind_some]
  generalize (a.f_Name == b.f_Name) = q4
  generalize (a.f_Project == b.f_Project) = q5
  generalize (a.f_Service == b.f_Service) = q6
  generalize (a.f_Number == b.f_Number) = q7
  generalize (a.f_Hash == b.f_Hash) = q8
  generalize decide (a.f_Nets = b.f_Nets) = q9
  generalize decide (a.f_Vols = b.f_Vols) = q10
  generalize ((a.f_Health.f_Test == b.f_Health.f_Test) && ((a.f_Health.f_Every == b.f_Health.f_Every) && ((a.f_Health.f_Start == b.f_Health.f_Start) && (a.f_Health.f_Retries == b.f_Health.f_Retries)))) = q11
  generalize (a.f_Restart == b.f_Restart) = q12
  generalize (a.f_Tries == b.f_Tries) = q13
  cases q9; · rfl
  cases q10; · rfl
  cases q4; · rfl
  cases q5; · rfl
  cases q6; · rfl
  cases q7; · rfl
  cases q8; · rfl
  cases q11; · rfl
  cases q12; · rfl
  cases q13; · rfl
  rfl
theorem sameCall_eq (n : Nat) (a b : Cl) (h1 : a.f_Spec.f_Nets.length < 10000) (h2 : a.f_Spec.f_Vols.length < 10000) (hn : 100000 ≤ n) : ref40_SameCall n a b = some (clB a b) := by
  unfold ref40_SameCall clB
  simp only [alike_eq n _ _ h1 h2 hn, lett]
  generalize (a.f_Kind == b.f_Kind) = q1
  generalize (a.f_Name == b.f_Name) = q2
  generalize (a.f_Id == b.f_Id) = q3
  generalize alB a.f_Spec b.f_Spec = q4
  cases q1; · rfl
  cases q2; · rfl
  cases q3; · rfl
  cases q4; · rfl
  rfl
theorem rSame_eq (n : Nat) (a b : St) (ha : Okk a) (hn : 100000 ≤ n) : ref45_Same n a b = some (sameR a b) := by
  unfold ref45_Same sameR
  simp only [ref02_Same_eq n _ _ ha.1 hn, sameCall_eq n _ _ ha.2.1 ha.2.2 hn, bne, lett]
  generalize (a.f_Kind == b.f_Kind) = p1
  generalize (a.f_N == b.f_N) = p2
  generalize (a.f_M == b.f_M) = p3
  generalize clB a.f_Call b.f_Call = q
  generalize (a.f_Command.f_Kind == b.f_Command.f_Kind) = p4
  generalize (a.f_Command.f_Count == b.f_Command.f_Count) = p5
  generalize (a.f_Command.f_Orphans == b.f_Command.f_Orphans) = p6
  generalize (a.f_Command.f_Volumes == b.f_Command.f_Volumes) = p7
  generalize (a.f_Command.f_Timeout == b.f_Command.f_Timeout) = p8
  generalize (a.f_Command.f_Retries == b.f_Command.f_Retries) = p9
  generalize decide (a.f_Command.f_Services = b.f_Command.f_Services) = p10
  cases p1; · rfl
  cases p2; · rfl
  cases p3; · rfl
  cases q; · rfl
  cases p4; · rfl
  cases p10; · rfl
  cases p5; · rfl
  cases p6; · rfl
  cases p7; · rfl
  cases p8; · rfl
  cases p9; · rfl
  rfl
theorem sameR_refl (a : St) : sameR a a = true := by
  unfold sameR clB alB hlB; simp
theorem svcs_len : ∀ l : List BS, (svcs l).1.length ≤ l.length
  | [] => Nat.le_refl _
  | s :: t => by
    unfold svcs
    split
    · have := svcs_len t; simp; omega
    · exact Nat.zero_le _
theorem cmdP_ok {k : Int} {l : List BS} {x : St} {r : List BS} (hl : l.length < 10000) (h : cmdP k l = some (x, r)) : Okk x := by
  unfold cmdP at h
  obtain ⟨p, hp, h⟩ := Option.bind_eq_some_iff.1 h
  obtain ⟨q, hq, h⟩ := Option.bind_eq_some_iff.1 h
  obtain ⟨u, hu, h⟩ := Option.bind_eq_some_iff.1 h
  obtain ⟨t, ht, h⟩ := Option.bind_eq_some_iff.1 h
  cases h
  have hpl : p.2.length ≤ l.length := by
    cases l with
    | nil => cases hp
    | cons s t =>
      simp only [numP] at hp
      obtain ⟨v, _, e⟩ := Option.map_eq_some_iff.1 hp
      cases e
      simp
  have := svcs_len p.2
  exact ⟨by show (svcs p.2).1.length < 10000; omega, by show ([] : List BS).length < 10000; decide, by show ([] : List BS).length < 10000; decide⟩
theorem stOf_ok (k a b : Int) : Okk (stOf k a b) := ⟨by show ([] : List BS).length < 10000; decide, by show ([] : List BS).length < 10000; decide, by show ([] : List BS).length < 10000; decide⟩
theorem callP_ok {l : List BS} {x : Cl} {r : List BS} (h : callP l = some (x, r)) : ∃ k nm id pj, x = callOf k nm id pj := by
  have hk : ∀ (k : Int) (t : List BS), keptP k t = some (x, r) → ∃ k nm id pj, x = callOf k nm id pj := by
    intro k t h
    unfold keptP at h
    obtain ⟨p, _, h⟩ := Option.bind_eq_some_iff.1 h
    obtain ⟨q, _, h⟩ := Option.bind_eq_some_iff.1 h
    cases h
    exact ⟨_, _, _, _, rfl⟩
  have hn : ∀ (k : Int) (t : List BS), nameP k t = some (x, r) → ∃ k nm id pj, x = callOf k nm id pj := by
    intro k t h
    unfold nameP at h
    obtain ⟨p, _, h⟩ := Option.bind_eq_some_iff.1 h
    cases h
    exact ⟨_, _, _, _, rfl⟩
  have hi : ∀ (k : Int) (t : List BS), idP k t = some (x, r) → ∃ k nm id pj, x = callOf k nm id pj := by
    intro k t h
    unfold idP at h
    obtain ⟨p, _, h⟩ := Option.bind_eq_some_iff.1 h
    cases h
    exact ⟨_, _, _, _, rfl⟩
  cases l with
  | nil => cases h
  | cons a t =>
    simp only [callP] at h
    repeat' split at h
    all_goals first
      | exact hk _ _ h
      | exact hn _ _ h
      | exact hi _ _ h
      | cases h
theorem lineP_ok {l : List BS} {x : St} {r : List BS} (hl : l.length < 10000) (h : lineP l = some (x, r)) : Okk x := by
  have h1 : ∀ (k : Int) (t : List BS), oneP k t = some (x, r) → Okk x := by
    intro k t h
    unfold oneP at h
    obtain ⟨p, _, h⟩ := Option.bind_eq_some_iff.1 h
    cases h
    exact stOf_ok _ _ _
  have h2 : ∀ (k : Int) (t : List BS), twoP k t = some (x, r) → Okk x := by
    intro k t h
    unfold twoP at h
    obtain ⟨p, _, h⟩ := Option.bind_eq_some_iff.1 h
    obtain ⟨q, _, h⟩ := Option.bind_eq_some_iff.1 h
    cases h
    exact stOf_ok _ _ _
  have h3 : ∀ (t : List BS), ((callP t).bind fun p => some (S_ref45_Step.mk 9 0 0 zCm p.1, p.2)) = some (x, r) → Okk x := by
    intro t h
    obtain ⟨p, hp, h⟩ := Option.bind_eq_some_iff.1 h
    obtain ⟨k, nm, id, pj, e⟩ := callP_ok (x := p.1) (r := p.2) (by rw [hp])
    cases h
    rw [e]
    exact ⟨by show ([] : List BS).length < 10000; decide, by show ([] : List BS).length < 10000; decide, by show ([] : List BS).length < 10000; decide⟩
  cases l with
  | nil => cases h
  | cons a t =>
    simp only [lineP] at h
    simp only [List.length_cons] at hl
    repeat' split at h
    all_goals first
      | exact cmdP_ok (by omega) h
      | exact h1 _ _ h
      | exact h2 _ _ h
      | exact h3 _ h
      | (cases h; exact stOf_ok _ _ _)
      | cases h
theorem lineR_ok {s : BS} {x : St} (hs : s.length ≤ 9000) (h : lineR s = some x) : Okk x := by
  unfold lineR lineL at h
  have hpl := parts_len 32 s
  cases hp : lineP (parts 32 s) with
  | none => rw [hp] at h; cases h
  | some p =>
    obtain ⟨y, r⟩ := p
    rw [hp] at h
    cases r with
    | nil =>
      cases h
      exact lineP_ok (by omega) hp
    | cons a t => cases h
theorem b35 (c : UInt8) : ((c.toNat : Int) == 35) = decide (c = 35) := beq_byte c 35 (by decide)
def idle (t : BS) : Bool := (t == []) || decide (t[0]?.getD 0 = 35)
theorem cap297 {a : Nat} (h : a ≤ 1000000) : decide ((a + 1) * (296 + 1) ≤ limit) = true := decide_eq_true (by show (a + 1) * (296 + 1) ≤ 140737488355328; omega)
theorem idle_eq (t : BS) : ((!((t == []) == false) || decide (0 ≤ (0 : Int) ∧ (0 : Int) < (List.length t : Int)))) = true ∧ (bif (t == []) then true else (((t[Int.toNat 0]?.getD 0).toNat : Int) == 35)) = idle t := by
  cases t with
  | nil => exact ⟨rfl, rfl⟩
  | cons c t =>
    refine ⟨?_, ?_⟩
    · rw [decide_eq_true (by rw [List.length_cons]; omega), Bool.or_true]
    · have : ((c :: t) == []) = false := rfl
      unfold idle
      rw [this, cond_false, Bool.false_or, b35]; rfl
def rowR (s : BS) (out : List St) : Option (BS × List St) := if idle (rowOf s).1 = true then some ((rowOf s).2, out) else (lineR (rowOf s).1).map fun x => ((rowOf s).2, out ++ [x])
theorem pRead_s (n : Nat) (hn : 2000000 ≤ n) (k : Nat) (s : BS) (out : List St) (no : Nat) (hs : s ≠ []) (h2 : s.length ≤ 10000) (h3 : out.length ≤ no) (h4 : no ≤ 10000) :
    script_Read_l1 n (k + 1) s out ((no + 1 : Nat) : Int) = (rowR s out).elim (some (.inr (((no + 1 : Nat) : Int), 18))) (fun p => script_Read_l1 n k p.1 p.2 ((no + 1 + 1 : Nat) : Int)) := by
  obtain ⟨g1, g2, g3⟩ := rowOf_len s
  have e1 : (s == []) = false := by simpa using hs
  have hcut : (Lib.cut s [10]).1 = (rowOf s).1 ∧ (Lib.cut s [10]).2.1 = (rowOf s).2 := by
    rw [cut_eq]; unfold rowOf
    cases upto 10 s <;> exact ⟨rfl, rfl⟩
  obtain ⟨i1, i2⟩ := idle_eq (rowOf s).1
  rw [script_Read_l1, e1, if_pos (by decide)]
  unfold script_Read_j2
  rw [if_pos (decide_eq_true (by omega)), hcut.1, hcut.2, if_pos i1]
  simp only [i2, lett]
  unfold rowR
  by_cases hi : idle (rowOf s).1 = true
  · rw [if_pos hi, if_pos hi, Option.bind_some, Sum.elim_inl]
    simp only [Option.elim_some]
    rw [wrap_s (no + 1) (by omega)]
  · rw [if_neg hi, if_neg hi, Line_eq n _ (by omega) hn, Option.bind_some]
    cases hl : lineR (rowOf s).1 with
    | none => rfl
    | some x =>
      have hcap : decide ((List.length out + List.length ([x] : List St)) * (296 + 1) ≤ limit) = true := cap297 (by omega)
      simp only [okR, Option.map_some, Option.elim_some]
      have h0 : ¬ ((0 : Int) != 0) = true := by decide
      simp only [if_neg h0, hcap, if_true, Option.bind_some, Sum.elim_inl]
      rw [wrap_s (no + 1) (by omega)]
theorem steps_eq (n : Nat) (l : List St) (hl : l.length ≤ 10000) (hn : 20000 ≤ n) : law45_steps n l = some l := by
  unfold law45_steps
  have := (gather (L := law45_steps_l1 n l) l (fun acc x => acc ++ [x]) id (fun i s => s.length ≤ i) (by omega)
    (fun k s i h hs => by
      have hcap : decide ((List.length s + List.length ([l[i]] : List St)) * (296 + 1) ≤ limit) = true := cap297 (by omega)
      rw [law45_steps_l1, if_pos (lt_i h), if_pos (in_i h), at_i h, if_pos hcap])
    (fun s i h hs => by simp; omega) (fun k s _ => by rw [law45_steps_l1, nlt_n]; rfl) n 0 [] (by omega) (by omega) (by simp)).1
  rw [List.drop_zero, foldl_app (fun x => [x])] at this
  have hf : ∀ l : List St, l.flatMap (fun x => [x]) = l := fun l => by induction l <;> simp_all
  rw [hf] at this
  have this : law45_steps_l1 n l n [] 0 = some l := this
  rw [this]; rfl
theorem lsame_refl (n : Nat) (l : List St) (hl : l.length ≤ 10000) (hok : ∀ x ∈ l, Okk x) (hn : 100000 ≤ n) : law45_same n l l = some true := by
  unfold law45_same
  have := scanL (L := law45_same_l1 n l l) l (fun _ => (none : Option Bool)) 0 (by omega)
    (fun k i h _ => by
      rw [law45_same_l1, if_pos (lt_i h), if_pos (in_i h), if_pos (in_i h), at_i h, rSame_eq n _ _ (hok _ (List.getElem_mem h)) hn, sameR_refl]
      rfl)
    (fun k => by rw [law45_same_l1, nlt_n]; rfl) n 0 (by omega) (by omega) (by omega)
  have hno : ∀ l : List St, l.findSome? (fun _ => (none : Option Bool)) = none := fun l => by induction l <;> simp_all
  rw [hno] at this
  have this : law45_same_l1 n l l n 0 = some (.inl ()) := this
  rw [this, if_neg (by simp)]; rfl
theorem awake45 : law45_awake 2000000 = some true := by kernel_rfl
end Go.Proofs.YtjjlpomfnfipbaaDoor.M
