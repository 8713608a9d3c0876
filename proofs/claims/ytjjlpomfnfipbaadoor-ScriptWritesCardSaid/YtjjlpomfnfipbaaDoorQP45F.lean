import Derived.Test.YtjjlpomfnfipbaaDoorQP45E
set_option linter.all false
namespace Go.Proofs.YtjjlpomfnfipbaaDoor.M
open Go Go.Proofs.YtjjlpomfnfipbaaDoor.RX Go.Proofs.YtjjlpomfnfipbaaDoor.PL
theorem slicesEq (n : Nat) (l m : List BS) (hl : l.length < 10000) (hn : 100000 ≤ n) : slices_Equal_string_string n l m = some (decide (l = m)) := by
  unfold slices_Equal_string_string
  by_cases hlm : l.length = m.length
  · have e : ((List.length l : Int) != (List.length m : Int)) = false := by simp [hlm]
    have := same_l (L := slices_Equal_string_string_l1 n l m (l.length : Int)) l m hlm hl
      (fun k i h h' => by rw [slices_Equal_string_string_l1, if_pos (lt_i h), if_pos (in_i h), if_pos (in_i h'), at_i h, at_i h'])
      (fun k => by rw [slices_Equal_string_string_l1, nlt_n]; rfl) n 0 (by omega) (by omega)
    rw [e, if_neg Bool.false_ne_true, show (0 : Int) = ((0 : Nat) : Int) from rfl, this, List.drop_zero, List.drop_zero]
    by_cases h : l = m
    · rw [if_pos h, decide_eq_true h]; rfl
    · rw [if_neg h, decide_eq_false h]; rfl
  · have e : ((List.length l : Int) != (List.length m : Int)) = true := by simpa using fun h => hlm (by omega)
    rw [e, if_pos rfl, decide_eq_false (fun h => hlm (congrArg List.length h))]
def hlB (a b : S_api_Check) : Bool := (a.f_Test == b.f_Test) && ((a.f_Every == b.f_Every) && ((a.f_Start == b.f_Start) && (a.f_Retries == b.f_Retries)))
def sameA (a b : St) : Bool := (a.f_Kind == b.f_Kind) && (a.f_N == b.f_N) && (a.f_M == b.f_M) && (a.f_Command.f_Kind == b.f_Command.f_Kind) && (a.f_Command.f_Count == b.f_Command.f_Count) && (a.f_Command.f_Orphans == b.f_Command.f_Orphans) && (a.f_Command.f_Volumes == b.f_Command.f_Volumes) && (a.f_Command.f_Timeout == b.f_Command.f_Timeout) && (a.f_Command.f_Retries == b.f_Command.f_Retries) && decide (a.f_Command.f_Services = b.f_Command.f_Services)
  && (a.f_Call.f_Kind == b.f_Call.f_Kind) && (a.f_Call.f_Name == b.f_Call.f_Name) && (a.f_Call.f_Id == b.f_Call.f_Id) && (a.f_Call.f_Spec.f_Name == b.f_Call.f_Spec.f_Name) && (a.f_Call.f_Spec.f_Project == b.f_Call.f_Spec.f_Project) && (a.f_Call.f_Spec.f_Service == b.f_Call.f_Spec.f_Service) && (a.f_Call.f_Spec.f_Number == b.f_Call.f_Spec.f_Number) && (a.f_Call.f_Spec.f_Hash == b.f_Call.f_Spec.f_Hash)
  && decide (a.f_Call.f_Spec.f_Nets = b.f_Call.f_Spec.f_Nets) && decide (a.f_Call.f_Spec.f_Vols = b.f_Call.f_Spec.f_Vols) && hlB a.f_Call.f_Spec.f_Health b.f_Call.f_Spec.f_Health && (a.f_Call.f_Spec.f_Restart == b.f_Call.f_Spec.f_Restart) && (a.f_Call.f_Spec.f_Tries == b.f_Call.f_Spec.f_Tries)
def alB (a b : S_api_Spec) : Bool := decide (a.f_Nets = b.f_Nets) && decide (a.f_Vols = b.f_Vols) && (a.f_Name == b.f_Name) && (a.f_Project == b.f_Project) && (a.f_Service == b.f_Service) && (a.f_Number == b.f_Number) && (a.f_Hash == b.f_Hash) && hlB a.f_Health b.f_Health && (a.f_Restart == b.f_Restart) && (a.f_Tries == b.f_Tries)
def clB (a b : Cl) : Bool := (a.f_Kind == b.f_Kind) && (a.f_Name == b.f_Name) && (a.f_Id == b.f_Id) && alB a.f_Spec b.f_Spec
def sameR (a b : St) : Bool := (a.f_Kind == b.f_Kind) && (a.f_N == b.f_N) && (a.f_M == b.f_M) && clB a.f_Call b.f_Call && ((a.f_Command.f_Kind == b.f_Command.f_Kind) && decide (a.f_Command.f_Services = b.f_Command.f_Services) && (a.f_Command.f_Count == b.f_Command.f_Count) && (a.f_Command.f_Orphans == b.f_Command.f_Orphans) && (a.f_Command.f_Volumes == b.f_Command.f_Volumes) && (a.f_Command.f_Timeout == b.f_Command.f_Timeout) && (a.f_Command.f_Retries == b.f_Command.f_Retries))
theorem sameA_eq (a b : St) : sameA a b = sameR a b := by
  unfold sameA sameR clB alB
  ac_rfl
def Okk (a : St) : Prop := a.f_Command.f_Services.length < 10000 ∧ a.f_Call.f_Spec.f_Nets.length < 10000 ∧ a.f_Call.f_Spec.f_Vols.length < 10000
theorem pSame_eq (n : Nat) (a b : St) (ha : Okk a) (hn : 100000 ≤ n) : script_Same n a b = some (sameR a b) := by
  rw [← sameA_eq]
  unfold script_Same sameA
  simp only [slicesEq n _ _ ha.1 hn, slicesEq n _ _ ha.2.1 hn, slicesEq n _ _ ha.2.2 hn, bne, lett]
  show _ = some ((a.f_Kind == b.f_Kind) && (a.f_N == b.f_N) && (a.f_M == b.f_M) && (a.f_Command.f_Kind == b.f_Command.f_Kind) && (a.f_Command.f_Count == b.f_Command.f_Count) && (a.f_Command.f_Orphans == b.f_Command.f_Orphans) && (a.f_Command.f_Volumes == b.f_Command.f_Volumes) && (a.f_Command.f_Timeout == b.f_Command.f_Timeout) && (a.f_Command.f_Retries == b.f_Command.f_Retries) && decide (a.f_Command.f_Services = b.f_Command.f_Services)
    && (a.f_Call.f_Kind == b.f_Call.f_Kind) && (a.f_Call.f_Name == b.f_Call.f_Name) && (a.f_Call.f_Id == b.f_Call.f_Id) && (a.f_Call.f_Spec.f_Name == b.f_Call.f_Spec.f_Name) && (a.f_Call.f_Spec.f_Project == b.f_Call.f_Spec.f_Project) && (a.f_Call.f_Spec.f_Service == b.f_Call.f_Spec.f_Service) && (a.f_Call.f_Spec.f_Number == b.f_Call.f_Spec.f_Number) && (a.f_Call.f_Spec.f_Hash == b.f_Call.f_Spec.f_Hash)
    && decide (a.f_Call.f_Spec.f_Nets = b.f_Call.f_Spec.f_Nets) && decide (a.f_Call.f_Spec.f_Vols = b.f_Call.f_Spec.f_Vols) && ((a.f_Call.f_Spec.f_Health.f_Test == b.f_Call.f_Spec.f_Health.f_Test) && ((a.f_Call.f_Spec.f_Health.f_Every == b.f_Call.f_Spec.f_Health.f_Every) && ((a.f_Call.f_Spec.f_Health.f_Start == b.f_Call.f_Spec.f_Health.f_Start) && (a.f_Call.f_Spec.f_Health.f_Retries == b.f_Call.f_Spec.f_Health.f_Retries)))) && (a.f_Call.f_Spec.f_Restart == b.f_Call.f_Spec.f_Restart) && (a.f_Call.f_Spec.f_Tries == b.f_Call.f_Spec.f_Tries))
  generalize (a.f_Kind == b.f_Kind) = p1
  generalize (a.f_N == b.f_N) = p2
  generalize (a.f_M == b.f_M) = p3
  generalize (a.f_Command.f_Kind == b.f_Command.f_Kind) = p4
  generalize (a.f_Command.f_Count == b.f_Command.f_Count) = p5
  generalize (a.f_Command.f_Orphans == b.f_Command.f_Orphans) = p6
  generalize (a.f_Command.f_Volumes == b.f_Command.f_Volumes) = p7
  generalize (a.f_Command.f_Timeout == b.f_Command.f_Timeout) = p8
  generalize (a.f_Command.f_Retries == b.f_Command.f_Retries) = p9
  generalize decide (a.f_Command.f_Services = b.f_Command.f_Services) = p10
  generalize (a.f_Call.f_Kind == b.f_Call.f_Kind) = q1
  generalize (a.f_Call.f_Name == b.f_Call.f_Name) = q2
  generalize (a.f_Call.f_Id == b.f_Call.f_Id) = q3
  generalize (a.f_Call.f_Spec.f_Name == b.f_Call.f_Spec.f_Name) = q4
  generalize (a.f_Call.f_Spec.f_Project == b.f_Call.f_Spec.f_Project) = q5
  generalize (a.f_Call.f_Spec.f_Service == b.f_Call.f_Spec.f_Service) = q6
  generalize (a.f_Call.f_Spec.f_Number == b.f_Call.f_Spec.f_Number) = q7
  generalize (a.f_Call.f_Spec.f_Hash == b.f_Call.f_Spec.f_Hash) = q8
  generalize decide (a.f_Call.f_Spec.f_Nets = b.f_Call.f_Spec.f_Nets) = q9
  generalize decide (a.f_Call.f_Spec.f_Vols = b.f_Call.f_Spec.f_Vols) = q10
  generalize ((a.f_Call.f_Spec.f_Health.f_Test == b.f_Call.f_Spec.f_Health.f_Test) && ((a.f_Call.f_Spec.f_Health.f_Every == b.f_Call.f_Spec.f_Health.f_Every) && ((a.f_Call.f_Spec.f_Health.f_Start == b.f_Call.f_Spec.f_Health.f_Start) && (a.f_Call.f_Spec.f_Health.f_Retries == b.f_Call.f_Spec.f_Health.f_Retries)))) = q11
  generalize (a.f_Call.f_Spec.f_Restart == b.f_Call.f_Spec.f_Restart) = q12
  generalize (a.f_Call.f_Spec.f_Tries == b.f_Call.f_Spec.f_Tries) = q13
  cases p1; · rfl
  cases p2; · rfl
  cases p3; · rfl
  cases p4; · rfl
  cases p5; · rfl
  cases p6; · rfl
  cases p7; · rfl
  cases p8; · rfl
  cases p9; · rfl
  cases p10; · rfl
  cases q1; · rfl
  cases q2; · rfl
  cases q3; · rfl
  cases q4; · rfl
  cases q5; · rfl
  cases q6; · rfl
  cases q7; · rfl
  cases q8; · rfl
  cases q9; · rfl
  cases q10; · rfl
  cases q11; · rfl
  cases q12; · rfl
  cases q13; · rfl
  rfl
theorem alike_eq (n : Nat) (a b : S_api_Spec) (h1 : a.f_Nets.length < 10000) (h2 : a.f_Vols.length < 10000) (hn : 100000 ≤ n) : ref27_Alike n a b = some (alB a b) := by
  unfold ref27_Alike alB hlB
  simp only [ref02_Same_eq n _ _ h1 hn, ref02_Same_eq n _ _ h2 hn, lett, Option.bind_some]
  generalize (a.f_Name == b.f_Name) = q4
  generalize (a.f_Project == b.f_Project) = q5
  generalize (a.f_Service == b.f_Service) = q6
  generalize (a.f_Number == b.f_Number) = q7
  generalize (a.f_Hash == b.f_Hash) = q8
  generalize decide (a.f_Nets = b.f_Nets) = q9
  generalize decide (a.f_Vols = b.f_Vols) = q10
  generalize ((a.f_Health.f_Test == b.f_Health.f_Test) && ((a.f_Health.f_Every == b.f_Health.f_Every) && ((a.f_Health.f_Start == b.f_Health.f_Start) && (a.f_Health.f_Retries == b.f_Health.f_Retries)))) = q11
  generalize (a.f_Restart == b.f_Restart) = q12
  generalize (a.f_Tries == b.f_Tries) = q13
  cases q9; · rfl
  cases q10; · rfl
  cases q4; · rfl
  cases q5; · rfl
  cases q6; · rfl
  cases q7; · rfl
  cases q8; · rfl
  cases q11; · rfl
  cases q12; · rfl
  cases q13; · rfl
  rfl
theorem sameCall_eq (n : Nat) (a b : Cl) (h1 : a.f_Spec.f_Nets.length < 10000) (h2 : a.f_Spec.f_Vols.length < 10000) (hn : 100000 ≤ n) : ref40_SameCall n a b = some (clB a b) := by
  unfold ref40_SameCall clB
  simp only [alike_eq n _ _ h1 h2 hn, lett]
  generalize (a.f_Kind == b.f_Kind) = q1
  generalize (a.f_Name == b.f_Name) = q2
  generalize (a.f_Id == b.f_Id) = q3
  generalize alB a.f_Spec b.f_Spec = q4
  cases q1; · rfl
  cases q2; · rfl
  cases q3; · rfl
  cases q4; · rfl
  rfl
theorem rSame_eq (n : Nat) (a b : St) (ha : Okk a) (hn : 100000 ≤ n) : ref45_Same n a b = some (sameR a b) := by
  unfold ref45_Same sameR
  simp only [ref02_Same_eq n _ _ ha.1 hn, sameCall_eq n _ _ ha.2.1 ha.2.2 hn, bne, lett]
  generalize (a.f_Kind == b.f_Kind) = p1
  generalize (a.f_N == b.f_N) = p2
  generalize (a.f_M == b.f_M) = p3
  generalize clB a.f_Call b.f_Call = q
  generalize (a.f_Command.f_Kind == b.f_Command.f_Kind) = p4
  generalize (a.f_Command.f_Count == b.f_Command.f_Count) = p5
  generalize (a.f_Command.f_Orphans == b.f_Command.f_Orphans) = p6
  generalize (a.f_Command.f_Volumes == b.f_Command.f_Volumes) = p7
  generalize (a.f_Command.f_Timeout == b.f_Command.f_Timeout) = p8
  generalize (a.f_Command.f_Retries == b.f_Command.f_Retries) = p9
  generalize decide (a.f_Command.f_Services = b.f_Command.f_Services) = p10
  cases p1; · rfl
  cases p2; · rfl
  cases p3; · rfl
  cases q; · rfl
  cases p4; · rfl
  cases p10; · rfl
  cases p5; · rfl
  cases p6; · rfl
  cases p7; · rfl
  cases p8; · rfl
  cases p9; · rfl
  rfl
theorem awake45 : law45_awake 2000000 = some true := by kernel_rfl
end Go.Proofs.YtjjlpomfnfipbaaDoor.M
