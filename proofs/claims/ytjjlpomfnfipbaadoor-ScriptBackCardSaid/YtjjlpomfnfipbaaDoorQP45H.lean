/-
  Part of the proof of ScriptBack: P45H.
-/
import Derived.Test.YtjjlpomfnfipbaaDoorQP45G
set_option linter.all false
namespace Go.Proofs.YtjjlpomfnfipbaaDoor.M
open Go Go.Proofs.YtjjlpomfnfipbaaDoor.RX Go.Proofs.YtjjlpomfnfipbaaDoor.PL
theorem lineR_some {s : BS} {x : St} (h : lineR s = some x) : lineP (parts 32 s) = some (x, []) := by
  unfold lineR lineL at h
  cases hp : lineP (parts 32 s) with
  | none => rw [hp] at h; cases h
  | some p =>
    obtain ⟨y, r⟩ := p
    rw [hp] at h
    cases r with
    | nil => cases h; rfl
    | cons a t => cases h
theorem sameR_iff {x y : St} (h : sameR x y = true) : x = y := by
  obtain ⟨k, n, m, ⟨c1, c2, c3, c4, c5, c6, c7⟩, ⟨l1, l2, l3, ⟨s1, s2, s3, s4, s5, s6, s7, ⟨t1, t2, t3, t4⟩, s9, s10⟩⟩⟩ := x
  obtain ⟨k', n', m', ⟨c1', c2', c3', c4', c5', c6', c7'⟩, ⟨l1', l2', l3', ⟨s1', s2', s3', s4', s5', s6', s7', ⟨t1', t2', t3', t4'⟩, s9', s10'⟩⟩⟩ := y
  simp only [sameR, clB, alB, hlB, Bool.and_eq_true, beq_iff_eq, decide_eq_true_eq] at h
  obtain ⟨⟨⟨⟨rfl, rfl⟩, rfl⟩, ⟨⟨⟨rfl, rfl⟩, rfl⟩, ⟨⟨⟨⟨⟨⟨⟨⟨⟨rfl, rfl⟩, rfl⟩, rfl⟩, rfl⟩, rfl⟩, rfl⟩, ⟨rfl, rfl, rfl, rfl⟩⟩, rfl⟩, rfl⟩⟩⟩, ⟨⟨⟨⟨⟨⟨rfl, rfl⟩, rfl⟩, rfl⟩, rfl⟩, rfl⟩, rfl⟩⟩ := h
  rfl
def finT (x : St) (s : BS) : BS := if (lineR s).any (fun y => sameR x y) = true then s else []
theorem finT_len (x : St) (s : BS) : (finT x s).length ≤ s.length := by
  unfold finT; split
  · exact Nat.le_refl _
  · exact Nat.zero_le _
theorem ptext_eq (n : Nat) (x : St) (h : Bd x) (hw : (wr x).length ≤ 100000) (hk : Okk x) (hn : 2000000 ≤ n) : script_Text n x = some (finT x (wr x)) := by
  unfold script_Text finT
  rw [write_eq n x h (by omega), Option.bind_some, Line_eq n _ hw hn, Option.bind_some]
  cases hl : lineR (wr x) with
  | none => rfl
  | some y =>
    have e := pSame_eq n x y hk (by omega)
    show ((if (((0 : Int) != 0) == false) = true then script_Same n x y else some false).bind fun r3 => if (bif ((0 : Int) != 0) then true else (!r3)) = true then some [] else some (wr x)) = some (if sameR x y = true then wr x else [])
    rw [e]
    cases sameR x y <;> rfl
theorem few45 (n : Nat) (l : List BS) (m : Nat) (hm : m ≤ 1000) (hn : 100000 ≤ n) : ∃ b, law02_Few n l (m : Int) = some b ∧ (b = true → l.length ≤ m ∧ ∀ x ∈ l, x.length ≤ 100) := by
  unfold law02_Few
  by_cases h : (l.length : Int) > (m : Int)
  · exact ⟨false, by rw [if_pos (decide_eq_true h)], fun h => by cases h⟩
  · rw [if_neg (by simpa using h)]
    have := scanL (L := law02_Few_l1 n l) l (fun x => if decide ((x.length : Int) > 100) = true then some false else none) 0 (by omega)
      (fun k i h _ => by
        rw [law02_Few_l1, if_pos (lt_i h), if_pos (in_i h), at_i h]
        cases decide ((l[i].length : Int) > 100) <;> rfl)
      (fun k => by rw [law02_Few_l1, nlt_n]; rfl) n 0 (by omega) (by omega) (by omega)
    have this : law02_Few_l1 n l n 0 = _ := this
    rw [this, findSome_anyF (fun x : BS => decide ((x.length : Int) > 100)), List.drop_zero]
    cases ha : l.any (fun x : BS => decide ((x.length : Int) > 100)) with
    | true => exact ⟨false, rfl, fun h => by cases h⟩
    | false =>
      refine ⟨true, rfl, fun _ => ⟨by omega, fun x hx => ?_⟩⟩
      have := List.any_eq_false.1 ha x hx
      simp only [decide_eq_true_eq] at this
      omega
structure Fw (x : St) : Prop where
  sl : x.f_Command.f_Services.length ≤ 20
  s : ∀ w ∈ x.f_Command.f_Services, w.length ≤ 100
  nm : x.f_Call.f_Name.length ≤ 200
  sn : x.f_Call.f_Spec.f_Name.length ≤ 200
  pj : x.f_Call.f_Spec.f_Project.length ≤ 200
  nt : x.f_Call.f_Spec.f_Nets.length ≤ 10
  vl : x.f_Call.f_Spec.f_Vols.length ≤ 10
theorem Few_eq (n : Nat) (x : St) (hn : 100000 ≤ n) : ∃ b, law45_Few n x = some b ∧ (b = true → Fw x) := by
  obtain ⟨b, h1, h2⟩ := few45 n x.f_Command.f_Services 20 (by decide) hn
  have h1 : law02_Few n x.f_Command.f_Services 20 = some b := h1
  unfold law45_Few
  rw [h1, Option.bind_some]
  simp only [lett]
  refine ⟨_, rfl, fun h => ?_⟩
  simp only [Bool.cond_false_right, Bool.and_eq_true, decide_eq_true_eq] at h
  obtain ⟨⟨⟨⟨⟨a1, a2⟩, a3⟩, a4⟩, a5⟩, a6⟩ := h
  obtain ⟨s1, s2⟩ := h2 a1
  exact ⟨s1, s2, by omega, by omega, by omega, by omega, by omega⟩
theorem Fw.okk {x : St} (h : Fw x) : Okk x := ⟨by have := h.sl; omega, by have := h.nt; omega, by have := h.vl; omega⟩
theorem Fw.bd {x : St} (h : Fw x) (hx : W_ref45_Step x) : Bd x := by
  obtain ⟨k1, k2, k3, k4, k5⟩ := hx
  have e1 : IntKind.min .i64 = -9223372036854775808 := rfl
  have e2 : IntKind.max .i64 = 9223372036854775807 := rfl
  obtain ⟨c1, c2, c3, _, _, c4, c5⟩ := k4
  obtain ⟨d1, d2, d3, d4⟩ := k5
  simp only [e1, e2] at k2 k3 c3 c4 c5 d3
  refine ⟨k2, k3, c3, ?_, ?_, ?_, by have := h.sl; omega, fun w hw => by have := h.s w hw; omega, by have := h.nm; omega, by have := h.sn; omega, by have := h.pj; omega⟩
  · exact c4
  · exact c5
  · exact d3
theorem Fw.len {x : St} (h : Fw x) : (wr x).length ≤ 3900 := by
  have hN := txI_len x.f_N
  have hM := txI_len x.f_M
  have hI := txI_len x.f_Call.f_Id
  have h1 := h.nm
  have h2 := h.sn
  have h3 := h.pj
  have ho1 : ∀ (a : BS) (v : Int), a.length ≤ 10 → (tl (optW a v)).length ≤ 50 := by
    intro a v ha
    have := txI_len v
    unfold optW
    split
    · simp [tl]
    · simp [tl]; omega
  have ho2 : ∀ (a : BS) (v : Bool), a.length ≤ 10 → (tl (flgW a v)).length ≤ 50 := by
    intro a v ha
    unfold flgW
    split
    · simp [tl]; omega
    · simp [tl]
  have o1 := ho1 [45, 110] x.f_Command.f_Count (by decide)
  have o2 := ho2 [45, 111] x.f_Command.f_Orphans (by decide)
  have o3 := ho2 [45, 118] x.f_Command.f_Volumes (by decide)
  have o4 := ho1 [45, 116] x.f_Command.f_Timeout (by decide)
  have o5 := ho1 [45, 114] x.f_Command.f_Retries (by decide)
  have hwl : (cmdW x.f_Command.f_Kind).length ≤ 10 := by
    unfold cmdW
    split
    · rename_i hk
      have : x.f_Command.f_Kind = 1 ∨ x.f_Command.f_Kind = 2 ∨ x.f_Command.f_Kind = 3 ∨ x.f_Command.f_Kind = 4 ∨ x.f_Command.f_Kind = 5 ∨ x.f_Command.f_Kind = 6 := by omega
      rcases this with e | e | e | e | e | e <;> rw [e] <;> decide
    · exact Nat.zero_le _
  have hsv := tl_len 100 _ h.s
  have hmul : x.f_Command.f_Services.length * 101 ≤ 20 * 101 := Nat.mul_le_mul_right _ h.sl
  unfold wr wds
  by_cases k2 : x.f_Kind = 2
  · rw [if_pos k2]; decide
  rw [if_neg k2]
  by_cases k8 : x.f_Kind = 8
  · rw [if_pos k8]; decide
  rw [if_neg k8]
  by_cases k3 : x.f_Kind = 3
  · rw [if_pos k3]; simp [jw, tl]; omega
  rw [if_neg k3]
  by_cases k5 : x.f_Kind = 5
  · rw [if_pos k5]; simp [jw, tl]; omega
  rw [if_neg k5]
  by_cases k6 : x.f_Kind = 6
  · rw [if_pos k6]; simp [jw, tl]; omega
  rw [if_neg k6]
  by_cases k4 : x.f_Kind = 4
  · rw [if_pos k4]; simp [jw, tl]; omega
  rw [if_neg k4]
  by_cases k7 : x.f_Kind = 7
  · rw [if_pos k7]; simp [jw, tl]; omega
  rw [if_neg k7]
  by_cases k9 : x.f_Kind = 9
  · rw [if_pos k9]
    unfold callW
    repeat' split
    all_goals (simp [jw, tl]; try omega)
  rw [if_neg k9]
  unfold svW
  simp only [jw, tl_cons, tl_app, List.length_append, List.length_cons]
  omega
def tx (x : St) : BS := finT x (wr x)
theorem show_l (n : Nat) (l : List St) (hb : ∀ x ∈ l, script_Text n x = some (tx x) ∧ (tx x).length ≤ 10000) (hl : l.length ≤ 900) : ∀ (k i : Nat) (acc : BS), i ≤ l.length → l.length - i < k → acc.length ≤ i * 10001 → script_Show_l1 n l (l.length : Int) k (i : Int) acc = some (acc ++ (l.drop i).flatMap fun x => tx x ++ [10])
  | 0, i, acc, _, h, _ => by omega
  | k + 1, i, acc, h1, h2, h3 => by
    rw [script_Show_l1]
    by_cases hi : i < l.length
    · obtain ⟨e1, e2⟩ := hb _ (List.getElem_mem hi)
      rw [if_pos (lt_i hi), if_pos (in_i hi), at_i hi, e1, Option.bind_some, if_pos (fits (by omega)), if_pos (by have := fits (a := (acc ++ tx l[i]).length) (b := 1) (by simp; omega); exact this), wrap_s i (by omega), show_l n l hb hl k (i + 1) _ (by omega) (by omega) (by simp; omega), drop_at hi]
      simp only [List.flatMap_cons, List.append_assoc]
    · have : i = l.length := by omega
      subst this
      rw [nlt_n, if_neg Bool.false_ne_true]
      simp
theorem Show_eq (n : Nat) (l : List St) (hb : ∀ x ∈ l, script_Text n x = some (tx x) ∧ (tx x).length ≤ 10000) (hl : l.length ≤ 900) (hn : 2000 ≤ n) : script_Show n l = some (l.flatMap fun x => tx x ++ [10]) := by
  unfold script_Show
  have h := show_l n l hb hl n 0 [] (by omega) (by omega) (by simp)
  have h : script_Show_l1 n l (l.length : Int) n 0 [] = _ := h
  rw [h, Option.bind_some]
  simp
end Go.Proofs.YtjjlpomfnfipbaaDoor.M
