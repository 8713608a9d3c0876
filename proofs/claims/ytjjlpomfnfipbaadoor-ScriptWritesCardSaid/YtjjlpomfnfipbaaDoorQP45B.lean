import Derived.Test.YtjjlpomfnfipbaaDoorQP45
set_option linter.all false
namespace Go.Proofs.YtjjlpomfnfipbaaDoor.M
open Go Go.Proofs.YtjjlpomfnfipbaaDoor.RX Go.Proofs.YtjjlpomfnfipbaaDoor.PL
theorem next_cons (n : Nat) (s : BS) (t : List BS) (b : Bool) : script_words_next__o0 n (S_script_words.mk (s :: t) b) = some (s, S_script_words.mk t b) := next_eq n (s :: t) b
theorem next_nil (n : Nat) (b : Bool) : script_words_next__o0 n (S_script_words.mk [] b) = some ([], S_script_words.mk [] true) := next_eq n [] b
theorem num_cons (n : Nat) (s : BS) (t : List BS) (b : Bool) (hl : Small (s :: t)) (hn : 200000 ≤ n) : script_words_number__o0 n (S_script_words.mk (s :: t) b) = some ((ncount s MOST).1, S_script_words.mk t (b || (ncount s MOST).2 != 0)) := number_eq n (s :: t) b hl hn
theorem num_nil (n : Nat) (b : Bool) (hn : 200000 ≤ n) : script_words_number__o0 n (S_script_words.mk [] b) = some (0, S_script_words.mk [] true) := number_eq n [] b (fun x hx => by cases hx) hn
theorem RdO.bind {α β : Type} {o : Option (α × Ws)} {b : Bool} {sp : Option (α × List BS)} (h : RdO o b sp) {f : α × Ws → Option (β × Ws)} {G : α × List BS → Option (β × List BS)} (hf : ∀ v w, Small w.f_l → RdO (f (v, w)) w.f_bad (G (v, w.f_l))) : RdO (o.bind f) b (sp.bind G) := by
  obtain ⟨v, w, rfl, h2, h3, h4⟩ := h
  obtain ⟨v', w', q1, q2, q3, q4⟩ := hf v w h2
  refine ⟨v', w', by rw [Option.bind_some]; exact q1, q2, fun hb => q3 (h3 hb), fun hb => ?_⟩
  have h4 := h4 hb
  cases sp with
  | none => exact q3 h4
  | some p =>
    obtain ⟨x, r⟩ := p
    obtain ⟨rfl, rfl⟩ := h4
    exact q4 rfl
theorem RdO.ret {α : Type} (x : α) (w : Ws) (h : Small w.f_l) : RdO (some (x, w)) w.f_bad (some (x, w.f_l)) := ⟨x, w, rfl, h, fun hb => hb, fun hb => ⟨rfl, by rw [← hb]⟩⟩
theorem num_rd (n : Nat) (w : Ws) (hl : Small w.f_l) (hn : 200000 ≤ n) : RdO (script_words_number__o0 n w) w.f_bad (numP w.f_l) := numr_eq n w.f_l w.f_bad hl hn
theorem opt_rd (n : Nat) (a : BS) (w : Ws) (hl : Small w.f_l) (hn : 200000 ≤ n) : RdO (script_words_option__o0 n a w) w.f_bad (optP a w.f_l) := option_eq n a w.f_l w.f_bad hl hn
theorem key_rd (n : Nat) (w : Ws) (hl : Small w.f_l) (hn : 200000 ≤ n) : RdO (script_words_key__o0 n w) w.f_bad (keyP w.f_l) := keyr_eq n w.f_l w.f_bad hl hn
def svcs : List BS → List BS × List BS
  | [] => ([], [])
  | s :: t => if svB s = true then (s :: (svcs t).1, (svcs t).2) else ([], s :: t)
theorem svcs_small : ∀ {l : List BS}, Small l → Small (svcs l).2
  | [], h => h
  | s :: t, h => by
    unfold svcs
    split
    · exact svcs_small h.tail
    · exact h
def cmdP (kind : Int) : Pr St := fun l => (numP l).bind fun p => (optP [45, 110] (svcs p.2).2).bind fun q => (optP [45, 116] (flg [45, 118] (flg [45, 111] q.2).2).2).bind fun r => (optP [45, 114] r.2).bind fun t =>
  some (S_ref45_Step.mk 1 p.1 0 (S_api_Command.mk kind (svcs p.2).1 q.1 (flg [45, 111] q.2).1 (flg [45, 118] (flg [45, 111] q.2).2).1 r.1 t.1) zCl, t.2)
theorem flg_small {a : BS} {l : List BS} (h : Small l) : Small (flg a l).2 := by
  unfold flg
  split
  · intro x hx; exact h x (List.mem_of_mem_tail hx)
  · exact h
theorem cmd_l1 (n : Nat) (b4 : St) (hn : 200000 ≤ n) : ∀ (k : Nat) (l : List BS) (b : Bool) (b5 : St), l.length < k → b5.f_Command.f_Services.length + l.length ≤ 1000000 →
    script_words_command__o0_l1 n b4 k b5 (S_script_words.mk l b) = some (S_ref45_Step.mk b5.f_Kind b5.f_N b5.f_M (S_api_Command.mk b5.f_Command.f_Kind (b5.f_Command.f_Services ++ (svcs l).1) b5.f_Command.f_Count b5.f_Command.f_Orphans b5.f_Command.f_Volumes b5.f_Command.f_Timeout b5.f_Command.f_Retries) b5.f_Call, S_script_words.mk (svcs l).2 b)
  | 0, l, b, b5, h, _ => by omega
  | k + 1, l, b, b5, h1, h2 => by
    rw [script_words_command__o0_l1]
    cases l with
    | nil => simp [svcs]
    | cons s t =>
      have g1 : decide ((List.length (s :: t) : Int) > 0) = true := decide_eq_true (by rw [List.length_cons]; omega)
      have g2 : decide (0 ≤ (0 : Int) ∧ (0 : Int) < (List.length (s :: t) : Int)) = true := decide_eq_true (by rw [List.length_cons]; omega)
      have g3 : (s :: t)[Int.toNat 0]?.getD [] = s := rfl
      simp only [g1, g2, g3, Bool.or_true, if_true, beq_self_eq_true, cond_true]
      rw [name_Service_eq n s (by omega), Option.bind_some]
      have hs : isName sv1 sv2 s = svB s := rfl
      rw [hs]
      unfold svcs
      by_cases h : svB s = true
      · rw [if_pos h, if_pos h, next_cons, Option.bind_some]
        simp only [List.length_cons] at h1 h2
        rw [if_pos (cap_add (by simp; omega)), cmd_l1 n b4 hn k t b _ (by omega) (by simp; omega)]
        simp
      · rw [if_neg h, if_neg h]; simp
theorem cmd_rest (n : Nat) (kind : Int) (v : Int) (w : Ws) (hl : Small w.f_l) (hlen : w.f_l.length ≤ 1000000) (hn : 2000000 ≤ n) (b4 : St) :
    RdO ((script_words_command__o0_l1 n b4 n (S_ref45_Step.mk 1 v 0 (S_api_Command.mk kind [] 0 false false 0 0) (S_api_Call.mk 0 [] 0 (S_api_Spec.mk [] [] [] 0 [] [] [] (S_api_Check.mk [] 0 0 0) 0 0))) w).bind fun o2 =>
      (script_words_option__o0 n [45, 110] o2.2).bind fun r3 =>
      (script_words_flag__o0 n [45, 111] r3.2).bind fun r4 =>
      (script_words_flag__o0 n [45, 118] r4.2).bind fun r5 =>
      (script_words_option__o0 n [45, 116] r5.2).bind fun r6 =>
      (script_words_option__o0 n [45, 114] r6.2).bind fun r7 =>
      some ((S_ref45_Step.mk o2.1.f_Kind o2.1.f_N o2.1.f_M (S_api_Command.mk o2.1.f_Command.f_Kind o2.1.f_Command.f_Services r3.1 r4.1 r5.1 r6.1 r7.1) o2.1.f_Call), r7.2)) w.f_bad
    ((optP [45, 110] (svcs w.f_l).2).bind fun q => (optP [45, 116] (flg [45, 118] (flg [45, 111] q.2).2).2).bind fun r => (optP [45, 114] r.2).bind fun t =>
      some (S_ref45_Step.mk 1 v 0 (S_api_Command.mk kind (svcs w.f_l).1 q.1 (flg [45, 111] q.2).1 (flg [45, 118] (flg [45, 111] q.2).2).1 r.1 t.1) zCl, t.2)) := by
  have h1 := cmd_l1 n b4 (by omega) n w.f_l w.f_bad (S_ref45_Step.mk 1 v 0 (S_api_Command.mk kind [] 0 false false 0 0) (S_api_Call.mk 0 [] 0 (S_api_Spec.mk [] [] [] 0 [] [] [] (S_api_Check.mk [] 0 0 0) 0 0))) (by omega) (by simp; omega)
  have h1 : script_words_command__o0_l1 n b4 n (S_ref45_Step.mk 1 v 0 (S_api_Command.mk kind [] 0 false false 0 0) (S_api_Call.mk 0 [] 0 (S_api_Spec.mk [] [] [] 0 [] [] [] (S_api_Check.mk [] 0 0 0) 0 0))) w = _ := h1
  rw [h1, Option.bind_some]
  simp only [List.nil_append]
  refine RdO.bind (opt_rd n [45, 110] (S_script_words.mk (svcs w.f_l).2 w.f_bad) (svcs_small hl) (by omega)) fun c w2 hw2 => ?_
  simp only
  have f1 := flag_eq n [45, 111] w2.f_l w2.f_bad
  have f1 : script_words_flag__o0 n [45, 111] w2 = _ := f1
  have f2 := flag_eq n [45, 118] (flg [45, 111] w2.f_l).2 w2.f_bad
  rw [f1, Option.bind_some]
  simp only
  rw [f2, Option.bind_some]
  simp only
  refine RdO.bind (opt_rd n [45, 116] (S_script_words.mk (flg [45, 118] (flg [45, 111] w2.f_l).2).2 w2.f_bad) (flg_small (flg_small hw2)) (by omega)) fun t w3 hw3 => ?_
  simp only
  refine RdO.bind (opt_rd n [45, 114] w3 hw3 (by omega)) fun r w4 hw4 => ?_
  exact RdO.ret _ w4 hw4
theorem cmd_rd (n : Nat) (kind : Int) (w : Ws) (hl : Small w.f_l) (hlen : w.f_l.length ≤ 1000000) (hn : 2000000 ≤ n) : RdO (script_words_command__o0 n kind w) w.f_bad (cmdP kind w.f_l) := by
  obtain ⟨l, b⟩ := w
  simp only at hl hlen ⊢
  unfold script_words_command__o0 cmdP
  cases l with
  | nil =>
    rw [num_nil n b (by omega), Option.bind_some]
    obtain ⟨v, w', q1, q2, q3, q4⟩ := cmd_rest n kind 0 (S_script_words.mk [] true) (fun x hx => by cases hx) (by simp) hn (S_ref45_Step.mk 0 0 0 (S_api_Command.mk 0 [] 0 false false 0 0) (S_api_Call.mk 0 [] 0 (S_api_Spec.mk [] [] [] 0 [] [] [] (S_api_Check.mk [] 0 0 0) 0 0)))
    exact ⟨v, w', q1, q2, fun _ => q3 rfl, fun _ => q3 rfl⟩
  | cons s t =>
    rw [num_cons n s t b hl (by omega), Option.bind_some]
    simp only [List.length_cons] at hlen
    obtain ⟨v, w', q1, q2, q3, q4⟩ := cmd_rest n kind (ncount s MOST).1 (S_script_words.mk t (b || (ncount s MOST).2 != 0)) hl.tail (by simp only; omega) hn (S_ref45_Step.mk 0 0 0 (S_api_Command.mk 0 [] 0 false false 0 0) (S_api_Call.mk 0 [] 0 (S_api_Spec.mk [] [] [] 0 [] [] [] (S_api_Check.mk [] 0 0 0) 0 0)))
    refine ⟨v, w', q1, q2, fun hb => q3 (by simp [hb]), fun hb => ?_⟩
    simp only [numP, numV]
    by_cases hz : (ncount s MOST).2 = 0
    · rw [if_pos hz]
      exact q4 (by simp [hb, hz])
    · rw [if_neg hz]
      exact q3 (by simp [hz])
def callOf (k : Int) (nm : BS) (id : Int) (pj : BS) : Cl := S_api_Call.mk k nm id (S_api_Spec.mk [] pj [] 0 [] [] [] (S_api_Check.mk [] 0 0 0) 0 0)
def keptP (k : Int) : Pr Cl := fun l => (keyP l).bind fun p => (pjP p.2).bind fun q => some (callOf k p.1 0 q.1, q.2)
def nameP (k : Int) : Pr Cl := fun l => (keyP l).bind fun p => some (callOf k p.1 0 [], p.2)
def idP (k : Int) : Pr Cl := fun l => (numP l).bind fun p => some (callOf k [] p.1 [], p.2)
def callP : Pr Cl
  | [] => none
  | h :: t => if h = [109, 97, 107, 101, 45, 110, 101, 116] then keptP 1 t else if h = [109, 97, 107, 101, 45, 118, 111, 108] then keptP 2 t
    else if h = [100, 114, 111, 112, 45, 110, 101, 116] then nameP 3 t else if h = [100, 114, 111, 112, 45, 118, 111, 108] then nameP 4 t
    else if h = [115, 116, 97, 114, 116] then idP 6 t else if h = [115, 116, 111, 112] then idP 7 t else if h = [100, 114, 111, 112] then idP 8 t else none
theorem kept_rd (n : Nat) (k : Int) (w : Ws) (hl : Small w.f_l) (hn : 200000 ≤ n) : RdO (script_words_kept__o0 n k w) w.f_bad (keptP k w.f_l) := by
  unfold script_words_kept__o0 keptP
  refine RdO.bind (key_rd n w hl hn) fun nm w2 hw2 => ?_
  obtain ⟨l2, b2⟩ := w2
  simp only at hw2 ⊢
  cases l2 with
  | nil =>
    rw [next_nil, Option.bind_some]
    exact ⟨callOf k nm 0 [], S_script_words.mk [] true, rfl, fun x hx => (by cases hx), fun _ => rfl, fun _ => rfl⟩
  | cons s t =>
    rw [next_cons, Option.bind_some]
    simp only
    cases b2 with
    | true => exact ⟨_, S_script_words.mk t true, rfl, hw2.tail, fun _ => rfl, fun h => by cases h⟩
    | false =>
      rw [if_pos (show (false == false) = true from rfl), name_Project_eq n s (by omega), Option.bind_some]
      have hp : isName pr1 pr2 s = pjB s := rfl
      rw [hp]
      simp only [pjP]
      cases hpj : pjB s with
      | true => exact ⟨_, S_script_words.mk t false, rfl, hw2.tail, fun h => (by cases h), fun _ => ⟨rfl, rfl⟩⟩
      | false => exact ⟨_, S_script_words.mk t true, rfl, hw2.tail, fun h => (by cases h), fun _ => rfl⟩
theorem call_rd (n : Nat) (w : Ws) (hl : Small w.f_l) (hn : 200000 ≤ n) : RdO (script_words_call__o0 n w) w.f_bad (callP w.f_l) := by
  unfold script_words_call__o0
  obtain ⟨l, wb⟩ := w
  simp only at hl ⊢
  cases l with
  | nil =>
    rw [next_nil, Option.bind_some]
    exact ⟨_, S_script_words.mk [] true, rfl, fun x hx => (by cases hx), fun _ => rfl, fun _ => rfl⟩
  | cons h t =>
    rw [next_cons, Option.bind_some]
    simp only [callP]
    have kc : ∀ k, RdO ((script_words_kept__o0 n k (S_script_words.mk t wb)).bind fun r2 => some (r2.1, r2.2)) wb (keptP k t) := by
      intro k
      obtain ⟨v, w', q1, q2, q3, q4⟩ := kept_rd n k (S_script_words.mk t wb) hl.tail hn
      exact ⟨v, w', by rw [q1]; rfl, q2, q3, q4⟩
    have nc : ∀ k, RdO ((script_words_key__o0 n (S_script_words.mk t wb)).bind fun r4 => some ((S_api_Call.mk k r4.1 0 (S_api_Spec.mk [] [] [] 0 [] [] [] (S_api_Check.mk [] 0 0 0) 0 0)), r4.2)) wb (nameP k t) := by
      intro k
      unfold nameP
      exact RdO.bind (key_rd n (S_script_words.mk t wb) hl.tail hn) fun v w' hw' => RdO.ret _ w' hw'
    have ic : ∀ k, RdO ((script_words_number__o0 n (S_script_words.mk t wb)).bind fun r4 => some ((S_api_Call.mk k [] r4.1 (S_api_Spec.mk [] [] [] 0 [] [] [] (S_api_Check.mk [] 0 0 0) 0 0)), r4.2)) wb (idP k t) := by
      intro k
      unfold idP
      exact RdO.bind (num_rd n (S_script_words.mk t wb) hl.tail hn) fun v w' hw' => RdO.ret _ w' hw'
    by_cases h0 : h = [109, 97, 107, 101, 45, 110, 101, 116]
    · rw [if_pos (beq_iff_eq.2 h0), if_pos h0]; exact kc 1
    rw [if_neg (fun e => h0 (beq_iff_eq.1 e)), if_neg h0]
    by_cases h1 : h = [109, 97, 107, 101, 45, 118, 111, 108]
    · rw [if_pos (beq_iff_eq.2 h1), if_pos h1]; exact kc 2
    rw [if_neg (fun e => h1 (beq_iff_eq.1 e)), if_neg h1]
    by_cases h2 : h = [100, 114, 111, 112, 45, 110, 101, 116]
    · rw [if_pos (beq_iff_eq.2 h2), if_pos h2]; exact nc 3
    rw [if_neg (fun e => h2 (beq_iff_eq.1 e)), if_neg h2]
    by_cases h3 : h = [100, 114, 111, 112, 45, 118, 111, 108]
    · rw [if_pos (beq_iff_eq.2 h3), if_pos h3]; exact nc 4
    rw [if_neg (fun e => h3 (beq_iff_eq.1 e)), if_neg h3]
    by_cases h4 : h = [115, 116, 97, 114, 116]
    · rw [if_pos (beq_iff_eq.2 h4), if_pos h4]; exact ic 6
    rw [if_neg (fun e => h4 (beq_iff_eq.1 e)), if_neg h4]
    by_cases h5 : h = [115, 116, 111, 112]
    · rw [if_pos (beq_iff_eq.2 h5), if_pos h5]; exact ic 7
    rw [if_neg (fun e => h5 (beq_iff_eq.1 e)), if_neg h5]
    by_cases h6 : h = [100, 114, 111, 112]
    · rw [if_pos (beq_iff_eq.2 h6), if_pos h6]; exact ic 8
    rw [if_neg (fun e => h6 (beq_iff_eq.1 e)), if_neg h6]
    exact ⟨_, S_script_words.mk t true, rfl, hl.tail, fun _ => rfl, fun _ => rfl⟩
def kindOf (h : BS) : Int := if h = [117, 112] then 1 else if h = [100, 111, 119, 110] then 2 else if h = [115, 116, 111, 112] then 3 else if h = [114, 101, 115, 116, 97, 114, 116] then 4 else if h = [115, 99, 97, 108, 101] then 5 else if h = [114, 109] then 6 else 0
def cmds : List BS := [[117, 112], [100, 111, 119, 110], [115, 116, 111, 112], [114, 101, 115, 116, 97, 114, 116], [115, 99, 97, 108, 101], [114, 109]]
theorem eCommand (n : Nat) (i : Nat) (s : BS) (h : cmds[i]? = some s) : event_Command n ((i + 1 : Nat) : Int) = some s := by
  have hi : i < 6 := by
    apply Classical.byContradiction; intro hc
    rw [List.getElem?_eq_none (by show 6 ≤ i; omega)] at h; cases h
  unfold event_Command event_one
  have h1 : decide (((i + 1 : Nat) : Int) < 1) = false := decide_eq_false (by omega)
  have h2 : decide (((i + 1 : Nat) : Int) > ((6 : Nat) : Int)) = false := decide_eq_false (by omega)
  have h3 : IntKind.wrap .i64 (((i + 1 : Nat) : Int) - 1) = (i : Int) := by rw [wrap_id _ (by omega) (by omega)]; omega
  have h4 : decide (0 ≤ (i : Int) ∧ (i : Int) < ((6 : Nat) : Int)) = true := decide_eq_true (by omega)
  show ((if (bif (decide (((i + 1 : Nat) : Int) < 1)) then true else (decide (((i + 1 : Nat) : Int) > ((6 : Nat) : Int)))) = true then (some []) else (if (decide (0 ≤ (IntKind.wrap .i64 (((i + 1 : Nat) : Int) - 1)) ∧ (IntKind.wrap .i64 (((i + 1 : Nat) : Int) - 1)) < ((6 : Nat) : Int))) = true then (some (cmds[Int.toNat (IntKind.wrap .i64 (((i + 1 : Nat) : Int) - 1))]?.getD [])) else none)).bind fun r1 => some r1) = _
  rw [h1, h2, h3, h4, tn, h]
  rfl
theorem kind_l (n : Nat) (s : BS) : ∀ (k i : Nat), i ≤ 6 → 6 - i < k → script_commandKind_l1 n s k ((i + 1 : Nat) : Int) = some (match (cmds.drop i).findIdx? (· == s) with | some j => .inr ((i + j + 1 : Nat) : Int) | none => .inl ())
  | 0, i, _, h => by omega
  | k + 1, i, h1, h2 => by
    rw [script_commandKind_l1]
    by_cases h : i < 6
    · obtain ⟨c, hc⟩ : ∃ c, cmds[i]? = some c := ⟨cmds[i]'(by show i < 6; exact h), List.getElem?_eq_getElem _⟩
      have hd : cmds.drop i = c :: cmds.drop (i + 1) := by
        have hi : i < cmds.length := h
        rw [drop_at hi]
        have : cmds[i] = c := by rw [List.getElem?_eq_getElem hi] at hc; exact Option.some.inj hc
        rw [this]
      rw [if_pos (decide_eq_true (by omega)), eCommand n i c hc, Option.bind_some, hd, List.findIdx?_cons]
      by_cases e : (c == s) = true
      · rw [if_pos e]; simp [e]
      · rw [if_neg e, wrap_s (i + 1) (by omega), kind_l n s k (i + 1) (by omega) (by omega)]
        have e' : (c == s) = false := by simpa using e
        rw [e']
        cases hf : (cmds.drop (i + 1)).findIdx? (· == s) with
        | none => simp
        | some j => simp; omega
    · have : i = 6 := by omega
      subst this
      rw [if_neg (by decide)]; rfl
theorem kind_eq (n : Nat) (s : BS) (hn : 100 ≤ n) : script_commandKind n s = some (kindOf s) := by
  unfold script_commandKind
  have h := kind_l n s n 0 (by omega) (by omega)
  have h : script_commandKind_l1 n s n 1 = _ := h
  rw [h, Option.bind_some, List.drop_zero]
  unfold kindOf cmds
  simp only [List.findIdx?_cons, List.findIdx?_nil, beq_iff_eq]
  have sw : ∀ a : BS, (a = s) = (s = a) := fun a => propext ⟨Eq.symm, Eq.symm⟩
  simp only [sw]
  by_cases h1 : s = [117, 112]
  · simp [h1]
  by_cases h2 : s = [100, 111, 119, 110]
  · simp [h2]
  by_cases h3 : s = [115, 116, 111, 112]
  · simp [h3]
  by_cases h4 : s = [114, 101, 115, 116, 97, 114, 116]
  · simp [h4]
  by_cases h5 : s = [115, 99, 97, 108, 101]
  · simp [h5]
  by_cases h6 : s = [114, 109]
  · simp [h6]
  simp [h1, h2, h3, h4, h5, h6]
def stOf (k a b : Int) : St := S_ref45_Step.mk k a b zCm zCl
def oneP (k : Int) : Pr St := fun l => (numP l).bind fun p => some (stOf k p.1 0, p.2)
def twoP (k : Int) : Pr St := fun l => (numP l).bind fun p => (numP p.2).bind fun q => some (stOf k p.1 q.1, q.2)
def lineP : Pr St
  | [] => none
  | h :: t => if kindOf h ≠ 0 then cmdP (kindOf h) t else if h = [103, 111] then some (stOf 2 0 0, t) else if h = [99, 114, 97, 115, 104] then some (stOf 8 0 0, t)
    else if h = [116, 105, 99, 107] then oneP 3 t else if h = [115, 105, 99, 107] then oneP 5 t else if h = [119, 101, 108, 108] then oneP 6 t
    else if h = [101, 120, 105, 116] then twoP 4 t else if h = [102, 97, 117, 108, 116] then twoP 7 t
    else if h = [99, 97, 108, 108] then (callP t).bind fun p => some (S_ref45_Step.mk 9 0 0 zCm p.1, p.2) else none
def lineL (l : List BS) : Option St := match lineP l with | some (x, []) => some x | _ => none
def lineR (s : BS) : Option St := lineL (parts 32 s)
def zSt : St := S_ref45_Step.mk 0 0 0 (S_api_Command.mk 0 [] 0 false false 0 0) (S_api_Call.mk 0 [] 0 (S_api_Spec.mk [] [] [] 0 [] [] [] (S_api_Check.mk [] 0 0 0) 0 0))
def fin1 (x : St) (w : Ws) : Option (Int × St) := if (bif w.f_bad then true else (decide ((List.length w.f_l : Int) > 0))) = true then some (18, zSt) else some (0, x)
def endR (sp : Option (St × List BS)) : Int × St := match sp with | some (x, []) => (0, x) | _ => (18, zSt)
def okR (o : Option St) : Int × St := match o with | some x => (0, x) | none => (18, zSt)
theorem kindOf_nn (h : BS) : 0 ≤ kindOf h ∧ kindOf h ≤ 6 := by
  unfold kindOf
  by_cases h1 : h = [117, 112]
  · rw [if_pos h1]; decide
  rw [if_neg h1]
  by_cases h1 : h = [100, 111, 119, 110]
  · rw [if_pos h1]; decide
  rw [if_neg h1]
  by_cases h1 : h = [115, 116, 111, 112]
  · rw [if_pos h1]; decide
  rw [if_neg h1]
  by_cases h1 : h = [114, 101, 115, 116, 97, 114, 116]
  · rw [if_pos h1]; decide
  rw [if_neg h1]
  by_cases h1 : h = [115, 99, 97, 108, 101]
  · rw [if_pos h1]; decide
  rw [if_neg h1]
  by_cases h1 : h = [114, 109]
  · rw [if_pos h1]; decide
  rw [if_neg h1]; decide
theorem fin_eq {o : Option (St × Ws)} {sp : Option (St × List BS)} (h : RdO o false sp) : (o.bind fun r => fin1 r.1 r.2) = some (endR sp) := by
  obtain ⟨v, w, rfl, _, _, h4⟩ := h
  have h4 := h4 rfl
  rw [Option.bind_some]
  unfold fin1 endR
  unfold Goes at h4
  cases sp with
  | none => simp only at h4 ⊢; rw [h4]; rfl
  | some p =>
    obtain ⟨x, r⟩ := p
    obtain ⟨rfl, rfl⟩ := h4
    cases r with
    | nil => rfl
    | cons s t => rw [if_pos (by show decide _ = true; exact decide_eq_true (by rw [List.length_cons]; omega))]
theorem j2_rd (n : Nat) (h : BS) (t : List BS) (b2 : St) (hl : Small t) (hn : 200000 ≤ n) (hk : kindOf h = 0) : RdO (script_Line_j2 n h b2 zSt (S_script_words.mk t false)) false (lineP (h :: t)) := by
  unfold script_Line_j2
  simp only [lineP, hk, ne_eq, not_true_eq_false, if_false]
  have oc : ∀ k, RdO ((script_words_number__o0 n (S_script_words.mk t false)).bind fun r5 => some ((S_ref45_Step.mk k r5.1 0 (S_api_Command.mk 0 [] 0 false false 0 0) (S_api_Call.mk 0 [] 0 (S_api_Spec.mk [] [] [] 0 [] [] [] (S_api_Check.mk [] 0 0 0) 0 0))), r5.2)) false (oneP k t) := by
    intro k
    unfold oneP
    exact RdO.bind (num_rd n (S_script_words.mk t false) hl hn) fun v w' hw' => RdO.ret _ w' hw'
  have tc : ∀ k, RdO ((script_words_number__o0 n (S_script_words.mk t false)).bind fun r8 => (script_words_number__o0 n r8.2).bind fun r9 => some ((S_ref45_Step.mk k r8.1 r9.1 (S_api_Command.mk 0 [] 0 false false 0 0) (S_api_Call.mk 0 [] 0 (S_api_Spec.mk [] [] [] 0 [] [] [] (S_api_Check.mk [] 0 0 0) 0 0))), r9.2)) false (twoP k t) := by
    intro k
    unfold twoP
    exact RdO.bind (num_rd n (S_script_words.mk t false) hl hn) fun v w' hw' => RdO.bind (num_rd n w' hw' hn) fun v2 w2 hw2 => RdO.ret _ w2 hw2
  have cc : RdO ((script_words_call__o0 n (S_script_words.mk t false)).bind fun r12 => some ((S_ref45_Step.mk 9 0 0 (S_api_Command.mk 0 [] 0 false false 0 0) r12.1), r12.2)) false ((callP t).bind fun p => some (S_ref45_Step.mk 9 0 0 zCm p.1, p.2)) :=
    RdO.bind (call_rd n (S_script_words.mk t false) hl hn) fun v w' hw' => RdO.ret _ w' hw'
  by_cases h0 : h = [103, 111]
  · rw [if_pos (beq_iff_eq.2 h0), if_pos h0]; exact ⟨_, S_script_words.mk t false, rfl, hl, fun h => (by cases h), fun _ => ⟨rfl, rfl⟩⟩
  rw [if_neg (fun e => h0 (beq_iff_eq.1 e)), if_neg h0]
  by_cases h1 : h = [99, 114, 97, 115, 104]
  · rw [if_pos (beq_iff_eq.2 h1), if_pos h1]; exact ⟨_, S_script_words.mk t false, rfl, hl, fun h => (by cases h), fun _ => ⟨rfl, rfl⟩⟩
  rw [if_neg (fun e => h1 (beq_iff_eq.1 e)), if_neg h1]
  by_cases h2 : h = [116, 105, 99, 107]
  · rw [if_pos (beq_iff_eq.2 h2), if_pos h2]; exact oc 3
  rw [if_neg (fun e => h2 (beq_iff_eq.1 e)), if_neg h2]
  by_cases h3 : h = [115, 105, 99, 107]
  · rw [if_pos (beq_iff_eq.2 h3), if_pos h3]; exact oc 5
  rw [if_neg (fun e => h3 (beq_iff_eq.1 e)), if_neg h3]
  by_cases h4 : h = [119, 101, 108, 108]
  · rw [if_pos (beq_iff_eq.2 h4), if_pos h4]; exact oc 6
  rw [if_neg (fun e => h4 (beq_iff_eq.1 e)), if_neg h4]
  by_cases h5 : h = [101, 120, 105, 116]
  · rw [if_pos (beq_iff_eq.2 h5), if_pos h5]; exact tc 4
  rw [if_neg (fun e => h5 (beq_iff_eq.1 e)), if_neg h5]
  by_cases h6 : h = [102, 97, 117, 108, 116]
  · rw [if_pos (beq_iff_eq.2 h6), if_pos h6]; exact tc 7
  rw [if_neg (fun e => h6 (beq_iff_eq.1 e)), if_neg h6]
  by_cases h7 : h = [99, 97, 108, 108]
  · rw [if_pos (beq_iff_eq.2 h7), if_pos h7]; exact cc
  rw [if_neg (fun e => h7 (beq_iff_eq.1 e)), if_neg h7]
  exact ⟨_, S_script_words.mk t true, rfl, hl, fun h => (by cases h), fun _ => rfl⟩
theorem Line_eq (n : Nat) (s : BS) (hs : s.length ≤ 100000) (hn : 2000000 ≤ n) : script_Line n s = some ((okR (lineR s)).2, (okR (lineR s)).1) := by
  obtain ⟨n, rfl⟩ : ∃ m, n = m + 2 := ⟨n - 2, by omega⟩
  have hsm : Small (parts 32 s) := fun x hx => Nat.le_trans (parts_part_len 32 s x hx) hs
  have hpl := parts_len 32 s
  unfold script_Line
  have key : script_Line_g1_e (n + 2) (n + 2) s zSt = some (okR (lineR s)) := by
    rw [script_Line_g1_e, if_pos (decide_eq_true ⟨by omega, by simp⟩), splitL_eq]
    unfold lineR lineL
    cases hp : parts 32 s with
    | nil => exact absurd hp (parts_ne 32 s)
    | cons h t =>
      rw [hp] at hsm hpl
      rw [next_cons, Option.bind_some]
      simp only
      rw [kind_eq (n + 2) h (by omega), Option.bind_some]
      have hk0 := (kindOf_nn h).1
      have fin : ∀ {o : Option (St × Ws)}, RdO o false (lineP (h :: t)) → (o.bind fun r => fin1 r.1 r.2) = some (endR (lineP (h :: t))) := fun hr => fin_eq hr
      have hm : okR (match lineP (h :: t) with | some (x, []) => some x | _ => none) = endR (lineP (h :: t)) := by
        cases lineP (h :: t) with
        | none => rfl
        | some p => obtain ⟨x, r⟩ := p; cases r <;> rfl
      rw [hm]
      by_cases hk : kindOf h = 0
      · rw [hk, if_neg (by decide)]
        exact fin (j2_rd (n + 2) h t zSt hsm.tail (by omega) hk)
      · rw [if_pos (decide_eq_true (by omega))]
        have hc := cmd_rd (n + 2) (kindOf h) (S_script_words.mk t false) hsm.tail (by simp at hpl ⊢; omega) (by omega)
        have : lineP (h :: t) = cmdP (kindOf h) t := by simp only [lineP, ne_eq, hk, not_false_eq_true, if_true]
        have hc : RdO (script_words_command__o0 (n + 2) (kindOf h) (S_script_words.mk t false)) false (lineP (h :: t)) := by rw [this]; exact hc
        rw [← fin hc]
        rfl
  have key : script_Line_g1_e (n + 2) (n + 2) s (S_ref45_Step.mk 0 0 0 (S_api_Command.mk 0 [] 0 false false 0 0) (S_api_Call.mk 0 [] 0 (S_api_Spec.mk [] [] [] 0 [] [] [] (S_api_Check.mk [] 0 0 0) 0 0))) = _ := key
  rw [key, Option.bind_some]
end Go.Proofs.YtjjlpomfnfipbaaDoor.M
