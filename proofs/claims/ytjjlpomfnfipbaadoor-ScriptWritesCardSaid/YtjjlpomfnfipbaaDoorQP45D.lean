import Derived.Test.YtjjlpomfnfipbaaDoorQP45C
set_option linter.all false
namespace Go.Proofs.YtjjlpomfnfipbaaDoor.M
open Go Go.Proofs.YtjjlpomfnfipbaaDoor.RX Go.Proofs.YtjjlpomfnfipbaaDoor.PL
def Bst (v kind : Int) (sv : List BS) (c : Int) (o vl : Bool) (t r : Int) : St := S_ref45_Step.mk 1 v 0 (S_api_Command.mk kind sv c o vl t r) zCl
def cmdT (v kind : Int) (l : List BS) : Option (St × List BS) := (optP [45, 110] (svcs l).2).bind fun q => (optP [45, 116] (flg [45, 118] (flg [45, 111] q.2).2).2).bind fun r => (optP [45, 114] r.2).bind fun t =>
  some (Bst v kind (svcs l).1 q.1 (flg [45, 111] q.2).1 (flg [45, 118] (flg [45, 111] q.2).2).1 r.1 t.1, t.2)
theorem cmdP_eq (kind : Int) (l : List BS) : cmdP kind l = (numP l).bind fun p => cmdT p.1 kind p.2 := rfl
theorem rcmd_l1 (n : Nat) (b4 : St) (v kind : Int) (hn : 200000 ≤ n) : ∀ (k : Nat) (l sv : List BS), l.length < k → sv.length + l.length ≤ 1000000 →
    ref45_command__n4_18_19_l1 n b4 k l (Bst v kind sv 0 false false 0 0) = some ((svcs l).2, Bst v kind (sv ++ (svcs l).1) 0 false false 0 0)
  | 0, l, sv, h, _ => by omega
  | k + 1, l, sv, h1, h2 => by
    rw [ref45_command__n4_18_19_l1]
    cases l with
    | nil => simp [svcs]
    | cons s t =>
      have g1 : decide ((List.length (s :: t) : Int) > 0) = true := decide_eq_true (by rw [List.length_cons]; omega)
      have g4 : decide (0 ≤ (1 : Int) ∧ (1 : Int) ≤ (List.length (s :: t) : Int)) = true := decide_eq_true (by rw [List.length_cons]; omega)
      have hs : ref02_Service n s = some (svB s) := ref02_Service_eq n s (by omega)
      simp only [g1, in0, fst0, Bool.or_true, if_true, beq_self_eq_true, cond_true, hs, Option.bind_some]
      unfold svcs
      by_cases h : svB s = true
      · simp only [List.length_cons] at h1 h2
        rw [if_pos h, if_pos h, if_pos (cap_add (by show sv.length + 1 ≤ _; omega)), if_pos g4]
        have := rcmd_l1 n b4 v kind hn k t (sv ++ [s]) (by omega) (by simp; omega)
        have this : ref45_command__n4_18_19_l1 n b4 k (List.drop (Int.toNat 1) (s :: t)) (S_ref45_Step.mk (Bst v kind sv 0 false false 0 0).f_Kind (Bst v kind sv 0 false false 0 0).f_N (Bst v kind sv 0 false false 0 0).f_M (S_api_Command.mk (Bst v kind sv 0 false false 0 0).f_Command.f_Kind ((Bst v kind sv 0 false false 0 0).f_Command.f_Services ++ ([s] : List (List UInt8))) (Bst v kind sv 0 false false 0 0).f_Command.f_Count (Bst v kind sv 0 false false 0 0).f_Command.f_Orphans (Bst v kind sv 0 false false 0 0).f_Command.f_Volumes (Bst v kind sv 0 false false 0 0).f_Command.f_Timeout (Bst v kind sv 0 false false 0 0).f_Command.f_Retries) (Bst v kind sv 0 false false 0 0).f_Call) = _ := this
        rw [this]; simp
      · rw [if_neg h, if_neg h]; simp
def opts : List BS := [[45, 110], [45, 111], [45, 118], [45, 116], [45, 114]]
def setN (i : Nat) (x : St) (c : Int) : St := if i = 0 then S_ref45_Step.mk x.f_Kind x.f_N x.f_M (S_api_Command.mk x.f_Command.f_Kind x.f_Command.f_Services c x.f_Command.f_Orphans x.f_Command.f_Volumes x.f_Command.f_Timeout x.f_Command.f_Retries) x.f_Call
  else if i = 3 then S_ref45_Step.mk x.f_Kind x.f_N x.f_M (S_api_Command.mk x.f_Command.f_Kind x.f_Command.f_Services x.f_Command.f_Count x.f_Command.f_Orphans x.f_Command.f_Volumes c x.f_Command.f_Retries) x.f_Call
  else S_ref45_Step.mk x.f_Kind x.f_N x.f_M (S_api_Command.mk x.f_Command.f_Kind x.f_Command.f_Services x.f_Command.f_Count x.f_Command.f_Orphans x.f_Command.f_Volumes x.f_Command.f_Timeout c) x.f_Call
def setF (i : Nat) (x : St) : St := if i = 1 then S_ref45_Step.mk x.f_Kind x.f_N x.f_M (S_api_Command.mk x.f_Command.f_Kind x.f_Command.f_Services x.f_Command.f_Count true x.f_Command.f_Volumes x.f_Command.f_Timeout x.f_Command.f_Retries) x.f_Call
  else S_ref45_Step.mk x.f_Kind x.f_N x.f_M (S_api_Command.mk x.f_Command.f_Kind x.f_Command.f_Services x.f_Command.f_Count x.f_Command.f_Orphans true x.f_Command.f_Timeout x.f_Command.f_Retries) x.f_Call
def stepN (a : BS) (i : Nat) (l : List BS) (x b4 : St) : Sum (List BS × St × St) (Bool × St) :=
  if l.head? = some a then (match numP l.tail with | some (v, r) => if v = 0 then .inr (false, zSt) else .inl (r, setN i x v, b4) | none => .inr (false, zSt)) else .inl (l, x, b4)
theorem at_opts (i : Nat) (a : BS) (h : opts[i]? = some a) : decide (0 ≤ (i : Int) ∧ (i : Int) < (List.length opts : Int)) = true ∧ opts[Int.toNat (i : Int)]?.getD [] = a ∧ i < 5 := by
  have hi : i < 5 := by
    apply Classical.byContradiction; intro hc
    rw [List.getElem?_eq_none (by show 5 ≤ i; omega)] at h; cases h
  exact ⟨decide_eq_true (by show 0 ≤ (i : Int) ∧ (i : Int) < ((5 : Nat) : Int); omega), by rw [tn, h]; rfl, hi⟩
theorem j3_num (n i : Nat) (a : BS) (l : List BS) (x b4 : St) (h : opts[i]? = some a) (h1 : i ≠ 1) (h2 : i ≠ 2) (hl : Small l) (hn : 200000 ≤ n) : ref45_command__n4_18_19_j3 n l opts (i : Int) x b4 = some (stepN a i l x b4) := by
  obtain ⟨o1, o2, hi⟩ := at_opts i a h
  unfold ref45_command__n4_18_19_j3 stepN
  cases l with
  | nil => rfl
  | cons s t =>
    have e0 : ((List.length (s :: t) : Int) == 0) = false := by rw [beq_eq_false_iff_ne]; simp; omega
    have g4 : decide (0 ≤ (1 : Int) ∧ (1 : Int) ≤ (List.length (s :: t) : Int)) = true := decide_eq_true (by rw [List.length_cons]; omega)
    have i1 : ((i : Int) == 1) = false := by rw [beq_eq_false_iff_ne]; omega
    have i2 : ((i : Int) == 2) = false := by rw [beq_eq_false_iff_ne]; omega
    have hd : List.drop (Int.toNat 1) (s :: t) = t := rfl
    simp only [e0, in0, o1, o2, fst0, g4, i1, i2, hd, Bool.or_true, if_true, cond_false, Bool.false_eq_true, if_false, List.head?_cons, Option.some.injEq, List.tail_cons]
    by_cases hsa : s = a
    · subst hsa
      rw [if_neg (by simp), if_pos rfl]
      cases t with
      | nil => rfl
      | cons u t =>
        have e0 : ((List.length (u :: t) : Int) == 0) = false := by rw [beq_eq_false_iff_ne]; simp; omega
        have g4 : decide (0 ≤ (1 : Int) ∧ (1 : Int) ≤ (List.length (u :: t) : Int)) = true := decide_eq_true (by rw [List.length_cons]; omega)
        have hd : List.drop (Int.toNat 1) (u :: t) = t := rfl
        have hr := rnumber_eq n u (hl u (by simp)) hn
        simp only [e0, in0, fst0, g4, hd, hr, Bool.or_true, if_true, cond_false, beq_self_eq_true, Option.bind_some, numP]
        cases hv : numV u with
        | none =>
          rw [nv_none hv, if_pos (by decide)]; rfl
        | some v =>
          obtain ⟨q1, q2⟩ := nv_some hv
          rw [q1]
          simp only [Option.map_some]
          by_cases hz : v = 0
          · subst hz; rfl
          · rw [if_neg (by simp; omega), if_neg hz]
            unfold ref45_command__n4_18_19_j4 setN
            simp only [in0, fst0, hr, q1, if_true, Option.bind_some]
            by_cases i0 : i = 0
            · subst i0; rfl
            · have e0 : ((i : Int) == 0) = false := by rw [beq_eq_false_iff_ne]; omega
              rw [e0, if_neg Bool.false_ne_true, if_neg i0]
              by_cases i3 : i = 3
              · subst i3; rfl
              · have e3 : ((i : Int) == 3) = false := by rw [beq_eq_false_iff_ne]; omega
                rw [e3, if_neg Bool.false_ne_true, if_neg i3]; rfl
    · rw [if_pos (by simpa using hsa), if_neg hsa]
theorem j3_flag (n i : Nat) (a : BS) (l : List BS) (x b4 : St) (h : opts[i]? = some a) (h12 : i = 1 ∨ i = 2) : ref45_command__n4_18_19_j3 n l opts (i : Int) x b4 = some (.inl ((flg a l).2, if (flg a l).1 = true then setF i x else x, b4)) := by
  obtain ⟨o1, o2, hi⟩ := at_opts i a h
  unfold ref45_command__n4_18_19_j3 flg setF
  cases l with
  | nil => rfl
  | cons s t =>
    have e0 : ((List.length (s :: t) : Int) == 0) = false := by rw [beq_eq_false_iff_ne]; simp; omega
    have g4 : decide (0 ≤ (1 : Int) ∧ (1 : Int) ≤ (List.length (s :: t) : Int)) = true := decide_eq_true (by rw [List.length_cons]; omega)
    have hd : List.drop (Int.toNat 1) (s :: t) = t := rfl
    simp only [e0, in0, o1, o2, fst0, g4, hd, Bool.or_true, if_true, cond_false, List.head?_cons, Option.some.injEq, List.tail_cons]
    by_cases hsa : s = a
    · subst hsa
      rw [if_neg (by simp)]
      rcases h12 with rfl | rfl
      · simp
      · simp
    · rw [if_pos (by simpa using hsa)]
      simp [hsa]
theorem l2_step (n k i : Nat) (l : List BS) (x b4 : St) (hi : i < 5) : ref45_command__n4_18_19_l2 n opts (k + 1) l (i : Int) x b4 = (ref45_command__n4_18_19_j3 n l opts (i : Int) x b4).bind fun o2 => (Sum.elim (fun o2 => ref45_command__n4_18_19_l2 n opts k o2.1 ((i + 1 : Nat) : Int) o2.2.1 o2.2.2) (fun o2 => some (.inr (o2.1, o2.2)))) o2 := by
  rw [ref45_command__n4_18_19_l2, if_pos (decide_eq_true (by omega)), wrap_s i (by omega)]
theorem optP_small {a : BS} {l : List BS} {v : Int} {r : List BS} (h : optP a l = some (v, r)) (hl : Small l) : Small r := by
  unfold optP at h
  split at h
  · cases l with
    | nil => cases h
    | cons s t =>
      simp only [List.tail_cons] at h
      cases t with
      | nil => cases h
      | cons u t =>
        simp only [numP] at h
        cases hv : numV u with
        | none => rw [hv] at h; cases h
        | some w =>
          rw [hv] at h
          simp only [Option.map_some] at h
          split at h
          · cases h
          · cases h; exact hl.tail.tail
  · cases h; exact hl
theorem stepN_opt (a : BS) (i : Nat) (l : List BS) (x b4 : St) (h0 : setN i x 0 = x) : stepN a i l x b4 = match optP a l with | some (c, r) => .inl (r, setN i x c, b4) | none => .inr (false, zSt) := by
  unfold stepN optP
  by_cases h : l.head? = some a
  · rw [if_pos h, if_pos h]
    cases numP l.tail with
    | none => rfl
    | some p =>
      obtain ⟨v, r⟩ := p
      simp only
      by_cases hv : v = 0
      · rw [if_pos hv, if_pos hv]
      · rw [if_neg hv, if_neg hv]
  · rw [if_neg h, if_neg h]
    simp only [h0]
theorem cmd_end (n : Nat) (v kind : Int) (l : List BS) (hl : Small l) (hlen : l.length ≤ 1000000) (hn : 2000000 ≤ n) :
    Ends (ref45_command__n4_18_19 n (S_ref45_Step.mk 1 v 0 (S_api_Command.mk kind [] 0 false false 0 0) (S_api_Call.mk 0 [] 0 (S_api_Spec.mk [] [] [] 0 [] [] [] (S_api_Check.mk [] 0 0 0) 0 0))) l) (cmdT v kind l) := by
  obtain ⟨k, rfl⟩ : ∃ k, n = k + 6 := ⟨n - 6, by omega⟩
  unfold ref45_command__n4_18_19
  have h1 := rcmd_l1 (k + 6) (S_ref45_Step.mk 0 0 0 (S_api_Command.mk 0 [] 0 false false 0 0) (S_api_Call.mk 0 [] 0 (S_api_Spec.mk [] [] [] 0 [] [] [] (S_api_Check.mk [] 0 0 0) 0 0))) v kind (by omega) (k + 6) l [] (by omega) (by simp; omega)
  rw [List.nil_append] at h1
  simp only
  have h1 : ref45_command__n4_18_19_l1 (k + 6) (S_ref45_Step.mk 0 0 0 (S_api_Command.mk 0 [] 0 false false 0 0) (S_api_Call.mk 0 [] 0 (S_api_Spec.mk [] [] [] 0 [] [] [] (S_api_Check.mk [] 0 0 0) 0 0))) (k + 6) l (S_ref45_Step.mk 1 v 0 (S_api_Command.mk kind [] 0 false false 0 0) (S_api_Call.mk 0 [] 0 (S_api_Spec.mk [] [] [] 0 [] [] [] (S_api_Check.mk [] 0 0 0) 0 0))) = _ := h1
  rw [h1, Option.bind_some]
  simp only
  have hs := svcs_small hl
  generalize hz : (S_ref45_Step.mk 0 0 0 (S_api_Command.mk 0 [] 0 false false 0 0) (S_api_Call.mk 0 [] 0 (S_api_Spec.mk [] [] [] 0 [] [] [] (S_api_Check.mk [] 0 0 0) 0 0))) = z
  have s0 := l2_step (k + 6) (k + 5) 0 (svcs l).2 (Bst v kind (svcs l).1 0 false false 0 0) z (by decide)
  rw [j3_num (k + 6) 0 [45, 110] _ _ _ rfl (by decide) (by decide) hs (by omega), stepN_opt _ _ _ _ _ rfl] at s0
  have s0 : ref45_command__n4_18_19_l2 (k + 6) ([[45, 110], [45, 111], [45, 118], [45, 116], [45, 114]] : List (List UInt8)) (k + 6) (svcs l).2 0 (Bst v kind (svcs l).1 0 false false 0 0) z = _ := s0
  rw [s0]
  unfold cmdT
  cases hq : optP [45, 110] (svcs l).2 with
  | none => exact .no rfl
  | some p =>
    obtain ⟨c, r1⟩ := p
    have hr1 := optP_small hq hs
    simp only [Option.bind_some, Sum.elim_inl]
    have x1 : setN 0 (Bst v kind (svcs l).1 0 false false 0 0) c = Bst v kind (svcs l).1 c false false 0 0 := rfl
    rw [x1, l2_step (k + 6) (k + 4) 1 r1 _ z (by decide), j3_flag (k + 6) 1 [45, 111] _ _ _ rfl (.inl rfl), Option.bind_some, Sum.elim_inl]
    simp only
    have x2 : (if (flg [45, 111] r1).1 = true then setF 1 (Bst v kind (svcs l).1 c false false 0 0) else Bst v kind (svcs l).1 c false false 0 0) = Bst v kind (svcs l).1 c (flg [45, 111] r1).1 false 0 0 := by
      cases (flg [45, 111] r1).1 <;> rfl
    have hr2 : Small (flg [45, 111] r1).2 := flg_small hr1
    rw [x2, l2_step (k + 6) (k + 3) 2 _ _ z (by decide), j3_flag (k + 6) 2 [45, 118] _ _ _ rfl (.inr rfl), Option.bind_some, Sum.elim_inl]
    simp only
    generalize (flg [45, 111] r1).1 = o
    generalize (flg [45, 111] r1).2 = r2 at hr2
    have x3 : (if (flg [45, 118] r2).1 = true then setF 2 (Bst v kind (svcs l).1 c o false 0 0) else Bst v kind (svcs l).1 c o false 0 0) = Bst v kind (svcs l).1 c o (flg [45, 118] r2).1 0 0 := by
      cases (flg [45, 118] r2).1 <;> rfl
    have hr3 : Small (flg [45, 118] r2).2 := flg_small hr2
    rw [x3, l2_step (k + 6) (k + 2) 3 _ _ z (by decide), j3_num (k + 6) 3 [45, 116] _ _ _ rfl (by decide) (by decide) hr3 (by omega), stepN_opt _ _ _ _ _ rfl]
    generalize (flg [45, 118] r2).1 = vl
    generalize (flg [45, 118] r2).2 = r3 at hr3
    cases ht : optP [45, 116] r3 with
    | none => exact .no rfl
    | some p =>
      obtain ⟨t, r4⟩ := p
      have hr4 := optP_small ht hr3
      simp only [Option.bind_some, Sum.elim_inl]
      have x4 : setN 3 (Bst v kind (svcs l).1 c o vl 0 0) t = Bst v kind (svcs l).1 c o vl t 0 := rfl
      rw [x4, l2_step (k + 6) (k + 1) 4 _ _ z (by decide), j3_num (k + 6) 4 [45, 114] _ _ _ rfl (by decide) (by decide) hr4 (by omega), stepN_opt _ _ _ _ _ rfl]
      cases hrr : optP [45, 114] r4 with
      | none => exact .no rfl
      | some p =>
        obtain ⟨r, r5⟩ := p
        simp only [Option.bind_some, Sum.elim_inl]
        have x5 : setN 4 (Bst v kind (svcs l).1 c o vl t 0) r = Bst v kind (svcs l).1 c o vl t r := rfl
        rw [x5, ref45_command__n4_18_19_l2, if_neg (by decide), Option.bind_some, Sum.elim_inl]
        cases r5 with
        | nil => exact .yes rfl
        | cons u w =>
          have e0 : ((List.length (u :: w) : Int) == 0) = false := by rw [beq_eq_false_iff_ne]; simp; omega
          simp only [e0]
          exact .no rfl
theorem rCommand (m i : Nat) (s : BS) (h : cmds[i]? = some s) : ref44_Command (m + 8) ((i + 1 : Nat) : Int) = some s := by
  have hi : i < 6 := by
    apply Classical.byContradiction; intro hc
    rw [List.getElem?_eq_none (by show 6 ≤ i; omega)] at h; cases h
  have : i = 0 ∨ i = 1 ∨ i = 2 ∨ i = 3 ∨ i = 4 ∨ i = 5 := by omega
  rcases this with rfl | rfl | rfl | rfl | rfl | rfl
  · have hs : s = ([117, 112] : BS) := (Option.some.inj (show some ([117, 112] : BS) = some s from h)).symm
    subst hs
    show ref44_Command (m + 8) 1 = some [117, 112]
    kernel_rfl
  · have hs : s = ([100, 111, 119, 110] : BS) := (Option.some.inj (show some ([100, 111, 119, 110] : BS) = some s from h)).symm
    subst hs
    show ref44_Command (m + 8) 2 = some [100, 111, 119, 110]
    kernel_rfl
  · have hs : s = ([115, 116, 111, 112] : BS) := (Option.some.inj (show some ([115, 116, 111, 112] : BS) = some s from h)).symm
    subst hs
    show ref44_Command (m + 8) 3 = some [115, 116, 111, 112]
    kernel_rfl
  · have hs : s = ([114, 101, 115, 116, 97, 114, 116] : BS) := (Option.some.inj (show some ([114, 101, 115, 116, 97, 114, 116] : BS) = some s from h)).symm
    subst hs
    show ref44_Command (m + 8) 4 = some [114, 101, 115, 116, 97, 114, 116]
    kernel_rfl
  · have hs : s = ([115, 99, 97, 108, 101] : BS) := (Option.some.inj (show some ([115, 99, 97, 108, 101] : BS) = some s from h)).symm
    subst hs
    show ref44_Command (m + 8) 5 = some [115, 99, 97, 108, 101]
    kernel_rfl
  · have hs : s = ([114, 109] : BS) := (Option.some.inj (show some ([114, 109] : BS) = some s from h)).symm
    subst hs
    show ref44_Command (m + 8) 6 = some [114, 109]
    kernel_rfl
theorem endB_bind {α β : Type} (o : Option (α × List BS)) (f : α → β) : endB (o.bind fun p => some (f p.1, p.2)) = (endB o).map f := by
  cases o with
  | none => rfl
  | some p => obtain ⟨x, r⟩ := p; cases r <;> rfl
def outR (o : Option St) : Sum St (Bool × St) := .inr (decide ((okR o).1 = 0), (okR o).2)
theorem body_eq (n : Nat) (k : Int) (h : BS) (t : List BS) (hl : Small (h :: t)) (hlen : t.length ≤ 1000000) (hn : 2000000 ≤ n) :
    ((if ((!((decide ((List.length (h :: t) : Int) < 2)) == false) || decide (0 ≤ (1 : Int) ∧ (1 : Int) < (List.length (h :: t) : Int)))) = true then (((if ((decide ((List.length (h :: t) : Int) < 2)) == false) = true then ref45_number n ((h :: t)[Int.toNat 1]?.getD []) else some 0)).bind fun r5 =>
      if (bif (decide ((List.length (h :: t) : Int) < 2)) then true else (decide (r5 < 0))) = true then (some (.inr (false, zSt)))
      else (if (decide (0 ≤ (1 : Int) ∧ (1 : Int) < (List.length (h :: t) : Int))) = true then ((ref45_number n ((h :: t)[Int.toNat 1]?.getD [])).bind fun r6 =>
      if (decide (0 ≤ (2 : Int) ∧ (2 : Int) ≤ (List.length (h :: t) : Int))) = true then ((ref45_command__n4_18_19 n (S_ref45_Step.mk 1 r6 0 (S_api_Command.mk k [] 0 false false 0 0) (S_api_Call.mk 0 [] 0 (S_api_Spec.mk [] [] [] 0 [] [] [] (S_api_Check.mk [] 0 0 0) 0 0))) (List.drop (Int.toNat 2) (h :: t))).bind fun r7 =>
      if (!r7.2) = true then (some (.inr (false, zSt)))
      else (some (.inr (true, r7.1)))) else none) else none)) else none) : Option (Sum St (Bool × St))) = some (outR (endB (cmdP k t))) := by
  cases t with
  | nil => rfl
  | cons a t =>
    have e1 : decide ((List.length (h :: a :: t) : Int) < 2) = false := decide_eq_false (by simp; omega)
    have e2 : decide (0 ≤ (2 : Int) ∧ (2 : Int) ≤ (List.length (h :: a :: t) : Int)) = true := decide_eq_true (by rw [List.length_cons, List.length_cons]; omega)
    have hr := rnumber_eq n a (hl a (by simp)) (by omega)
    have hd : List.drop (Int.toNat 2) (h :: a :: t) = t := rfl
    simp only [e1, e2, in1, fst1, hr, hd, Bool.or_true, if_true, cond_false, beq_self_eq_true, Option.bind_some]
    rw [cmdP_eq]
    simp only [numP]
    cases hv : numV a with
    | none => rw [nv_none hv, if_pos (by decide)]; rfl
    | some v =>
      obtain ⟨q1, q2⟩ := nv_some hv
      rw [q1, if_neg (by simp; omega)]
      simp only [Option.map_some, Option.bind_some]
      obtain ⟨y, b, c1, c2, c3⟩ := cmd_end n v k t hl.tail.tail (by simp at hlen; omega) hn
      rw [c1, Option.bind_some]
      cases b with
      | true => rw [c2 rfl]; rfl
      | false => rw [c3 rfl]; rfl
theorem kl1 (n : Nat) (h : BS) (t : List BS) (b2 : St) (hl : Small (h :: t)) (hlen : t.length ≤ 1000000) (hn : 2000000 ≤ n) : ∀ (k i : Nat), i ≤ 6 → 6 - i < k →
    ref45_Line_l1 n (h :: t) k ((i + 1 : Nat) : Int) b2 = some (match (cmds.drop i).findIdx? (· == h) with | some j => outR (endB (cmdP ((i + j + 1 : Nat) : Int) t)) | none => .inl b2)
  | 0, i, _, h => by omega
  | k + 1, i, h1, h2 => by
    rw [ref45_Line_l1]
    by_cases hi : i < 6
    · obtain ⟨c, hc⟩ : ∃ c, cmds[i]? = some c := ⟨cmds[i]'(by show i < 6; exact hi), List.getElem?_eq_getElem _⟩
      have hd : cmds.drop i = c :: cmds.drop (i + 1) := by
        have hi : i < cmds.length := hi
        rw [drop_at hi]
        have : cmds[i] = c := by rw [List.getElem?_eq_getElem hi] at hc; exact Option.some.inj hc
        rw [this]
      obtain ⟨m, hm⟩ : ∃ m, n = m + 8 := ⟨n - 8, by omega⟩
      have hcom : ref44_Command n ((i + 1 : Nat) : Int) = some c := by rw [hm]; exact rCommand m i c hc
      rw [if_pos (decide_eq_true (by omega)), hcom, Option.bind_some, if_pos (in0 _ _), fst0, hd, List.findIdx?_cons]
      by_cases e : (c == h) = true
      · rw [if_pos e]
        have := body_eq n ((i + 1 : Nat) : Int) h t hl hlen hn
        simp only [e, if_true, Nat.add_zero]
        exact this
      · rw [if_neg e, wrap_s (i + 1) (by omega), kl1 n h t b2 hl hlen hn k (i + 1) (by omega) (by omega)]
        have e' : (c == h) = false := by simpa using e
        rw [e']
        cases hf : (cmds.drop (i + 1)).findIdx? (· == h) with
        | none => simp
        | some j => simp only [Bool.false_eq_true, if_false, Option.map_some]; rw [show i + 1 + j + 1 = i + (j + 1) + 1 by omega]
    · have : i = 6 := by omega
      subst this
      rw [if_neg (by decide)]; rfl
theorem kl1_all (n : Nat) (h : BS) (t : List BS) (b2 : St) (hl : Small (h :: t)) (hlen : t.length ≤ 1000000) (hn : 2000000 ≤ n) : ref45_Line_l1 n (h :: t) n 1 b2 = some (if kindOf h = 0 then .inl b2 else outR (endB (cmdP (kindOf h) t))) := by
  have h0 := kl1 n h t b2 hl hlen hn n 0 (by omega) (by omega)
  have h0 : ref45_Line_l1 n (h :: t) n 1 b2 = _ := h0
  rw [h0, List.drop_zero]
  unfold kindOf cmds
  simp only [List.findIdx?_cons, List.findIdx?_nil, beq_iff_eq]
  have sw : ∀ a : BS, (a = h) = (h = a) := fun a => propext ⟨Eq.symm, Eq.symm⟩
  simp only [sw]
  by_cases h1 : h = [117, 112]
  · simp [h1]
  by_cases h2 : h = [100, 111, 119, 110]
  · simp [h2]
  by_cases h3 : h = [115, 116, 111, 112]
  · simp [h3]
  by_cases h4 : h = [114, 101, 115, 116, 97, 114, 116]
  · simp [h4]
  by_cases h5 : h = [115, 99, 97, 108, 101]
  · simp [h5]
  by_cases h6 : h = [114, 109]
  · simp [h6]
  simp [h1, h2, h3, h4, h5, h6]
theorem parts_one {s x : BS} (h : parts 32 s = [x]) : s = x := by
  by_cases hm : (32 : UInt8) ∈ s
  · obtain ⟨p, q, rfl, hp⟩ : ∃ p q, s = p ++ 32 :: q ∧ (32 : UInt8) ∉ p := by
      cases hu : upto 32 s with
      | none => exact absurd hm (upto_none.1 hu)
      | some pq => obtain ⟨p, q⟩ := pq; exact ⟨p, q, (upto_some hu).1, (upto_some hu).2⟩
    rw [parts_app _ hp] at h
    simp only [List.cons.injEq] at h
    exact absurd h.2 (parts_ne 32 q)
  · rw [parts_none hm] at h
    simpa using h
end Go.Proofs.YtjjlpomfnfipbaaDoor.M
