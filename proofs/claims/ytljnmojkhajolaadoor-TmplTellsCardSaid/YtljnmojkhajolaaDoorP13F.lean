/-
  Chapter 13: TmplTells.
-/
import Derived.Test.YtljnmojkhajolaaDoorP13E
namespace Go.Proofs.YtljnmojkhajolaaDoor.M
open Go Go.Proofs.YtljnmojkhajolaaDoor.RX Go.Proofs.YtljnmojkhajolaaDoor.PL

/-! ### the document's Text -/
theorem rtext_l3 (R : List RP → Option BS) (n : Nat) (v0 : List RP) (v4 : Int) (b : RP) (s0 : BS) (hn : 100000 ≤ n) (hb : b.f_Text.length ≤ 90000) (hs : s0.length ≤ 1000000) : ref13_Text_l3 R n v0 v4 b n s0 0 = some (s0 ++ escS b.f_Text) := by
  have hel := (escS_len b.f_Text).2
  have := gatherF (L := ref13_Text_l3 R n v0 v4 b) b.f_Text (PL.sub 36 [36, 36]) s0 id (by omega)
    (fun k i h s hl => by
      have hl : s.length + (PL.sub 36 [36, 36] b.f_Text[i]).length ≤ s0.length + (escS b.f_Text).length := hl
      have hw := wrap_s i (by omega)
      rw [ref13_Text_l3, if_pos (lt_i h)]
      unfold ref13_Text_j4 ref13_Text_j5
      rw [if_pos (in_i h), at_i h, b36, hw]
      unfold PL.sub at hl ⊢
      by_cases e : b.f_Text[i] = 36
      · rw [if_pos e] at hl ⊢
        simp only [List.length_cons, List.length_nil] at hl
        rw [if_pos (decide_eq_true e), if_pos (str_fits (by simp; omega)), Option.bind_some, if_pos (le_i (by omega)), if_pos (le_ij (by omega)), sub1 h, if_pos (str_fits (by simp; omega)), Option.bind_some, e]
        simp
      · rw [if_neg e] at hl ⊢
        simp only [List.length_cons, List.length_nil] at hl
        rw [if_neg (by simpa using e), Option.bind_some, if_pos (le_i (by omega)), if_pos (le_ij (by omega)), sub1 h, if_pos (str_fits (by simp; omega)), Option.bind_some])
    (fun k s => by rw [ref13_Text_l3, nlt_n]; rfl) n (by omega)
  exact this
theorem rmark_eq (n : Nat) (op : Int) (h0 : 0 ≤ op) (h7 : op ≤ 7) : ref13_mark n op = some (mkS op) := by
  unfold ref13_mark
  rw [decide_eq_false (by omega : ¬ op < 0), decide_eq_false (by omega : ¬ op > 7), if_neg (by decide), if_pos (decide_eq_true (by show 0 ≤ op ∧ op < ((8 : Nat) : Int); omega))]
  rfl
theorem rtext_j2 (R : List RP → Option BS) (n m : Nat) (l : List TP) (i : Nat) (h : i < l.length) (s : BS) (hn : 100000 ≤ n) (hs : s.length + (pc m l[i]).length ≤ 80000)
    (hop : l[i].f_Op = 0 ∨ ∃ op : Nat, l[i].f_Op = (op : Int) ∧ 1 ≤ op ∧ op ≤ 7 ∧ (op = 1 → l[i].f_Sub = [])) (hR : l[i].f_Op ≠ 0 → R (Tk m l[i].f_Sub) = some (T m l[i].f_Sub)) : ref13_Text_j2 R n (Tk (m + 1) l) s (i : Int) = some (s ++ pc m l[i]) := by
  have h' : i < (Tk (m + 1) l).length := by rw [Tk_len]; exact h
  unfold ref13_Text_j2
  rw [if_pos (in_i h'), at_i h', Tk_at m l i h h']
  generalize l[i] = p at hs hop hR
  unfold tk
  simp only
  unfold pc at hs ⊢
  by_cases h0 : p.f_Op = 0
  · rw [if_pos h0] at hs ⊢
    have hl := escS_len p.f_Text
    rw [if_pos (by simp [h0]), rtext_l3 R n _ _ _ s hn (by simp only; omega) (by omega)]; rfl
  · rw [if_neg h0] at hs ⊢
    obtain ⟨op, o1, o2, o3, o4⟩ := hop.resolve_left h0
    simp only [List.length_append, List.length_cons, List.length_nil] at hs
    rw [if_neg (by simpa using h0), if_pos (str_fits (by simp; omega)), if_pos (str_fits (by simp; omega)), if_pos (str_fits (by simp; omega)), rmark_eq n _ (by omega) (by omega), Option.bind_some, if_pos (str_fits (by simp; omega))]
    unfold ref13_Text_j6
    by_cases h1 : op = 1
    · have e1 : p.f_Op = 1 := by rw [o1, h1]; rfl
      have hm : mkS p.f_Op = [] := by rw [e1]; rfl
      rw [hm, o4 h1, T_nil, e1, if_neg (show ¬ decide ((1 : Int) > 1) = true by decide), Option.bind_some, if_pos (str_fits (by simp; omega))]
      simp
    · rw [if_pos (decide_eq_true (by omega)), hR h0, Option.bind_some, if_pos (str_fits (by simp; omega)), Option.bind_some, if_pos (str_fits (by simp; omega))]
      simp
theorem rText_eq : ∀ (m d n : Nat) (l : List TP), d + m = 9 → 1 ≤ d → V d l → (T (m + 1) l).length ≤ 50000 → 100002 + m ≤ n → ref13_Text n (Tk (m + 1) l) = some (T (m + 1) l)
  | m, d, n, l, hdm, hd, hV, hT, hn => by
    obtain ⟨n, rfl⟩ : ∃ n', n = n' + 1 := ⟨n - 1, by omega⟩
    have hmem := V_mem hV
    have hlen := V_len hV m
    show ref13_Text_b (ref13_Text n) n _ = _
    unfold ref13_Text_b
    have := gatherF (L := ref13_Text_l1 (ref13_Text n) n (Tk (m + 1) l)) l (pc m) [] id (by omega)
      (fun k i h s hb => by
        have hp := hmem l[i] (List.getElem_mem h)
        have h' : i < (Tk (m + 1) l).length := by rw [Tk_len]; exact h
        rw [← T_pc] at hb
        rw [ref13_Text_l1, if_pos (lt_i h'), rtext_j2 (ref13_Text n) n m l i h s (by omega) (by simp at hb; omega) (hp.elim (fun h => .inl h.1) fun h => .inr (let ⟨op, a, b, c, _, e⟩ := h.2; ⟨op, a, b, c, e⟩)) (fun h0 => by
          obtain ⟨h8, op, o1, o2, o3, o4, o5⟩ := hp.resolve_left (fun h => h0 h.1)
          obtain ⟨m, rfl⟩ : ∃ m', m = m' + 1 := ⟨m - 1, by omega⟩
          have := sub_le (m + 1) (List.getElem_mem h) h0
          exact rText_eq m (d + 1) n _ (by omega) (by omega) o4 (by omega) (by omega)), Option.bind_some])
      (fun k s => by rw [ref13_Text_l1, Tk_len, nlt_n]; rfl) n (by omega)
    rw [List.nil_append, ← T_pc] at this
    have this : ref13_Text_l1 (ref13_Text n) n (Tk (m + 1) l) n [] 0 = some (T (m + 1) l) := this
    rw [this]; rfl
  termination_by m => m

/-! ### Names -/
def nms : Nat → List TP → List BS
  | 0, _ => []
  | d + 1, l => l.flatMap fun p => (if p.f_Op = 0 then [] else [p.f_Name]) ++ nms d p.f_Sub
def nm1 (m : Nat) (p : TP) : List BS := (if p.f_Op = 0 then [] else [p.f_Name]) ++ nms m p.f_Sub
def nm2 (m : Nat) (p : TP) : List BS := (if p.f_Op = 0 then [] else [p.f_Name]) ++ srt (nms m p.f_Sub)
theorem nms_eq (m : Nat) (l : List TP) : nms (m + 1) l = l.flatMap (nm1 m) := rfl
theorem nms_nil (m : Nat) : nms m [] = [] := by cases m <;> rfl
theorem nms_len {d : Nat} {l : List TP} (h : V d l) : ∀ m, (nms (m + 1) l).length ≤ (T (m + 1) l).length := by
  induction h with
  | nil d => intro m; simp [nms_eq]
  | text d t l ht hc h ih =>
    intro m
    have := ih m
    have e : nms (m + 1) (S_tmpl_Part.mk [] t 0 [] :: l) = nms (m + 1) l := by rw [nms_eq, List.flatMap_cons, nm1, if_pos rfl]; simp only; rw [nms_nil]; rfl
    rw [e, T_cons]; simp; omega
  | var1 d nm l hd hv hw h ih =>
    intro m
    have := ih m
    have e : nms (m + 1) (S_tmpl_Part.mk nm [] 1 [] :: l) = nm :: nms (m + 1) l := by rw [nms_eq, List.flatMap_cons, nm1, if_neg (by show ¬ (1 : Int) = 0; decide)]; simp only; rw [nms_nil]; rfl
    rw [e, T_cons, if_neg (by show ¬ (1 : Int) = 0; decide)]; simp; omega
  | var d nm op sb l hd hv hw h2 h7 hs hn h ihs ih =>
    intro m
    have h1 := ih m
    have hop : ¬ (S_tmpl_Part.mk nm [] (op : Int) sb).f_Op = 0 := by show ¬ ((op : Int) = 0); omega
    have e : nms (m + 1) (S_tmpl_Part.mk nm [] (op : Int) sb :: l) = nm :: (nms m sb ++ nms (m + 1) l) := by rw [nms_eq, List.flatMap_cons, nm1, if_neg hop]; rfl
    have h3 : (nms m sb).length ≤ (T m sb).length := by
      cases m with
      | zero => exact Nat.zero_le _
      | succ m => exact ihs m
    rw [e, T_cons, if_neg hop]; simp; omega
theorem cap17 {α : Type} {a b : List α} (h : a.length + b.length ≤ 1000000) : decide ((List.length a + List.length b) * (16 + 1) ≤ limit) = true := cap_add (by omega)
theorem nms_mem (m : Nat) (l : List TP) : ∀ x, x ∈ l.flatMap (nm2 m) ↔ x ∈ l.flatMap (nm1 m) := by
  intro x
  simp only [List.mem_flatMap, nm1, nm2, List.mem_append, mem_srt]
theorem nm2_len (m : Nat) (l : List TP) : (l.flatMap (nm2 m)).length ≤ (l.flatMap (nm1 m)).length := by
  induction l with
  | nil => simp
  | cons p l ih =>
    have := srt_length_le (nms m p.f_Sub)
    simp only [List.flatMap_cons, List.length_append, nm1, nm2] at ih ⊢
    omega
theorem Names_nil (n : Nat) : tmpl_Names (n + 2) [] = some [] := by
  show tmpl_Names_b (tmpl_Names (n + 1)) (n + 1) [] = _
  unfold tmpl_Names_b
  rw [tmpl_Names_l1]
  rw [if_neg (by simp), Option.bind_some, name_Sorted_eq (n + 1) [] (by simp)]; rfl
theorem Names_eq : ∀ (m d n : Nat) (l : List TP), d + m = 9 → 1 ≤ d → V d l → (T (m + 1) l).length ≤ 50000 → 100002 + m ≤ n → tmpl_Names n l = some (srt (nms (m + 1) l))
  | m, d, n, l, hdm, hd, hV, hT, hn => by
    obtain ⟨n, rfl⟩ : ∃ n', n = n' + 1 := ⟨n - 1, by omega⟩
    have hmem := V_mem hV
    have hlen := V_len hV m
    have hnl := nms_len hV m
    have h2l := nm2_len m l
    rw [← nms_eq] at h2l
    show tmpl_Names_b (tmpl_Names n) n l = _
    unfold tmpl_Names_b
    have := gatherF (L := tmpl_Names_l1 (tmpl_Names n) n l (l.length : Int)) l (nm2 m) [] id (by omega)
      (fun k i h s hb => by
        have hp := hmem l[i] (List.getElem_mem h)
        have hsub : tmpl_Names n l[i].f_Sub = some (srt (nms m l[i].f_Sub)) := by
          by_cases h0 : l[i].f_Op = 0
          · rcases hp with h | ⟨_, op, o1, o2, _⟩
            · rw [h.2, nms_nil]
              obtain ⟨n, rfl⟩ : ∃ n', n = n' + 2 := ⟨n - 2, by omega⟩
              exact Names_nil n
            · omega
          · obtain ⟨h8, op, o1, o2, o3, o4, o5⟩ := hp.resolve_left (fun h => h0 h.1)
            obtain ⟨m, rfl⟩ : ∃ m', m = m' + 1 := ⟨m - 1, by omega⟩
            have := sub_le (m + 1) (List.getElem_mem h) h0
            exact Names_eq m (d + 1) n _ (by omega) (by omega) o4 (by omega) (by omega)
        rw [tmpl_Names_l1, if_pos (lt_i h)]
        unfold tmpl_Names_j2 tmpl_Names_j3
        rw [if_pos (in_i h), at_i h, hsub]
        have hb2 : s.length + (nm2 m l[i]).length ≤ 50000 := by simp only [List.length_nil] at hb; omega
        clear hb
        have hb := hb2
        unfold nm2 at hb ⊢
        by_cases h0 : l[i].f_Op = 0
        · rw [if_pos h0] at hb ⊢
          simp only [List.length_append, List.length_nil] at hb
          rw [if_neg (by simp [h0]), Option.bind_some, Option.bind_some, if_pos (cap17 (by omega)), Option.bind_some]; rfl
        · rw [if_neg h0] at hb ⊢
          simp only [List.length_append, List.length_nil, List.length_cons] at hb
          rw [if_pos (by simpa using h0), if_pos (cap17 (by simp only [List.length_append, List.length_cons, List.length_nil]; omega)), Option.bind_some, Option.bind_some, if_pos (cap17 (by simp only [List.length_append, List.length_cons, List.length_nil]; omega)), Option.bind_some]
          simp)
      (fun k s => by rw [tmpl_Names_l1, nlt_n]; rfl) n (by omega)
    rw [List.nil_append] at this
    have this : tmpl_Names_l1 (tmpl_Names n) n l (l.length : Int) n [] 0 = some (l.flatMap (nm2 m)) := this
    rw [this, Option.bind_some, name_Sorted_eq n _ (by omega), Option.bind_some, srt_ext (nms_mem m l), ← nms_eq]
  termination_by m => m
theorem rnames_nil (n : Nat) : ref13_names (n + 2) [] = some [] := by
  show ref13_names_b (ref13_names (n + 1)) (n + 1) [] = _
  unfold ref13_names_b
  rw [ref13_names_l1]; rfl
theorem rnames_l4 (R : List RP → Option (List BS)) (n : Nat) (v0 : List RP) (v4 : Int) (u s0 : List BS) (hn : 100000 ≤ n) (hu : u.length + s0.length ≤ 90000) : ref13_names_l4 R n v0 v4 u n s0 0 = some (s0 ++ u) := by
  have hfl : ∀ l : List BS, l.flatMap (fun x => [x]) = l := fun l => by induction l <;> simp_all
  have := gatherF (L := ref13_names_l4 R n v0 v4 u) u (fun x => [x]) s0 id (by omega)
    (fun k i h s hl => by
      rw [hfl] at hl
      simp only [List.length_cons, List.length_nil] at hl
      rw [ref13_names_l4, if_pos (lt_i h), if_pos (in_i h), at_i h, if_pos (cap17 (by simp only [List.length_append, List.length_cons, List.length_nil]; omega))])
    (fun k s => by rw [ref13_names_l4, nlt_n]; rfl) n (by omega)
  rw [hfl] at this
  exact this
theorem rnames_eq : ∀ (m d n : Nat) (l : List TP), d + m = 9 → 1 ≤ d → V d l → (T (m + 1) l).length ≤ 50000 → 100002 + m ≤ n → ref13_names n (Tk (m + 1) l) = some (nms (m + 1) l)
  | m, d, n, l, hdm, hd, hV, hT, hn => by
    obtain ⟨n, rfl⟩ : ∃ n', n = n' + 1 := ⟨n - 1, by omega⟩
    have hmem := V_mem hV
    have hlen := V_len hV m
    have hnl := nms_len hV m
    show ref13_names_b (ref13_names n) n _ = _
    unfold ref13_names_b
    have := gatherF (L := ref13_names_l1 (ref13_names n) n (Tk (m + 1) l)) l (nm1 m) [] id (by omega)
      (fun k i h s hb => by
        have hp := hmem l[i] (List.getElem_mem h)
        have h' : i < (Tk (m + 1) l).length := by rw [Tk_len]; exact h
        have hsub : ref13_names n (Tk m l[i].f_Sub) = some (nms m l[i].f_Sub) := by
          by_cases h0 : l[i].f_Op = 0
          · rcases hp with h | ⟨_, op, o1, o2, _⟩
            · rw [h.2, nms_nil, Tk_nil]
              obtain ⟨n, rfl⟩ : ∃ n', n = n' + 2 := ⟨n - 2, by omega⟩
              exact rnames_nil n
            · omega
          · obtain ⟨h8, op, o1, o2, o3, o4, o5⟩ := hp.resolve_left (fun h => h0 h.1)
            obtain ⟨m, rfl⟩ : ∃ m', m = m' + 1 := ⟨m - 1, by omega⟩
            have := sub_le (m + 1) (List.getElem_mem h) h0
            exact rnames_eq m (d + 1) n _ (by omega) (by omega) o4 (by omega) (by omega)
        rw [← nms_eq] at hb
        simp only [List.length_nil, Nat.zero_add] at hb
        rw [ref13_names_l1, if_pos (lt_i h')]
        unfold ref13_names_j2 ref13_names_j3
        have e1 : (tk m l[i]).f_Sub = Tk m l[i].f_Sub := rfl
        have e2 : (tk m l[i]).f_Name = l[i].f_Name := rfl
        have e3 : (tk m l[i]).f_Op = l[i].f_Op := rfl
        rw [if_pos (in_i h'), at_i h', Tk_at m l i h h', e1, e2, e3, hsub]
        unfold nm1 at hb ⊢
        by_cases h0 : l[i].f_Op = 0
        · rw [if_pos h0] at hb ⊢
          simp only [List.length_append, List.length_nil] at hb
          rw [if_neg (by simp [h0]), Option.bind_some, if_pos (in_i h'), Option.bind_some, rnames_l4 _ n _ _ _ s (by omega) (by omega), Option.bind_some, Option.bind_some]; rfl
        · rw [if_neg h0] at hb ⊢
          simp only [List.length_append, List.length_nil, List.length_cons] at hb
          rw [if_pos (by simpa using h0), if_pos (in_i h'), if_pos (cap17 (by simp only [List.length_append, List.length_cons, List.length_nil]; omega)), Option.bind_some, if_pos (in_i h'), Option.bind_some, rnames_l4 _ n _ _ _ _ (by omega) (by simp; omega), Option.bind_some, Option.bind_some]
          simp)
      (fun k s => by rw [ref13_names_l1, Tk_len, nlt_n]; rfl) n (by omega)
    rw [List.nil_append, ← nms_eq] at this
    have this : ref13_names_l1 (ref13_names n) n (Tk (m + 1) l) n [] 0 = some (nms (m + 1) l) := this
    rw [this]; rfl
  termination_by m => m

/-! ### Deep -/
def dp : Nat → List TP → Nat
  | 0, _ => 0
  | d + 1, l => l.foldl (fun a p => if p.f_Op = 0 then a else max a (1 + dp d p.f_Sub)) 0
def dpf (m : Nat) (a : Nat) (p : TP) : Nat := if p.f_Op = 0 then a else max a (1 + dp m p.f_Sub)
theorem dp_eq (m : Nat) (l : List TP) : dp (m + 1) l = l.foldl (dpf m) 0 := rfl
theorem dp_le : ∀ (m d : Nat) (l : List TP), d + m = 9 → V d l → dp (m + 1) l ≤ m
  | m, d, l, hdm, hV => by
    have hmem := V_mem hV
    rw [dp_eq]
    have key : ∀ (l : List TP) (a : Nat), a ≤ m → (∀ p ∈ l, p.f_Op ≠ 0 → 1 + dp m p.f_Sub ≤ m) → l.foldl (dpf m) a ≤ m := by
      intro l
      induction l with
      | nil => intro a ha _; exact ha
      | cons p l ih =>
        intro a ha hp
        rw [List.foldl_cons]
        refine ih _ ?_ fun q hq => hp q (List.mem_cons_of_mem _ hq)
        unfold dpf
        split
        · exact ha
        · rename_i h0
          have := hp p (List.mem_cons_self ..) h0
          omega
    refine key l 0 (by omega) fun p hp h0 => ?_
    obtain ⟨h8, op, o1, o2, o3, o4, o5⟩ := (hmem p hp).resolve_left (fun h => h0 h.1)
    obtain ⟨m, rfl⟩ : ∃ m', m = m' + 1 := ⟨m - 1, by omega⟩
    have := dp_le m (d + 1) p.f_Sub (by omega) o4
    omega
  termination_by m => m
theorem Deep_eq : ∀ (m d n : Nat) (l : List TP), d + m = 9 → 1 ≤ d → V d l → (T (m + 1) l).length ≤ 50000 → 100002 + m ≤ n → tmpl_Deep n l = some ((dp (m + 1) l : Nat) : Int) ∧ ref13_Deep n (Tk (m + 1) l) = some ((dp (m + 1) l : Nat) : Int)
  | m, d, n, l, hdm, hd, hV, hT, hn => by
    obtain ⟨n, rfl⟩ : ∃ n', n = n' + 1 := ⟨n - 1, by omega⟩
    have hmem := V_mem hV
    have hlen := V_len hV m
    have hsub : ∀ i (h : i < l.length), l[i].f_Op ≠ 0 → tmpl_Deep n l[i].f_Sub = some ((dp m l[i].f_Sub : Nat) : Int) ∧ ref13_Deep n (Tk m l[i].f_Sub) = some ((dp m l[i].f_Sub : Nat) : Int) ∧ dp m l[i].f_Sub ≤ 9 := by
      intro i h h0
      obtain ⟨h8, op, o1, o2, o3, o4, o5⟩ := (hmem l[i] (List.getElem_mem h)).resolve_left (fun h => h0 h.1)
      obtain ⟨m, rfl⟩ : ∃ m', m = m' + 1 := ⟨m - 1, by omega⟩
      have := sub_le (m + 1) (List.getElem_mem h) h0
      have h1 := Deep_eq m (d + 1) n _ (by omega) (by omega) o4 (by omega) (by omega)
      have h2 := dp_le m (d + 1) l[i].f_Sub (by omega) o4
      exact ⟨h1.1, h1.2, by omega⟩
    constructor
    · show tmpl_Deep_b (tmpl_Deep n) n l = _
      unfold tmpl_Deep_b
      have key : ∀ (k i a : Nat), i ≤ l.length → l.length - i < k → a ≤ 10 → tmpl_Deep_l1 (tmpl_Deep n) n l (l.length : Int) k (a : Int) (i : Int) = some (((l.drop i).foldl (dpf m) a : Nat) : Int) := by
        intro k
        induction k with
        | zero => intro i a _ h; omega
        | succ k ih =>
          intro i a h1 h2 ha
          rw [tmpl_Deep_l1]
          by_cases h : i < l.length
          · rw [if_pos (lt_i h), drop_at h, List.foldl_cons]
            unfold tmpl_Deep_j2
            rw [if_pos (in_i h), at_i h]
            by_cases h0 : l[i].f_Op = 0
            · rw [if_neg (by simp [h0]), Option.bind_some, wrap_s i (by omega), dpf, if_pos h0]
              exact ih (i + 1) a (by omega) (by omega) ha
            · obtain ⟨s1, s2, s3⟩ := hsub i h h0
              have hw : IntKind.wrap .i64 (1 + ((dp m l[i].f_Sub : Nat) : Int)) = ((1 + dp m l[i].f_Sub : Nat) : Int) := by rw [wrap_id _ (by omega) (by omega)]; omega
              rw [if_pos (by simpa using h0), s1, Option.bind_some, hw, Option.bind_some, wrap_s i (by omega), dpf, if_neg h0]
              have hm : (if ((1 + dp m l[i].f_Sub : Nat) : Int) > (a : Int) then ((1 + dp m l[i].f_Sub : Nat) : Int) else (a : Int)) = ((max a (1 + dp m l[i].f_Sub) : Nat) : Int) := by
                split <;> omega
              rw [hm]
              exact ih (i + 1) _ (by omega) (by omega) (by omega)
          · rw [nlt_i (Nat.not_lt.1 h), if_neg Bool.false_ne_true, List.drop_eq_nil_of_le (by omega)]; rfl
      have := key n 0 0 (by omega) (by omega) (by omega)
      have this : tmpl_Deep_l1 (tmpl_Deep n) n l (l.length : Int) n 0 0 = some (((l.drop 0).foldl (dpf m) 0 : Nat) : Int) := this
      rw [this]; rfl
    · show ref13_Deep_b (ref13_Deep n) n _ = _
      unfold ref13_Deep_b
      have key : ∀ (k i a : Nat), i ≤ l.length → l.length - i < k → a ≤ 10 → ref13_Deep_l1 (ref13_Deep n) n (Tk (m + 1) l) k (a : Int) (i : Int) = some (((l.drop i).foldl (dpf m) a : Nat) : Int) := by
        intro k
        induction k with
        | zero => intro i a _ h; omega
        | succ k ih =>
          intro i a h1 h2 ha
          rw [ref13_Deep_l1]
          by_cases h : i < l.length
          · have h' : i < (Tk (m + 1) l).length := by rw [Tk_len]; exact h
            have e1 : (tk m l[i]).f_Sub = Tk m l[i].f_Sub := rfl
            have e3 : (tk m l[i]).f_Op = l[i].f_Op := rfl
            rw [if_pos (lt_i h'), drop_at h, List.foldl_cons]
            unfold ref13_Deep_j2
            rw [if_pos (in_i h'), at_i h', Tk_at m l i h h', e1, e3]
            by_cases h0 : l[i].f_Op = 0
            · rw [if_neg (by simp [h0]), Option.bind_some, wrap_s i (by omega), dpf, if_pos h0]
              exact ih (i + 1) a (by omega) (by omega) ha
            · obtain ⟨s1, s2, s3⟩ := hsub i h h0
              have hw : IntKind.wrap .i64 (1 + ((dp m l[i].f_Sub : Nat) : Int)) = ((1 + dp m l[i].f_Sub : Nat) : Int) := by rw [wrap_id _ (by omega) (by omega)]; omega
              rw [if_pos (by simpa using h0), if_pos (in_i h'), s2, Option.bind_some, hw, dpf, if_neg h0]
              have hm : (if decide (((1 + dp m l[i].f_Sub : Nat) : Int) > (a : Int)) = true then some ((1 + dp m l[i].f_Sub : Nat) : Int) else some (a : Int)) = some ((max a (1 + dp m l[i].f_Sub) : Nat) : Int) := by
                split
                · rename_i hc; have := of_decide_eq_true hc; congr 1; omega
                · rename_i hc; have : ¬ ((1 + dp m l[i].f_Sub : Nat) : Int) > (a : Int) := fun e => hc (decide_eq_true e); congr 1; omega
              rw [hm, Option.bind_some, wrap_s i (by omega)]
              exact ih (i + 1) _ (by omega) (by omega) (by omega)
          · have hl : decide ((i : Int) < (List.length (Tk (m + 1) l) : Int)) = false := nlt_i (by rw [Tk_len]; omega)
            rw [hl, if_neg Bool.false_ne_true, List.drop_eq_nil_of_le (by omega)]; rfl
      have := key n 0 0 (by omega) (by omega) (by omega)
      have this : ref13_Deep_l1 (ref13_Deep n) n (Tk (m + 1) l) n 0 0 = some (((l.drop 0).foldl (dpf m) 0 : Nat) : Int) := this
      rw [this]; rfl
  termination_by m => m
theorem law13_TmplTells_true (a0 : List UInt8) (_ : List.length a0 ≤ maxLen) : ∃ n, law13_TmplTells n a0 = some true := by
  refine ⟨200000, ?_⟩
  unfold law13_TmplTells
  rw [awake13]
  by_cases hb : (a0.length : Int) > 2000
  · rw [if_pos (decide_eq_true hb)]; rfl
  · rw [if_neg (by simpa using hb)]
    obtain ⟨l, e, p1, p2, p3⟩ := Parse_ok 200000 a0 (by omega) (by omega)
    rw [p1, Option.bind_some]
    by_cases he : e = 0
    · have hP := p2 he
      obtain ⟨hV, hN⟩ := Ps_form hP
      have hlen : (T 9 l).length ≤ 3 * a0.length := by have := (Ps_len hP (by omega) (by omega)).2; simpa using this
      have hT := Text_eq 8 1 200000 l (by omega) (by omega) hV (by show (T 9 l).length ≤ _; omega) (by omega)
      have hk := taken_eq 8 1 200000 l (by omega) (by omega) hV (by show (T 9 l).length ≤ _; omega) (by omega)
      have hR := rText_eq 8 1 200000 l (by omega) (by omega) hV (by show (T 9 l).length ≤ _; omega) (by omega)
      have hNm := Names_eq 8 1 200000 l (by omega) (by omega) hV (by show (T 9 l).length ≤ _; omega) (by omega)
      have hnl : (nms 9 l).length ≤ (T 9 l).length := nms_len hV 8
      have hrn : ref13_Names 200000 (Tk 9 l) = some (srt (nms 9 l)) := by
        unfold ref13_Names
        rw [rnames_eq 8 1 200000 l (by omega) (by omega) hV (by show (T 9 l).length ≤ _; omega) (by omega), Option.bind_some, ref02_Sorted_eq 200000 _ (by show (nms 9 l).length < _; omega) (by omega)]; rfl
      have hsl := srt_length_le (nms 9 l)
      have hsm := ref02_Same_eq 200000 (srt (nms 9 l)) (srt (nms 9 l)) (by omega) (by omega)
      obtain ⟨hd1, hd2⟩ := Deep_eq 8 1 200000 l (by omega) (by omega) hV (by show (T 9 l).length ≤ _; omega) (by omega)
      have hdl := dp_le 8 1 l (by omega) hV
      have z : ((0 : Int) != 0) = false := rfl
      have hd8 : decide (((dp (8 + 1) l : Nat) : Int) ≤ 8) = true := decide_eq_true (by omega)
      subst he
      simp only [z, Bool.false_eq_true, if_false, hk, Option.bind_some, hT, hR, beq_self_eq_true, if_true, hNm, hrn, hsm, decide_true, cond_true, hd1, hd2, hd8, lett]
    · have hz : (e != 0) = true := by simpa using he
      simp only [hz, if_true]
      rfl
end Go.Proofs.YtljnmojkhajolaaDoor.M
