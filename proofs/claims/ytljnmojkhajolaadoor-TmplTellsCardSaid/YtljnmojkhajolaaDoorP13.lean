/-
  Chapter 13: what the parser of texts with references reads.
-/
import Derived.Test.YtljnmojkhajolaaDoorM13
import Derived.Test.YtljnmojkhajolaaDoorLoop
import Derived.Test.YtljnmojkhajolaaDoorStr
import Derived.Test.YtljnmojkhajolaaDoorRxShelf
namespace Go.Proofs.YtljnmojkhajolaaDoor.M
open Go Go.Proofs.YtljnmojkhajolaaDoor.RX Go.Proofs.YtljnmojkhajolaaDoor.PL

/-! ### names -/
def isName (p q : UInt8 → Bool) : BS → Bool
  | [] => false
  | c :: s => decide (s.length < 24) && p c && s.all q
theorem findSome_anyF {α : Type} (p : α → Bool) : ∀ l : List α, l.findSome? (fun x => if p x = true then some false else none) = if l.any p = true then some false else none
  | [] => rfl
  | x :: l => by rw [List.findSome?_cons, List.any_cons, findSome_anyF p l]; cases p x <;> simp
theorem any_not {α : Type} (p : α → Bool) (l : List α) : l.any (fun x => !p x) = !l.all p := by induction l <;> simp_all
theorem kind_impl (n : Nat) (L : List UInt8 → Nat → Int → Option (Sum Unit Bool)) (p q : UInt8 → Bool) (s : BS) (hn : 100 ≤ n)
    (hs : ∀ k i (h : i < s.length), L s (k + 1) (i : Int) = if (!(q s[i])) = true then some (.inr false) else L s k (IntKind.wrap .i64 ((i : Int) + 1)))
    (he : ∀ k, L s (k + 1) (s.length : Int) = some (.inl ())) :
    (if ((!((bif (decide ((List.length s : Int) < 1)) then true else (decide ((List.length s : Int) > 24))) == false) || decide (0 ≤ (0 : Int) ∧ (0 : Int) < (List.length s : Int)))) = true then (lett ((bif (bif (decide ((List.length s : Int) < 1)) then true else (decide ((List.length s : Int) > 24))) then true else (!(p ((s)[Int.toNat 0]?.getD 0)))) : Bool) fun x1 =>
      if x1 = true then some false
      else ((L s n 1).bind fun o2 => (Sum.elim (fun _ => some true) (fun o2 => some o2)) o2)) else none) = some (isName p q s) := by
  cases s with
  | nil => simp [lett, isName]
  | cons c t =>
    have e1 : decide ((List.length (c :: t) : Int) < 1) = false := decide_eq_false (by simp; omega)
    have e2 : decide (0 ≤ (0 : Int) ∧ (0 : Int) < (List.length (c :: t) : Int)) = true := decide_eq_true (by rw [List.length_cons]; omega)
    simp only [e1, e2, cond_false, Bool.or_true, if_true, Int.toNat_zero, List.getElem?_cons_zero, Option.getD_some, lett]
    by_cases h : t.length < 24
    · have e3 : decide ((List.length (c :: t) : Int) > 24) = false := decide_eq_false (by simp; omega)
      simp only [e3, cond_false, isName, decide_eq_true h, Bool.true_and]
      have := scanL (L := L (c :: t)) (c :: t) (fun x => if (!q x) = true then some false else none) 1 (by simp; omega)
        (fun k i hi _ => by rw [hs k i hi]; cases q (c :: t)[i] <;> rfl) he n 1 (by omega) (by simp) (by simp; omega)
      rw [show (1 : Int) = ((1 : Nat) : Int) from rfl, this, List.drop_one, List.tail_cons, findSome_anyF, any_not]
      cases p c <;> cases t.all q <;> rfl
    · have e3 : decide ((List.length (c :: t) : Int) > 24) = true := decide_eq_true (by simp; omega)
      rw [e3, isName, decide_eq_false h]; rfl
def va1 (c : UInt8) := name_Variable_1 (c.toNat : Int)
def va2 (c : UInt8) := name_Variable_2 (c.toNat : Int)
def varB (s : BS) : Bool := isName va1 va2 s
theorem name_Variable_eq (n : Nat) (s : BS) (hn : 100 ≤ n) : name_Variable n s = some (varB s) := by
  have h : name_of__name_Variable_1__name_Variable_2 n s = some (isName va1 va2 s) := kind_impl n (name_of__name_Variable_1__name_Variable_2_l1 n) va1 va2 s hn (fun k i h => by rw [name_of__name_Variable_1__name_Variable_2_l1, if_pos (lt_i h), if_pos (in_i h), at_i h]; rfl) (fun k => by rw [name_of__name_Variable_1__name_Variable_2_l1, nlt_n]; rfl)
  unfold name_Variable
  rw [h]; rfl
theorem varB_ne {s : BS} (h : varB s = true) : s ≠ [] := by intro e; subst e; cases h

/-! ### pieces of the parser -/
abbrev TP := S_tmpl_Part
abbrev Rd := S_tmpl_reader
theorem b36 (c : UInt8) : ((c.toNat : Int) == 36) = decide (c = 36) := beq_byte c 36 (by decide)
theorem m36 (c : UInt8) : ((c.toNat : Int) != 36) = !decide (c = 36) := by rw [← b36]; rfl
theorem b125 (c : UInt8) : ((c.toNat : Int) == 125) = decide (c = 125) := beq_byte c 125 (by decide)
theorem m125 (c : UInt8) : ((c.toNat : Int) != 125) = !decide (c = 125) := by rw [← b125]; rfl
theorem hp1 (l : BS) (c : UInt8) : Lib.hasPrefix l [c] = decide (l.head? = some c) := by
  cases l with
  | nil => rfl
  | cons d l =>
    simp only [Lib.hasPrefix, List.isPrefixOf, List.head?_cons, Option.some.injEq, Bool.and_true]
    by_cases h : c = d
    · subst h; simp
    · rw [decide_eq_false (fun e => h e.symm)]; simpa using h
def fl (w : BS) : List TP := if w = [] then [] else [S_tmpl_Part.mk [] w 0 []]
theorem fl_len (w : BS) : (fl w).length ≤ w.length := by
  unfold fl; split
  · simp
  · rename_i h; have := List.length_pos_iff.2 h; simp; omega
theorem set_last {α : Type} (l : List α) (z x : α) : List.set (l ++ [z]) (Int.toNat (l.length : Int)) x = l ++ [x] := by
  rw [tn, List.set_append_right _ _ (Nat.le_refl _)]; simp
theorem cap65 {α : Type} (l : List α) (z : α) (h : l.length ≤ 1000000) : decide ((List.length l + List.length ([z] : List α)) * (64 + 1) ≤ limit) = true := decide_eq_true (by show (l.length + 1) * (64 + 1) ≤ 140737488355328; omega)
theorem in_last {α : Type} (l : List α) (z : α) : decide (0 ≤ (List.length l : Int) ∧ (List.length l : Int) < (List.length (l ++ [z]) : Int)) = true := decide_eq_true (by simp; omega)
theorem flush_eq (n : Nat) (w : BS) (out : List TP) (h : out.length ≤ 1000000) : tmpl_reader_parts_1__o0__o1 n w out = some ([], out ++ fl w) := by
  unfold tmpl_reader_parts_1__o0__o1 fl
  by_cases hw : w = []
  · subst hw; simp
  · have hp : decide ((List.length w : Int) > 0) = true := decide_eq_true (by have := List.length_pos_iff.2 hw; omega)
    rw [if_pos hp, if_pos (cap65 _ _ h), if_pos (in_last _ _), set_last, if_neg hw]; rfl
def wordB (c : UInt8) : Bool := tmpl_word (c.toNat : Int)
def nmOf (r : BS) : BS := r.takeWhile wordB
def afOf (r : BS) : BS := r.dropWhile wordB
theorem nm_af (r : BS) : nmOf r ++ afOf r = r := List.takeWhile_append_dropWhile
theorem nm_take (r : BS) : List.take (nmOf r).length r = nmOf r := by
  have h := nm_af r
  generalize nmOf r = x at h ⊢
  generalize afOf r = y at h
  subst h
  exact List.take_left
theorem nm_len (r : BS) : (nmOf r).length ≤ r.length := by have := congrArg List.length (nm_af r); simp at this; omega
theorem af_drop (s : BS) (i : Nat) : afOf (s.drop i) = s.drop (i + (nmOf (s.drop i)).length) := by
  have h := nm_af (s.drop i)
  rw [← List.drop_drop]
  conv => rhs; rw [← h]
  rw [List.drop_left' (by rw [h])]
theorem name_l (n : Nat) (v : Int) (s : BS) (e : Int) (hs : s.length ≤ 100000) : ∀ (k i : Nat), i ≤ s.length → s.length - i < k → tmpl_reader_name__o0_l1 n v k (S_tmpl_reader.mk s (i : Int) e) = some (S_tmpl_reader.mk s ((i + (nmOf (s.drop i)).length : Nat) : Int) e)
  | 0, i, _, h => by omega
  | k + 1, i, h1, h2 => by
    rw [tmpl_reader_name__o0_l1]
    by_cases h : i < s.length
    · simp only [lt_i h, in_i h, at_i h, Bool.or_true, if_true, lett, cond_true]
      rw [drop_at h]
      have hn : nmOf (s[i] :: s.drop (i + 1)) = if wordB s[i] = true then s[i] :: nmOf (s.drop (i + 1)) else [] := List.takeWhile_cons
      rw [hn]
      by_cases hw : wordB s[i] = true
      · rw [if_pos hw, if_pos (by exact hw), wrap_s i (by omega), name_l n v s e hs k (i + 1) (by omega) (by omega)]
        simp only [List.length_cons]
        rw [show i + 1 + (nmOf (List.drop (i + 1) s)).length = i + ((nmOf (List.drop (i + 1) s)).length + 1) by omega]
      · rw [if_neg hw, if_neg (by exact hw)]; rfl
    · have hl : decide ((i : Int) < (List.length s : Int)) = false := nlt_i (Nat.not_lt.1 h)
      simp only [hl, cond_false, Bool.false_eq_true, if_false]
      rw [List.drop_eq_nil_of_le (by omega)]; rfl
theorem name_eq (n : Nat) (s : BS) (i : Nat) (hn : 100001 ≤ n) (hs : s.length ≤ 100000) (hi : i ≤ s.length) : tmpl_reader_name__o0 n (S_tmpl_reader.mk s (i : Int) 0) =
    some (nmOf (s.drop i), S_tmpl_reader.mk s ((i + (nmOf (s.drop i)).length : Nat) : Int) (if varB (nmOf (s.drop i)) = true then 0 else 3)) := by
  have hlen := nm_len (s.drop i)
  rw [List.length_drop] at hlen
  unfold tmpl_reader_name__o0
  rw [name_l n _ s 0 hs n i hi (by omega), Option.bind_some]
  simp only
  have c1 : decide (0 ≤ ((i + (nmOf (s.drop i)).length : Nat) : Int) ∧ ((i + (nmOf (s.drop i)).length : Nat) : Int) ≤ (List.length s : Int)) = true := le_i (by omega)
  have c2 : decide (0 ≤ (i : Int) ∧ (i : Int) ≤ ((i + (nmOf (s.drop i)).length : Nat) : Int)) = true := le_ij (by omega)
  have ht : List.take (Int.toNat ((i + (nmOf (s.drop i)).length : Nat) : Int) - Int.toNat (i : Int)) (List.drop (Int.toNat (i : Int)) s) = nmOf (s.drop i) := by
    rw [tn, tn, Nat.add_sub_cancel_left]
    exact nm_take _
  rw [if_pos c1, if_pos c2, ht, name_Variable_eq n _ (by omega), Option.bind_some]
  unfold tmpl_reader_name__o0_j2
  cases hv : varB (nmOf (s.drop i)) with
  | true =>
    simp only [Bool.not_true, Bool.false_eq_true, if_false, Option.bind_some, if_true]
    rw [if_pos c1, if_pos c2, ht]
  | false =>
    simp only [Bool.not_false, if_true, Option.bind_some, Bool.false_eq_true, if_false]
    rw [if_pos c1, if_pos c2, ht]
/-- The mark that comes, and how long it is. -/
def mk : BS → Nat × Nat
  | [] => (1, 0)
  | c :: r => if c = 45 then (3, 1) else if c = 63 then (5, 1) else if c = 43 then (7, 1) else if c = 58 then (match r with | [] => (1, 0) | d :: _ => if d = 45 then (2, 2) else if d = 63 then (4, 2) else if d = 43 then (6, 2) else (1, 0)) else (1, 0)
def marks : List BS := [[], [], [58, 45], [45], [58, 63], [63], [58, 43], [43]]
theorem marks_eq (n : Nat) : tmpl_marks n = some marks := rfl
def mst (r : BS) (p : Int × Int) (i : Nat) (m : BS) : Int × Int := if (decide ((List.length m : Int) > p.2) && Lib.hasPrefix r m) = true then ((i : Int), (List.length m : Int)) else p
theorem mark_j (n : Nat) (s : BS) (a : Nat) (e b l : Int) (i : Nat) (m : BS) (ha : a ≤ s.length) (hi : i < 8) (hm : marks[i]? = some m) : tmpl_reader_mark__o0_j2 n b l marks (i : Int) (S_tmpl_reader.mk s (a : Int) e) = some (mst (s.drop a) (b, l) i m) := by
  unfold tmpl_reader_mark__o0_j2 mst
  have c1 : decide (0 ≤ (i : Int) ∧ (i : Int) < (8 : Int)) = true := decide_eq_true (by omega)
  have c2 : decide (List.length marks = 8) = true := rfl
  have hg : marks[i]?.getD [] = m := by rw [hm]; rfl
  simp only [c1, c2, tn, hg, le_i ha, if_true, Bool.or_true, lett]
  cases decide ((List.length m : Int) > l) with
  | true =>
    simp only [cond_true, Bool.true_and]
    cases Lib.hasPrefix (List.drop a s) m <;> rfl
  | false => rfl
theorem mark_s (n k : Nat) (s : BS) (a : Nat) (e : Int) (p : Int × Int) (i : Nat) (m : BS) (ha : a ≤ s.length) (hi : i < 8) (hm : marks[i]? = some m) : tmpl_reader_mark__o0_l1 n marks (S_tmpl_reader.mk s (a : Int) e) (k + 1) p.1 p.2 (i : Int) =
    tmpl_reader_mark__o0_l1 n marks (S_tmpl_reader.mk s (a : Int) e) k (mst (s.drop a) p i m).1 (mst (s.drop a) p i m).2 ((i + 1 : Nat) : Int) := by
  rw [tmpl_reader_mark__o0_l1, if_pos (decide_eq_true (by omega)), mark_j n s a e p.1 p.2 i m ha hi hm, Option.bind_some, wrap_s i (by omega)]
theorem mst_all (r : BS) : mst r (mst r (mst r (mst r (mst r (mst r (mst r (mst r (1, 0) 0 []) 1 []) 2 [58, 45]) 3 [45]) 4 [58, 63]) 5 [63]) 6 [58, 43]) 7 [43] = (((mk r).1 : Int), ((mk r).2 : Int)) := by
  cases r with
  | nil => rfl
  | cons c r =>
    by_cases h45 : c = 45
    · subst h45; simp [mst, mk, Lib.hasPrefix, List.isPrefixOf]
    · by_cases h63 : c = 63
      · subst h63; simp [mst, mk, Lib.hasPrefix, List.isPrefixOf]
      · by_cases h43 : c = 43
        · subst h43; simp [mst, mk, Lib.hasPrefix, List.isPrefixOf]
        · have n45 : ((45 : UInt8) == c) = false := by simpa using fun e => h45 e.symm
          have n63 : ((63 : UInt8) == c) = false := by simpa using fun e => h63 e.symm
          have n43 : ((43 : UInt8) == c) = false := by simpa using fun e => h43 e.symm
          by_cases h58 : c = 58
          · subst h58
            cases r with
            | nil => simp [mst, mk, Lib.hasPrefix, List.isPrefixOf]
            | cons d r =>
              by_cases d45 : d = 45
              · subst d45; simp [mst, mk, Lib.hasPrefix, List.isPrefixOf]
              · by_cases d63 : d = 63
                · subst d63; simp [mst, mk, Lib.hasPrefix, List.isPrefixOf]
                · by_cases d43 : d = 43
                  · subst d43; simp [mst, mk, Lib.hasPrefix, List.isPrefixOf]
                  · have k45 : ((45 : UInt8) == d) = false := by simpa using fun e => d45 e.symm
                    have k63 : ((63 : UInt8) == d) = false := by simpa using fun e => d63 e.symm
                    have k43 : ((43 : UInt8) == d) = false := by simpa using fun e => d43 e.symm
                    simp [mst, mk, Lib.hasPrefix, List.isPrefixOf, k45, k63, k43, d45, d63, d43]
          · have n58 : ((58 : UInt8) == c) = false := by simpa using fun e => h58 e.symm
            simp [mst, mk, Lib.hasPrefix, List.isPrefixOf, n45, n63, n43, n58, h45, h63, h43, h58]
theorem mk_len (r : BS) : (mk r).2 ≤ r.length ∧ (mk r).1 ≤ 7 ∧ 1 ≤ (mk r).1 ∧ ((mk r).1 = 1 → (mk r).2 = 0) ∧ (mk r).2 ≤ 2 := by
  cases r with
  | nil => exact ⟨Nat.zero_le _, by decide, by decide, fun _ => rfl, by decide⟩
  | cons c r =>
    cases r with
    | nil =>
      simp only [mk]
      repeat' split
      all_goals (simp; try omega)
    | cons d r =>
      simp only [mk]
      repeat' split
      all_goals (simp; try omega)
theorem mark_eq (n : Nat) (s : BS) (a : Nat) (e : Int) (hn : 100 ≤ n) (hs : s.length ≤ 100000) (ha : a ≤ s.length) : tmpl_reader_mark__o0 n (S_tmpl_reader.mk s (a : Int) e) = some (((mk (s.drop a)).1 : Int), S_tmpl_reader.mk s ((a + (mk (s.drop a)).2 : Nat) : Int) e) := by
  unfold tmpl_reader_mark__o0
  rw [marks_eq, Option.bind_some]
  obtain ⟨k, rfl⟩ : ∃ k, n = k + 1 + 8 := ⟨n - 9, by omega⟩
  have hz : tmpl_reader_mark__o0_l1 (k + 1 + 8) marks (S_tmpl_reader.mk s (a : Int) e) (k + 1 + 8) 1 0 0 = some (((mk (s.drop a)).1 : Int), ((mk (s.drop a)).2 : Int)) := by
    have h0 := mark_s (k + 1 + 8) (k + 1 + 7) s a e (1, 0) 0 [] ha (by decide) rfl
    have h0 : tmpl_reader_mark__o0_l1 (k + 1 + 8) marks (S_tmpl_reader.mk s (a : Int) e) (k + 1 + 8) 1 0 0 = _ := h0
    rw [h0, mark_s _ _ s a e _ 1 [] ha (by decide) rfl, mark_s _ _ s a e _ 2 [58, 45] ha (by decide) rfl, mark_s _ _ s a e _ 3 [45] ha (by decide) rfl, mark_s _ _ s a e _ 4 [58, 63] ha (by decide) rfl,
      mark_s _ _ s a e _ 5 [63] ha (by decide) rfl, mark_s _ _ s a e _ 6 [58, 43] ha (by decide) rfl, mark_s _ _ s a e _ 7 [43] ha (by decide) rfl, mst_all]
    rw [tmpl_reader_mark__o0_l1]
    rfl
  obtain ⟨m1, _, _, _, m5⟩ := mk_len (s.drop a)
  rw [List.length_drop] at m1
  rw [hz, Option.bind_some]
  simp only
  rw [show (a : Int) + ((mk (s.drop a)).2 : Int) = ((a + (mk (s.drop a)).2 : Nat) : Int) by omega, wrap_id _ (by omega) (by omega)]
theorem end_eq (n : Nat) (s : BS) (a : Nat) (hs : s.length ≤ 100000) (ha : a ≤ s.length) : tmpl_reader_end__o0 n (S_tmpl_reader.mk s (a : Int) 0) = some (S_tmpl_reader.mk s ((a + 1 : Nat) : Int) (if (s.drop a).head? = some 125 then 0 else 3)) := by
  unfold tmpl_reader_end__o0 tmpl_reader_end__o0_j1
  have z : ((0 : Int) == 0) = true := rfl
  by_cases h : a < s.length
  · have h1 : ((a : Int) == (s.length : Int)) = false := by rw [eq_i]; exact decide_eq_false (by omega)
    simp only [z, h1, in_i h, at_i h, m125, Bool.or_true, if_true, lett, cond_true, cond_false]
    rw [drop_at h, List.head?_cons]
    by_cases hc : s[a] = 125
    · rw [if_neg (by simp [hc]), Option.bind_some]
      simp only [hc, if_true]
      rw [wrap_s a (by omega)]
    · rw [if_pos (by simp [hc]), Option.bind_some]
      simp only
      rw [wrap_s a (by omega), if_neg (by simpa using hc)]
  · have h1 : ((a : Int) == (s.length : Int)) = true := by rw [eq_i]; exact decide_eq_true (by omega)
    simp only [z, h1, beq_self_eq_true, Bool.true_eq_false, lett, cond_true, if_true]
    rw [if_pos (show (!(true == false && true) || decide (0 ≤ (a : Int) ∧ (a : Int) < (List.length s : Int))) = true from rfl), Option.bind_some, List.drop_eq_nil_of_le (by omega)]
    simp only
    rw [wrap_s a (by omega)]
    rfl
theorem end_err (n : Nat) (s : BS) (a e : Int) (he : e ≠ 0) : tmpl_reader_end__o0 n (S_tmpl_reader.mk s a e) = some (S_tmpl_reader.mk s (IntKind.wrap .i64 (a + 1)) e) := by
  unfold tmpl_reader_end__o0 tmpl_reader_end__o0_j1
  have z : (e == 0) = false := by simpa using he
  simp only [z]
  simp [lett]
theorem deeper_eq (d : Nat) (s : BS) (a : Int) : tmpl_reader_deeper__o0 (d : Int) (S_tmpl_reader.mk s a 0) = (decide (8 < d), S_tmpl_reader.mk s a (if 8 < d then 9 else 0)) := by
  unfold tmpl_reader_deeper__o0 tmpl_reader_deeper__o0_j1
  by_cases h : 8 < d
  · have h1 : decide ((d : Int) > 8) = true := decide_eq_true (by omega)
    simp [h1, h, lett]
  · have h1 : decide ((d : Int) > 8) = false := decide_eq_false (by omega)
    simp [h1, h, lett]
theorem plain_eq (n d : Nat) (s : BS) (a : Nat) (hn : 100001 ≤ n) (hs : s.length ≤ 100000) (ha : a ≤ s.length) : tmpl_reader_plain__o0 n (d : Int) (S_tmpl_reader.mk s (a : Int) 0) =
    if 8 < d then some (S_tmpl_Part.mk [] [] 0 [], S_tmpl_reader.mk s (a : Int) 9) else some (S_tmpl_Part.mk (nmOf (s.drop a)) [] 1 [], S_tmpl_reader.mk s ((a + (nmOf (s.drop a)).length : Nat) : Int) (if varB (nmOf (s.drop a)) = true then 0 else 3)) := by
  unfold tmpl_reader_plain__o0
  rw [deeper_eq]
  by_cases h : 8 < d
  · simp [h, lett]
  · simp only [h, decide_false, lett, Bool.false_eq_true, if_false]
    rw [name_eq n s a hn hs ha]; rfl
theorem ref_eq (R : Int → Rd → Option (List TP × Rd)) (n d : Nat) (s : BS) (a : Nat) (hn : 100001 ≤ n) (hd : d ≤ 100) (hs : s.length ≤ 100000) (ha : a ≤ s.length) : tmpl_reader_reference__o0 R n (d : Int) (S_tmpl_reader.mk s (a : Int) 0) =
    if 8 < d then some (S_tmpl_Part.mk [] [] 0 [], S_tmpl_reader.mk s (a : Int) 9)
    else if varB (nmOf (s.drop a)) = true then
      (if (mk (afOf (s.drop a))).1 = 1 then some (S_tmpl_Part.mk (nmOf (s.drop a)) [] 1 [], S_tmpl_reader.mk s ((a + (nmOf (s.drop a)).length + 1 : Nat) : Int) (if (afOf (s.drop a)).head? = some 125 then 0 else 3))
      else (R ((d + 1 : Nat) : Int) (S_tmpl_reader.mk s ((a + (nmOf (s.drop a)).length + (mk (afOf (s.drop a))).2 : Nat) : Int) 0)).bind fun r4 => (tmpl_reader_end__o0 n r4.2).bind fun r5 => some (S_tmpl_Part.mk (nmOf (s.drop a)) [] ((mk (afOf (s.drop a))).1 : Int) r4.1, r5))
    else some (S_tmpl_Part.mk (nmOf (s.drop a)) [] 0 [], S_tmpl_reader.mk s ((a + (nmOf (s.drop a)).length : Nat) : Int) 3) := by
  have hlen := nm_len (s.drop a)
  rw [List.length_drop] at hlen
  unfold tmpl_reader_reference__o0
  rw [deeper_eq]
  by_cases h : 8 < d
  · simp [h, lett]
  · simp only [h, decide_false, lett, Bool.false_eq_true, if_false]
    rw [name_eq n s a hn hs ha, Option.bind_some]
    cases hv : varB (nmOf (s.drop a)) with
    | false => rfl
    | true =>
      have z : ((0 : Int) != 0) = false := rfl
      simp only [if_true, z, Bool.false_eq_true, if_false]
      rw [mark_eq n s _ 0 (by omega) hs (by omega), Option.bind_some, ← af_drop]
      simp only
      unfold tmpl_reader_reference__o0_j1
      obtain ⟨m1, m2, m3, m4, m5⟩ := mk_len (afOf (s.drop a))
      by_cases h1 : (mk (afOf (s.drop a))).1 = 1
      · have c : (((mk (afOf (s.drop a))).1 : Int) != 1) = false := by rw [h1]; rfl
        rw [c, if_neg Bool.false_ne_true, Option.bind_some, if_pos h1, m4 h1, Nat.add_zero]
        simp only
        rw [end_eq n s _ hs (by omega), ← af_drop, Option.bind_some, h1]; rfl
      · have c : (((mk (afOf (s.drop a))).1 : Int) != 1) = true := by simp; omega
        rw [c, if_pos rfl, if_neg h1, wrap_s d (by omega)]
        cases R ((d + 1 : Nat) : Int) (S_tmpl_reader.mk s ((a + (nmOf (s.drop a)).length + (mk (afOf (s.drop a))).2 : Nat) : Int) 0) <;> rfl

/-! ### a step -/
theorem stop_err (R : Int → Rd → Option (List TP × Rd)) (n k d : Nat) (out : List TP) (w s : BS) (a e : Int) (he : e ≠ 0) (ho : out.length ≤ 1000000) : tmpl_reader_parts__o0_g1_0 R n (k + 1) (d : Int) out w (S_tmpl_reader.mk s a e) = some (out ++ fl w, S_tmpl_reader.mk s a e) := by
  have z : (e != 0) = true := by simpa using he
  rw [tmpl_reader_parts__o0_g1_0]
  simp only [z, cond_true, flush_eq n w out ho]
  simp [lett]
theorem stop_end (R : Int → Rd → Option (List TP × Rd)) (n k d : Nat) (out : List TP) (w s : BS) (ho : out.length ≤ 1000000) : tmpl_reader_parts__o0_g1_0 R n (k + 1) (d : Int) out w (S_tmpl_reader.mk s (s.length : Int) 0) = some (out ++ fl w, S_tmpl_reader.mk s (s.length : Int) 0) := by
  have z : ((0 : Int) != 0) = false := rfl
  rw [tmpl_reader_parts__o0_g1_0]
  simp only [z, cond_false, flush_eq n w out ho, beq_self_eq_true]
  simp [lett]
theorem step (R : Int → Rd → Option (List TP × Rd)) (n k d : Nat) (out : List TP) (w s : BS) (a : Nat) (h : a < s.length) (hs : s.length ≤ 100000) (ho : out.length ≤ 1000000) (hw : w.length ≤ 1000000) : tmpl_reader_parts__o0_g1_0 R n (k + 1) (d : Int) out w (S_tmpl_reader.mk s (a : Int) 0) =
    if 1 < d ∧ s[a] = 125 then some (out ++ fl w, S_tmpl_reader.mk s (a : Int) 0)
    else if s[a] = 36 then (tmpl_reader_parts__o0_j3 R n (d : Int) (((36 : UInt8).toNat : Nat) : Int) out w (S_tmpl_reader.mk s ((a + 1 : Nat) : Int) 0)).bind fun o4 => tmpl_reader_parts__o0_g1_0 R n k (d : Int) o4.1 o4.2.1 o4.2.2
    else tmpl_reader_parts__o0_g1_0 R n k (d : Int) out (w ++ [s[a]]) (S_tmpl_reader.mk s ((a + 1 : Nat) : Int) 0) := by
  have z : ((0 : Int) != 0) = false := rfl
  have ha : ((a : Int) == (s.length : Int)) = false := by rw [eq_i]; exact decide_eq_false (by omega)
  have hc : decide ((List.length w + List.length ([s[a]] : List UInt8)) * (1 + 1) ≤ limit) = true := decide_eq_true (by show (w.length + 1) * (1 + 1) ≤ 140737488355328; omega)
  rw [tmpl_reader_parts__o0_g1_0]
  simp only [z, ha, cond_false, in_i h, at_i h, Bool.or_true, if_true, lett, b125, m36, flush_eq n w out ho, hc, wrap_s a (by omega)]
  have hd : decide ((d : Int) > 1) = decide (1 < d) := by by_cases h : 1 < d <;> simp [h] <;> omega
  rw [hd]
  by_cases h1 : 1 < d ∧ s[a] = 125
  · rw [if_pos h1, if_pos (by simp [h1.1, h1.2])]; rfl
  · rw [if_neg h1, if_neg (by
      by_cases h2 : 1 < d
      · have : s[a] ≠ 125 := fun e => h1 ⟨h2, e⟩
        simp [h2, this]
      · simp [h2])]
    by_cases h36 : s[a] = 36
    · rw [if_pos h36, if_neg (by simp [h36]), h36]
    · rw [if_neg h36, if_pos (by simp [h36])]
theorem j3_dollar (R : Int → Rd → Option (List TP × Rd)) (n d : Nat) (out : List TP) (w s : BS) (a : Nat) (ha : a < s.length) (h36 : s[a] = 36) (hs : s.length ≤ 100000) (hw : w.length ≤ 1000000) :
    tmpl_reader_parts__o0_j3 R n (d : Int) (((36 : UInt8).toNat : Nat) : Int) out w (S_tmpl_reader.mk s (a : Int) 0) = some (out, w ++ [36], S_tmpl_reader.mk s ((a + 1 : Nat) : Int) 0) := by
  unfold tmpl_reader_parts__o0_j3
  have hh : Lib.hasPrefix (List.drop a s) ([36] : List UInt8) = true := by rw [hp1, drop_at ha, h36]; rfl
  have hc : decide ((List.length w + List.length ([(UInt8.ofNat (Int.toNat (((36 : UInt8).toNat : Nat) : Int)))] : List UInt8)) * (1 + 1) ≤ limit) = true := decide_eq_true (by show (w.length + 1) * (1 + 1) ≤ 140737488355328; omega)
  simp only [le_i (Nat.le_of_lt ha), tn, hh, if_true]
  rw [if_pos (by decide), if_pos (by simpa using hc), wrap_s a (by omega)]
  rfl
theorem j3_brace (R : Int → Rd → Option (List TP × Rd)) (n d : Nat) (v : Int) (out : List TP) (w s : BS) (a : Nat) (ha : a < s.length) (h123 : s[a] = 123) (hs : s.length ≤ 100000) (ho : out.length + w.length ≤ 1000000) :
    tmpl_reader_parts__o0_j3 R n (d : Int) v out w (S_tmpl_reader.mk s (a : Int) 0) = (tmpl_reader_reference__o0 R n (d : Int) (S_tmpl_reader.mk s ((a + 1 : Nat) : Int) 0)).bind fun r => some (out ++ fl w ++ [r.1], [], r.2) := by
  unfold tmpl_reader_parts__o0_j3
  have h1 : Lib.hasPrefix (List.drop a s) ([36] : List UInt8) = false := by rw [hp1, drop_at ha, h123]; rfl
  have h2 : Lib.hasPrefix (List.drop a s) ([123] : List UInt8) = true := by rw [hp1, drop_at ha, h123]; rfl
  have hf := fl_len w
  simp only [le_i (Nat.le_of_lt ha), tn, h1, h2, if_true, Bool.false_eq_true, if_false, flush_eq n w out (by omega), Option.bind_some, wrap_s a (by omega)]
  cases tmpl_reader_reference__o0 R n (d : Int) (S_tmpl_reader.mk s ((a + 1 : Nat) : Int) 0) with
  | none => rfl
  | some r =>
    simp only [Option.bind_some]
    rw [if_pos (cap65 _ _ (by rw [List.length_append]; omega)), if_pos (in_last _ _)]
    have := set_last (out ++ fl w) (S_tmpl_Part.mk [] [] 0 []) r.1
    rw [tn] at this
    rw [this]
theorem j3_plain (R : Int → Rd → Option (List TP × Rd)) (n d : Nat) (v : Int) (out : List TP) (w s : BS) (a : Nat) (ha : a ≤ s.length) (h36 : (s.drop a).head? ≠ some 36) (h123 : (s.drop a).head? ≠ some 123) (hs : s.length ≤ 100000) (ho : out.length + w.length ≤ 1000000) :
    tmpl_reader_parts__o0_j3 R n (d : Int) v out w (S_tmpl_reader.mk s (a : Int) 0) = (tmpl_reader_plain__o0 n (d : Int) (S_tmpl_reader.mk s (a : Int) 0)).bind fun r => some (out ++ fl w ++ [r.1], [], r.2) := by
  unfold tmpl_reader_parts__o0_j3
  have h1 : Lib.hasPrefix (List.drop a s) ([36] : List UInt8) = false := by rw [hp1]; exact decide_eq_false h36
  have h2 : Lib.hasPrefix (List.drop a s) ([123] : List UInt8) = false := by rw [hp1]; exact decide_eq_false h123
  have hf := fl_len w
  simp only [le_i ha, tn, h1, h2, if_true, Bool.false_eq_true, if_false, flush_eq n w out (by omega), Option.bind_some]
  cases tmpl_reader_plain__o0 n (d : Int) (S_tmpl_reader.mk s (a : Int) 0) with
  | none => rfl
  | some r =>
    simp only [Option.bind_some]
    rw [if_pos (cap65 _ _ (by rw [List.length_append]; omega)), if_pos (in_last _ _)]
    have := set_last (out ++ fl w) (S_tmpl_Part.mk [] [] 0 []) r.1
    rw [tn] at this
    rw [this]
theorem ge_eq (R : Int → Rd → Option (List TP × Rd)) (n k : Nat) (d : Int) (rd : Rd) : tmpl_reader_parts__o0_g1_e R n k d rd = tmpl_reader_parts__o0_g1_0 R n k d [] [] rd := by
  cases k with
  | zero => rw [tmpl_reader_parts__o0_g1_e, tmpl_reader_parts__o0_g1_0]
  | succ k => rw [tmpl_reader_parts__o0_g1_e, tmpl_reader_parts__o0_g1_0]; rfl
theorem parts_unf (n : Nat) (d : Int) (rd : Rd) : tmpl_reader_parts__o0 (n + 1) d rd = (tmpl_reader_parts__o0_g1_0 (tmpl_reader_parts__o0 n) n n d [] [] rd) := by
  show tmpl_reader_parts__o0_b (tmpl_reader_parts__o0 n) n d rd = _
  unfold tmpl_reader_parts__o0_b
  rw [ge_eq]
  cases tmpl_reader_parts__o0_g1_0 (tmpl_reader_parts__o0 n) n n d [] [] rd <;> rfl
end Go.Proofs.YtljnmojkhajolaaDoor.M
