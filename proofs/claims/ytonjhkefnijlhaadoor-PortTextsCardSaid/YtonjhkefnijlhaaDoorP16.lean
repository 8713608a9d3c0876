/-
  Chapter 16: ports, said plainly. Over the printed models.
-/
import Derived.Test.YtonjhkefnijlhaaDoorM16
import Derived.Test.YtonjhkefnijlhaaDoorStr
namespace Go.Proofs.YtonjhkefnijlhaaDoor.M
open Go Go.Proofs.YtonjhkefnijlhaaDoor.RX Go.Proofs.YtonjhkefnijlhaaDoor.PL

/-! ### numbers of digits -/
theorem wrapu (x : Int) (h1 : 0 ≤ x) (h2 : x < 18446744073709551616) : IntKind.wrap .u64 x = x := by
  simp only [IntKind.wrap, IntKind.bits, IntKind.signed, Bool.false_and, Bool.false_eq_true, if_false, show ((2 : Int) ^ 64) = 18446744073709551616 from rfl]
  omega
def dig (b : UInt8) : Bool := decide (48 ≤ b.toNat ∧ b.toNat ≤ 57)
def dval (b : UInt8) : Nat := b.toNat - 48
def vl : Nat → BS → Nat
  | a, [] => a
  | a, b :: t => vl (a * 10 + dval b) t
def isNum (s : BS) : Bool := match s with | [] => false | b :: t => dig b && t.all dig && (t.isEmpty || !(b == 48))
def ncount (s : BS) (most : Nat) : Int × Int := if isNum s = true then (if vl 0 s ≤ most then ((vl 0 s : Nat), 0) else (0, 9)) else (0, 3)
theorem vl_ge : ∀ (t : BS) (a : Nat), a ≤ vl a t
  | [], a => Nat.le_refl a
  | b :: t, a => by have := vl_ge t (a * 10 + dval b); unfold vl; omega
theorem vl_ge_pow : ∀ (t : BS) (a : Nat), a * 10 ^ t.length ≤ vl a t
  | [], a => by rw [List.length_nil, Nat.pow_zero, Nat.mul_one]; exact Nat.le_refl a
  | b :: t, a => by
    have := vl_ge_pow t (a * 10 + dval b)
    unfold vl
    rw [List.length_cons, Nat.pow_succ]
    refine Nat.le_trans ?_ this
    generalize 10 ^ t.length = p
    rw [Nat.add_mul, Nat.mul_assoc, Nat.mul_comm 10 p]
    exact Nat.le_add_right _ _
theorem isNum_all {s : BS} (h : isNum s = true) : ∀ b ∈ s, dig b = true := by
  unfold isNum at h
  cases s with
  | nil => cases h
  | cons b t =>
    simp only [Bool.and_eq_true] at h
    intro x hx
    rcases List.mem_cons.1 hx with rfl | hx
    · exact h.1.1
    · exact List.all_eq_true.1 h.1.2 x hx
theorem isNum_long {s : BS} (h : isNum s = true) (hl : 19 < s.length) : 10 ^ 18 < vl 0 s := by
  unfold isNum at h
  cases s with
  | nil => cases h
  | cons b t =>
    simp only [Bool.and_eq_true, Bool.or_eq_true, Bool.not_eq_true', beq_eq_false_iff_ne] at h
    obtain ⟨⟨h1, h2⟩, h3⟩ := h
    have hb : b ≠ 48 := by
      rcases h3 with h3 | h3
      · rw [List.isEmpty_iff] at h3; subst h3; simp at hl
      · exact h3
    have hd : 1 ≤ dval b := by
      unfold dig at h1
      have h1 := of_decide_eq_true h1
      have : b.toNat ≠ 48 := fun e => hb (by rw [← UInt8.toNat_inj]; exact e)
      unfold dval; omega
    unfold vl
    have h4 := vl_ge_pow t (0 * 10 + dval b)
    have h5 : 10 ^ 19 ≤ 10 ^ t.length := Nat.pow_le_pow_right (by decide) (by simp at hl; omega)
    have h6 : 10 ^ t.length ≤ (0 * 10 + dval b) * 10 ^ t.length := Nat.le_mul_of_pos_left _ (by omega)
    have h7 : (10 : Nat) ^ 18 < 10 ^ 19 := by decide
    omega

theorem rc_l {n most : Nat} (l : BS) (hl : l.length ≤ 19) (hd : ∀ b ∈ l, dig b = true) : ∀ (k i acc : Nat), i ≤ l.length → l.length - i < k → acc < 10 ^ i →
    ref01_Count_l1 n l (most : Int) k (acc : Int) (i : Int) = some ((vl acc (l.drop i) : Nat) : Int)
  | 0, i, acc, _, h, _ => by omega
  | k + 1, i, acc, h1, h2, h3 => by
    rw [ref01_Count_l1]
    by_cases h : i < l.length
    · have hb := of_decide_eq_true (hd l[i] (List.getElem_mem h))
      have h10 : 10 ^ (i + 1) ≤ 10 ^ 19 := Nat.pow_le_pow_right (by decide) (by omega)
      have e10 : (10 : Nat) ^ 19 = 10000000000000000000 := by decide
      rw [Nat.pow_succ] at h10
      rw [e10] at h10
      rw [if_pos (lt_i h), if_pos (in_i h), at_i h]
      have e1 : IntKind.wrap .u64 ((acc : Int) * 10) = (acc : Int) * 10 := wrapu _ (by omega) (by omega)
      have e2 : IntKind.wrap .u64 ((l[i].toNat : Int)) = (l[i].toNat : Int) := wrapu _ (by omega) (by omega)
      rw [e1, e2, wrapu ((acc : Int) * 10 + (l[i].toNat : Int)) (by omega) (by omega), wrapu _ (by omega) (by omega)]
      have e3 : (acc : Int) * 10 + (l[i].toNat : Int) - 48 = ((acc * 10 + dval l[i] : Nat) : Int) := by unfold dval; omega
      simp only [lett, e3]
      rw [wrap_s i (by omega), rc_l l hl hd k (i + 1) _ (by omega) (by omega) (by rw [Nat.pow_succ]; unfold dval; omega), drop_at h]
      rfl
    · have : i = l.length := by omega
      subst this
      rw [nlt_n, if_neg Bool.false_ne_true, List.drop_eq_nil_of_le (Nat.le_refl _)]; rfl
theorem whole_eq (n : Nat) (s : BS) (hs : s.length ≤ 1000000) (hn : 2000000 ≤ n) : ref01_Whole n s = some (isNum s) := by
  have hloop := scanL (L := ref01_Whole_l1 n s) s (fun b => if dig b = true then none else some false) 0 (by omega)
    (fun k i h _ => by
      rw [ref01_Whole_l1, if_pos (lt_i h), if_pos (in_i h), if_pos (by rw [in_i h]; simp), at_i h]
      simp only [lett]
      by_cases hd : dig s[i] = true
      · have h1 := of_decide_eq_true hd
        rw [if_pos hd, decide_eq_false (by omega : ¬ (s[i].toNat : Int) < 48), decide_eq_false (by omega : ¬ (s[i].toNat : Int) > 57)]
        rfl
      · have h1 := of_decide_eq_false (by simpa [dig] using hd : decide (48 ≤ s[i].toNat ∧ s[i].toNat ≤ 57) = false)
        rw [if_neg hd]
        by_cases h2 : (s[i].toNat : Int) < 48
        · rw [decide_eq_true h2]; rfl
        · rw [decide_eq_false h2, decide_eq_true (by omega : (s[i].toNat : Int) > 57)]; rfl)
    (fun k => by rw [ref01_Whole_l1, nlt_n]; rfl) n 0 (by omega) (by omega) (by omega)
  unfold ref01_Whole
  cases s with
  | nil => rfl
  | cons b t =>
    have e0 : (((b :: t).length : Int) == 0) = false := by rw [beq_eq_false_iff_ne]; simp only [List.length_cons]; omega
    have e1 : decide (0 ≤ (0 : Int) ∧ (0 : Int) < ((b :: t).length : Int)) = true := decide_eq_true (by simp only [List.length_cons]; omega)
    rw [e1, if_pos (by simp), e0]
    simp only [cond_false, lett, Int.toNat_zero, List.getElem?_cons_zero, Option.getD_some]
    have e48 : ((b.toNat : Int) == 48) = decide (b = 48) := beq_byte b 48 (by decide)
    simp only [e48]
    have hz : ref01_Whole_l1 n (b :: t) n 0 = some (outF ((b :: t).findSome? fun b => if dig b = true then none else some false)) := hloop
    rw [hz]
    by_cases hc : t ≠ [] ∧ b = 48
    · have : decide (((b :: t).length : Int) > 1) = true := decide_eq_true (by have := List.length_pos_iff.2 hc.1; simp; omega)
      rw [this, decide_eq_true hc.2, hc.2]
      have : t.isEmpty = false := by simpa using hc.1
      simp [isNum, this]
    · have hcond : (bif decide (((b :: t).length : Int) > 1) then decide (b = 48) else false) = false := by
        by_cases ht : t = []
        · subst ht; simp
        · have : b ≠ 48 := fun e => hc ⟨ht, e⟩
          simp [this]
      rw [hcond, if_neg Bool.false_ne_true]
      have hor : (t.isEmpty || !(b == 48)) = true := by
        by_cases ht : t = []
        · subst ht; rfl
        · have : b ≠ 48 := fun e => hc ⟨ht, e⟩
          simp [this]
      show _ = some (dig b && t.all dig && (t.isEmpty || !(b == 48)))
      rw [hor, Bool.and_true]
      have key : ∀ l : BS, l.findSome? (fun b => if dig b = true then none else some false) = if l.all dig = true then none else some false := by
        intro l
        induction l with
        | nil => rfl
        | cons x l ih =>
          rw [List.findSome?_cons, List.all_cons]
          cases hx : dig x with
          | true => simp [ih]
          | false => simp
      rw [key, List.all_cons]
      cases (dig b && t.all dig) <;> rfl
theorem rcount_eq (n : Nat) (s : BS) (most : Nat) (hs : s.length ≤ 1000000) (hm : most ≤ 10 ^ 18) (hn : 2000000 ≤ n) : ref01_Count n s (most : Int) = some (ncount s most) := by
  unfold ref01_Count
  rw [decide_eq_false (by omega : ¬ (most : Int) < 0), if_neg Bool.false_ne_true, whole_eq n s hs hn]
  simp only [Option.bind_some]
  unfold ncount
  cases hN : isNum s with
  | false => rfl
  | true =>
    simp only [Bool.not_true, Bool.false_eq_true, if_false, if_true]
    by_cases hl : 19 < s.length
    · have := isNum_long hN hl
      rw [decide_eq_true (by omega : (s.length : Int) > 19), if_pos rfl, if_neg (by omega)]
    · have e10 : (10 : Nat) ^ 18 = 1000000000000000000 := by decide
      rw [decide_eq_false (by omega : ¬ (s.length : Int) > 19), if_neg Bool.false_ne_true]
      have := rc_l (n := n) (most := most) s (by omega) (isNum_all hN) n 0 0 (by omega) (by omega) (by decide)
      rw [List.drop_zero] at this
      have h0 : ref01_Count_l1 n s (most : Int) n 0 0 = some ((vl 0 s : Nat) : Int) := this
      rw [h0]
      simp only [Option.bind_some]
      rw [wrapu (most : Int) (by omega) (by omega)]
      by_cases hv : vl 0 s ≤ most
      · rw [decide_eq_false (by omega : ¬ ((vl 0 s : Nat) : Int) > (most : Int)), if_neg Bool.false_ne_true, if_pos hv, wrap_id _ (by omega) (by omega)]
      · rw [decide_eq_true (by omega : ((vl 0 s : Nat) : Int) > (most : Int)), if_pos rfl, if_neg hv]

/-! the program's own -/
theorem dw_l {n most : Nat} (l : BS) (V : Nat) (hm : most ≤ 1000000000000000000) (hl : l.length ≤ 1000000) : ∀ (k i acc : Nat) (over : Bool), i ≤ l.length → l.length - i < k → (over = false → acc ≤ most ∧ ((l.drop i).all dig = true → V = vl acc (l.drop i))) → (over = true → (l.drop i).all dig = true → most < V) → acc ≤ most →
    ∃ x : Nat, digit_whole_l1 n l (most : Int) (l.length : Int) k (acc : Int) over (i : Int) = some (if (l.drop i).all dig = true then .inl ((x : Int), decide (most < V)) else .inr (0, 3)) ∧ ((l.drop i).all dig = true → V ≤ most → x = V)
  | 0, i, acc, over, _, h, _, _, _ => by omega
  | k + 1, i, acc, over, h1, h2, h3, h4, h5 => by
    rw [digit_whole_l1]
    by_cases h : i < l.length
    · have hc := l[i].toNat_lt
      have e0 : IntKind.wrap .i64 ((l[i].toNat : Int)) = (l[i].toNat : Int) := wrap_id _ (by omega) (by omega)
      have e1 : IntKind.wrap .i64 ((l[i].toNat : Int) - 48) = (l[i].toNat : Int) - 48 := wrap_id _ (by omega) (by omega)
      rw [if_pos (lt_i h), digit_whole_j2, if_pos (in_i h), at_i h, e0, e1, drop_at h, List.all_cons]
      simp only [lett]
      by_cases hd : dig l[i] = true
      · have hb := of_decide_eq_true hd
        have ed : (l[i].toNat : Int) - 48 = (dval l[i] : Int) := by unfold dval; omega
        have hd9 : dval l[i] ≤ 9 := by unfold dval; omega
        rw [ed, decide_eq_false (by omega : ¬ (dval l[i] : Int) < 0), decide_eq_false (by omega : ¬ (dval l[i] : Int) > 9), cond_false, if_neg Bool.false_ne_true, if_pos (by simp)]
        rw [hd, Bool.true_and]
        have e4 : IntKind.wrap .i64 ((most : Int) - (dval l[i] : Int)) = (most : Int) - (dval l[i] : Int) := wrap_id _ (by omega) (by omega)
        have e5 : IntKind.wrap .i64 (((most : Int) - (dval l[i] : Int)).tdiv 10) = ((most : Int) - (dval l[i] : Int)).tdiv 10 := by
          by_cases hq : dval l[i] ≤ most
          · rw [Int.tdiv_eq_ediv_of_nonneg (by omega)]; exact wrap_id _ (by omega) (by omega)
          · have : ((most : Int) - (dval l[i] : Int)).tdiv 10 = 0 := by
              have h8 : (most : Int) - (dval l[i] : Int) = -((dval l[i] - most : Nat) : Int) := by omega
              rw [h8, Int.neg_tdiv, Int.tdiv_eq_ediv_of_nonneg (by omega)]
              omega
            rw [this]; rfl
        rw [e4, e5]
        -- is it over now?
        have hx : (bif (bif over then true else decide ((acc : Int) > ((most : Int) - (dval l[i] : Int)).tdiv 10)) then true else decide ((most : Int) < (dval l[i] : Int))) = (over || decide (most < acc * 10 + dval l[i])) := by
          cases over with
          | true => rfl
          | false =>
            simp only [cond_false, Bool.false_or]
            by_cases hq : dval l[i] ≤ most
            · rw [decide_eq_false (by omega : ¬ (most : Int) < (dval l[i] : Int)), Int.tdiv_eq_ediv_of_nonneg (by omega)]
              have : decide ((acc : Int) > ((most : Int) - (dval l[i] : Int)) / 10) = decide (most < acc * 10 + dval l[i]) := by
                rw [decide_eq_decide]; omega
              rw [this]
              cases decide (most < acc * 10 + dval l[i]) <;> rfl
            · rw [decide_eq_true (by omega : (most : Int) < (dval l[i] : Int)), decide_eq_true (by omega : most < acc * 10 + dval l[i])]
              cases decide ((acc : Int) > ((most : Int) - (dval l[i] : Int)).tdiv 10) <;> rfl
        rw [hx]
        cases hov : (over || decide (most < acc * 10 + dval l[i])) with
        | true =>
          simp only [Bool.not_true, Bool.false_eq_true, if_false, Option.bind_some, Sum.elim_inl]
          rw [wrap_s i (by omega)]
          refine dw_l l V hm hl k (i + 1) acc true (by omega) (by omega) (by intro h; cases h) (fun _ ha => ?_) h5
          rw [drop_at h, List.all_cons, hd, Bool.true_and] at h3 h4
          cases over with
          | true => exact h4 rfl ha
          | false =>
            have h6 : most < acc * 10 + dval l[i] := of_decide_eq_true (by simpa using hov)
            have h7 := (h3 rfl).2 ha
            have h8 := vl_ge (l.drop (i + 1)) (acc * 10 + dval l[i])
            have h9 : vl acc (l[i] :: l.drop (i + 1)) = vl (acc * 10 + dval l[i]) (l.drop (i + 1)) := rfl
            omega
        | false =>
          simp only [Bool.or_eq_false_iff, decide_eq_false_iff_not] at hov
          obtain ⟨rfl, h6⟩ := hov
          have e6 : IntKind.wrap .i64 ((acc : Int) * 10) = (acc : Int) * 10 := wrap_id _ (by omega) (by omega)
          have e7 : IntKind.wrap .i64 ((acc : Int) * 10 + (dval l[i] : Int)) = ((acc * 10 + dval l[i] : Nat) : Int) := by rw [wrap_id _ (by omega) (by omega)]; omega
          simp only [Bool.not_false, if_true, Option.bind_some, Sum.elim_inl, e6, e7]
          rw [wrap_s i (by omega)]
          rw [drop_at h, List.all_cons, hd, Bool.true_and] at h3
          exact dw_l l V hm hl k (i + 1) _ false (by omega) (by omega) (fun _ => ⟨by omega, fun ha => (h3 rfl).2 ha⟩) (by intro h; cases h) (by omega)
      · have hdf : dig l[i] = false := by simpa using hd
        have hb := of_decide_eq_false (p := 48 ≤ l[i].toNat ∧ l[i].toNat ≤ 57) hdf
        have hc2 : (bif decide ((l[i].toNat : Int) - 48 < 0) then true else decide ((l[i].toNat : Int) - 48 > 9)) = true := by
          by_cases h2 : (l[i].toNat : Int) - 48 < 0
          · rw [decide_eq_true h2]; rfl
          · rw [decide_eq_false h2, decide_eq_true (by omega : (l[i].toNat : Int) - 48 > 9)]; rfl
        rw [hc2, hdf]
        exact ⟨0, rfl, by intro h; cases h⟩
    · have : i = l.length := by omega
      subst this
      rw [nlt_n, if_neg Bool.false_ne_true, List.drop_eq_nil_of_le (Nat.le_refl _)]
      rw [List.drop_eq_nil_of_le (Nat.le_refl _)] at h3 h4
      refine ⟨acc, ?_, fun _ hv => ?_⟩
      · show some (Sum.inl ((acc : Int), over)) = some (Sum.inl ((acc : Int), decide (most < V)))
        cases over with
        | true => rw [decide_eq_true (h4 rfl rfl)]
        | false =>
          have h6 := h3 rfl
          have h7 : V = acc := h6.2 rfl
          rw [decide_eq_false (by omega)]
      · cases over with
        | true => have := h4 rfl rfl; omega
        | false => exact ((h3 rfl).2 rfl).symm
theorem dwhole_eq (n : Nat) (s : BS) (most : Nat) (hs : s.length ≤ 1000000) (hm : most ≤ 1000000000000000000) (hn : 2000000 ≤ n) : digit_whole n s (most : Int) = some (ncount s most) := by
  unfold digit_whole
  obtain ⟨x, h1, h2⟩ := dw_l (n := n) (most := most) s (vl 0 s) hm hs n 0 0 false (by omega) (by omega) (fun _ => ⟨Nat.zero_le _, fun _ => rfl⟩) (by intro h; cases h) (Nat.zero_le _)
  rw [List.drop_zero] at h1 h2
  have h0 : digit_whole_l1 n s (most : Int) (s.length : Int) n 0 false 0 = _ := h1
  rw [h0]
  cases s with
  | nil => rfl
  | cons b t =>
    have e1 : decide (0 ≤ (0 : Int) ∧ (0 : Int) < ((b :: t).length : Int)) = true := decide_eq_true (by simp only [List.length_cons]; omega)
    have e2 : ((b :: t) == []) = false := rfl
    rw [e1, if_pos (by simp), e2]
    simp only [cond_false, lett, Int.toNat_zero, List.getElem?_cons_zero, Option.getD_some]
    have e48 : ((b.toNat : Int) == 48) = decide (b = 48) := beq_byte b 48 (by decide)
    simp only [e48]
    unfold ncount
    by_cases hc : t ≠ [] ∧ b = 48
    · have h3 : decide (((b :: t).length : Int) > 1) = true := decide_eq_true (by have := List.length_pos_iff.2 hc.1; simp only [List.length_cons]; omega)
      have h4 : t.isEmpty = false := by simpa using hc.1
      rw [h3, decide_eq_true hc.2, hc.2]
      simp [isNum, h4]
    · have hcond : (bif decide (((b :: t).length : Int) > 1) then decide (b = 48) else false) = false := by
        by_cases ht : t = []
        · subst ht; simp
        · have : b ≠ 48 := fun e => hc ⟨ht, e⟩
          simp [this]
      have hor : (t.isEmpty || !(b == 48)) = true := by
        by_cases ht : t = []
        · subst ht; rfl
        · have : b ≠ 48 := fun e => hc ⟨ht, e⟩
          simp [this]
      have hN : isNum (b :: t) = (b :: t).all dig := by
        show (dig b && t.all dig && (t.isEmpty || !(b == 48))) = _
        rw [hor, Bool.and_true, List.all_cons]
      rw [hcond, if_neg Bool.false_ne_true, hN]
      cases ha : (b :: t).all dig with
      | false => rfl
      | true =>
        simp only [if_true, Option.bind_some, Sum.elim_inl]
        by_cases hv : vl 0 (b :: t) ≤ most
        · rw [if_pos hv, decide_eq_false (by omega), if_neg Bool.false_ne_true, h2 ha hv]
        · rw [if_neg hv, decide_eq_true (by omega), if_pos rfl]
theorem dcount_eq (n : Nat) (s : BS) (most : Nat) (hs : s.length ≤ 1000000) (hm : most ≤ 1000000000000000000) (hn : 2000000 ≤ n) : digit_Count n s (most : Int) = some (ncount s most) := by
  unfold digit_Count
  rw [decide_eq_false (by omega : ¬ (most : Int) < 0), if_neg Bool.false_ne_true, dwhole_eq n s most hs hm hn]
  rfl

theorem cut_l {n : Nat} (l : BS) (c : UInt8) (ci : Int) (hci : ∀ b : UInt8, ((b.toNat : Int) == ci) = decide (b = c)) (hl : l.length ≤ 1000000) : ∀ (k i f : Nat) (out : List BS), f ≤ i → i ≤ l.length → l.length - i < k → c ∉ (l.drop f).take (i - f) → out.length ≤ i →
    ∃ (o : List BS) (g : Nat), ref16_cut_l1 n l ci k out (f : Int) (i : Int) = some (o, (g : Int)) ∧ g ≤ l.length ∧ o ++ [l.drop g] = out ++ parts c (l.drop f) ∧ o.length ≤ l.length
  | 0, i, f, out, _, _, h, _, _ => by omega
  | k + 1, i, f, out, h0, h1, h2, h3, h4 => by
    rw [ref16_cut_l1]
    by_cases h : i < l.length
    · rw [if_pos (lt_i h), ref16_cut_j2, if_pos (in_i h), at_i h, hci]
      have hsp : l.drop f = (l.drop f).take (i - f) ++ l[i] :: l.drop (i + 1) := by
        have e : (l.drop f).drop (i - f) = l.drop i := by rw [List.drop_drop, show f + (i - f) = i by omega]
        rw [← drop_at h, ← e, List.take_append_drop]
      by_cases hb : l[i] = c
      · rw [decide_eq_true hb, if_pos rfl, if_pos (le_i (by omega)), if_pos (le_ij h0)]
        have hc : decide ((List.length out + List.length ([List.take (Int.toNat (i : Int) - Int.toNat (f : Int)) (List.drop (Int.toNat (f : Int)) l)] : List BS)) * (16 + 1) ≤ limit) = true := cap_add (by simp; omega)
        rw [if_pos hc]
        simp only [Option.bind_some]
        rw [wrap_s i (by omega), tn, tn]
        obtain ⟨o, g, h5, h6, h7, h8⟩ := cut_l (n := n) l c ci hci hl k (i + 1) (i + 1) (out ++ [(l.drop f).take (i - f)]) (Nat.le_refl _) (by omega) (by omega) (by simp) (by simp; omega)
        refine ⟨o, g, h5, h6, ?_, h8⟩
        rw [h7, List.append_assoc]
        congr 1
        rw [hsp, hb, parts_app _ h3]
        have e2 : ((l.drop f).take (i - f) ++ c :: l.drop (i + 1)).take (i - f) = (l.drop f).take (i - f) := by
          rw [← hb, ← hsp]
        rw [e2]; rfl
      · rw [decide_eq_false hb, if_neg Bool.false_ne_true]
        simp only [Option.bind_some]
        rw [wrap_s i (by omega)]
        refine cut_l l c ci hci hl k (i + 1) f out (by omega) (by omega) (by omega) ?_ (by omega)
        have e3 : (l.drop f).take (i + 1 - f) = (l.drop f).take (i - f) ++ [l[i]] := by
          have hlt : i - f < (l.drop f).length := by simp; omega
          rw [show i + 1 - f = (i - f) + 1 by omega, List.take_succ_eq_append_getElem hlt]
          congr 2
          rw [List.getElem_drop]
          congr 1
          omega
        rw [e3, List.mem_append, List.mem_singleton]
        rintro (h9 | h9)
        · exact h3 h9
        · exact hb h9.symm
    · have : i = l.length := by omega
      subst this
      rw [nlt_n, if_neg Bool.false_ne_true]
      refine ⟨out, f, rfl, by omega, ?_, by omega⟩
      rw [List.take_of_length_le (by simp)] at h3
      rw [parts_none h3]
theorem cut16_eq (n : Nat) (l : BS) (c : UInt8) (ci : Int) (hci : ∀ b : UInt8, ((b.toNat : Int) == ci) = decide (b = c)) (hl : l.length ≤ 1000000) (hn : 2000000 ≤ n) : ref16_cut n l ci = some (parts c l) := by
  unfold ref16_cut
  obtain ⟨o, g, h1, h2, h3, h4⟩ := cut_l (n := n) l c ci hci hl n 0 0 [] (Nat.le_refl _) (by omega) (by omega) (by simp) (by simp)
  have h0 : ref16_cut_l1 n l ci n [] 0 0 = some (o, (g : Int)) := h1
  rw [h0]
  simp only [Option.bind_some]
  have hc : decide ((List.length o + List.length ([List.drop (Int.toNat (g : Int)) l] : List BS)) * (16 + 1) ≤ limit) = true := cap_add (by simp; omega)
  rw [if_pos (le_i h2), if_pos hc, tn, h3]
  simp
theorem c46 (n : Nat) (l : BS) (hl : l.length ≤ 1000000) (hn : 2000000 ≤ n) : ref16_cut n l 46 = some (parts 46 l) := cut16_eq n l 46 46 (fun b => beq_byte b 46 (by decide)) hl hn
theorem c58 (n : Nat) (l : BS) (hl : l.length ≤ 1000000) (hn : 2000000 ≤ n) : ref16_cut n l 58 = some (parts 58 l) := cut16_eq n l 58 58 (fun b => beq_byte b 58 (by decide)) hl hn

/-! ### may it be -/
def okc (m : Nat) (x : BS) : Bool := isNum x && decide (vl 0 x ≤ m)
theorem ncount_ok (x : BS) (m : Nat) : ((ncount x m).2 != 0) = !okc m x := by
  unfold ncount okc
  cases isNum x with
  | false => rfl
  | true =>
    by_cases h : vl 0 x ≤ m
    · simp [h]
    · simp [h]
def addr (h : BS) : Bool := decide ((parts 46 h).length = 4) && (parts 46 h).all (okc 255)
def right (p : S_api_Port) : Bool := decide (1 ≤ p.f_In ∧ p.f_In ≤ 65535 ∧ 0 ≤ p.f_Out ∧ p.f_Out ≤ 65535) && (p.f_Proto == [116, 99, 112] || p.f_Proto == [117, 100, 112]) && (p.f_Host == [] || addr p.f_Host)
theorem fs_all {α : Type} (q : α → Bool) : ∀ l : List α, l.findSome? (fun x => if q x = true then none else some false) = if l.all q = true then none else some false
  | [] => rfl
  | x :: l => by
    rw [List.findSome?_cons, List.all_cons, fs_all q l]
    cases q x with
    | true => simp
    | false => simp
theorem paddr1_eq (n : Nat) (x : BS) (hx : x.length ≤ 1000000) (hn : 2000000 ≤ n) : port_address_1 n x = some (!okc 255 x) := by
  unfold port_address_1
  have := dcount_eq n x 255 hx (by decide) hn
  rw [show ((255 : Nat) : Int) = 255 from rfl] at this
  rw [this]
  simp only [Option.bind_some, ncount_ok]
theorem pix_eq (n : Nat) (l : List BS) (hl : l.length ≤ 1000000) (hx : ∀ x ∈ l, x.length ≤ 1000000) (hn : 2000000 ≤ n) : slices_ContainsFunc_string_string__port_address_1 n l = some (!l.all (okc 255)) := by
  unfold slices_ContainsFunc_string_string__port_address_1 slices_IndexFunc_string_string__port_address_1
  have hloop := scanI (L := slices_IndexFunc_string_string__port_address_1_l1 n l (l.length : Int)) l (fun i x => if okc 255 x = true then none else some (i : Int)) 0 (by omega)
    (fun k i h _ => by
      rw [slices_IndexFunc_string_string__port_address_1_l1, if_pos (lt_i h), if_pos (in_i h), at_i h, paddr1_eq n _ (hx _ (List.getElem_mem h)) hn]
      simp only [Option.bind_some]
      cases okc 255 l[i] <;> rfl)
    (fun k => by rw [slices_IndexFunc_string_string__port_address_1_l1, nlt_n]; rfl) n 0 (by omega) (by omega) (by omega)
  have h0 : slices_IndexFunc_string_string__port_address_1_l1 n l (l.length : Int) n 0 = some (outF (findI (fun i x => if okc 255 x = true then none else some (i : Int)) 0 l)) := hloop
  rw [h0]
  have key : ∀ (l : List BS) (i : Nat), (findI (fun i x => if okc 255 x = true then none else some (i : Int)) i l = none ∧ l.all (okc 255) = true) ∨ (∃ j : Nat, findI (fun i x => if okc 255 x = true then none else some (i : Int)) i l = some (j : Int) ∧ l.all (okc 255) = false) := by
    intro l
    induction l with
    | nil => intro i; exact .inl ⟨rfl, rfl⟩
    | cons x l ih =>
      intro i
      rw [findI, List.all_cons]
      cases hq : okc 255 x with
      | true => simpa [hq] using ih (i + 1)
      | false => exact .inr ⟨i, by simp, by simp⟩
  rcases key l 0 with ⟨h1, h2⟩ | ⟨j, h1, h2⟩
  · rw [h1, h2]; rfl
  · rw [h1, h2]
    show (some (j : Int)).bind _ = _
    simp only [Option.bind_some]
    rw [decide_eq_true (by omega)]; rfl
theorem paddr_eq (n : Nat) (h : BS) (hl : h.length ≤ 1000000) (hn : 2000000 ≤ n) : port_address n h = some (addr h) := by
  unfold port_address
  have hc : decide (List.length h < 4294967281 ∧ 1 ≤ List.length ([46] : List UInt8)) = true := decide_eq_true ⟨by omega, by decide⟩
  rw [if_pos hc, splitL_eq]
  unfold addr
  have hpl := parts_len 46 h
  by_cases h4 : (parts 46 h).length = 4
  · have e : (((parts 46 h).length : Int) == 4) = true := by rw [h4]; rfl
    rw [e, pix_eq n _ (by omega) (fun x hx => by have := parts_part_len 46 h x hx; omega) hn, decide_eq_true h4]
    simp
  · have e : (((parts 46 h).length : Int) == 4) = false := by rw [beq_eq_false_iff_ne]; omega
    rw [e, decide_eq_false h4]; rfl
theorem raddr_eq (n : Nat) (h : BS) (hl : h.length ≤ 900000) (hn : 2000000 ≤ n) : ref16_address n h = some (addr h) := by
  unfold ref16_address
  rw [c46 n h (by omega) hn]
  simp only [Option.bind_some]
  unfold addr
  by_cases h4 : (parts 46 h).length = 4
  · have e : (((parts 46 h).length : Int) != 4) = false := by rw [h4]; rfl
    rw [e, if_neg Bool.false_ne_true, decide_eq_true h4, Bool.true_and]
    have hloop := scanL (L := ref16_address_l1 n (parts 46 h)) (parts 46 h) (fun x => if okc 255 x = true then none else some false) 0 (by omega)
      (fun k i h5 _ => by
        have h6 := parts_part_len 46 h _ (List.getElem_mem h5)
        have hrc := rcount_eq n (parts 46 h)[i] 255 (by omega) (by decide) hn
        rw [show ((255 : Nat) : Int) = 255 from rfl] at hrc
        rw [ref16_address_l1, if_pos (decide_eq_true (by omega)), if_pos (in_i h5), at_i h5, hrc]
        simp only [Option.bind_some, ncount_ok]
        cases okc 255 (parts 46 h)[i] <;> rfl)
      (fun k => by rw [ref16_address_l1, h4]; rfl) n 0 (by omega) (by omega) (by omega)
    have h0 : ref16_address_l1 n (parts 46 h) n 0 = some (outF ((parts 46 h).findSome? fun x => if okc 255 x = true then none else some false)) := hloop
    rw [h0, fs_all]
    cases (parts 46 h).all (okc 255) <;> rfl
  · have e : (((parts 46 h).length : Int) != 4) = true := by rw [bne_iff_ne]; omega
    rw [e, if_pos rfl, decide_eq_false h4]; rfl
end Go.Proofs.YtonjhkefnijlhaaDoor.M
