import Derived.Test.YtjjlpomfnfipbaaDoorQM45
import Derived.Test.YtjjlpomfnfipbaaDoorQLoop
import Derived.Test.YtjjlpomfnfipbaaDoorQStr
import Derived.Test.YtjjlpomfnfipbaaDoorQPlain
import Derived.Test.YtjjlpomfnfipbaaDoorQRxShelf
set_option linter.all false
namespace Go.Proofs.YtjjlpomfnfipbaaDoor.M
open Go Go.Proofs.YtjjlpomfnfipbaaDoor.RX Go.Proofs.YtjjlpomfnfipbaaDoor.PL
theorem wrap_sw (i : Nat) (h : i < 9223372036854775807) : IntKind.wrap .i64 ((i : Int) + 1) = ((i + 1 : Nat) : Int) := by rw [wrap_id _ (by omega) (by omega)]; omega
theorem scanLw {α ρ : Type} {L : Nat → Int → Option (Sum Unit ρ)} (l : List α) (g : α → Option ρ) (i0 : Nat) (hN : l.length ≤ 9223372036854775807)
    (hs : ∀ k i (h : i < l.length), i0 ≤ i → L (k + 1) (i : Int) = match g l[i] with | some r => some (.inr r) | none => L k (IntKind.wrap .i64 ((i : Int) + 1)))
    (he : ∀ k, L (k + 1) (l.length : Int) = some (.inl ())) : ∀ (k i : Nat), i0 ≤ i → i ≤ l.length → l.length - i < k → L k (i : Int) = some (outF ((l.drop i).findSome? g))
  | 0, i, _, _, h => by omega
  | k + 1, i, h0, h1, h2 => by
    by_cases h : i < l.length
    · rw [hs k i h h0, drop_at h, List.findSome?_cons]
      cases g l[i] with
      | some r => rfl
      | none =>
        show L k _ = _
        rw [wrap_sw i (by omega)]
        exact scanLw l g i0 hN hs he k (i + 1) (by omega) (by omega) (by omega)
    · have : i = l.length := by omega
      subst this
      rw [he, List.drop_eq_nil_of_le (Nat.le_refl _)]; rfl
theorem wrapu (x : Int) (h1 : 0 ≤ x) (h2 : x < 18446744073709551616) : IntKind.wrap .u64 x = x := by
  simp only [IntKind.wrap, IntKind.bits, IntKind.signed, Bool.false_and, Bool.false_eq_true, if_false, show ((2 : Int) ^ 64) = 18446744073709551616 from rfl]
  omega
def dig (b : UInt8) : Bool := decide (48 ≤ b.toNat ∧ b.toNat ≤ 57)
def dval (b : UInt8) : Nat := b.toNat - 48
def vl : Nat → BS → Nat
  | a, [] => a
  | a, b :: t => vl (a * 10 + dval b) t
def isNum (s : BS) : Bool := match s with | [] => false | b :: t => dig b && t.all dig && (t.isEmpty || !(b == 48))
def ncount (s : BS) (most : Nat) : Int × Int := if isNum s = true then (if vl 0 s ≤ most then ((vl 0 s : Nat), 0) else (0, 9)) else (0, 3)
theorem vl_ge : ∀ (t : BS) (a : Nat), a ≤ vl a t
  | [], a => Nat.le_refl a
  | b :: t, a => by have := vl_ge t (a * 10 + dval b); unfold vl; omega
theorem vl_ge_pow : ∀ (t : BS) (a : Nat), a * 10 ^ t.length ≤ vl a t
  | [], a => by rw [List.length_nil, Nat.pow_zero, Nat.mul_one]; exact Nat.le_refl a
  | b :: t, a => by
    have := vl_ge_pow t (a * 10 + dval b)
    unfold vl
    rw [List.length_cons, Nat.pow_succ]
    refine Nat.le_trans ?_ this
    generalize 10 ^ t.length = p
    rw [Nat.add_mul, Nat.mul_assoc, Nat.mul_comm 10 p]
    exact Nat.le_add_right _ _
theorem isNum_all {s : BS} (h : isNum s = true) : ∀ b ∈ s, dig b = true := by
  unfold isNum at h
  cases s with
  | nil => cases h
  | cons b t =>
    simp only [Bool.and_eq_true] at h
    intro x hx
    rcases List.mem_cons.1 hx with rfl | hx
    · exact h.1.1
    · exact List.all_eq_true.1 h.1.2 x hx
theorem isNum_long {s : BS} (h : isNum s = true) (hl : 19 < s.length) : 10 ^ 18 < vl 0 s := by
  unfold isNum at h
  cases s with
  | nil => cases h
  | cons b t =>
    simp only [Bool.and_eq_true, Bool.or_eq_true, Bool.not_eq_true', beq_eq_false_iff_ne] at h
    obtain ⟨⟨h1, h2⟩, h3⟩ := h
    have hb : b ≠ 48 := by
      rcases h3 with h3 | h3
      · rw [List.isEmpty_iff] at h3; subst h3; simp at hl
      · exact h3
    have hd : 1 ≤ dval b := by
      unfold dig at h1
      have h1 := of_decide_eq_true h1
      have : b.toNat ≠ 48 := fun e => hb (by rw [← UInt8.toNat_inj]; exact e)
      unfold dval; omega
    unfold vl
    have h4 := vl_ge_pow t (0 * 10 + dval b)
    have h5 : 10 ^ 19 ≤ 10 ^ t.length := Nat.pow_le_pow_right (by decide) (by simp at hl; omega)
    have h6 : 10 ^ t.length ≤ (0 * 10 + dval b) * 10 ^ t.length := Nat.le_mul_of_pos_left _ (by omega)
    have h7 : (10 : Nat) ^ 18 < 10 ^ 19 := by decide
    omega
theorem rc_l {n most : Nat} (l : BS) (hl : l.length ≤ 19) (hd : ∀ b ∈ l, dig b = true) : ∀ (k i acc : Nat), i ≤ l.length → l.length - i < k → acc < 10 ^ i →
    ref01_Count_l1 n l (most : Int) k (acc : Int) (i : Int) = some ((vl acc (l.drop i) : Nat) : Int)
  | 0, i, acc, _, h, _ => by omega
  | k + 1, i, acc, h1, h2, h3 => by
    rw [ref01_Count_l1]
    by_cases h : i < l.length
    · have hb := of_decide_eq_true (hd l[i] (List.getElem_mem h))
      have h10 : 10 ^ (i + 1) ≤ 10 ^ 19 := Nat.pow_le_pow_right (by decide) (by omega)
      have e10 : (10 : Nat) ^ 19 = 10000000000000000000 := by decide
      rw [Nat.pow_succ] at h10
      rw [e10] at h10
      rw [if_pos (lt_i h), if_pos (in_i h), at_i h]
      have e1 : IntKind.wrap .u64 ((acc : Int) * 10) = (acc : Int) * 10 := wrapu _ (by omega) (by omega)
      have e2 : IntKind.wrap .u64 ((l[i].toNat : Int)) = (l[i].toNat : Int) := wrapu _ (by omega) (by omega)
      rw [e1, e2, wrapu ((acc : Int) * 10 + (l[i].toNat : Int)) (by omega) (by omega), wrapu _ (by omega) (by omega)]
      have e3 : (acc : Int) * 10 + (l[i].toNat : Int) - 48 = ((acc * 10 + dval l[i] : Nat) : Int) := by unfold dval; omega
      simp only [lett, e3]
      rw [wrap_sw i (by omega), rc_l l hl hd k (i + 1) _ (by omega) (by omega) (by rw [Nat.pow_succ]; unfold dval; omega), drop_at h]
      rfl
    · have : i = l.length := by omega
      subst this
      rw [nlt_n, if_neg Bool.false_ne_true, List.drop_eq_nil_of_le (Nat.le_refl _)]; rfl
theorem whole_eq (n : Nat) (s : BS) (hs : s.length ≤ 9223372036854775807) (hn : s.length < n ∧ 100 ≤ n) : ref01_Whole n s = some (isNum s) := by
  have hloop := scanLw (L := ref01_Whole_l1 n s) s (fun b => if dig b = true then none else some false) 0 (by omega)
    (fun k i h _ => by
      rw [ref01_Whole_l1, if_pos (lt_i h), if_pos (in_i h), if_pos (by rw [in_i h]; simp), at_i h]
      simp only [lett]
      by_cases hd : dig s[i] = true
      · have h1 := of_decide_eq_true hd
        rw [if_pos hd, decide_eq_false (by omega : ¬ (s[i].toNat : Int) < 48), decide_eq_false (by omega : ¬ (s[i].toNat : Int) > 57)]
        rfl
      · have h1 := of_decide_eq_false (by simpa [dig] using hd : decide (48 ≤ s[i].toNat ∧ s[i].toNat ≤ 57) = false)
        rw [if_neg hd]
        by_cases h2 : (s[i].toNat : Int) < 48
        · rw [decide_eq_true h2]; rfl
        · rw [decide_eq_false h2, decide_eq_true (by omega : (s[i].toNat : Int) > 57)]; rfl)
    (fun k => by rw [ref01_Whole_l1, nlt_n]; rfl) n 0 (by omega) (by omega) (by omega)
  unfold ref01_Whole
  cases s with
  | nil => rfl
  | cons b t =>
    have e0 : (((b :: t).length : Int) == 0) = false := by rw [beq_eq_false_iff_ne]; simp only [List.length_cons]; omega
    have e1 : decide (0 ≤ (0 : Int) ∧ (0 : Int) < ((b :: t).length : Int)) = true := decide_eq_true (by simp only [List.length_cons]; omega)
    rw [e1, if_pos (by simp), e0]
    simp only [cond_false, lett, Int.toNat_zero, List.getElem?_cons_zero, Option.getD_some]
    have e48 : ((b.toNat : Int) == 48) = decide (b = 48) := beq_byte b 48 (by decide)
    simp only [e48]
    have hz : ref01_Whole_l1 n (b :: t) n 0 = some (outF ((b :: t).findSome? fun b => if dig b = true then none else some false)) := hloop
    rw [hz]
    by_cases hc : t ≠ [] ∧ b = 48
    · have : decide (((b :: t).length : Int) > 1) = true := decide_eq_true (by have := List.length_pos_iff.2 hc.1; simp; omega)
      rw [this, decide_eq_true hc.2, hc.2]
      have : t.isEmpty = false := by simpa using hc.1
      simp [isNum, this]
    · have hcond : (bif decide (((b :: t).length : Int) > 1) then decide (b = 48) else false) = false := by
        by_cases ht : t = []
        · subst ht; simp
        · have : b ≠ 48 := fun e => hc ⟨ht, e⟩
          simp [this]
      rw [hcond, if_neg Bool.false_ne_true]
      have hor : (t.isEmpty || !(b == 48)) = true := by
        by_cases ht : t = []
        · subst ht; rfl
        · have : b ≠ 48 := fun e => hc ⟨ht, e⟩
          simp [this]
      show _ = some (dig b && t.all dig && (t.isEmpty || !(b == 48)))
      rw [hor, Bool.and_true]
      have key : ∀ l : BS, l.findSome? (fun b => if dig b = true then none else some false) = if l.all dig = true then none else some false := by
        intro l
        induction l with
        | nil => rfl
        | cons x l ih =>
          rw [List.findSome?_cons, List.all_cons]
          cases hx : dig x with
          | true => simp [ih]
          | false => simp
      rw [key, List.all_cons]
      cases (dig b && t.all dig) <;> rfl
theorem rcount_eq (n : Nat) (s : BS) (most : Nat) (hs : s.length ≤ 9223372036854775807) (hm : most ≤ 10 ^ 18) (hn : s.length < n ∧ 100 ≤ n) : ref01_Count n s (most : Int) = some (ncount s most) := by
  unfold ref01_Count
  rw [decide_eq_false (by omega : ¬ (most : Int) < 0), if_neg Bool.false_ne_true, whole_eq n s hs hn]
  simp only [Option.bind_some]
  unfold ncount
  cases hN : isNum s with
  | false => rfl
  | true =>
    simp only [Bool.not_true, Bool.false_eq_true, if_false, if_true]
    by_cases hl : 19 < s.length
    · have := isNum_long hN hl
      rw [decide_eq_true (by omega : (s.length : Int) > 19), if_pos rfl, if_neg (by omega)]
    · have e10 : (10 : Nat) ^ 18 = 1000000000000000000 := by decide
      rw [decide_eq_false (by omega : ¬ (s.length : Int) > 19), if_neg Bool.false_ne_true]
      have := rc_l (n := n) (most := most) s (by omega) (isNum_all hN) n 0 0 (by omega) (by omega) (by decide)
      rw [List.drop_zero] at this
      have h0 : ref01_Count_l1 n s (most : Int) n 0 0 = some ((vl 0 s : Nat) : Int) := this
      rw [h0]
      simp only [Option.bind_some]
      rw [wrapu (most : Int) (by omega) (by omega)]
      by_cases hv : vl 0 s ≤ most
      · rw [decide_eq_false (by omega : ¬ ((vl 0 s : Nat) : Int) > (most : Int)), if_neg Bool.false_ne_true, if_pos hv, wrap_id _ (by omega) (by omega)]
      · rw [decide_eq_true (by omega : ((vl 0 s : Nat) : Int) > (most : Int)), if_pos rfl, if_neg hv]
theorem dw_l {n most : Nat} (l : BS) (V : Nat) (hm : most ≤ 1000000000000000000) (hl : l.length ≤ 9223372036854775807) : ∀ (k i acc : Nat) (over : Bool), i ≤ l.length → l.length - i < k → (over = false → acc ≤ most ∧ ((l.drop i).all dig = true → V = vl acc (l.drop i))) → (over = true → (l.drop i).all dig = true → most < V) → acc ≤ most →
    ∃ x : Nat, digit_whole_l1 n l (most : Int) (l.length : Int) k (acc : Int) over (i : Int) = some (if (l.drop i).all dig = true then .inl ((x : Int), decide (most < V)) else .inr (0, 3)) ∧ ((l.drop i).all dig = true → V ≤ most → x = V)
  | 0, i, acc, over, _, h, _, _, _ => by omega
  | k + 1, i, acc, over, h1, h2, h3, h4, h5 => by
    rw [digit_whole_l1]
    by_cases h : i < l.length
    · have hc := l[i].toNat_lt
      have e0 : IntKind.wrap .i64 ((l[i].toNat : Int)) = (l[i].toNat : Int) := wrap_id _ (by omega) (by omega)
      have e1 : IntKind.wrap .i64 ((l[i].toNat : Int) - 48) = (l[i].toNat : Int) - 48 := wrap_id _ (by omega) (by omega)
      rw [if_pos (lt_i h), digit_whole_j2, if_pos (in_i h), at_i h, e0, e1, drop_at h, List.all_cons]
      simp only [lett]
      by_cases hd : dig l[i] = true
      · have hb := of_decide_eq_true hd
        have ed : (l[i].toNat : Int) - 48 = (dval l[i] : Int) := by unfold dval; omega
        have hd9 : dval l[i] ≤ 9 := by unfold dval; omega
        rw [ed, decide_eq_false (by omega : ¬ (dval l[i] : Int) < 0), decide_eq_false (by omega : ¬ (dval l[i] : Int) > 9), cond_false, if_neg Bool.false_ne_true, if_pos (by simp)]
        rw [hd, Bool.true_and]
        have e4 : IntKind.wrap .i64 ((most : Int) - (dval l[i] : Int)) = (most : Int) - (dval l[i] : Int) := wrap_id _ (by omega) (by omega)
        have e5 : IntKind.wrap .i64 (((most : Int) - (dval l[i] : Int)).tdiv 10) = ((most : Int) - (dval l[i] : Int)).tdiv 10 := by
          by_cases hq : dval l[i] ≤ most
          · rw [Int.tdiv_eq_ediv_of_nonneg (by omega)]; exact wrap_id _ (by omega) (by omega)
          · have : ((most : Int) - (dval l[i] : Int)).tdiv 10 = 0 := by
              have h8 : (most : Int) - (dval l[i] : Int) = -((dval l[i] - most : Nat) : Int) := by omega
              rw [h8, Int.neg_tdiv, Int.tdiv_eq_ediv_of_nonneg (by omega)]
              omega
            rw [this]; rfl
        rw [e4, e5]
        have hx : (bif (bif over then true else decide ((acc : Int) > ((most : Int) - (dval l[i] : Int)).tdiv 10)) then true else decide ((most : Int) < (dval l[i] : Int))) = (over || decide (most < acc * 10 + dval l[i])) := by
          cases over with
          | true => rfl
          | false =>
            simp only [cond_false, Bool.false_or]
            by_cases hq : dval l[i] ≤ most
            · rw [decide_eq_false (by omega : ¬ (most : Int) < (dval l[i] : Int)), Int.tdiv_eq_ediv_of_nonneg (by omega)]
              have : decide ((acc : Int) > ((most : Int) - (dval l[i] : Int)) / 10) = decide (most < acc * 10 + dval l[i]) := by
                rw [decide_eq_decide]; omega
              rw [this]
              cases decide (most < acc * 10 + dval l[i]) <;> rfl
            · rw [decide_eq_true (by omega : (most : Int) < (dval l[i] : Int)), decide_eq_true (by omega : most < acc * 10 + dval l[i])]
              cases decide ((acc : Int) > ((most : Int) - (dval l[i] : Int)).tdiv 10) <;> rfl
        rw [hx]
        cases hov : (over || decide (most < acc * 10 + dval l[i])) with
        | true =>
          simp only [Bool.not_true, Bool.false_eq_true, if_false, Option.bind_some, Sum.elim_inl]
          rw [wrap_sw i (by omega)]
          refine dw_l l V hm hl k (i + 1) acc true (by omega) (by omega) (by intro h; cases h) (fun _ ha => ?_) h5
          rw [drop_at h, List.all_cons, hd, Bool.true_and] at h3 h4
          cases over with
          | true => exact h4 rfl ha
          | false =>
            have h6 : most < acc * 10 + dval l[i] := of_decide_eq_true (by simpa using hov)
            have h7 := (h3 rfl).2 ha
            have h8 := vl_ge (l.drop (i + 1)) (acc * 10 + dval l[i])
            have h9 : vl acc (l[i] :: l.drop (i + 1)) = vl (acc * 10 + dval l[i]) (l.drop (i + 1)) := rfl
            omega
        | false =>
          simp only [Bool.or_eq_false_iff, decide_eq_false_iff_not] at hov
          obtain ⟨rfl, h6⟩ := hov
          have e6 : IntKind.wrap .i64 ((acc : Int) * 10) = (acc : Int) * 10 := wrap_id _ (by omega) (by omega)
          have e7 : IntKind.wrap .i64 ((acc : Int) * 10 + (dval l[i] : Int)) = ((acc * 10 + dval l[i] : Nat) : Int) := by rw [wrap_id _ (by omega) (by omega)]; omega
          simp only [Bool.not_false, if_true, Option.bind_some, Sum.elim_inl, e6, e7]
          rw [wrap_sw i (by omega)]
          rw [drop_at h, List.all_cons, hd, Bool.true_and] at h3
          exact dw_l l V hm hl k (i + 1) _ false (by omega) (by omega) (fun _ => ⟨by omega, fun ha => (h3 rfl).2 ha⟩) (by intro h; cases h) (by omega)
      · have hdf : dig l[i] = false := by simpa using hd
        have hb := of_decide_eq_false (p := 48 ≤ l[i].toNat ∧ l[i].toNat ≤ 57) hdf
        have hc2 : (bif decide ((l[i].toNat : Int) - 48 < 0) then true else decide ((l[i].toNat : Int) - 48 > 9)) = true := by
          by_cases h2 : (l[i].toNat : Int) - 48 < 0
          · rw [decide_eq_true h2]; rfl
          · rw [decide_eq_false h2, decide_eq_true (by omega : (l[i].toNat : Int) - 48 > 9)]; rfl
        rw [hc2, hdf]
        exact ⟨0, rfl, by intro h; cases h⟩
    · have : i = l.length := by omega
      subst this
      rw [nlt_n, if_neg Bool.false_ne_true, List.drop_eq_nil_of_le (Nat.le_refl _)]
      rw [List.drop_eq_nil_of_le (Nat.le_refl _)] at h3 h4
      refine ⟨acc, ?_, fun _ hv => ?_⟩
      · show some (Sum.inl ((acc : Int), over)) = some (Sum.inl ((acc : Int), decide (most < V)))
        cases over with
        | true => rw [decide_eq_true (h4 rfl rfl)]
        | false =>
          have h6 := h3 rfl
          have h7 : V = acc := h6.2 rfl
          rw [decide_eq_false (by omega)]
      · cases over with
        | true => have := h4 rfl rfl; omega
        | false => exact ((h3 rfl).2 rfl).symm
theorem dwhole_eq (n : Nat) (s : BS) (most : Nat) (hs : s.length ≤ 9223372036854775807) (hm : most ≤ 1000000000000000000) (hn : s.length < n ∧ 100 ≤ n) : digit_whole n s (most : Int) = some (ncount s most) := by
  unfold digit_whole
  obtain ⟨x, h1, h2⟩ := dw_l (n := n) (most := most) s (vl 0 s) hm hs n 0 0 false (by omega) (by omega) (fun _ => ⟨Nat.zero_le _, fun _ => rfl⟩) (by intro h; cases h) (Nat.zero_le _)
  rw [List.drop_zero] at h1 h2
  have h0 : digit_whole_l1 n s (most : Int) (s.length : Int) n 0 false 0 = _ := h1
  rw [h0]
  cases s with
  | nil => rfl
  | cons b t =>
    have e1 : decide (0 ≤ (0 : Int) ∧ (0 : Int) < ((b :: t).length : Int)) = true := decide_eq_true (by simp only [List.length_cons]; omega)
    have e2 : ((b :: t) == []) = false := rfl
    rw [e1, if_pos (by simp), e2]
    simp only [cond_false, lett, Int.toNat_zero, List.getElem?_cons_zero, Option.getD_some]
    have e48 : ((b.toNat : Int) == 48) = decide (b = 48) := beq_byte b 48 (by decide)
    simp only [e48]
    unfold ncount
    by_cases hc : t ≠ [] ∧ b = 48
    · have h3 : decide (((b :: t).length : Int) > 1) = true := decide_eq_true (by have := List.length_pos_iff.2 hc.1; simp only [List.length_cons]; omega)
      have h4 : t.isEmpty = false := by simpa using hc.1
      rw [h3, decide_eq_true hc.2, hc.2]
      simp [isNum, h4]
    · have hcond : (bif decide (((b :: t).length : Int) > 1) then decide (b = 48) else false) = false := by
        by_cases ht : t = []
        · subst ht; simp
        · have : b ≠ 48 := fun e => hc ⟨ht, e⟩
          simp [this]
      have hor : (t.isEmpty || !(b == 48)) = true := by
        by_cases ht : t = []
        · subst ht; rfl
        · have : b ≠ 48 := fun e => hc ⟨ht, e⟩
          simp [this]
      have hN : isNum (b :: t) = (b :: t).all dig := by
        show (dig b && t.all dig && (t.isEmpty || !(b == 48))) = _
        rw [hor, Bool.and_true, List.all_cons]
      rw [hcond, if_neg Bool.false_ne_true, hN]
      cases ha : (b :: t).all dig with
      | false => rfl
      | true =>
        simp only [if_true, Option.bind_some, Sum.elim_inl]
        by_cases hv : vl 0 (b :: t) ≤ most
        · rw [if_pos hv, decide_eq_false (by omega), if_neg Bool.false_ne_true, h2 ha hv]
        · rw [if_neg hv, decide_eq_true (by omega), if_pos rfl]
theorem dcount_eq (n : Nat) (s : BS) (most : Nat) (hs : s.length ≤ 9223372036854775807) (hm : most ≤ 1000000000000000000) (hn : s.length < n ∧ 100 ≤ n) : digit_Count n s (most : Int) = some (ncount s most) := by
  unfold digit_Count
  rw [decide_eq_false (by omega : ¬ (most : Int) < 0), if_neg Bool.false_ne_true, dwhole_eq n s most hs hm hn]
  rfl
def bt (k : Nat) : UInt8 := UInt8.ofNat (48 + k)
def dg : Nat → Nat → BS → BS
  | 0, u, acc => bt u :: acc
  | f + 1, u, acc => if u < 10 then bt u :: acc else dg f (u / 10) (bt (u % 10) :: acc)
theorem dg_len : ∀ (f u : Nat) (acc : BS), (dg f u acc).length ≤ f + 1 + acc.length
  | 0, u, acc => by simp [dg]; omega
  | f + 1, u, acc => by
    unfold dg
    split
    · simp; omega
    · have := dg_len f (u / 10) (bt (u % 10) :: acc); simp at this; omega
theorem byte_u {u : Nat} : IntKind.wrap .u8 (IntKind.wrap .u64 (48 + Int.tmod ((u : Nat) : Int) 10)) = ((48 + u % 10 : Nat) : Int) ∧ (decide (0 ≤ ((48 + u % 10 : Nat) : Int) ∧ ((48 + u % 10 : Nat) : Int) < 256)) = true ∧ UInt8.ofNat (Int.toNat ((48 + u % 10 : Nat) : Int)) = bt (u % 10) := by
  have e : Int.tmod ((u : Nat) : Int) 10 = ((u % 10 : Nat) : Int) := by rw [Int.tmod_eq_emod_of_nonneg (by omega)]; omega
  refine ⟨?_, decide_eq_true (by omega), by rw [tn]; rfl⟩
  rw [e, wrapu _ (by omega) (by omega)]
  simp only [IntKind.wrap, IntKind.bits, IntKind.signed, Bool.false_and, Bool.false_eq_true, if_false, show ((2 : Int) ^ 8) = 256 from rfl]
  omega
theorem div_u {u : Nat} (h : u < 18446744073709551616) : IntKind.wrap .u64 (Int.tdiv ((u : Nat) : Int) 10) = ((u / 10 : Nat) : Int) := by
  rw [Int.tdiv_eq_ediv_of_nonneg (by omega), wrapu _ (by omega) (by omega)]; omega
theorem rd_l {n : Nat} : ∀ (f u : Nat) (acc : BS) (k : Nat), u < 10 ^ (f + 1) → u < 18446744073709551616 → f < k → acc.length + f ≤ 1000 → ∃ (v : Nat) (r : BS), ref01_digits_l1 n k (u : Int) acc = some ((v : Int), r) ∧ v < 10 ∧ bt v :: r = dg f u acc ∧ r.length ≤ acc.length + f
  | 0, u, acc, k + 1, h, hu, _, _ => by
    have hu : u < 10 := by simpa using h
    refine ⟨u, acc, ?_, hu, rfl, by omega⟩
    rw [ref01_digits_l1, decide_eq_false (by omega : ¬ (u : Int) ≥ 10), if_neg Bool.false_ne_true]
  | f + 1, u, acc, k + 1, h, hu, hk, hl => by
    rw [ref01_digits_l1]
    by_cases h10 : u < 10
    · refine ⟨u, acc, ?_, h10, by rw [dg, if_pos h10], by omega⟩
      rw [decide_eq_false (by omega : ¬ (u : Int) ≥ 10), if_neg Bool.false_ne_true]
    · obtain ⟨e1, e2, e3⟩ := byte_u (u := u)
      have e4 : decide (((List.length ([bt (u % 10)] : BS) + List.length acc : Nat) : Int) ≤ 9223372036854775807) = true := str_fits (by simp; omega)
      rw [decide_eq_true (by omega : (u : Int) ≥ 10), if_pos rfl, if_pos (by decide), e1, if_pos e2, e3, if_pos e4, if_pos (by decide), div_u hu]
      obtain ⟨v, r, h1, h2, h3, h4⟩ := rd_l f (u / 10) ([bt (u % 10)] ++ acc) k (by rw [Nat.pow_succ] at h; omega) (by omega) (by omega) (by simp; omega)
      exact ⟨v, r, h1, h2, by rw [dg, if_neg h10]; exact h3, by simp at h4; omega⟩
theorem rtext_eq (n u : Nat) (hu : u < 9223372036854775808) (hn : 100 ≤ n) : ref01_Text n (u : Int) = some (dg 19 u []) := by
  unfold ref01_Text ref01_digits
  rw [decide_eq_false (by omega : ¬ (u : Int) < 0), if_neg Bool.false_ne_true, wrapu _ (by omega) (by omega)]
  have e20 : (10 : Nat) ^ (19 + 1) = 100000000000000000000 := by decide
  obtain ⟨v, r, h1, h2, h3, h4⟩ := rd_l (n := n) 19 u [] n (by omega) (by omega) (by omega) (by decide)
  rw [h1]
  simp only [Option.bind_some]
  have e : IntKind.wrap .u8 (IntKind.wrap .u64 (48 + ((v : Nat) : Int))) = ((48 + v : Nat) : Int) := by
    rw [wrapu _ (by omega) (by omega)]
    simp only [IntKind.wrap, IntKind.bits, IntKind.signed, Bool.false_and, Bool.false_eq_true, if_false, show ((2 : Int) ^ 8) = 256 from rfl]
    omega
  rw [e, if_pos (decide_eq_true (by omega)), tn, if_pos (str_fits (by simp at h4 ⊢; omega))]
  simp only [Option.bind_some]
  rw [← h3]; rfl
theorem dt_l {n : Nat} {v5 : Bool} : ∀ (f u at_ : Nat) (b : BS) (k : Nat), u < 10 ^ (f + 1) → u < 18446744073709551616 → f < k → b.length = 20 → f + 1 ≤ at_ → at_ ≤ 20 →
    ∃ (at2 : Nat) (b2 : BS), digit_Text_l2 n v5 k (at_ : Int) (u : Int) b = some ((at2 : Int), b2) ∧ b2.length = 20 ∧ at2 ≤ 20 ∧ b2.drop at2 = dg f u (b.drop at_) := by
  have step : ∀ (k u at_ : Nat) (b : BS), u < 18446744073709551616 → b.length = 20 → 1 ≤ at_ → at_ ≤ 20 →
      digit_Text_l2 n v5 (k + 1) (at_ : Int) (u : Int) b = if ((((u / 10 : Nat) : Int)) == 0) = true then some (((at_ - 1 : Nat) : Int), b.set (at_ - 1) (bt (u % 10))) else digit_Text_l2 n v5 k ((at_ - 1 : Nat) : Int) ((u / 10 : Nat) : Int) (b.set (at_ - 1) (bt (u % 10))) := by
    intro k u at_ b hu hb h1 h2
    obtain ⟨e1, e2, e3⟩ := byte_u (u := u)
    rw [digit_Text_l2, wrap_p at_ (by omega) h1, e1, e2, e3, div_u hu, tn]
    have e4 : decide (0 ≤ ((at_ - 1 : Nat) : Int) ∧ ((at_ - 1 : Nat) : Int) < (20 : Int)) = true := decide_eq_true (by omega)
    have e5 : decide (0 ≤ ((at_ - 1 : Nat) : Int) ∧ ((at_ - 1 : Nat) : Int) < (b.length : Int)) = true := decide_eq_true (by omega)
    rw [if_pos (by decide), e4, e5, if_pos rfl, if_pos rfl, if_pos rfl]
    simp only [lett]
    rw [if_pos (by decide)]
  have hset : ∀ (b : BS) (at_ : Nat) (x : UInt8), b.length = 20 → 1 ≤ at_ → at_ ≤ 20 → (b.set (at_ - 1) x).drop (at_ - 1) = x :: b.drop at_ := by
    intro b at_ x hb h1 h2
    rw [List.drop_eq_getElem_cons (by simp; omega), List.getElem_set_self, show at_ - 1 + 1 = at_ by omega, List.drop_set_of_lt (by omega)]
  intro f
  induction f with
  | zero =>
    intro u at_ b k h hu hk hb h1 h2
    have hu10 : u < 10 := by simpa using h
    obtain ⟨k, rfl⟩ : ∃ k', k = k' + 1 := ⟨k - 1, by omega⟩
    have e0 : (((u / 10 : Nat) : Int) == 0) = true := by rw [beq_iff_eq]; omega
    rw [step k u at_ b hu hb (by omega) h2, e0, if_pos rfl]
    exact ⟨at_ - 1, _, rfl, by simp [hb], by omega, by rw [hset b at_ _ hb (by omega) h2, Nat.mod_eq_of_lt hu10]; rfl⟩
  | succ f ih =>
    intro u at_ b k h hu hk hb h1 h2
    obtain ⟨k, rfl⟩ : ∃ k', k = k' + 1 := ⟨k - 1, by omega⟩
    rw [step k u at_ b hu hb (by omega) h2]
    by_cases h10 : u < 10
    · have e0 : (((u / 10 : Nat) : Int) == 0) = true := by rw [beq_iff_eq]; omega
      rw [e0, if_pos rfl]
      exact ⟨at_ - 1, _, rfl, by simp [hb], by omega, by rw [hset b at_ _ hb (by omega) h2, Nat.mod_eq_of_lt h10, dg, if_pos h10]⟩
    · have e0 : (((u / 10 : Nat) : Int) == 0) = false := by rw [beq_eq_false_iff_ne]; omega
      rw [e0, if_neg Bool.false_ne_true]
      obtain ⟨at2, b2, h3, h4, h5, h6⟩ := ih (u / 10) (at_ - 1) (b.set (at_ - 1) (bt (u % 10))) k (by rw [Nat.pow_succ] at h; omega) (by omega) (by omega) (by simp [hb]) (by omega) (by omega)
      exact ⟨at2, b2, h3, h4, h5, by rw [h6, hset b at_ _ hb (by omega) h2, dg, if_neg h10]⟩
theorem dtext_eq (n u : Nat) (hu : u < 9223372036854775808) (hn : 100 ≤ n) : digit_Text n (u : Int) = some (dg 19 u []) := by
  unfold digit_Text digit_Text_j1 digit_Text_j3
  have e20 : (10 : Nat) ^ (19 + 1) = 100000000000000000000 := by decide
  rw [decide_eq_false (by omega : ¬ (u : Int) < 0), if_neg Bool.false_ne_true, wrapu _ (by omega) (by omega)]
  simp only [Option.bind_some, Bool.false_eq_true, if_false]
  obtain ⟨at2, b2, h1, h2, h3, h4⟩ := dt_l (n := n) (v5 := false) 19 u 20 (List.replicate 20 0) n (by omega) (by omega) (by omega) (by simp) (by decide) (by decide)
  have h0 : digit_Text_l2 n false n 20 (u : Int) (List.replicate 20 0) = some ((at2 : Int), b2) := h1
  rw [h0]
  simp only [Option.bind_some]
  rw [h2, if_pos (by decide), if_pos (decide_eq_true (by omega)), tn, h4]
  rfl
theorem wrapn {x : Int} (h1 : -9223372036854775808 ≤ x) (h2 : x < 0) : IntKind.wrap .u64 x = x + 18446744073709551616 ∧ IntKind.wrap .u64 (0 - (x + 18446744073709551616)) = -x := by
  have hm : ∀ y z : Int, y + 18446744073709551616 = z → 0 ≤ z → z < 18446744073709551616 → y % 18446744073709551616 = z := by
    intro y z h a b
    rw [← Int.emod_eq_of_lt a b, ← h, Int.add_emod_right]
  simp only [IntKind.wrap, IntKind.bits, IntKind.signed, Bool.false_and, Bool.false_eq_true, if_false, show ((2 : Int) ^ 64) = 18446744073709551616 from rfl]
  exact ⟨hm _ _ rfl (by omega) (by omega), hm _ _ (by omega) (by omega) (by omega)⟩
def txI (x : Int) : BS := if x < 0 then 45 :: dg 18 (-x).toNat [] else dg 19 x.toNat []
theorem rdig18 (n u : Nat) (h1 : u < 10 ^ (18 + 1)) (h2 : u < 18446744073709551616) (hn : 100 ≤ n) : ref01_digits n (u : Int) = some (dg 18 u []) := by
  unfold ref01_digits
  obtain ⟨v, r, g1, g2, g3, g4⟩ := rd_l (n := n) 18 u [] n h1 h2 (by omega) (by decide)
  clear h1 h2
  rw [g1]
  simp only [Option.bind_some]
  have e : IntKind.wrap .u8 (IntKind.wrap .u64 (48 + ((v : Nat) : Int))) = ((48 + v : Nat) : Int) := by
    rw [wrapu _ (by omega) (by omega)]
    simp only [IntKind.wrap, IntKind.bits, IntKind.signed, Bool.false_and, Bool.false_eq_true, if_false, show ((2 : Int) ^ 8) = 256 from rfl]
    omega
  rw [e, if_pos (decide_eq_true (by omega)), tn, if_pos (str_fits (by simp at g4 ⊢; omega))]
  rw [← g3]; rfl
theorem neg_nat {x : Int} (h1 : -9223372036854775808 ≤ x) (h : x < 0) : ∃ u : Nat, -x = (u : Int) ∧ u < 10 ^ (18 + 1) ∧ u < 18446744073709551616 := by
  obtain ⟨u, hu, hb⟩ : ∃ u : Nat, -x = (u : Int) ∧ u ≤ 9223372036854775808 := ⟨(-x).toNat, (Int.toNat_of_nonneg (by omega)).symm, by omega⟩
  exact ⟨u, hu, Nat.lt_of_le_of_lt hb (by decide), Nat.lt_of_le_of_lt hb (by decide)⟩
theorem fits45 (u : Nat) : decide (((List.length ([45] : List UInt8) + List.length (dg 18 u []) : Nat) : Int) ≤ 9223372036854775807) = true := str_fits (by have := dg_len 18 u []; simp at this ⊢; omega)
theorem rtextN_eq (n : Nat) (x : Int) (h1 : -9223372036854775808 ≤ x) (hn : 100 ≤ n) (h : x < 0) : ref01_Text n x = some (45 :: dg 18 (-x).toNat []) := by
  obtain ⟨w1, w2⟩ := wrapn h1 h
  obtain ⟨u, hu, hb1, hb2⟩ := neg_nat h1 h
  unfold ref01_Text
  rw [decide_eq_true h, if_pos rfl, w1, w2, hu, tn, rdig18 n u hb1 hb2 hn, Option.bind_some, if_pos (fits45 u)]
  rfl
theorem rtextI_eq (n : Nat) (x : Int) (h1 : -9223372036854775808 ≤ x) (h2 : x ≤ 9223372036854775807) (hn : 100 ≤ n) : ref01_Text n x = some (txI x) := by
  unfold txI
  by_cases h : x < 0
  · rw [if_pos h]; exact rtextN_eq n x h1 hn h
  · rw [if_neg h]
    have := rtext_eq n x.toNat (by omega) hn
    rw [Int.toNat_of_nonneg (by omega)] at this
    exact this
theorem dtextI_eq (n : Nat) (x : Int) (h1 : -9223372036854775808 ≤ x) (h2 : x ≤ 9223372036854775807) (hn : 100 ≤ n) : digit_Text n x = some (txI x) := by
  unfold txI
  by_cases h : x < 0
  · rw [if_pos h]
    obtain ⟨w1, w2⟩ := wrapn h1 h
    obtain ⟨u, hu, hb1, hb2⟩ := neg_nat h1 h
    unfold digit_Text digit_Text_j1 digit_Text_j3
    rw [decide_eq_true h, if_pos rfl, w1, w2, hu, tn]
    simp only [Option.bind_some, if_true]
    obtain ⟨at2, b2, g1, g2, g3, g4⟩ := dt_l (n := n) (v5 := true) 18 u 20 (List.replicate 20 0) n hb1 hb2 (by omega) (by simp) (by decide) (by decide)
    clear w1 w2 hb1 hb2 h1 h2
    have g0 : digit_Text_l2 n true n 20 (u : Int) (List.replicate 20 0) = some ((at2 : Int), b2) := g1
    rw [g0]
    simp only [Option.bind_some]
    have hd : b2.drop at2 = dg 18 u [] := by rw [g4]; rfl
    have hl := dg_len 18 u []
    rw [← hd, List.length_drop, g2] at hl
    simp only [List.length_nil] at hl
    have hw : IntKind.wrap .i64 ((at2 : Int) - 1) = ((at2 - 1 : Nat) : Int) := wrap_p at2 (by omega) (by omega)
    rw [hw, if_pos (decide_eq_true (by omega)), if_pos (decide_eq_true (by omega)), tn]
    simp only [Option.bind_some]
    rw [if_pos (decide_eq_true (by simp [g2])), if_pos (decide_eq_true (by simp [g2]; omega)), tn]
    have : (b2.set (at2 - 1) 45).drop (at2 - 1) = 45 :: b2.drop at2 := by
      rw [List.drop_eq_getElem_cons (by simp; omega), List.getElem_set_self, show at2 - 1 + 1 = at2 by omega, List.drop_set_of_lt (by omega)]
    rw [this, hd]
  · rw [if_neg h]
    have := dtext_eq n x.toNat (by omega) hn
    rw [Int.toNat_of_nonneg (by omega)] at this
    exact this
theorem eq_drop {l m : List BS} {i : Nat} (h1 : i < l.length) (h2 : i < m.length) : (l.drop i = m.drop i) ↔ l[i] = m[i] ∧ l.drop (i + 1) = m.drop (i + 1) := by
  rw [drop_at h1, drop_at h2, List.cons.injEq]
theorem same_l {L : Nat → Int → Option (Sum Unit Bool)} (l m : List BS) (hlm : l.length = m.length) (hl : l.length < 10000)
    (hs : ∀ k i (h : i < l.length) (h' : i < m.length), L (k + 1) (i : Int) = if (!(l[i] == m[i])) = true then some (.inr false) else L k (IntKind.wrap .i64 ((i : Int) + 1)))
    (he : ∀ k, L (k + 1) (l.length : Int) = some (.inl ())) : ∀ k i, i ≤ l.length → l.length - i < k → L k (i : Int) = some (if l.drop i = m.drop i then .inl () else .inr false)
  | 0, i, _, h => by omega
  | k + 1, i, h1, h2 => by
    by_cases h : i < l.length
    · have h' : i < m.length := by omega
      rw [hs k i h h']
      simp only [eq_drop h h']
      by_cases e : l[i] = m[i]
      · simp only [e, beq_self_eq_true, Bool.not_true, Bool.false_eq_true, if_false, true_and]
        rw [wrap_s i (by omega)]
        exact same_l l m hlm hl hs he k (i + 1) (by omega) (by omega)
      · simp [e]
    · have : i = l.length := by omega
      subst this
      rw [he, List.drop_eq_nil_of_le (Nat.le_refl _), List.drop_eq_nil_of_le (by omega), if_pos rfl]
theorem ref02_Same_eq (n : Nat) (l m : List BS) (hl : l.length < 10000) (hn : 100000 ≤ n) : ref02_Same n l m = some (decide (l = m)) := by
  unfold ref02_Same
  by_cases hlm : l.length = m.length
  · have e : ((List.length l : Int) != (List.length m : Int)) = false := by simp [hlm]
    have := same_l (L := ref02_Same_l1 n l m) l m hlm hl
      (fun k i h h' => by rw [ref02_Same_l1, if_pos (lt_i h), if_pos (in_i h), if_pos (in_i h'), at_i h, at_i h'])
      (fun k => by rw [ref02_Same_l1, nlt_n]; rfl) n 0 (by omega) (by omega)
    rw [e, if_neg Bool.false_ne_true, show (0 : Int) = ((0 : Nat) : Int) from rfl, this, List.drop_zero, List.drop_zero]
    by_cases h : l = m
    · rw [if_pos h, decide_eq_true h]; rfl
    · rw [if_neg h, decide_eq_false h]; rfl
  · have e : ((List.length l : Int) != (List.length m : Int)) = true := by simpa using fun h => hlm (by omega)
    rw [e, if_pos rfl, decide_eq_false (fun h => hlm (congrArg List.length h))]
theorem k1 : ∀ c : UInt8, name_Service_1 (c.toNat : Int) = !(bif (ref02_Kind (c.toNat : Int) == 0) then true else decide (ref02_Kind (c.toNat : Int) > 3)) := byte_all (by decide +kernel)
theorem k2 : ∀ c : UInt8, name_Service_2 (c.toNat : Int) = !(ref02_Kind (c.toNat : Int) == 0) := byte_all (by decide +kernel)
theorem k5 : ∀ c : UInt8, name_Project_1 (c.toNat : Int) = !(bif (bif (bif (ref02_Kind (c.toNat : Int) == 0) then true else (ref02_Kind (c.toNat : Int) == 2)) then true else (ref02_Kind (c.toNat : Int) == 6)) then true else decide (ref02_Kind (c.toNat : Int) > 3)) := byte_all (by decide +kernel)
theorem k6 : ∀ c : UInt8, name_Project_2 (c.toNat : Int) = !(bif (bif (ref02_Kind (c.toNat : Int) == 0) then true else (ref02_Kind (c.toNat : Int) == 2)) then true else (ref02_Kind (c.toNat : Int) == 6)) := byte_all (by decide +kernel)
def isName (p q : UInt8 → Bool) : BS → Bool
  | [] => false
  | c :: s => decide (s.length < 24) && p c && s.all q
theorem findSome_anyF {α : Type} (p : α → Bool) : ∀ l : List α, l.findSome? (fun x => if p x = true then some false else none) = if l.any p = true then some false else none
  | [] => rfl
  | x :: l => by rw [List.findSome?_cons, List.any_cons, findSome_anyF p l]; cases p x <;> simp
theorem any_not {α : Type} (p : α → Bool) (l : List α) : l.any (fun x => !p x) = !l.all p := by induction l <;> simp_all
theorem kind_impl (n : Nat) (L : List UInt8 → Nat → Int → Option (Sum Unit Bool)) (p q : UInt8 → Bool) (s : BS) (hn : 100 ≤ n)
    (hs : ∀ k i (h : i < s.length), L s (k + 1) (i : Int) = if (!(q s[i])) = true then some (.inr false) else L s k (IntKind.wrap .i64 ((i : Int) + 1)))
    (he : ∀ k, L s (k + 1) (s.length : Int) = some (.inl ())) :
    (if ((!((bif (decide ((List.length s : Int) < 1)) then true else (decide ((List.length s : Int) > 24))) == false) || decide (0 ≤ (0 : Int) ∧ (0 : Int) < (List.length s : Int)))) = true then (lett ((bif (bif (decide ((List.length s : Int) < 1)) then true else (decide ((List.length s : Int) > 24))) then true else (!(p ((s)[Int.toNat 0]?.getD 0)))) : Bool) fun x1 =>
      if x1 = true then some false
      else ((L s n 1).bind fun o2 => (Sum.elim (fun _ => some true) (fun o2 => some o2)) o2)) else none) = some (isName p q s) := by
  cases s with
  | nil => simp [lett, isName]
  | cons c t =>
    have e1 : decide ((List.length (c :: t) : Int) < 1) = false := decide_eq_false (by simp; omega)
    have e2 : decide (0 ≤ (0 : Int) ∧ (0 : Int) < (List.length (c :: t) : Int)) = true := decide_eq_true (by rw [List.length_cons]; omega)
    simp only [e1, e2, cond_false, Bool.or_true, if_true, Int.toNat_zero, List.getElem?_cons_zero, Option.getD_some, lett]
    by_cases h : t.length < 24
    · have e3 : decide ((List.length (c :: t) : Int) > 24) = false := decide_eq_false (by simp; omega)
      simp only [e3, cond_false, isName, decide_eq_true h, Bool.true_and]
      have := scanL (L := L (c :: t)) (c :: t) (fun x => if (!q x) = true then some false else none) 1 (by simp; omega)
        (fun k i hi _ => by rw [hs k i hi]; cases q (c :: t)[i] <;> rfl) he n 1 (by omega) (by simp) (by simp; omega)
      rw [show (1 : Int) = ((1 : Nat) : Int) from rfl, this, List.drop_one, List.tail_cons, findSome_anyF, any_not]
      cases p c <;> cases t.all q <;> rfl
    · have e3 : decide ((List.length (c :: t) : Int) > 24) = true := decide_eq_true (by simp; omega)
      rw [e3, isName, decide_eq_false h]; rfl
theorem kind_ref (n : Nat) (L : List UInt8 → Nat → Int → Option (Sum Unit Bool)) (p q : UInt8 → Bool) (s : BS) (hn : 100 ≤ n)
    (h0 : ∀ k c t, s = c :: t → L s (k + 1) 0 = if (!(p c)) = true then some (.inr false) else L s k 1)
    (hs : ∀ k i (h : i < s.length), 1 ≤ i → L s (k + 1) (i : Int) = if (!(q s[i])) = true then some (.inr false) else L s k (IntKind.wrap .i64 ((i : Int) + 1)))
    (he : ∀ k, L s (k + 1) (s.length : Int) = some (.inl ())) :
    (if (bif (decide ((List.length s : Int) < 1)) then true else (decide ((List.length s : Int) > 24))) = true then some false
      else ((L s n 0).bind fun o1 => (Sum.elim (fun _ => some true) (fun o1 => some o1)) o1)) = some (isName p q s) := by
  cases s with
  | nil => simp [isName]
  | cons c t =>
    have e1 : decide ((List.length (c :: t) : Int) < 1) = false := decide_eq_false (by simp; omega)
    simp only [e1, cond_false]
    by_cases h : t.length < 24
    · have e3 : decide ((List.length (c :: t) : Int) > 24) = false := decide_eq_false (by simp; omega)
      rw [e3, isName, decide_eq_true h, Bool.true_and, if_neg Bool.false_ne_true]
      obtain ⟨m, rfl⟩ : ∃ m, n = m + 1 := ⟨n - 1, by omega⟩
      rw [h0 m c t rfl]
      have := scanL (L := L (c :: t)) (c :: t) (fun x => if (!q x) = true then some false else none) 1 (by simp; omega)
        (fun k i hi h1 => by rw [hs k i hi h1]; cases q (c :: t)[i] <;> rfl) he m 1 (by omega) (by simp) (by simp; omega)
      rw [show (1 : Int) = ((1 : Nat) : Int) from rfl, this, List.drop_one, List.tail_cons, findSome_anyF, any_not]
      cases p c <;> cases t.all q <;> rfl
    · have e3 : decide ((List.length (c :: t) : Int) > 24) = true := decide_eq_true (by simp; omega)
      rw [e3, isName, decide_eq_false h]; rfl
def sv1 (c : UInt8) := name_Service_1 (c.toNat : Int)
def sv2 (c : UInt8) := name_Service_2 (c.toNat : Int)
def pr1 (c : UInt8) := name_Project_1 (c.toNat : Int)
def pr2 (c : UInt8) := name_Project_2 (c.toNat : Int)
theorem i0 {i : Nat} (h : 1 ≤ i) : ((i : Int) == 0) = false := by rw [beq_eq_false_iff_ne]; omega
theorem name_Service_eq (n : Nat) (s : BS) (hn : 100 ≤ n) : name_Service n s = some (isName sv1 sv2 s) := by
  have h : name_of__name_Service_1__name_Service_2 n s = some (isName sv1 sv2 s) := kind_impl n (name_of__name_Service_1__name_Service_2_l1 n) sv1 sv2 s hn (fun k i h => by rw [name_of__name_Service_1__name_Service_2_l1, if_pos (lt_i h), if_pos (in_i h), at_i h]; rfl) (fun k => by rw [name_of__name_Service_1__name_Service_2_l1, nlt_n]; rfl)
  unfold name_Service
  rw [h]; rfl
theorem name_Project_eq (n : Nat) (s : BS) (hn : 100 ≤ n) : name_Project n s = some (isName pr1 pr2 s) := by
  have h : name_of__name_Project_1__name_Project_2 n s = some (isName pr1 pr2 s) := kind_impl n (name_of__name_Project_1__name_Project_2_l1 n) pr1 pr2 s hn (fun k i h => by rw [name_of__name_Project_1__name_Project_2_l1, if_pos (lt_i h), if_pos (in_i h), at_i h]; rfl) (fun k => by rw [name_of__name_Project_1__name_Project_2_l1, nlt_n]; rfl)
  unfold name_Project
  rw [h]; rfl
theorem z_in (c : UInt8) (t : BS) : decide (0 ≤ (0 : Int) ∧ (0 : Int) < (List.length (c :: t) : Int)) = true ∧ decide ((0 : Int) < (List.length (c :: t) : Int)) = true := ⟨decide_eq_true (by rw [List.length_cons]; omega), decide_eq_true (by rw [List.length_cons]; omega)⟩
theorem ref02_Service_eq (n : Nat) (s : BS) (hn : 100 ≤ n) : ref02_Service n s = some (isName sv1 sv2 s) := by
  unfold ref02_Service
  exact kind_ref n (ref02_Service_l1 n) sv1 sv2 s hn (fun k c t e => by
      subst e
      rw [ref02_Service_l1, (z_in c t).1, (z_in c t).2]
      simp only [if_true, Int.toNat_zero, List.getElem?_cons_zero, Option.getD_some, lett, sv1, k1, Bool.not_not, beq_self_eq_true, cond_true, show IntKind.wrap .i64 ((0 : Int) + 1) = 1 from by decide])
    (fun k i h h1 => by
      rw [ref02_Service_l1, if_pos (lt_i h), if_pos (in_i h), at_i h]
      simp only [lett, sv2, k2, Bool.not_not, i0 h1, cond_false]
      cases (ref02_Kind (s[i].toNat : Int) == 0) <;> rfl)
    (fun k => by rw [ref02_Service_l1, nlt_n]; rfl)
theorem ref02_Project_eq (n : Nat) (s : BS) (hn : 100 ≤ n) : ref02_Project n s = some (isName pr1 pr2 s) := by
  unfold ref02_Project
  exact kind_ref n (ref02_Project_l1 n) pr1 pr2 s hn (fun k c t e => by
      subst e
      rw [ref02_Project_l1, (z_in c t).1, (z_in c t).2]
      simp only [if_true, Int.toNat_zero, List.getElem?_cons_zero, Option.getD_some, lett, pr1, k5, Bool.not_not, beq_self_eq_true, cond_true, show IntKind.wrap .i64 ((0 : Int) + 1) = 1 from by decide])
    (fun k i h h1 => by
      rw [ref02_Project_l1, if_pos (lt_i h), if_pos (in_i h), at_i h]
      simp only [lett, pr2, k6, Bool.not_not, i0 h1, cond_false]
      cases (bif (bif (ref02_Kind (s[i].toNat : Int) == 0) then true else (ref02_Kind (s[i].toNat : Int) == 2)) then true else (ref02_Kind (s[i].toNat : Int) == 6)) <;> rfl)
    (fun k => by rw [ref02_Project_l1, nlt_n]; rfl)
abbrev St := S_ref45_Step
abbrev Cm := S_api_Command
abbrev Cl := S_api_Call
abbrev Ws := S_script_words
def zCl : Cl := S_api_Call.mk 0 [] 0 (S_api_Spec.mk [] [] [] 0 [] [] [] (S_api_Check.mk [] 0 0 0) 0 0)
def zCm : Cm := S_api_Command.mk 0 [] 0 false false 0 0
abbrev MOST : Nat := 1099511627776
abbrev Pr (α : Type) := List BS → Option (α × List BS)
def numV (s : BS) : Option Int := if (ncount s MOST).2 = 0 then some (ncount s MOST).1 else none
def numP : Pr Int | [] => none | s :: t => (numV s).map fun v => (v, t)
def keyB (s : BS) : Bool := s.all (fun c => decide (33 ≤ c.toNat) && decide (c.toNat ≤ 126)) && !(s == []) && decide (s.length ≤ 64)
def keyP : Pr BS | [] => none | s :: t => if keyB s = true then some (s, t) else none
def svB (s : BS) : Bool := isName sv1 sv2 s
def pjB (s : BS) : Bool := isName pr1 pr2 s
def pjP : Pr BS | [] => none | s :: t => if pjB s = true then some (s, t) else none
def flg (s : BS) (l : List BS) : Bool × List BS := if l.head? = some s then (true, l.tail) else (false, l)
def optP (s : BS) : Pr Int := fun l => if l.head? = some s then (match numP l.tail with | some (v, r) => if v = 0 then none else some (v, r) | none => none) else some (0, l)
def nxtR (l : List BS) (b : Bool) : BS × Ws := match l with | [] => ([], S_script_words.mk [] true) | s :: t => (s, S_script_words.mk t b)
def numR (l : List BS) (b : Bool) : Int × Ws := match l with | [] => (0, S_script_words.mk [] true) | s :: t => ((ncount s MOST).1, S_script_words.mk t (b || (ncount s MOST).2 != 0))
def Small (l : List BS) : Prop := ∀ s ∈ l, s.length ≤ 100000
theorem Small.tail {s : BS} {t : List BS} (h : Small (s :: t)) : Small t := fun x hx => h x (List.mem_cons_of_mem _ hx)
def Goes {α : Type} (v : α) (w : Ws) (sp : Option (α × List BS)) : Prop := match sp with | some (x, r) => v = x ∧ w = S_script_words.mk r false | none => w.f_bad = true
def RdO {α : Type} (o : Option (α × Ws)) (b : Bool) (sp : Option (α × List BS)) : Prop :=
  ∃ v w, o = some (v, w) ∧ Small w.f_l ∧ (b = true → w.f_bad = true) ∧ (b = false → Goes v w sp)
theorem ncount_nn (s : BS) : 0 ≤ (ncount s MOST).1 := by
  unfold ncount; split
  · split
    · exact Int.natCast_nonneg _
    · exact Int.le_refl _
  · exact Int.le_refl _
theorem next_eq (n : Nat) (l : List BS) (b : Bool) : script_words_next__o0 n (S_script_words.mk l b) = some (nxtR l b) := by
  unfold script_words_next__o0
  cases l with
  | nil => rfl
  | cons s t =>
    have h1 : ((List.length (s :: t) : Int) == 0) = false := by rw [beq_eq_false_iff_ne]; simp; omega
    have h2 : decide (0 ≤ (0 : Int) ∧ (0 : Int) < (List.length (s :: t) : Int)) = true := decide_eq_true (by rw [List.length_cons]; omega)
    have h3 : decide (0 ≤ (1 : Int) ∧ (1 : Int) ≤ (List.length (s :: t) : Int)) = true := decide_eq_true (by rw [List.length_cons]; omega)
    simp only [h1, h2, h3, Bool.false_eq_true, if_false, if_true]
    rfl
theorem count_eq45 (n : Nat) (s : BS) (hs : s.length ≤ 100000) (hn : 200000 ≤ n) : digit_Count n s 1099511627776 = some (ncount s MOST) := dcount_eq n s MOST (by omega) (by decide) ⟨by omega, by omega⟩
theorem rcount_eq45 (n : Nat) (s : BS) (hs : s.length ≤ 100000) (hn : 200000 ≤ n) : ref01_Count n s 1099511627776 = some (ncount s MOST) := rcount_eq n s MOST (by omega) (by decide) ⟨by omega, by omega⟩
theorem number_eq (n : Nat) (l : List BS) (b : Bool) (hl : Small l) (hn : 200000 ≤ n) : script_words_number__o0 n (S_script_words.mk l b) = some (numR l b) := by
  unfold script_words_number__o0
  rw [next_eq, Option.bind_some]
  unfold nxtR numR
  cases l with
  | nil =>
    simp only
    rw [count_eq45 n [] (by simp) hn, Option.bind_some]; rfl
  | cons s t =>
    simp only
    rw [count_eq45 n s (hl s (List.mem_cons_self ..)) hn, Option.bind_some]
    cases b <;> rfl
theorem flag_eq (n : Nat) (a : BS) (l : List BS) (b : Bool) : script_words_flag__o0 n a (S_script_words.mk l b) = some ((flg a l).1, S_script_words.mk (flg a l).2 b) := by
  unfold script_words_flag__o0 flg
  cases l with
  | nil => rfl
  | cons s t =>
    have h1 : ((List.length (s :: t) : Int) == 0) = false := by rw [beq_eq_false_iff_ne]; simp; omega
    have h2 : decide (0 ≤ (0 : Int) ∧ (0 : Int) < (List.length (s :: t) : Int)) = true := decide_eq_true (by rw [List.length_cons]; omega)
    have h3 : decide (0 ≤ (1 : Int) ∧ (1 : Int) ≤ (List.length (s :: t) : Int)) = true := decide_eq_true (by rw [List.length_cons]; omega)
    have h4 : (s :: t)[Int.toNat 0]?.getD [] = s := rfl
    simp only [h1, h2, h3, h4, Bool.or_true, if_true, cond_false, List.head?_cons, Option.some.injEq, List.tail_cons]
    by_cases h : s = a
    · subst h; simp
    · have h5 : (!(s == a)) = true := by simpa using h
      rw [if_pos h5, if_neg h]
theorem option_eq (n : Nat) (a : BS) (l : List BS) (b : Bool) (hl : Small l) (hn : 200000 ≤ n) : RdO (script_words_option__o0 n a (S_script_words.mk l b)) b (optP a l) := by
  unfold script_words_option__o0 RdO Goes
  rw [flag_eq, Option.bind_some]
  unfold optP flg
  by_cases h : l.head? = some a
  · simp only [if_pos h, Bool.not_true, Bool.false_eq_true, if_false]
    cases l with
    | nil => cases h
    | cons s t =>
      simp only [List.tail_cons]
      rw [number_eq n t b hl.tail hn, Option.bind_some]
      unfold numR
      cases t with
      | nil => exact ⟨_, _, rfl, fun x hx => by simp at hx, fun _ => by simp, fun _ => by simp [numP]⟩
      | cons x t =>
        refine ⟨_, _, rfl, hl.tail.tail, fun hb => by simp [hb], fun hb => ?_⟩
        subst hb
        simp only [numP, numV, Bool.false_or]
        by_cases hz : (ncount x MOST).2 = 0
        · rw [if_pos hz]
          simp only [Option.map_some]
          by_cases h0 : (ncount x MOST).1 = 0
          · rw [if_pos h0]; simp [h0]
          · rw [if_neg h0]
            refine ⟨rfl, ?_⟩
            simp [hz, h0]
        · rw [if_neg hz]
          simp [hz]
  · simp only [if_neg h, Bool.not_false, if_true]
    exact ⟨_, _, rfl, hl, fun hb => hb, fun hb => by subst hb; exact ⟨rfl, rfl⟩⟩
theorem key_all (c : UInt8) : (bif (decide ((c.toNat : Int) < 33)) then true else (decide ((c.toNat : Int) > 126))) = !(decide (33 ≤ c.toNat) && decide (c.toNat ≤ 126)) := by
  by_cases h1 : 33 ≤ c.toNat
  · rw [decide_eq_false (by omega : ¬ (c.toNat : Int) < 33)]
    by_cases h2 : c.toNat ≤ 126
    · rw [decide_eq_false (by omega : ¬ (c.toNat : Int) > 126)]; simp [h1, h2]
    · rw [decide_eq_true (by omega : (c.toNat : Int) > 126)]; simp [h2]
  · rw [decide_eq_true (by omega : (c.toNat : Int) < 33)]; simp [h1]
theorem key_eq (n : Nat) (s : BS) (hs : s.length ≤ 100000) (hn : 200000 ≤ n) : script_key n s = some (keyB s) := by
  unfold script_key keyB
  have := scanL (L := script_key_l1 n s (s.length : Int)) s (fun c => if (!(decide (33 ≤ c.toNat) && decide (c.toNat ≤ 126))) = true then some false else none) 0 (by omega)
    (fun k i h _ => by
      rw [script_key_l1, if_pos (lt_i h), if_pos (in_i h), if_pos (by rw [in_i h, Bool.or_true]), at_i h, key_all]
      simp only [lett]
      cases (!(decide (33 ≤ s[i].toNat) && decide (s[i].toNat ≤ 126))) <;> rfl)
    (fun k => by rw [script_key_l1, nlt_n]; rfl) n 0 (by omega) (by omega) (by omega)
  rw [List.drop_zero, findSome_anyF, any_not] at this
  have this : script_key_l1 n s (s.length : Int) n 0 = _ := this
  rw [this]
  cases s.all (fun c => decide (33 ≤ c.toNat) && decide (c.toNat ≤ 126)) with
  | false => rfl
  | true =>
    by_cases h : s = []
    · subst h; rfl
    · have h1 : (s == []) = false := by simpa using h
      have h2 : decide ((s.length : Int) ≤ 64) = decide (s.length ≤ 64) := by by_cases h : s.length ≤ 64 <;> simp [h] <;> omega
      simp [h1, h2, outF]
theorem rname_eq (n : Nat) (s : BS) (hs : s.length ≤ 100000) (hn : 200000 ≤ n) : ref45_name n s = some (keyB s) := by
  unfold ref45_name keyB
  by_cases h0 : s = []
  · subst h0; rfl
  have hpos := List.length_pos_iff.2 h0
  rw [decide_eq_false (by omega : ¬ (s.length : Int) < 1)]
  by_cases h64 : s.length ≤ 64
  · rw [decide_eq_false (by omega : ¬ (s.length : Int) > 64), if_neg (by decide)]
    have := scanL (L := ref45_name_l1 n s) s (fun c => if (!(decide (33 ≤ c.toNat) && decide (c.toNat ≤ 126))) = true then some false else none) 0 (by omega)
      (fun k i h _ => by
        rw [ref45_name_l1, if_pos (lt_i h), if_pos (in_i h), if_pos (by rw [in_i h, Bool.or_true]), at_i h, key_all]
        simp only [lett]
        cases (!(decide (33 ≤ s[i].toNat) && decide (s[i].toNat ≤ 126))) <;> rfl)
      (fun k => by rw [ref45_name_l1, nlt_n]; rfl) n 0 (by omega) (by omega) (by omega)
    rw [List.drop_zero, findSome_anyF, any_not] at this
    have this : ref45_name_l1 n s n 0 = _ := this
    rw [this]
    have h1 : (s == []) = false := by simpa using h0
    cases s.all (fun c => decide (33 ≤ c.toNat) && decide (c.toNat ≤ 126)) with
    | false => rfl
    | true => simp [h1, h64, outF]
  · rw [decide_eq_true (by omega : (s.length : Int) > 64), if_pos (by decide)]
    simp [h64]
theorem keyr_eq (n : Nat) (l : List BS) (b : Bool) (hl : Small l) (hn : 200000 ≤ n) : RdO (script_words_key__o0 n (S_script_words.mk l b)) b (keyP l) := by
  unfold script_words_key__o0 RdO Goes
  rw [next_eq, Option.bind_some]
  unfold nxtR
  cases l with
  | nil => exact ⟨_, _, rfl, fun x hx => by simp at hx, fun _ => rfl, fun _ => rfl⟩
  | cons s t =>
    simp only
    cases b with
    | true => exact ⟨_, _, rfl, hl.tail, fun _ => rfl, fun h => by cases h⟩
    | false =>
      rw [if_pos (show (false == false) = true from rfl), key_eq n s (hl s (List.mem_cons_self ..)) hn, Option.bind_some]
      refine ⟨_, _, rfl, hl.tail, fun h => (by cases h), fun _ => ?_⟩
      simp only [keyP]
      cases hk : keyB s with
      | true => exact ⟨rfl, rfl⟩
      | false => rfl
theorem numr_eq (n : Nat) (l : List BS) (b : Bool) (hl : Small l) (hn : 200000 ≤ n) : RdO (script_words_number__o0 n (S_script_words.mk l b)) b (numP l) := by
  unfold RdO Goes
  rw [number_eq n l b hl hn]
  unfold numR
  cases l with
  | nil => exact ⟨_, _, rfl, fun x hx => by simp at hx, fun _ => rfl, fun _ => rfl⟩
  | cons s t =>
    refine ⟨_, _, rfl, hl.tail, fun h => by simp [h], fun h => ?_⟩
    subst h
    simp only [numP, numV, Bool.false_or]
    by_cases hz : (ncount s MOST).2 = 0
    · rw [if_pos hz]; simp [hz]
    · rw [if_neg hz]; simp [hz]
end Go.Proofs.YtjjlpomfnfipbaaDoor.M
