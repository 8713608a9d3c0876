/-
  Chapter 16: texts of ports, said plainly. Over the printed models.
-/
import Derived.Test.YtonjhkefnijlhaaDoorP16D
namespace Go.Proofs.YtonjhkefnijlhaaDoor.M
open Go Go.Proofs.YtonjhkefnijlhaaDoor.RX Go.Proofs.YtonjhkefnijlhaaDoor.PL

/-! ### the digits of a number -/
def bt (k : Nat) : UInt8 := UInt8.ofNat (48 + k)
def dg : Nat → Nat → BS → BS
  | 0, u, acc => bt u :: acc
  | f + 1, u, acc => if u < 10 then bt u :: acc else dg f (u / 10) (bt (u % 10) :: acc)
theorem bt_dig {k : Nat} (h : k < 10) : dig (bt k) = true ∧ dval (bt k) = k := by
  have : (bt k).toNat = 48 + k := by unfold bt; rw [UInt8.toNat_ofNat']; omega
  unfold dig dval
  rw [this]
  exact ⟨decide_eq_true (by omega), by omega⟩
theorem dg_val : ∀ (f u : Nat) (acc : BS), u < 10 ^ (f + 1) → vl 0 (dg f u acc) = vl u acc
  | 0, u, acc, h => by
    have hu : u < 10 := by simpa using h
    show vl (0 * 10 + dval (bt u)) acc = _
    rw [(bt_dig hu).2, Nat.zero_mul, Nat.zero_add]
  | f + 1, u, acc, h => by
    unfold dg
    split
    · rename_i hu
      show vl (0 * 10 + dval (bt u)) acc = _
      rw [(bt_dig hu).2, Nat.zero_mul, Nat.zero_add]
    · rw [dg_val f (u / 10) _ (by rw [Nat.pow_succ] at h; omega)]
      show vl (u / 10 * 10 + dval (bt (u % 10))) acc = _
      rw [(bt_dig (by omega : u % 10 < 10)).2]
      congr 1; omega
theorem dg_dig : ∀ (f u : Nat) (acc : BS), u < 10 ^ (f + 1) → (∀ b ∈ acc, dig b = true) → ∀ b ∈ dg f u acc, dig b = true
  | 0, u, acc, h, ha, b, hb => by
    have hu : u < 10 := by simpa using h
    rcases List.mem_cons.1 hb with rfl | hb
    · exact (bt_dig hu).1
    · exact ha b hb
  | f + 1, u, acc, h, ha, b, hb => by
    unfold dg at hb
    split at hb
    · rename_i hu
      rcases List.mem_cons.1 hb with rfl | hb
      · exact (bt_dig hu).1
      · exact ha b hb
    · refine dg_dig f (u / 10) _ (by rw [Nat.pow_succ] at h; omega) (fun x hx => ?_) b hb
      rcases List.mem_cons.1 hx with rfl | hx
      · exact (bt_dig (by omega)).1
      · exact ha x hx
theorem dg_head : ∀ (f u : Nat) (acc : BS), u < 10 ^ (f + 1) → 1 ≤ u → ∃ b t, dg f u acc = b :: t ∧ b ≠ 48
  | 0, u, acc, h, h1 => by
    have hu : u < 10 := by simpa using h
    refine ⟨bt u, acc, rfl, fun e => ?_⟩
    have := (bt_dig hu).2
    rw [e] at this
    have h0 : dval 48 = 0 := by decide
    omega
  | f + 1, u, acc, h, h1 => by
    unfold dg
    split
    · rename_i hu
      refine ⟨bt u, acc, rfl, fun e => ?_⟩
      have := (bt_dig hu).2
      rw [e] at this
      have h0 : dval 48 = 0 := by decide
      omega
    · exact dg_head f (u / 10) _ (by rw [Nat.pow_succ] at h; omega) (by omega)
theorem dg_len : ∀ (f u : Nat) (acc : BS), (dg f u acc).length ≤ f + 1 + acc.length
  | 0, u, acc => by simp [dg]; omega
  | f + 1, u, acc => by
    unfold dg
    split
    · simp; omega
    · have := dg_len f (u / 10) (bt (u % 10) :: acc); simp at this; omega
theorem dg_num {u : Nat} (h : u < 10 ^ 20) (h1 : 1 ≤ u) : isNum (dg 19 u []) = true ∧ vl 0 (dg 19 u []) = u := by
  refine ⟨?_, dg_val 19 u [] h⟩
  have hd := dg_dig 19 u [] h (by simp)
  obtain ⟨b, t, h2, h3⟩ := dg_head 19 u [] h h1
  rw [h2] at hd ⊢
  show (dig b && t.all dig && (t.isEmpty || !(b == 48))) = true
  have e1 : t.all dig = true := List.all_eq_true.2 fun x hx => hd x (List.mem_cons_of_mem _ hx)
  have e2 : (b == 48) = false := by simpa using h3
  rw [hd b List.mem_cons_self, e1, e2]; simp
theorem byte_u {u : Nat} : IntKind.wrap .u8 (IntKind.wrap .u64 (48 + Int.tmod ((u : Nat) : Int) 10)) = ((48 + u % 10 : Nat) : Int) ∧ (decide (0 ≤ ((48 + u % 10 : Nat) : Int) ∧ ((48 + u % 10 : Nat) : Int) < 256)) = true ∧ UInt8.ofNat (Int.toNat ((48 + u % 10 : Nat) : Int)) = bt (u % 10) := by
  have e : Int.tmod ((u : Nat) : Int) 10 = ((u % 10 : Nat) : Int) := by rw [Int.tmod_eq_emod_of_nonneg (by omega)]; omega
  refine ⟨?_, decide_eq_true (by omega), by rw [tn]; rfl⟩
  rw [e, wrapu _ (by omega) (by omega)]
  simp only [IntKind.wrap, IntKind.bits, IntKind.signed, Bool.false_and, Bool.false_eq_true, if_false, show ((2 : Int) ^ 8) = 256 from rfl]
  omega
theorem div_u {u : Nat} (h : u < 18446744073709551616) : IntKind.wrap .u64 (Int.tdiv ((u : Nat) : Int) 10) = ((u / 10 : Nat) : Int) := by
  rw [Int.tdiv_eq_ediv_of_nonneg (by omega), wrapu _ (by omega) (by omega)]; omega
theorem rd_l {n : Nat} : ∀ (f u : Nat) (acc : BS) (k : Nat), u < 10 ^ (f + 1) → u < 18446744073709551616 → f < k → acc.length + f ≤ 1000 → ∃ (v : Nat) (r : BS), ref01_digits_l1 n k (u : Int) acc = some ((v : Int), r) ∧ v < 10 ∧ bt v :: r = dg f u acc ∧ r.length ≤ acc.length + f
  | 0, u, acc, k + 1, h, hu, _, _ => by
    have hu : u < 10 := by simpa using h
    refine ⟨u, acc, ?_, hu, rfl, by omega⟩
    rw [ref01_digits_l1, decide_eq_false (by omega : ¬ (u : Int) ≥ 10), if_neg Bool.false_ne_true]
  | f + 1, u, acc, k + 1, h, hu, hk, hl => by
    rw [ref01_digits_l1]
    by_cases h10 : u < 10
    · refine ⟨u, acc, ?_, h10, by rw [dg, if_pos h10], by omega⟩
      rw [decide_eq_false (by omega : ¬ (u : Int) ≥ 10), if_neg Bool.false_ne_true]
    · obtain ⟨e1, e2, e3⟩ := byte_u (u := u)
      have e4 : decide (((List.length ([bt (u % 10)] : BS) + List.length acc : Nat) : Int) ≤ 9223372036854775807) = true := str_fits (by simp; omega)
      rw [decide_eq_true (by omega : (u : Int) ≥ 10), if_pos rfl, if_pos (by decide), e1, if_pos e2, e3, if_pos e4, if_pos (by decide), div_u hu]
      obtain ⟨v, r, h1, h2, h3, h4⟩ := rd_l f (u / 10) ([bt (u % 10)] ++ acc) k (by rw [Nat.pow_succ] at h; omega) (by omega) (by omega) (by simp; omega)
      exact ⟨v, r, h1, h2, by rw [dg, if_neg h10]; exact h3, by simp at h4; omega⟩
theorem rtext_eq (n u : Nat) (hu : u < 9223372036854775808) (hn : 100 ≤ n) : ref01_Text n (u : Int) = some (dg 19 u []) := by
  unfold ref01_Text ref01_digits
  rw [decide_eq_false (by omega : ¬ (u : Int) < 0), if_neg Bool.false_ne_true, wrapu _ (by omega) (by omega)]
  have e20 : (10 : Nat) ^ (19 + 1) = 100000000000000000000 := by decide
  obtain ⟨v, r, h1, h2, h3, h4⟩ := rd_l (n := n) 19 u [] n (by omega) (by omega) (by omega) (by decide)
  rw [h1]
  simp only [Option.bind_some]
  have e : IntKind.wrap .u8 (IntKind.wrap .u64 (48 + ((v : Nat) : Int))) = ((48 + v : Nat) : Int) := by
    rw [wrapu _ (by omega) (by omega)]
    simp only [IntKind.wrap, IntKind.bits, IntKind.signed, Bool.false_and, Bool.false_eq_true, if_false, show ((2 : Int) ^ 8) = 256 from rfl]
    omega
  rw [e, if_pos (decide_eq_true (by omega)), tn, if_pos (str_fits (by simp at h4 ⊢; omega))]
  simp only [Option.bind_some]
  rw [← h3]; rfl
theorem dt_l {n : Nat} {v5 : Bool} : ∀ (f u at_ : Nat) (b : BS) (k : Nat), u < 10 ^ (f + 1) → u < 18446744073709551616 → f < k → b.length = 20 → f + 1 ≤ at_ → at_ ≤ 20 →
    ∃ (at2 : Nat) (b2 : BS), digit_Text_l2 n v5 k (at_ : Int) (u : Int) b = some ((at2 : Int), b2) ∧ b2.length = 20 ∧ at2 ≤ 20 ∧ b2.drop at2 = dg f u (b.drop at_) := by
  have step : ∀ (k u at_ : Nat) (b : BS), u < 18446744073709551616 → b.length = 20 → 1 ≤ at_ → at_ ≤ 20 →
      digit_Text_l2 n v5 (k + 1) (at_ : Int) (u : Int) b = if ((((u / 10 : Nat) : Int)) == 0) = true then some (((at_ - 1 : Nat) : Int), b.set (at_ - 1) (bt (u % 10))) else digit_Text_l2 n v5 k ((at_ - 1 : Nat) : Int) ((u / 10 : Nat) : Int) (b.set (at_ - 1) (bt (u % 10))) := by
    intro k u at_ b hu hb h1 h2
    obtain ⟨e1, e2, e3⟩ := byte_u (u := u)
    rw [digit_Text_l2, wrap_p at_ (by omega) h1, e1, e2, e3, div_u hu, tn]
    have e4 : decide (0 ≤ ((at_ - 1 : Nat) : Int) ∧ ((at_ - 1 : Nat) : Int) < (20 : Int)) = true := decide_eq_true (by omega)
    have e5 : decide (0 ≤ ((at_ - 1 : Nat) : Int) ∧ ((at_ - 1 : Nat) : Int) < (b.length : Int)) = true := decide_eq_true (by omega)
    rw [if_pos (by decide), e4, e5, if_pos rfl, if_pos rfl, if_pos rfl]
    simp only [lett]
    rw [if_pos (by decide)]
  have hset : ∀ (b : BS) (at_ : Nat) (x : UInt8), b.length = 20 → 1 ≤ at_ → at_ ≤ 20 → (b.set (at_ - 1) x).drop (at_ - 1) = x :: b.drop at_ := by
    intro b at_ x hb h1 h2
    rw [List.drop_eq_getElem_cons (by simp; omega), List.getElem_set_self, show at_ - 1 + 1 = at_ by omega, List.drop_set_of_lt (by omega)]
  intro f
  induction f with
  | zero =>
    intro u at_ b k h hu hk hb h1 h2
    have hu10 : u < 10 := by simpa using h
    obtain ⟨k, rfl⟩ : ∃ k', k = k' + 1 := ⟨k - 1, by omega⟩
    have e0 : (((u / 10 : Nat) : Int) == 0) = true := by rw [beq_iff_eq]; omega
    rw [step k u at_ b hu hb (by omega) h2, e0, if_pos rfl]
    exact ⟨at_ - 1, _, rfl, by simp [hb], by omega, by rw [hset b at_ _ hb (by omega) h2, Nat.mod_eq_of_lt hu10]; rfl⟩
  | succ f ih =>
    intro u at_ b k h hu hk hb h1 h2
    obtain ⟨k, rfl⟩ : ∃ k', k = k' + 1 := ⟨k - 1, by omega⟩
    rw [step k u at_ b hu hb (by omega) h2]
    by_cases h10 : u < 10
    · have e0 : (((u / 10 : Nat) : Int) == 0) = true := by rw [beq_iff_eq]; omega
      rw [e0, if_pos rfl]
      exact ⟨at_ - 1, _, rfl, by simp [hb], by omega, by rw [hset b at_ _ hb (by omega) h2, Nat.mod_eq_of_lt h10, dg, if_pos h10]⟩
    · have e0 : (((u / 10 : Nat) : Int) == 0) = false := by rw [beq_eq_false_iff_ne]; omega
      rw [e0, if_neg Bool.false_ne_true]
      obtain ⟨at2, b2, h3, h4, h5, h6⟩ := ih (u / 10) (at_ - 1) (b.set (at_ - 1) (bt (u % 10))) k (by rw [Nat.pow_succ] at h; omega) (by omega) (by omega) (by simp [hb]) (by omega) (by omega)
      exact ⟨at2, b2, h3, h4, h5, by rw [h6, hset b at_ _ hb (by omega) h2, dg, if_neg h10]⟩
theorem dtext_eq (n u : Nat) (hu : u < 9223372036854775808) (hn : 100 ≤ n) : digit_Text n (u : Int) = some (dg 19 u []) := by
  unfold digit_Text digit_Text_j1 digit_Text_j3
  have e20 : (10 : Nat) ^ (19 + 1) = 100000000000000000000 := by decide
  rw [decide_eq_false (by omega : ¬ (u : Int) < 0), if_neg Bool.false_ne_true, wrapu _ (by omega) (by omega)]
  simp only [Option.bind_some, Bool.false_eq_true, if_false]
  obtain ⟨at2, b2, h1, h2, h3, h4⟩ := dt_l (n := n) (v5 := false) 19 u 20 (List.replicate 20 0) n (by omega) (by omega) (by omega) (by simp) (by decide) (by decide)
  have h0 : digit_Text_l2 n false n 20 (u : Int) (List.replicate 20 0) = some ((at2 : Int), b2) := h1
  rw [h0]
  simp only [Option.bind_some]
  rw [h2, if_pos (by decide), if_pos (decide_eq_true (by omega)), tn, h4]
  rfl

end Go.Proofs.YtonjhkefnijlhaaDoor.M
