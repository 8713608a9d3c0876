/-
  Chapter 05: primes, said plainly. Over the printed models.
-/
import Derived.Test.YteliiabopphgmaaM05
import Derived.Test.YteliiabopphgmaaLoop
namespace Go.Proofs.Yteliiabopphgmaa.M
open Go Go.Proofs.Yteliiabopphgmaa.RX Go.Proofs.Yteliiabopphgmaa.PL

def dvs (p : Nat) (q : Int) : Bool := Int.tmod (p : Int) q == 0
/-- Round by round: the primes so far, the next number. -/
def pr (v : Int) : Nat → List Int → Nat → Option (List Int)
  | 0, _, _ => none
  | k + 1, out, p => if (out.length : Int) < v then pr v k (if out.any (dvs p) = true then out else out ++ [(p : Int)]) (p + 1) else some out
theorem fs_any {α : Type} (q : α → Bool) : ∀ l : List α, l.findSome? (fun x => if q x = true then some () else none) = if l.any q = true then some () else none
  | [] => rfl
  | x :: l => by
    rw [List.findSome?_cons, List.any_cons, fs_any q l]
    cases q x with
    | true => simp
    | false => simp
theorem pl3 (n : Nat) (v0 : Int) (out : List Int) (p : Nat) (hq : ∀ q ∈ out, q ≠ 0) (hl : out.length < 1000) (hn : 2000 ≤ n) :
    sha_Primes_l3 n v0 out (p : Int) (out.length : Int) n 0 = some (if out.any (dvs p) = true then .inl () else .inr ()) := by
  have : ∀ k i : Nat, i ≤ out.length → out.length - i < k → sha_Primes_l3 n v0 out (p : Int) (out.length : Int) k (i : Int) = some (if (out.drop i).any (dvs p) = true then .inl () else .inr ()) := by
    intro k
    induction k with
    | zero => intro i _ h; omega
    | succ k ih =>
      intro i h1 h2
      rw [sha_Primes_l3]
      by_cases h : i < out.length
      · have hne : (out[i] != 0) = true := by rw [bne_iff_ne]; exact hq _ (List.getElem_mem h)
        rw [if_pos (lt_i h), if_pos (in_i h), at_i h, if_pos hne, drop_at h, List.any_cons]
        show (if dvs p out[i] = true then _ else _) = _
        cases dvs p out[i] with
        | true => simp
        | false =>
          rw [if_neg Bool.false_ne_true, wrap_s i (by omega), ih (i + 1) (by omega) (by omega)]
          simp
      · have : i = out.length := by omega
        subst this
        rw [nlt_n, List.drop_eq_nil_of_le (Nat.le_refl _)]; rfl
  have h0 := this n 0 (by omega) (by omega)
  rwa [List.drop_zero] at h0
theorem rl3 (n : Nat) (v0 : Int) (out : List Int) (p : Nat) (hq : ∀ q ∈ out, q ≠ 0) (hl : out.length < 1000) (hn : 2000 ≤ n) :
    ref05_Primes_l3 n v0 out (p : Int) n true 0 = some (!out.any (dvs p)) := by
  have : ∀ (k i : Nat) (b : Bool), i ≤ out.length → out.length - i < k → ref05_Primes_l3 n v0 out (p : Int) k b (i : Int) = some (b && !(out.drop i).any (dvs p)) := by
    intro k
    induction k with
    | zero => intro i b _ h; omega
    | succ k ih =>
      intro i b h1 h2
      rw [ref05_Primes_l3]
      by_cases h : i < out.length
      · have hne : (out[i] != 0) = true := by rw [bne_iff_ne]; exact hq _ (List.getElem_mem h)
        rw [if_pos (lt_i h), ref05_Primes_j4, if_pos (in_i h), at_i h, if_pos hne, drop_at h, List.any_cons]
        have e : (if (Int.tmod (p : Int) out[i] == 0) = true then some false else some b) = some (b && !dvs p out[i]) := by
          show (if dvs p out[i] = true then some false else some b) = _
          cases dvs p out[i] <;> simp
        rw [e]
        simp only [Option.bind_some]
        rw [wrap_s i (by omega), ih (i + 1) _ (by omega) (by omega), Bool.not_or, Bool.and_assoc]
      · have : i = out.length := by omega
        subst this
        rw [nlt_n, List.drop_eq_nil_of_le (Nat.le_refl _)]
        simp
  have h0 := this n 0 true (by omega) (by omega)
  rwa [List.drop_zero, Bool.true_and] at h0
theorem pl1 (n : Nat) (v0 : Int) (hv : v0 ≤ 100) (hn : 2000 ≤ n) : ∀ (k : Nat) (out : List Int) (p : Nat), (∀ q ∈ out, q ≠ 0) → out.length ≤ 100 → 2 ≤ p → p + k < 1000000 → sha_Primes_l1 n v0 k out (p : Int) = pr v0 k out p
  | 0, _, _, _, _, _, _ => rfl
  | k + 1, out, p, hq, hl, hp, hk => by
    rw [sha_Primes_l1, pr]
    by_cases h : (out.length : Int) < v0
    · rw [decide_eq_true h, if_pos rfl, if_pos h, sha_Primes_j2, pl3 n v0 out p hq (by omega) hn]
      simp only [Option.bind_some]
      have hc : decide ((List.length out + List.length ([(p : Int)] : List Int)) * (8 + 1) ≤ limit) = true := decide_eq_true (by show _ ≤ 140737488355328; simp; omega)
      cases ha : out.any (dvs p) with
      | true =>
        simp only [if_true, Sum.elim_inl, Option.bind_some]
        rw [wrap_s p (by omega)]
        exact pl1 n v0 hv hn k out (p + 1) hq hl (by omega) (by omega)
      | false =>
        simp only [Bool.false_eq_true, if_false, Sum.elim_inr]
        rw [if_pos hc]
        simp only [Option.bind_some]
        rw [wrap_s p (by omega)]
        refine pl1 n v0 hv hn k _ (p + 1) (fun q h9 => ?_) (by simp; omega) (by omega) (by omega)
        rcases List.mem_append.1 h9 with h9 | h9
        · exact hq q h9
        · rw [List.mem_singleton] at h9; omega
    · rw [decide_eq_false h, if_neg Bool.false_ne_true, if_neg h]
theorem rl1 (n : Nat) (v0 : Int) (hv : v0 ≤ 100) (hn : 2000 ≤ n) : ∀ (k : Nat) (out : List Int) (p : Nat), (∀ q ∈ out, q ≠ 0) → out.length ≤ 100 → 2 ≤ p → p + k < 1000000 → ref05_Primes_l1 n v0 k out (p : Int) = pr v0 k out p
  | 0, _, _, _, _, _, _ => rfl
  | k + 1, out, p, hq, hl, hp, hk => by
    rw [ref05_Primes_l1, pr]
    by_cases h : (out.length : Int) < v0
    · rw [decide_eq_true h, if_pos rfl, if_pos h, ref05_Primes_j2, rl3 n v0 out p hq (by omega) hn]
      simp only [Option.bind_some]
      have hc : decide ((List.length out + List.length ([(p : Int)] : List Int)) * (8 + 1) ≤ limit) = true := decide_eq_true (by show _ ≤ 140737488355328; simp; omega)
      cases ha : out.any (dvs p) with
      | true =>
        simp only [Bool.not_true, Bool.false_eq_true, if_false, if_true, Option.bind_some]
        rw [wrap_s p (by omega)]
        exact rl1 n v0 hv hn k out (p + 1) hq hl (by omega) (by omega)
      | false =>
        simp only [Bool.not_false, Bool.false_eq_true, if_false, if_true]
        rw [if_pos hc]
        simp only [Option.bind_some]
        rw [wrap_s p (by omega)]
        refine rl1 n v0 hv hn k _ (p + 1) (fun q h9 => ?_) (by simp; omega) (by omega) (by omega)
        rcases List.mem_append.1 h9 with h9 | h9
        · exact hq q h9
        · rw [List.mem_singleton] at h9; omega
    · rw [decide_eq_false h, if_neg Bool.false_ne_true, if_neg h]
/-- It ends for fewer if it ends for more. -/
theorem pr_mono {v w : Int} (hvw : v ≤ w) : ∀ (k : Nat) (out : List Int) (p : Nat), (pr w k out p).isSome = true → (pr v k out p).isSome = true
  | 0, _, _, h => by cases h
  | k + 1, out, p, h => by
    rw [pr] at h ⊢
    split
    · rename_i h1
      rw [if_pos (by omega)] at h
      exact pr_mono hvw k _ _ h
    · rfl
theorem pr_len {v : Int} : ∀ (k : Nat) (out : List Int) (p : Nat) (r : List Int), pr v k out p = some r → out.length ≤ 100 → v ≤ 100 → r.length ≤ 100
  | 0, _, _, _, h, _, _ => by cases h
  | k + 1, out, p, r, h, h1, h2 => by
    rw [pr] at h
    split at h
    · refine pr_len k _ _ r h ?_ h2
      split
      · exact h1
      · simp; omega
    · cases h; exact h1
theorem pr100 : (pr 100 600 [] 2).isSome = true := by kernel_rfl
theorem pr_fuel {v : Int} : ∀ (k m : Nat) (out : List Int) (p : Nat) (r : List Int), pr v k out p = some r → k ≤ m → pr v m out p = some r
  | 0, _, _, _, _, h, _ => by cases h
  | k + 1, 0, _, _, _, _, h => by omega
  | k + 1, m + 1, out, p, r, h, hm => by
    rw [pr] at h ⊢
    split
    · rename_i h1
      rw [if_pos h1] at h
      exact pr_fuel k m _ _ r h (by omega)
    · rename_i h1
      rw [if_neg h1] at h; exact h
theorem primes_eq (n : Nat) (v0 : Int) (hn : n = 2000) : ∃ r : List Int, r.length ≤ 100 ∧ sha_Primes n v0 = some r ∧ ref05_Primes n v0 = some r := by
  unfold sha_Primes ref05_Primes
  by_cases h : v0 > 100
  · rw [decide_eq_true h]; exact ⟨[], by simp, rfl, rfl⟩
  · rw [decide_eq_false h, if_neg Bool.false_ne_true, if_neg Bool.false_ne_true]
    have h1 := pl1 n v0 (by omega) (by omega) n [] 2 (by simp) (by simp) (by omega) (by omega)
    have h2 := rl1 n v0 (by omega) (by omega) n [] 2 (by simp) (by simp) (by omega) (by omega)
    have h3 := pr_mono (v := v0) (w := 100) (by omega) 600 [] 2 pr100
    obtain ⟨r, h4⟩ := Option.isSome_iff_exists.1 h3
    have h5 := pr_fuel 600 n [] 2 r h4 (by omega)
    have h1' : sha_Primes_l1 n v0 n [] 2 = some r := h1.trans h5
    have h2' : ref05_Primes_l1 n v0 n [] 2 = some r := h2.trans h5
    rw [h1', h2']
    exact ⟨r, pr_len _ _ _ _ h4 (by simp) (by omega), rfl, rfl⟩
theorem same05 (n : Nat) (l : List Int) (hl : l.length ≤ 1000) (hn : 2000 ≤ n) : law05_same n l l = some true := by
  unfold law05_same
  have e : ((l.length : Int) != (l.length : Int)) = false := by simp
  rw [e, if_neg Bool.false_ne_true]
  have h := scanL (L := law05_same_l1 n l l) l (fun _ => (none : Option Bool)) 0 (by omega)
    (fun k i h _ => by
      rw [law05_same_l1, if_pos (lt_i h), if_pos (in_i h), if_pos (in_i h), at_i h]
      have e : (l[i] != l[i]) = false := by simp
      rw [e]; rfl)
    (fun k => by rw [law05_same_l1, nlt_n]; rfl) n 0 (by omega) (by omega) (by omega)
  have h0 : law05_same_l1 n l l n 0 = some (outF (l.findSome? fun _ => (none : Option Bool))) := h
  rw [h0]
  have : l.findSome? (fun _ => (none : Option Bool)) = none := by simp
  rw [this]; rfl
end Go.Proofs.Yteliiabopphgmaa.M
