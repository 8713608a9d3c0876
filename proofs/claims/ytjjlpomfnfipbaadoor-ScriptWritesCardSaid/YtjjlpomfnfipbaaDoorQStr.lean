import Derived.Test.YtjjlpomfnfipbaaDoorQLoop
import Derived.Test.YtjjlpomfnfipbaaDoorQRxLib
import Derived.Lib.CountLaws
set_option linter.all false
namespace Go.Proofs.YtjjlpomfnfipbaaDoor.PL
open Go Go.Proofs.YtjjlpomfnfipbaaDoor.RX
theorem le_i {i n : Nat} (h : i ≤ n) : decide (0 ≤ (i : Int) ∧ (i : Int) ≤ (n : Int)) = true := decide_eq_true (by omega)
theorem le_ij {i j : Nat} (h : i ≤ j) : decide (0 ≤ (i : Int) ∧ (i : Int) ≤ (j : Int)) = true := decide_eq_true (by omega)
theorem str_fits {a b : Nat} (h : a + b ≤ 1000000000) : decide (((a + b : Nat) : Int) ≤ 9223372036854775807) = true := decide_eq_true (by omega)
theorem tn (i : Nat) : Int.toNat (i : Int) = i := Int.toNat_natCast i
def upto (c : UInt8) : BS → Option (BS × BS)
  | [] => none
  | b :: l => if b = c then some ([], l) else (upto c l).map fun p => (b :: p.1, p.2)
theorem upto_none {c : UInt8} : ∀ {l : BS}, upto c l = none ↔ c ∉ l
  | [] => by simp [upto]
  | b :: l => by
    unfold upto
    by_cases h : b = c
    · subst h; simp
    · rw [if_neg h, Option.map_eq_none_iff, upto_none]
      simp only [List.mem_cons, not_or]
      exact ⟨fun h' => ⟨fun e => h e.symm, h'⟩, fun h' => h'.2⟩
theorem upto_some {c : UInt8} : ∀ {l p q : BS}, upto c l = some (p, q) → l = p ++ c :: q ∧ c ∉ p
  | [], p, q, h => by cases h
  | b :: l, p, q, h => by
    unfold upto at h
    by_cases hb : b = c
    · rw [if_pos hb] at h; cases h; exact ⟨by rw [hb]; rfl, by simp⟩
    · rw [if_neg hb] at h
      obtain ⟨⟨p', q'⟩, hp, he⟩ := Option.map_eq_some_iff.1 h
      cases he
      obtain ⟨h1, h2⟩ := upto_some hp
      refine ⟨by rw [h1]; rfl, ?_⟩
      simp only [List.mem_cons, not_or]
      exact ⟨fun e => hb e.symm, h2⟩
theorem ib_eq (c : UInt8) : ∀ l : BS, Lib.indexByte l c = match upto c l with | none => -1 | some p => (p.1.length : Int)
  | [] => rfl
  | b :: l => by
    unfold Lib.indexByte upto
    by_cases h : b = c
    · subst h; simp
    · have h' : (b == c) = false := by simpa using h
      rw [h', if_neg h, ib_eq c l]
      cases upto c l with
      | none => rfl
      | some p =>
        have : ((p.1.length : Int) == -1) = false := by rw [beq_eq_false_iff_ne]; omega
        simp [this]
theorem ix_eq (c : UInt8) : ∀ l : BS, Lib.index l [c] = Lib.indexByte l c
  | [] => rfl
  | b :: l => by
    unfold Lib.index Lib.indexByte
    rw [ix_eq c l]
    have : [c].isPrefixOf (b :: l) = (b == c) := by
      rw [List.isPrefixOf, List.isPrefixOf, Bool.and_true, Bool.eq_iff_iff, beq_iff_eq, beq_iff_eq]
      exact eq_comm
    rw [this]
theorem countFrom_eq (c : UInt8) : ∀ (fuel : Nat) (l : BS), l.length < fuel → Lib.countFrom [c] fuel l = l.count c
  | 0, l, h => by omega
  | fuel + 1, l, h => by
    unfold Lib.countFrom
    rw [ix_eq, ib_eq]
    cases hu : upto c l with
    | none =>
      rw [List.count_eq_zero.2 (upto_none.1 hu)]; rfl
    | some p =>
      obtain ⟨p, q⟩ := p
      obtain ⟨h1, h2⟩ := upto_some hu
      have hne : ((p.length : Int) == -1) = false := by rw [beq_eq_false_iff_ne]; omega
      simp only [hne, Bool.false_eq_true, if_false, tn, List.length_singleton]
      subst h1
      have e2 : (p ++ c :: q).drop (p.length + 1) = q := by rw [← List.drop_drop, List.drop_left]; rfl
      rw [e2, countFrom_eq c fuel q (by simp at h; omega), List.count_append, List.count_eq_zero.2 h2, List.count_cons_self]
      omega
theorem count_eq (c : UInt8) (l : BS) : Lib.count l [c] = l.count c := countFrom_eq c _ l (Nat.lt_succ_self _)
def sub (c : UInt8) (new : BS) (b : UInt8) : BS := if b = c then new else [b]
theorem join_len (sep : BS) (m : Nat) : ∀ l : List BS, (∀ x ∈ l, x.length + sep.length ≤ m) → (Lib.join l sep).length ≤ l.length * m
  | [], _ => by simp [Lib.join_nil]
  | x :: r, h => by
    rw [Lib.join_cons]
    have : ∀ r : List BS, (∀ x ∈ r, x.length + sep.length ≤ m) → (Lib.joinTail sep r).length ≤ r.length * m := by
      intro r
      induction r with
      | nil => intro _; simp [Lib.joinTail]
      | cons y r ih =>
        intro h
        have h1 := h y (by simp); have h2 := ih fun z hz => h z (by simp [hz])
        unfold Lib.joinTail at h2 ⊢
        simp only [List.map_cons, List.flatten_cons, List.length_append, List.length_cons, Nat.add_mul] at h2 ⊢
        omega
    have h1 := h x (by simp); have h2 := this r fun z hz => h z (by simp [hz])
    simp only [List.length_append, List.length_cons, Nat.add_mul]; omega
def parts (c : UInt8) : BS → List BS
  | [] => [[]]
  | b :: t => if b = c then [] :: parts c t else match parts c t with | [] => [[b]] | x :: r => (b :: x) :: r
theorem parts_ne (c : UInt8) : ∀ l : BS, parts c l ≠ []
  | [] => by simp [parts]
  | b :: t => by
    unfold parts
    split
    · simp
    · split <;> simp
theorem parts_none {c : UInt8} : ∀ {l : BS}, c ∉ l → parts c l = [l]
  | [], _ => rfl
  | b :: t, h => by
    simp only [List.mem_cons, not_or] at h
    rw [parts, if_neg (fun e => h.1 e.symm), parts_none h.2]
theorem parts_app {c : UInt8} : ∀ {p : BS} (q : BS), c ∉ p → parts c (p ++ c :: q) = p :: parts c q
  | [], q, _ => by simp [parts]
  | b :: p, q, h => by
    simp only [List.mem_cons, not_or] at h
    rw [List.cons_append, parts, if_neg (fun e => h.1 e.symm), parts_app q h.2]
theorem splitK_eq (c : UInt8) : ∀ (k : Nat) (l : BS), l.count c ≤ k → Lib.splitK [c] 0 k l = parts c l
  | 0, l, h => by
    rw [parts_none (List.count_eq_zero.1 (by omega))]; rfl
  | k + 1, l, h => by
    unfold Lib.splitK
    rw [ix_eq, ib_eq]
    cases hu : upto c l with
    | none => rw [parts_none (upto_none.1 hu)]; rfl
    | some p =>
      obtain ⟨p, q⟩ := p
      obtain ⟨h1, h2⟩ := upto_some hu
      have hne : ((p.length : Int) == -1) = false := by rw [beq_eq_false_iff_ne]; omega
      simp only [hne, Bool.false_eq_true, if_false, tn, List.length_singleton]
      subst h1
      have e1 : (p ++ c :: q).take (p.length + 0) = p := List.take_left
      have e2 : (p ++ c :: q).drop (p.length + 1) = q := by rw [← List.drop_drop, List.drop_left]; rfl
      rw [List.count_append, List.count_cons_self] at h
      rw [e1, e2, splitK_eq c k q (by omega), parts_app q h2]
theorem splitL_eq (c : UInt8) (l : BS) : splitL l [c] = parts c l := by
  unfold splitL
  rw [Lib.splitB_data]
  refine splitK_eq c _ l ?_
  show _ ≤ Lib.count l [c]
  rw [count_eq]; exact Nat.le_refl _
theorem parts_len (c : UInt8) : ∀ l : BS, (parts c l).length ≤ l.length + 1
  | [] => by simp [parts]
  | b :: t => by
    have := parts_len c t
    unfold parts
    split
    · simp; omega
    · split
      · simp
      · rename_i x r hp; rw [hp] at this; simp at this ⊢; omega
theorem parts_part_len (c : UInt8) : ∀ (l : BS) (x : BS), x ∈ parts c l → x.length ≤ l.length
  | [], x, h => by simp [parts] at h; subst h; simp
  | b :: t, x, h => by
    have ih := parts_part_len c t
    unfold parts at h
    split at h
    · rcases List.mem_cons.1 h with rfl | h
      · simp
      · have := ih x h; simp; omega
    · split at h
      · rcases List.mem_cons.1 h with rfl | h
        · simp
        · simp at h
      · rename_i y r hp
        rw [hp] at ih
        rcases List.mem_cons.1 h with rfl | h
        · have := ih y List.mem_cons_self; simp; omega
        · have := ih x (List.mem_cons_of_mem _ h); simp; omega
end Go.Proofs.YtjjlpomfnfipbaaDoor.PL
