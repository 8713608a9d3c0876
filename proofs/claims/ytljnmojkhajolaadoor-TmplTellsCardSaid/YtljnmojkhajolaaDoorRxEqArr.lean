/-
  == of arrays whose elements are of one cell. Over any program.
-/
import Derived.Test.YtljnmojkhajolaaDoorRxGen
import Derived.ChangeKeysEq
namespace Go.Proofs.YtljnmojkhajolaaDoor.RX
open Go.RowKit

section
variable {P : Program}
def eqArrT (P : Program) (t : Nat) (ks : List Nat) : Bool :=
  (match P.underlying t with | some (.array n e) => (match eqKind P e with | some k => ks == List.replicate n k && P.cellsOf e == 1 && (P.info? e).isSome | none => false) | _ => false) && !(P.eqGuardType P.depth t)

theorem run_eqItems_cells {F F' w B B'} (n : Nat) (w' : World) {e k : Nat} (hk : eqKind P e = some k) : ∀ (m i : Nat) (ds es : List D) (vs us : List Value) (r : Bool), RepL F w B ds vs → RepL F' w B' es us →
    cmpCells (List.replicate m k) (ds.drop i) (es.drop i) = some r → (Op.eqItems (n + 1) e 1 vs.toArray us.toArray (List.range' i m)).run P w' = .ok r w'
  | 0, i, ds, es, vs, us, r, _, _, hc => by
    have := cmpCells_len hc
    have h1 : ds.drop i = [] := List.eq_nil_of_length_eq_zero this.1
    have h2 : es.drop i = [] := List.eq_nil_of_length_eq_zero this.2
    rw [h1, h2] at hc
    cases hc
    rfl
  | m + 1, i, ds, es, vs, us, r, hd, he, hc => by
    have hl := cmpCells_len hc
    simp only [List.length_drop, List.length_replicate] at hl
    have hi : i < ds.length := by omega
    have hi' : i < es.length := by omega
    rw [List.drop_eq_getElem_cons hi, List.drop_eq_getElem_cons hi', List.replicate_succ] at hc
    obtain ⟨x, y, h1, h2, rfl⟩ := cmpCells_cons hc
    obtain ⟨v, hv, hrv⟩ := hd.get i (List.getElem?_eq_getElem hi)
    obtain ⟨u, hu, hru⟩ := he.get i (List.getElem?_eq_getElem hi')
    obtain ⟨h3, h4⟩ := run_cmpCell (P := P) hk hrv hru h1 n w'
    have hp : ∀ (cs : List Value) (z : Value), cs[i]? = some z → (part e cs.toArray (i * 1)).run P w' = .ok z w' := by
      intro cs z hz
      unfold part
      have : (isAgg e).run P w' = .ok false w' := by
        unfold isAggT at h4
        split at h4
        · rename_i d hd'; rw [run_isAgg' hd' w', h4]
        · rename_i hnone; simp [eqKind, hnone] at hk
      simp only [Sem.run_bind, this, Result.andThen_ok, Bool.false_eq_true, if_false, Nat.mul_one, List.getElem?_toArray, hz, Sem.run_pure]
    simp only [List.range'_succ, Op.eqItems, Sem.run_bind, hp _ _ hv, hp _ _ hu, Result.andThen_ok, h3, Sem.run_ite, Sem.run_pure]
    cases x with
    | false => simp
    | true =>
      simp only [Bool.not_true, Bool.false_eq_true, if_false, Bool.true_and, if_true]
      exact run_eqItems_cells n w' hk m (i + 1) ds es vs us y hd he h2

theorem eqCells_arr {t : Nat} {ks : List Nat} (h : eqArrT P t ks = true) : EqCells P t ks := by
  intro F w w' B B' ds es vs us r hd he hc
  simp only [eqArrT, Bool.and_eq_true, Bool.not_eq_true'] at h
  obtain ⟨h1, h3⟩ := h
  refine ⟨run_eqGuard_agg w' _ _ _ _ _ _ h3, ?_⟩
  split at h1
  · rename_i n e hu
    split at h1
    · rename_i k hk
      simp only [Bool.and_eq_true, beq_iff_eq] at h1
      obtain ⟨⟨h4, h5⟩, h6⟩ := h1
      obtain ⟨i, hi⟩ := Option.isSome_iff_exists.1 h6
      subst h4
      rw [Op.equal, show Op.maxDepth = 9999 + 1 from rfl, run_equalIn_array w' 9999 _ _ hu hi, h5, List.range_eq_range']
      exact run_eqItems_cells 9998 w' hk n 0 ds es vs us r hd he (by simpa using hc)
    · cases h1
  · cases h1

theorem cmp_ints {k : IntKind} : ∀ (m : Nat) (l l' : List Int), l.length = m → l'.length = m → cmpCells (List.replicate m 0) (l.flatMap fun x => [.val (.int k x)]) (l'.flatMap fun x => [.val (.int k x)]) = some (l == l')
  | 0, [], [], _, _ => rfl
  | 0, _ :: _, _, h, _ => by simp at h
  | 0, [], _ :: _, _, h => by simp at h
  | m + 1, [], _, h, _ => by simp at h
  | m + 1, _ :: _, [], _, h => by simp at h
  | m + 1, a :: l, b :: l', h, h' => by
    have ih := cmp_ints (k := k) m l l' (by simpa using h) (by simpa using h')
    have hc : cmpCell 0 (.val (.int k a)) (.val (.int k b)) = some (a == b) := by simp [cmpCell]
    simp only [List.replicate_succ, List.flatMap_cons, List.singleton_append]
    cases m with
    | zero =>
      obtain rfl : l = [] := List.eq_nil_of_length_eq_zero (by simpa using h)
      obtain rfl : l' = [] := List.eq_nil_of_length_eq_zero (by simpa using h')
      simp only [List.replicate_zero, List.flatMap_nil, cmpCells, hc]
      rw [show ([a] == [b]) = (a == b && ([] : List Int) == []) from rfl]
      simp
    | succ m =>
      have hne : List.replicate (m + 1) 0 ≠ [] := by simp
      rw [show (a :: l == b :: l') = (a == b && l == l') from rfl]
      unfold cmpCells
      split
      · rename_i h1 _ _; cases h1
      · rename_i h1 _ _; simp [List.replicate_succ] at h1
      · rename_i k0 ks a0 as b0 bs _ h1 h2 h3
        cases h1; cases h2; cases h3
        rw [hc, ih]
      · rename_i h1 h2; exact absurd rfl (h2 _ _ _ _ _ _ rfl rfl)
theorem eqOb_ints {k : IntKind} {m : Nat} {l l' : List Int} (h : decide (l.length = m) = true) (h' : decide (l'.length = m) = true) : EqOb (List.replicate m 0) false (l.flatMap fun x => [.val (.int k x)]) (l'.flatMap fun x => [.val (.int k x)]) (.val (.bool (l == l'))) :=
  ⟨_, cmp_ints m l l' (of_decide_eq_true h) (of_decide_eq_true h'), by simp⟩
theorem neOb_ints {k : IntKind} {m : Nat} {l l' : List Int} (h : decide (l.length = m) = true) (h' : decide (l'.length = m) = true) : EqOb (List.replicate m 0) true (l.flatMap fun x => [.val (.int k x)]) (l'.flatMap fun x => [.val (.int k x)]) (.val (.bool (!(l == l')))) :=
  ⟨_, cmp_ints m l l' (of_decide_eq_true h) (of_decide_eq_true h'), by simp⟩
end
end Go.Proofs.YtljnmojkhajolaaDoor.RX
